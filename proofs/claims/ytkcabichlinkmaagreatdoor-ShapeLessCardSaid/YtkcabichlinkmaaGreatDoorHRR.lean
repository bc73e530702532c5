/- Closed calls, by the kernel. -/
import Derived.Test.YtkcabichlinkmaaGreatDoorHKd4
import Derived.Test.YtkcabichlinkmaaGreatDoorHEn1
import Derived.Test.YtkcabichlinkmaaGreatDoorHM6
namespace Go.EV
open Go.Proofs
set_option maxRecDepth 100000
theorem cRa_0 : ev (envS tm4.get) 100000 (.call (.fn 38 []) [(.str [91, 42, 32, 58, 97, 47, 98, 32, 40, 58, 97, 47, 99, 32, 108, 105, 109, 105, 116, 32, 51, 41, 32, 40, 58, 97, 47, 100, 32, 98, 97, 99, 107, 41, 93])] []) = .val (.tup [(.lst [[(.int .i64 4), (.int .i64 0), (.int .i64 0), (.str []), (.str []), (.lst [[(.int .i64 2), (.int .i64 0), (.int .i64 0), (.str []), (.str [42]), .nils, (.int .i64 1), (.int .i64 2)], [(.int .i64 1), (.int .i64 7), (.int .i64 0), (.str [97, 47, 98]), (.str []), .nils, (.int .i64 1), (.int .i64 4)], [(.int .i64 3), (.int .i64 0), (.int .i64 0), (.str []), (.str []), (.lst [[(.int .i64 1), (.int .i64 7), (.int .i64 0), (.str [97, 47, 99]), (.str []), .nils, (.int .i64 1), (.int .i64 10)], [(.int .i64 2), (.int .i64 0), (.int .i64 0), (.str []), (.str [108, 105, 109, 105, 116]), .nils, (.int .i64 1), (.int .i64 15)], [(.int .i64 1), (.int .i64 1), (.int .i64 3), (.str []), (.str []), .nils, (.int .i64 1), (.int .i64 21)]]), (.int .i64 1), (.int .i64 9)], [(.int .i64 3), (.int .i64 0), (.int .i64 0), (.str []), (.str []), (.lst [[(.int .i64 1), (.int .i64 7), (.int .i64 0), (.str [97, 47, 100]), (.str []), .nils, (.int .i64 1), (.int .i64 25)], [(.int .i64 2), (.int .i64 0), (.int .i64 0), (.str []), (.str [98, 97, 99, 107]), .nils, (.int .i64 1), (.int .i64 30)]]), (.int .i64 1), (.int .i64 24)]]), (.int .i64 1), (.int .i64 1)]]), (.int .i64 0), (.int .i64 0), (.int .i64 0)]) [] := by kernel_rfl
def toldRa : List (Nat × List AV × AV) := [
  (38, [(.str [91, 42, 32, 58, 97, 47, 98, 32, 40, 58, 97, 47, 99, 32, 108, 105, 109, 105, 116, 32, 51, 41, 32, 40, 58, 97, 47, 100, 32, 98, 97, 99, 107, 41, 93])], (.tup [(.lst [[(.int .i64 4), (.int .i64 0), (.int .i64 0), (.str []), (.str []), (.lst [[(.int .i64 2), (.int .i64 0), (.int .i64 0), (.str []), (.str [42]), .nils, (.int .i64 1), (.int .i64 2)], [(.int .i64 1), (.int .i64 7), (.int .i64 0), (.str [97, 47, 98]), (.str []), .nils, (.int .i64 1), (.int .i64 4)], [(.int .i64 3), (.int .i64 0), (.int .i64 0), (.str []), (.str []), (.lst [[(.int .i64 1), (.int .i64 7), (.int .i64 0), (.str [97, 47, 99]), (.str []), .nils, (.int .i64 1), (.int .i64 10)], [(.int .i64 2), (.int .i64 0), (.int .i64 0), (.str []), (.str [108, 105, 109, 105, 116]), .nils, (.int .i64 1), (.int .i64 15)], [(.int .i64 1), (.int .i64 1), (.int .i64 3), (.str []), (.str []), .nils, (.int .i64 1), (.int .i64 21)]]), (.int .i64 1), (.int .i64 9)], [(.int .i64 3), (.int .i64 0), (.int .i64 0), (.str []), (.str []), (.lst [[(.int .i64 1), (.int .i64 7), (.int .i64 0), (.str [97, 47, 100]), (.str []), .nils, (.int .i64 1), (.int .i64 25)], [(.int .i64 2), (.int .i64 0), (.int .i64 0), (.str []), (.str [98, 97, 99, 107]), .nils, (.int .i64 1), (.int .i64 30)]]), (.int .i64 1), (.int .i64 24)]]), (.int .i64 1), (.int .i64 1)]]), (.int .i64 0), (.int .i64 0), (.int .i64 0)]))]
theorem toldRa_ok {Fb : Fz} (hE : EnvOk Tryz.prog ((envS tm4.get))) (hp : PrimOk Fence.wide Tryz.prog Fb ((envS tm4.get))) (hm : Tryz.prog.follows .mixedOrders = true) : ToldOk Tryz.prog Fb toldRa := .cons hE hp hm cRa_0 (by kernel_rfl) (by kernel_rfl) (.nil)
end Go.EV

/- Closed calls, by the kernel. -/
namespace Go.EV
open Go.Proofs
set_option maxRecDepth 100000
theorem cRb_0 : ev ((envS tm4.get).told toldRa) 100000 (.call (.fn 11 []) [(.str [91, 42, 32, 58, 97, 47, 98, 32, 40, 58, 97, 47, 99, 32, 108, 105, 109, 105, 116, 32, 51, 41, 32, 40, 58, 97, 47, 100, 32, 98, 97, 99, 107, 41, 93])] []) = .val (.tup [(.lst [[(.bool true), (.str []), (.bool false), (.int .i64 0), (.bool false), (.int .i64 0), (.int .i64 0), (.str []), (.bool false), .nils, (.int .i64 0)], [(.bool false), (.str [97, 47, 98]), (.bool false), (.int .i64 0), (.bool false), (.int .i64 0), (.int .i64 0), (.str []), (.bool false), .nils, (.int .i64 0)], [(.bool false), (.str [97, 47, 99]), (.bool false), (.int .i64 3), (.bool false), (.int .i64 0), (.int .i64 0), (.str []), (.bool false), .nils, (.int .i64 0)], [(.bool false), (.str [97, 47, 100]), (.bool true), (.int .i64 0), (.bool false), (.int .i64 0), (.int .i64 0), (.str []), (.bool false), .nils, (.int .i64 0)]]), (.int .i64 0)]) [] := by kernel_rfl
def toldRb : List (Nat × List AV × AV) := [
  (11, [(.str [91, 42, 32, 58, 97, 47, 98, 32, 40, 58, 97, 47, 99, 32, 108, 105, 109, 105, 116, 32, 51, 41, 32, 40, 58, 97, 47, 100, 32, 98, 97, 99, 107, 41, 93])], (.tup [(.lst [[(.bool true), (.str []), (.bool false), (.int .i64 0), (.bool false), (.int .i64 0), (.int .i64 0), (.str []), (.bool false), .nils, (.int .i64 0)], [(.bool false), (.str [97, 47, 98]), (.bool false), (.int .i64 0), (.bool false), (.int .i64 0), (.int .i64 0), (.str []), (.bool false), .nils, (.int .i64 0)], [(.bool false), (.str [97, 47, 99]), (.bool false), (.int .i64 3), (.bool false), (.int .i64 0), (.int .i64 0), (.str []), (.bool false), .nils, (.int .i64 0)], [(.bool false), (.str [97, 47, 100]), (.bool true), (.int .i64 0), (.bool false), (.int .i64 0), (.int .i64 0), (.str []), (.bool false), .nils, (.int .i64 0)]]), (.int .i64 0)]))]
theorem toldRb_ok {Fb : Fz} (hE : EnvOk Tryz.prog (((envS tm4.get).told toldRa))) (hp : PrimOk Fence.wide Tryz.prog Fb (((envS tm4.get).told toldRa))) (hm : Tryz.prog.follows .mixedOrders = true) : ToldOk Tryz.prog Fb toldRb := .cons hE hp hm cRb_0 (by kernel_rfl) (by kernel_rfl) (.nil)
end Go.EV

/- Closed calls, by the kernel. -/
namespace Go.EV
open Go.Proofs
set_option maxRecDepth 100000
theorem cRc_0 : ev (((envS tm4.get).told toldRa).told toldRb) 100000 (.call (.fn 17 []) [] []) = .val (.bool true) [] := by kernel_rfl
def toldRc : List (Nat × List AV × AV) := [
  (17, [], (.bool true))]
theorem toldRc_ok {Fb : Fz} (hE : EnvOk Tryz.prog ((((envS tm4.get).told toldRa).told toldRb))) (hp : PrimOk Fence.wide Tryz.prog Fb ((((envS tm4.get).told toldRa).told toldRb))) (hm : Tryz.prog.follows .mixedOrders = true) : ToldOk Tryz.prog Fb toldRc := .cons hE hp hm cRc_0 (by kernel_rfl) (by kernel_rfl) (.nil)
end Go.EV
