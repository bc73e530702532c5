/- Closed calls, by the kernel. -/
import Derived.Test.YtkcabichlinkmaaGreatDoorHKd1
import Derived.Test.YtkcabichlinkmaaGreatDoorHEn1
import Derived.Test.YtkcabichlinkmaaGreatDoorHM6
namespace Go.EV
open Go.Proofs
set_option maxRecDepth 100000
theorem cSn_0 : ev (envS tm1.get) 100000 (.call (.fn 11 []) [(.str [91, 123, 58, 97, 47, 107, 105, 100, 32, 91, 58, 97, 47, 110, 93, 125, 32, 123, 40, 58, 97, 47, 117, 112, 32, 98, 97, 99, 107, 41, 32, 46, 46, 46, 125, 93])] []) = .val (.tup [(.lst 11 [[(.bool false), (.str [97, 47, 107, 105, 100]), (.bool false), (.int .i64 0), (.bool false), (.int .i64 0), (.int .i64 0), (.str []), (.bool true), (.lst 11 [[(.bool false), (.str [97, 47, 110]), (.bool false), (.int .i64 0), (.bool false), (.int .i64 0), (.int .i64 0), (.str []), (.bool false), .nils, (.int .i64 0)]]), (.int .i64 0)], [(.bool false), (.str [97, 47, 117, 112]), (.bool true), (.int .i64 0), (.bool false), (.int .i64 0), (.int .i64 0), (.str []), (.bool false), .nils, (.int .i64 (-1))]]), (.int .i64 0)]) [] := by kernel_rfl
theorem cSn_1 : ev (envS tm1.get) 100000 (.call (.fn 11 []) [(.str [91, 40, 58, 97, 47, 98, 32, 100, 101, 102, 97, 117, 108, 116, 32, 55, 41, 93])] []) = .val (.tup [(.lst 11 [[(.bool false), (.str [97, 47, 98]), (.bool false), (.int .i64 0), (.bool true), (.int .i64 1), (.int .i64 7), (.str []), (.bool false), .nils, (.int .i64 0)]]), (.int .i64 0)]) [] := by kernel_rfl
theorem cSn_2 : ev (envS tm1.get) 100000 (.call (.fn 11 []) [(.str [91])] []) = .val (.tup [.nils, (.int .i64 50)]) [] := by kernel_rfl
theorem cSn_3 : ev (envS tm1.get) 100000 (.call (.fn 17 []) [] []) = .val (.bool true) [] := by kernel_rfl
theorem cSn_4 : ev (envS tm1.get) 100000 (.call (.fn 23 []) [(.str [91, 58, 97, 47, 98, 32, 58, 97, 47, 98, 93])] []) = .val (.int .i64 1) [] := by kernel_rfl
theorem cSn_5 : ev (envS tm1.get) 100000 (.call (.fn 23 []) [(.str [91, 120, 93])] []) = .val (.int .i64 1) [] := by kernel_rfl
theorem cSn_6 : ev (envS tm1.get) 100000 (.call (.fn 23 []) [(.str [58, 97, 47, 98])] []) = .val (.int .i64 1) [] := by kernel_rfl
theorem cSn_7 : ev (envS tm1.get) 100000 (.call (.fn 23 []) [(.str [91, 123, 58, 97, 47, 98, 32, 48, 125, 93])] []) = .val (.int .i64 1) [] := by kernel_rfl
theorem cSn_8 : ev (envS tm1.get) 100000 (.call (.fn 23 []) [(.str [91, 40, 58, 97, 47, 98, 41, 93])] []) = .val (.int .i64 1) [] := by kernel_rfl
theorem cSn_9 : ev (envS tm1.get) 100000 (.call (.fn 23 []) [(.str [91, 123, 58, 97, 47, 98, 32, 49, 48, 49, 125, 93])] []) = .val (.int .i64 1) [] := by kernel_rfl
theorem cSn_10 : ev (envS tm1.get) 100000 (.call (.fn 23 []) [(.str [91, 40, 58, 97, 47, 98, 32, 108, 105, 109, 105, 116, 32, 51, 32, 98, 97, 99, 107, 41, 93])] []) = .val (.int .i64 1) [] := by kernel_rfl
theorem cSn_11 : ev (envS tm1.get) 100000 (.call (.fn 23 []) [(.str [])] []) = .val (.int .i64 1) [] := by kernel_rfl
theorem cSn_12 : ev (envS tm1.get) 100000 (.call (.fn 23 []) [(.str [91, 93, 32, 91, 93])] []) = .val (.int .i64 1) [] := by kernel_rfl
theorem cSn_13 : ev (envS tm1.get) 100000 (.call (.fn 23 []) [(.str [91, 123, 40, 58, 97, 47, 98, 32, 100, 101, 102, 97, 117, 108, 116, 32, 55, 41, 32, 51, 125, 93])] []) = .val (.int .i64 1) [] := by kernel_rfl
def toldSn : List (Nat × List AV × AV) := [
  (11, [(.str [91, 123, 58, 97, 47, 107, 105, 100, 32, 91, 58, 97, 47, 110, 93, 125, 32, 123, 40, 58, 97, 47, 117, 112, 32, 98, 97, 99, 107, 41, 32, 46, 46, 46, 125, 93])], (.tup [(.lst 11 [[(.bool false), (.str [97, 47, 107, 105, 100]), (.bool false), (.int .i64 0), (.bool false), (.int .i64 0), (.int .i64 0), (.str []), (.bool true), (.lst 11 [[(.bool false), (.str [97, 47, 110]), (.bool false), (.int .i64 0), (.bool false), (.int .i64 0), (.int .i64 0), (.str []), (.bool false), .nils, (.int .i64 0)]]), (.int .i64 0)], [(.bool false), (.str [97, 47, 117, 112]), (.bool true), (.int .i64 0), (.bool false), (.int .i64 0), (.int .i64 0), (.str []), (.bool false), .nils, (.int .i64 (-1))]]), (.int .i64 0)])),
  (11, [(.str [91, 40, 58, 97, 47, 98, 32, 100, 101, 102, 97, 117, 108, 116, 32, 55, 41, 93])], (.tup [(.lst 11 [[(.bool false), (.str [97, 47, 98]), (.bool false), (.int .i64 0), (.bool true), (.int .i64 1), (.int .i64 7), (.str []), (.bool false), .nils, (.int .i64 0)]]), (.int .i64 0)])),
  (11, [(.str [91])], (.tup [.nils, (.int .i64 50)])),
  (17, [], (.bool true)),
  (23, [(.str [91, 58, 97, 47, 98, 32, 58, 97, 47, 98, 93])], (.int .i64 1)),
  (23, [(.str [91, 120, 93])], (.int .i64 1)),
  (23, [(.str [58, 97, 47, 98])], (.int .i64 1)),
  (23, [(.str [91, 123, 58, 97, 47, 98, 32, 48, 125, 93])], (.int .i64 1)),
  (23, [(.str [91, 40, 58, 97, 47, 98, 41, 93])], (.int .i64 1)),
  (23, [(.str [91, 123, 58, 97, 47, 98, 32, 49, 48, 49, 125, 93])], (.int .i64 1)),
  (23, [(.str [91, 40, 58, 97, 47, 98, 32, 108, 105, 109, 105, 116, 32, 51, 32, 98, 97, 99, 107, 41, 93])], (.int .i64 1)),
  (23, [(.str [])], (.int .i64 1)),
  (23, [(.str [91, 93, 32, 91, 93])], (.int .i64 1)),
  (23, [(.str [91, 123, 40, 58, 97, 47, 98, 32, 100, 101, 102, 97, 117, 108, 116, 32, 55, 41, 32, 51, 125, 93])], (.int .i64 1))]
theorem toldSn_ok {Fb : Fz} (hE : EnvOk Tryz.prog ((envS tm1.get))) (hp : PrimOk Fence.wide Tryz.prog Fb ((envS tm1.get))) (hm : Tryz.prog.follows .mixedOrders = true) : ToldOk Tryz.prog Fb toldSn := .cons hE hp hm cSn_0 (by kernel_rfl) (by kernel_rfl) (.cons hE hp hm cSn_1 (by kernel_rfl) (by kernel_rfl) (.cons hE hp hm cSn_2 (by kernel_rfl) (by kernel_rfl) (.cons hE hp hm cSn_3 (by kernel_rfl) (by kernel_rfl) (.cons hE hp hm cSn_4 (by kernel_rfl) (by kernel_rfl) (.cons hE hp hm cSn_5 (by kernel_rfl) (by kernel_rfl) (.cons hE hp hm cSn_6 (by kernel_rfl) (by kernel_rfl) (.cons hE hp hm cSn_7 (by kernel_rfl) (by kernel_rfl) (.cons hE hp hm cSn_8 (by kernel_rfl) (by kernel_rfl) (.cons hE hp hm cSn_9 (by kernel_rfl) (by kernel_rfl) (.cons hE hp hm cSn_10 (by kernel_rfl) (by kernel_rfl) (.cons hE hp hm cSn_11 (by kernel_rfl) (by kernel_rfl) (.cons hE hp hm cSn_12 (by kernel_rfl) (by kernel_rfl) (.cons hE hp hm cSn_13 (by kernel_rfl) (by kernel_rfl) (.nil))))))))))))))
end Go.EV
