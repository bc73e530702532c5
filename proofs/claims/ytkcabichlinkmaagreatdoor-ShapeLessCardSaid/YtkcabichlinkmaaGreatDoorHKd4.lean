/- The compiled functions are the program's. -/
import Derived.Test.YtkcabichlinkmaaGreatDoorHCd4
import Derived.Test.YtkcabichlinkmaaGreatDoorHM7
import Derived.Test.YtkcabichlinkmaaGreatDoorProg
import Derived.KernelRfl
namespace Go.EV
open Go.Proofs
set_option maxRecDepth 100000
theorem k4 : FnOk Tryz.prog 4 F4 := ⟨Tryz.f4, Tryz.func4, by kernel_rfl, by kernel_rfl⟩
theorem k11 : FnOk Tryz.prog 11 F11 := ⟨Tryz.f11, Tryz.func11, by kernel_rfl, by kernel_rfl⟩
theorem k15 : FnOk Tryz.prog 15 F15 := ⟨Tryz.f15, Tryz.func15, by kernel_rfl, by kernel_rfl⟩
theorem k17 : FnOk Tryz.prog 17 F17 := ⟨Tryz.f17, Tryz.func17, by kernel_rfl, by kernel_rfl⟩
theorem k18 : FnOk Tryz.prog 18 F18 := ⟨Tryz.f18, Tryz.func18, by kernel_rfl, by kernel_rfl⟩
theorem k19 : FnOk Tryz.prog 19 F19 := ⟨Tryz.f19, Tryz.func19, by kernel_rfl, by kernel_rfl⟩
theorem k20 : FnOk Tryz.prog 20 F20 := ⟨Tryz.f20, Tryz.func20, by kernel_rfl, by kernel_rfl⟩
theorem k38 : FnOk Tryz.prog 38 F38 := ⟨Tryz.f38, Tryz.func38, by kernel_rfl, by kernel_rfl⟩
theorem k41 : FnOk Tryz.prog 41 F41 := ⟨Tryz.f41, Tryz.func41, by kernel_rfl, by kernel_rfl⟩
theorem k42 : FnOk Tryz.prog 42 F42 := ⟨Tryz.f42, Tryz.func42, by kernel_rfl, by kernel_rfl⟩
theorem k43 : FnOk Tryz.prog 43 F43 := ⟨Tryz.f43, Tryz.func43, by kernel_rfl, by kernel_rfl⟩
theorem k44 : FnOk Tryz.prog 44 F44 := ⟨Tryz.f44, Tryz.func44, by kernel_rfl, by kernel_rfl⟩
theorem k48 : FnOk Tryz.prog 48 F48 := ⟨Tryz.f48, Tryz.func48, by kernel_rfl, by kernel_rfl⟩
theorem k49 : FnOk Tryz.prog 49 F49 := ⟨Tryz.f49, Tryz.func49, by kernel_rfl, by kernel_rfl⟩
theorem k50 : FnOk Tryz.prog 50 F50 := ⟨Tryz.f50, Tryz.func50, by kernel_rfl, by kernel_rfl⟩
theorem k64 : FnOk Tryz.prog 64 F64 := ⟨Tryz.f64, Tryz.func64, by kernel_rfl, by kernel_rfl⟩
theorem k67 : FnOk Tryz.prog 67 F67 := ⟨Tryz.f67, Tryz.func67, by kernel_rfl, by kernel_rfl⟩
theorem k68 : FnOk Tryz.prog 68 F68 := ⟨Tryz.f68, Tryz.func68, by kernel_rfl, by kernel_rfl⟩
theorem k72 : FnOk Tryz.prog 72 F72 := ⟨Tryz.f72, Tryz.func72, by kernel_rfl, by kernel_rfl⟩
theorem k73 : FnOk Tryz.prog 73 F73 := ⟨Tryz.f73, Tryz.func73, by kernel_rfl, by kernel_rfl⟩
theorem k74 : FnOk Tryz.prog 74 F74 := ⟨Tryz.f74, Tryz.func74, by kernel_rfl, by kernel_rfl⟩
theorem k75 : FnOk Tryz.prog 75 F75 := ⟨Tryz.f75, Tryz.func75, by kernel_rfl, by kernel_rfl⟩
theorem k76 : FnOk Tryz.prog 76 F76 := ⟨Tryz.f76, Tryz.func76, by kernel_rfl, by kernel_rfl⟩
theorem k77 : FnOk Tryz.prog 77 F77 := ⟨Tryz.f77, Tryz.func77, by kernel_rfl, by kernel_rfl⟩
theorem k78 : FnOk Tryz.prog 78 F78 := ⟨Tryz.f78, Tryz.func78, by kernel_rfl, by kernel_rfl⟩
theorem k79 : FnOk Tryz.prog 79 F79 := ⟨Tryz.f79, Tryz.func79, by kernel_rfl, by kernel_rfl⟩
theorem k84 : FnOk Tryz.prog 84 F84 := ⟨Tryz.f84, Tryz.func84, by kernel_rfl, by kernel_rfl⟩
theorem k97 : FnOk Tryz.prog 97 F97 := ⟨Tryz.f97, Tryz.func97, by kernel_rfl, by kernel_rfl⟩
theorem k101 : FnOk Tryz.prog 101 F101 := ⟨Tryz.f101, Tryz.func101, by kernel_rfl, by kernel_rfl⟩
theorem k102 : FnOk Tryz.prog 102 F102 := ⟨Tryz.f102, Tryz.func102, by kernel_rfl, by kernel_rfl⟩
theorem k104 : FnOk Tryz.prog 104 F104 := ⟨Tryz.f104, Tryz.func104, by kernel_rfl, by kernel_rfl⟩
theorem k106 : FnOk Tryz.prog 106 F106 := ⟨Tryz.f106, Tryz.func106, by kernel_rfl, by kernel_rfl⟩
theorem k107 : FnOk Tryz.prog 107 F107 := ⟨Tryz.f107, Tryz.func107, by kernel_rfl, by kernel_rfl⟩
theorem k108 : FnOk Tryz.prog 108 F108 := ⟨Tryz.f108, Tryz.func108, by kernel_rfl, by kernel_rfl⟩
theorem k112 : FnOk Tryz.prog 112 F112 := ⟨Tryz.f112, Tryz.func112, by kernel_rfl, by kernel_rfl⟩
theorem k113 : FnOk Tryz.prog 113 F113 := ⟨Tryz.f113, Tryz.func113, by kernel_rfl, by kernel_rfl⟩
theorem k114 : FnOk Tryz.prog 114 F114 := ⟨Tryz.f114, Tryz.func114, by kernel_rfl, by kernel_rfl⟩
theorem k115 : FnOk Tryz.prog 115 F115 := ⟨Tryz.f115, Tryz.func115, by kernel_rfl, by kernel_rfl⟩
theorem k116 : FnOk Tryz.prog 116 F116 := ⟨Tryz.f116, Tryz.func116, by kernel_rfl, by kernel_rfl⟩
theorem k117 : FnOk Tryz.prog 117 F117 := ⟨Tryz.f117, Tryz.func117, by kernel_rfl, by kernel_rfl⟩
theorem k118 : FnOk Tryz.prog 118 F118 := ⟨Tryz.f118, Tryz.func118, by kernel_rfl, by kernel_rfl⟩
theorem k119 : FnOk Tryz.prog 119 F119 := ⟨Tryz.f119, Tryz.func119, by kernel_rfl, by kernel_rfl⟩
theorem k120 : FnOk Tryz.prog 120 F120 := ⟨Tryz.f120, Tryz.func120, by kernel_rfl, by kernel_rfl⟩
theorem k121 : FnOk Tryz.prog 121 F121 := ⟨Tryz.f121, Tryz.func121, by kernel_rfl, by kernel_rfl⟩
theorem k122 : FnOk Tryz.prog 122 F122 := ⟨Tryz.f122, Tryz.func122, by kernel_rfl, by kernel_rfl⟩
theorem k145 : FnOk Tryz.prog 145 F145 := ⟨Tryz.f145, Tryz.func145, by kernel_rfl, by kernel_rfl⟩
theorem k149 : FnOk Tryz.prog 149 F149 := ⟨Tryz.f149, Tryz.func149, by kernel_rfl, by kernel_rfl⟩
theorem k150 : FnOk Tryz.prog 150 F150 := ⟨Tryz.f150, Tryz.func150, by kernel_rfl, by kernel_rfl⟩
theorem k151 : FnOk Tryz.prog 151 F151 := ⟨Tryz.f151, Tryz.func151, by kernel_rfl, by kernel_rfl⟩
theorem k152 : FnOk Tryz.prog 152 F152 := ⟨Tryz.f152, Tryz.func152, by kernel_rfl, by kernel_rfl⟩
theorem k153 : FnOk Tryz.prog 153 F153 := ⟨Tryz.f153, Tryz.func153, by kernel_rfl, by kernel_rfl⟩
theorem k154 : FnOk Tryz.prog 154 F154 := ⟨Tryz.f154, Tryz.func154, by kernel_rfl, by kernel_rfl⟩
theorem k157 : FnOk Tryz.prog 157 F157 := ⟨Tryz.f157, Tryz.func157, by kernel_rfl, by kernel_rfl⟩
theorem k158 : FnOk Tryz.prog 158 F158 := ⟨Tryz.f158, Tryz.func158, by kernel_rfl, by kernel_rfl⟩
theorem k159 : FnOk Tryz.prog 159 F159 := ⟨Tryz.f159, Tryz.func159, by kernel_rfl, by kernel_rfl⟩
theorem k160 : FnOk Tryz.prog 160 F160 := ⟨Tryz.f160, Tryz.func160, by kernel_rfl, by kernel_rfl⟩
theorem k187 : FnOk Tryz.prog 187 F187 := ⟨Tryz.f187, Tryz.func187, by kernel_rfl, by kernel_rfl⟩
theorem k188 : FnOk Tryz.prog 188 F188 := ⟨Tryz.f188, Tryz.func188, by kernel_rfl, by kernel_rfl⟩
theorem k189 : FnOk Tryz.prog 189 F189 := ⟨Tryz.f189, Tryz.func189, by kernel_rfl, by kernel_rfl⟩
theorem k190 : FnOk Tryz.prog 190 F190 := ⟨Tryz.f190, Tryz.func190, by kernel_rfl, by kernel_rfl⟩
theorem k210 : FnOk Tryz.prog 210 F210 := ⟨Tryz.f210, Tryz.func210, by kernel_rfl, by kernel_rfl⟩
def tm4 : Tm := (.node (.node (.node (.node (.node (.node .leaf 4 F4 .leaf) 11 F11 (.node .leaf 15 F15 .leaf)) 17 F17 (.node (.node .leaf 18 F18 .leaf) 19 F19 (.node .leaf 20 F20 .leaf))) 38 F38 (.node (.node (.node .leaf 41 F41 .leaf) 42 F42 (.node .leaf 43 F43 .leaf)) 44 F44 (.node (.node .leaf 48 F48 .leaf) 49 F49 (.node .leaf 50 F50 .leaf)))) 64 F64 (.node (.node (.node (.node .leaf 67 F67 .leaf) 68 F68 (.node .leaf 72 F72 .leaf)) 73 F73 (.node (.node .leaf 74 F74 .leaf) 75 F75 (.node .leaf 76 F76 .leaf))) 77 F77 (.node (.node (.node .leaf 78 F78 .leaf) 79 F79 (.node .leaf 84 F84 .leaf)) 97 F97 (.node (.node .leaf 101 F101 .leaf) 102 F102 .leaf)))) 104 F104 (.node (.node (.node (.node (.node .leaf 106 F106 .leaf) 107 F107 (.node .leaf 108 F108 .leaf)) 112 F112 (.node (.node .leaf 113 F113 .leaf) 114 F114 (.node .leaf 115 F115 .leaf))) 116 F116 (.node (.node (.node .leaf 117 F117 .leaf) 118 F118 (.node .leaf 119 F119 .leaf)) 120 F120 (.node (.node .leaf 121 F121 .leaf) 122 F122 (.node .leaf 145 F145 .leaf)))) 149 F149 (.node (.node (.node (.node .leaf 150 F150 .leaf) 151 F151 (.node .leaf 152 F152 .leaf)) 153 F153 (.node (.node .leaf 154 F154 .leaf) 157 F157 (.node .leaf 158 F158 .leaf))) 159 F159 (.node (.node (.node .leaf 160 F160 .leaf) 187 F187 (.node .leaf 188 F188 .leaf)) 189 F189 (.node (.node .leaf 190 F190 .leaf) 210 F210 .leaf)))))
theorem tm4_ok : tm4.All (FnOk Tryz.prog) := ⟨⟨⟨⟨⟨⟨trivial, k4, trivial⟩, k11, ⟨trivial, k15, trivial⟩⟩, k17, ⟨⟨trivial, k18, trivial⟩, k19, ⟨trivial, k20, trivial⟩⟩⟩, k38, ⟨⟨⟨trivial, k41, trivial⟩, k42, ⟨trivial, k43, trivial⟩⟩, k44, ⟨⟨trivial, k48, trivial⟩, k49, ⟨trivial, k50, trivial⟩⟩⟩⟩, k64, ⟨⟨⟨⟨trivial, k67, trivial⟩, k68, ⟨trivial, k72, trivial⟩⟩, k73, ⟨⟨trivial, k74, trivial⟩, k75, ⟨trivial, k76, trivial⟩⟩⟩, k77, ⟨⟨⟨trivial, k78, trivial⟩, k79, ⟨trivial, k84, trivial⟩⟩, k97, ⟨⟨trivial, k101, trivial⟩, k102, trivial⟩⟩⟩⟩, k104, ⟨⟨⟨⟨⟨trivial, k106, trivial⟩, k107, ⟨trivial, k108, trivial⟩⟩, k112, ⟨⟨trivial, k113, trivial⟩, k114, ⟨trivial, k115, trivial⟩⟩⟩, k116, ⟨⟨⟨trivial, k117, trivial⟩, k118, ⟨trivial, k119, trivial⟩⟩, k120, ⟨⟨trivial, k121, trivial⟩, k122, ⟨trivial, k145, trivial⟩⟩⟩⟩, k149, ⟨⟨⟨⟨trivial, k150, trivial⟩, k151, ⟨trivial, k152, trivial⟩⟩, k153, ⟨⟨trivial, k154, trivial⟩, k157, ⟨trivial, k158, trivial⟩⟩⟩, k159, ⟨⟨⟨trivial, k160, trivial⟩, k187, ⟨trivial, k188, trivial⟩⟩, k189, ⟨⟨trivial, k190, trivial⟩, k210, trivial⟩⟩⟩⟩⟩
end Go.EV
