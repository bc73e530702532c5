/- The compiled functions are the program's. -/
import Derived.Test.YtkcabichlinkmaaGreatDoorHM7
import Derived.Test.YtkcabichlinkmaaGreatDoorProg
import Derived.KernelRfl
namespace Go.EV
open Go.Proofs
set_option maxRecDepth 100000
theorem k6 : FnOk Tryz.prog 6 F6 := ⟨Tryz.f6, Tryz.func6, by kernel_rfl, by kernel_rfl⟩
theorem k11 : FnOk Tryz.prog 11 F11 := ⟨Tryz.f11, Tryz.func11, by kernel_rfl, by kernel_rfl⟩
theorem k15 : FnOk Tryz.prog 15 F15 := ⟨Tryz.f15, Tryz.func15, by kernel_rfl, by kernel_rfl⟩
theorem k17 : FnOk Tryz.prog 17 F17 := ⟨Tryz.f17, Tryz.func17, by kernel_rfl, by kernel_rfl⟩
theorem k19 : FnOk Tryz.prog 19 F19 := ⟨Tryz.f19, Tryz.func19, by kernel_rfl, by kernel_rfl⟩
theorem k21 : FnOk Tryz.prog 21 F21 := ⟨Tryz.f21, Tryz.func21, by kernel_rfl, by kernel_rfl⟩
theorem k22 : FnOk Tryz.prog 22 F22 := ⟨Tryz.f22, Tryz.func22, by kernel_rfl, by kernel_rfl⟩
theorem k23 : FnOk Tryz.prog 23 F23 := ⟨Tryz.f23, Tryz.func23, by kernel_rfl, by kernel_rfl⟩
theorem k38 : FnOk Tryz.prog 38 F38 := ⟨Tryz.f38, Tryz.func38, by kernel_rfl, by kernel_rfl⟩
theorem k41 : FnOk Tryz.prog 41 F41 := ⟨Tryz.f41, Tryz.func41, by kernel_rfl, by kernel_rfl⟩
theorem k42 : FnOk Tryz.prog 42 F42 := ⟨Tryz.f42, Tryz.func42, by kernel_rfl, by kernel_rfl⟩
theorem k43 : FnOk Tryz.prog 43 F43 := ⟨Tryz.f43, Tryz.func43, by kernel_rfl, by kernel_rfl⟩
theorem k44 : FnOk Tryz.prog 44 F44 := ⟨Tryz.f44, Tryz.func44, by kernel_rfl, by kernel_rfl⟩
theorem k51 : FnOk Tryz.prog 51 F51 := ⟨Tryz.f51, Tryz.func51, by kernel_rfl, by kernel_rfl⟩
theorem k64 : FnOk Tryz.prog 64 F64 := ⟨Tryz.f64, Tryz.func64, by kernel_rfl, by kernel_rfl⟩
theorem k67 : FnOk Tryz.prog 67 F67 := ⟨Tryz.f67, Tryz.func67, by kernel_rfl, by kernel_rfl⟩
theorem k68 : FnOk Tryz.prog 68 F68 := ⟨Tryz.f68, Tryz.func68, by kernel_rfl, by kernel_rfl⟩
theorem k72 : FnOk Tryz.prog 72 F72 := ⟨Tryz.f72, Tryz.func72, by kernel_rfl, by kernel_rfl⟩
theorem k73 : FnOk Tryz.prog 73 F73 := ⟨Tryz.f73, Tryz.func73, by kernel_rfl, by kernel_rfl⟩
theorem k74 : FnOk Tryz.prog 74 F74 := ⟨Tryz.f74, Tryz.func74, by kernel_rfl, by kernel_rfl⟩
theorem k75 : FnOk Tryz.prog 75 F75 := ⟨Tryz.f75, Tryz.func75, by kernel_rfl, by kernel_rfl⟩
theorem k76 : FnOk Tryz.prog 76 F76 := ⟨Tryz.f76, Tryz.func76, by kernel_rfl, by kernel_rfl⟩
theorem k77 : FnOk Tryz.prog 77 F77 := ⟨Tryz.f77, Tryz.func77, by kernel_rfl, by kernel_rfl⟩
theorem k78 : FnOk Tryz.prog 78 F78 := ⟨Tryz.f78, Tryz.func78, by kernel_rfl, by kernel_rfl⟩
theorem k79 : FnOk Tryz.prog 79 F79 := ⟨Tryz.f79, Tryz.func79, by kernel_rfl, by kernel_rfl⟩
theorem k85 : FnOk Tryz.prog 85 F85 := ⟨Tryz.f85, Tryz.func85, by kernel_rfl, by kernel_rfl⟩
theorem k97 : FnOk Tryz.prog 97 F97 := ⟨Tryz.f97, Tryz.func97, by kernel_rfl, by kernel_rfl⟩
theorem k101 : FnOk Tryz.prog 101 F101 := ⟨Tryz.f101, Tryz.func101, by kernel_rfl, by kernel_rfl⟩
theorem k102 : FnOk Tryz.prog 102 F102 := ⟨Tryz.f102, Tryz.func102, by kernel_rfl, by kernel_rfl⟩
theorem k104 : FnOk Tryz.prog 104 F104 := ⟨Tryz.f104, Tryz.func104, by kernel_rfl, by kernel_rfl⟩
theorem k106 : FnOk Tryz.prog 106 F106 := ⟨Tryz.f106, Tryz.func106, by kernel_rfl, by kernel_rfl⟩
theorem k107 : FnOk Tryz.prog 107 F107 := ⟨Tryz.f107, Tryz.func107, by kernel_rfl, by kernel_rfl⟩
theorem k108 : FnOk Tryz.prog 108 F108 := ⟨Tryz.f108, Tryz.func108, by kernel_rfl, by kernel_rfl⟩
theorem k112 : FnOk Tryz.prog 112 F112 := ⟨Tryz.f112, Tryz.func112, by kernel_rfl, by kernel_rfl⟩
theorem k113 : FnOk Tryz.prog 113 F113 := ⟨Tryz.f113, Tryz.func113, by kernel_rfl, by kernel_rfl⟩
theorem k114 : FnOk Tryz.prog 114 F114 := ⟨Tryz.f114, Tryz.func114, by kernel_rfl, by kernel_rfl⟩
theorem k115 : FnOk Tryz.prog 115 F115 := ⟨Tryz.f115, Tryz.func115, by kernel_rfl, by kernel_rfl⟩
theorem k116 : FnOk Tryz.prog 116 F116 := ⟨Tryz.f116, Tryz.func116, by kernel_rfl, by kernel_rfl⟩
theorem k117 : FnOk Tryz.prog 117 F117 := ⟨Tryz.f117, Tryz.func117, by kernel_rfl, by kernel_rfl⟩
theorem k118 : FnOk Tryz.prog 118 F118 := ⟨Tryz.f118, Tryz.func118, by kernel_rfl, by kernel_rfl⟩
theorem k119 : FnOk Tryz.prog 119 F119 := ⟨Tryz.f119, Tryz.func119, by kernel_rfl, by kernel_rfl⟩
theorem k120 : FnOk Tryz.prog 120 F120 := ⟨Tryz.f120, Tryz.func120, by kernel_rfl, by kernel_rfl⟩
theorem k123 : FnOk Tryz.prog 123 F123 := ⟨Tryz.f123, Tryz.func123, by kernel_rfl, by kernel_rfl⟩
theorem k124 : FnOk Tryz.prog 124 F124 := ⟨Tryz.f124, Tryz.func124, by kernel_rfl, by kernel_rfl⟩
theorem k145 : FnOk Tryz.prog 145 F145 := ⟨Tryz.f145, Tryz.func145, by kernel_rfl, by kernel_rfl⟩
theorem k149 : FnOk Tryz.prog 149 F149 := ⟨Tryz.f149, Tryz.func149, by kernel_rfl, by kernel_rfl⟩
theorem k150 : FnOk Tryz.prog 150 F150 := ⟨Tryz.f150, Tryz.func150, by kernel_rfl, by kernel_rfl⟩
theorem k151 : FnOk Tryz.prog 151 F151 := ⟨Tryz.f151, Tryz.func151, by kernel_rfl, by kernel_rfl⟩
theorem k152 : FnOk Tryz.prog 152 F152 := ⟨Tryz.f152, Tryz.func152, by kernel_rfl, by kernel_rfl⟩
theorem k153 : FnOk Tryz.prog 153 F153 := ⟨Tryz.f153, Tryz.func153, by kernel_rfl, by kernel_rfl⟩
theorem k154 : FnOk Tryz.prog 154 F154 := ⟨Tryz.f154, Tryz.func154, by kernel_rfl, by kernel_rfl⟩
theorem k157 : FnOk Tryz.prog 157 F157 := ⟨Tryz.f157, Tryz.func157, by kernel_rfl, by kernel_rfl⟩
theorem k158 : FnOk Tryz.prog 158 F158 := ⟨Tryz.f158, Tryz.func158, by kernel_rfl, by kernel_rfl⟩
theorem k162 : FnOk Tryz.prog 162 F162 := ⟨Tryz.f162, Tryz.func162, by kernel_rfl, by kernel_rfl⟩
theorem k187 : FnOk Tryz.prog 187 F187 := ⟨Tryz.f187, Tryz.func187, by kernel_rfl, by kernel_rfl⟩
theorem k188 : FnOk Tryz.prog 188 F188 := ⟨Tryz.f188, Tryz.func188, by kernel_rfl, by kernel_rfl⟩
theorem k189 : FnOk Tryz.prog 189 F189 := ⟨Tryz.f189, Tryz.func189, by kernel_rfl, by kernel_rfl⟩
theorem k190 : FnOk Tryz.prog 190 F190 := ⟨Tryz.f190, Tryz.func190, by kernel_rfl, by kernel_rfl⟩
theorem k195 : FnOk Tryz.prog 195 F195 := ⟨Tryz.f195, Tryz.func195, by kernel_rfl, by kernel_rfl⟩
theorem k196 : FnOk Tryz.prog 196 F196 := ⟨Tryz.f196, Tryz.func196, by kernel_rfl, by kernel_rfl⟩
theorem k210 : FnOk Tryz.prog 210 F210 := ⟨Tryz.f210, Tryz.func210, by kernel_rfl, by kernel_rfl⟩
theorem k211 : FnOk Tryz.prog 211 F211 := ⟨Tryz.f211, Tryz.func211, by kernel_rfl, by kernel_rfl⟩
def tm1 : Tm := (.node (.node (.node (.node (.node (.node .leaf 6 F6 .leaf) 11 F11 (.node .leaf 15 F15 .leaf)) 17 F17 (.node (.node .leaf 19 F19 .leaf) 21 F21 (.node .leaf 22 F22 .leaf))) 23 F23 (.node (.node (.node .leaf 38 F38 .leaf) 41 F41 (.node .leaf 42 F42 .leaf)) 43 F43 (.node (.node .leaf 44 F44 .leaf) 51 F51 (.node .leaf 64 F64 .leaf)))) 67 F67 (.node (.node (.node (.node .leaf 68 F68 .leaf) 72 F72 (.node .leaf 73 F73 .leaf)) 74 F74 (.node (.node .leaf 75 F75 .leaf) 76 F76 (.node .leaf 77 F77 .leaf))) 78 F78 (.node (.node (.node .leaf 79 F79 .leaf) 85 F85 (.node .leaf 97 F97 .leaf)) 101 F101 (.node (.node .leaf 102 F102 .leaf) 104 F104 (.node .leaf 106 F106 .leaf))))) 107 F107 (.node (.node (.node (.node (.node .leaf 108 F108 .leaf) 112 F112 (.node .leaf 113 F113 .leaf)) 114 F114 (.node (.node .leaf 115 F115 .leaf) 116 F116 (.node .leaf 117 F117 .leaf))) 118 F118 (.node (.node (.node .leaf 119 F119 .leaf) 120 F120 (.node .leaf 123 F123 .leaf)) 124 F124 (.node (.node .leaf 145 F145 .leaf) 149 F149 (.node .leaf 150 F150 .leaf)))) 151 F151 (.node (.node (.node (.node .leaf 152 F152 .leaf) 153 F153 (.node .leaf 154 F154 .leaf)) 157 F157 (.node (.node .leaf 158 F158 .leaf) 162 F162 (.node .leaf 187 F187 .leaf))) 188 F188 (.node (.node (.node .leaf 189 F189 .leaf) 190 F190 (.node .leaf 195 F195 .leaf)) 196 F196 (.node (.node .leaf 210 F210 .leaf) 211 F211 .leaf)))))
theorem tm1_ok : tm1.All (FnOk Tryz.prog) := ⟨⟨⟨⟨⟨⟨trivial, k6, trivial⟩, k11, ⟨trivial, k15, trivial⟩⟩, k17, ⟨⟨trivial, k19, trivial⟩, k21, ⟨trivial, k22, trivial⟩⟩⟩, k23, ⟨⟨⟨trivial, k38, trivial⟩, k41, ⟨trivial, k42, trivial⟩⟩, k43, ⟨⟨trivial, k44, trivial⟩, k51, ⟨trivial, k64, trivial⟩⟩⟩⟩, k67, ⟨⟨⟨⟨trivial, k68, trivial⟩, k72, ⟨trivial, k73, trivial⟩⟩, k74, ⟨⟨trivial, k75, trivial⟩, k76, ⟨trivial, k77, trivial⟩⟩⟩, k78, ⟨⟨⟨trivial, k79, trivial⟩, k85, ⟨trivial, k97, trivial⟩⟩, k101, ⟨⟨trivial, k102, trivial⟩, k104, ⟨trivial, k106, trivial⟩⟩⟩⟩⟩, k107, ⟨⟨⟨⟨⟨trivial, k108, trivial⟩, k112, ⟨trivial, k113, trivial⟩⟩, k114, ⟨⟨trivial, k115, trivial⟩, k116, ⟨trivial, k117, trivial⟩⟩⟩, k118, ⟨⟨⟨trivial, k119, trivial⟩, k120, ⟨trivial, k123, trivial⟩⟩, k124, ⟨⟨trivial, k145, trivial⟩, k149, ⟨trivial, k150, trivial⟩⟩⟩⟩, k151, ⟨⟨⟨⟨trivial, k152, trivial⟩, k153, ⟨trivial, k154, trivial⟩⟩, k157, ⟨⟨trivial, k158, trivial⟩, k162, ⟨trivial, k187, trivial⟩⟩⟩, k188, ⟨⟨⟨trivial, k189, trivial⟩, k190, ⟨trivial, k195, trivial⟩⟩, k196, ⟨⟨trivial, k210, trivial⟩, k211, trivial⟩⟩⟩⟩⟩
end Go.EV
