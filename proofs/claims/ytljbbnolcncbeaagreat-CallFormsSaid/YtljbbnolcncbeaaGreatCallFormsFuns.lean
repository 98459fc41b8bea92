/-
  The functions that CallForms reaches; each is looked at by the kernel.
-/
import Derived.Test.YtljbbnolcncbeaaGreatCallFormsDefs
import Derived.Test.YtljbbnolcncbeaaGreatProg
set_option maxRecDepth 100000
namespace Fo.Tryz
open Go Go.Proofs
def nf : Nat → Option FuncId
  | 22 => some 6
  | 42 => some 12
  | 43 => some 13
  | 44 => some 7
  | 47 => some 30
  | 70 => some 26
  | 71 => some 14
  | 72 => some 15
  | 73 => some 16
  | 74 => some 17
  | 75 => some 18
  | 76 => some 19
  | 77 => some 20
  | 78 => some 21
  | 79 => some 22
  | 80 => some 23
  | 81 => some 24
  | 82 => some 51
  | 87 => some 47
  | 88 => some 64
  | 89 => some 58
  | 90 => some 59
  | 91 => some 60
  | 92 => some 61
  | 121 => some 27
  | 122 => some 28
  | 123 => some 29
  | 124 => some 31
  | 125 => some 32
  | 126 => some 33
  | 127 => some 34
  | 128 => some 35
  | 129 => some 36
  | 130 => some 37
  | 131 => some 38
  | 132 => some 92
  | 133 => some 93
  | 134 => some 94
  | 135 => some 81
  | 136 => some 95
  | 137 => some 87
  | 138 => some 96
  | 142 => some 110
  | 143 => some 97
  | 146 => some 52
  | 149 => some 88
  | 150 => some 65
  | 151 => some 102
  | 152 => some 103
  | 154 => some 105
  | 155 => some 106
  | 191 => some 123
  | 192 => some 41
  | 193 => some 42
  | 194 => some 43
  | 195 => some 44
  | 196 => some 45
  | 197 => some 46
  | 198 => some 48
  | 199 => some 49
  | 200 => some 50
  | 201 => some 53
  | 202 => some 54
  | 203 => some 55
  | 204 => some 56
  | 205 => some 57
  | 206 => some 62
  | 207 => some 63
  | 208 => some 66
  | 209 => some 67
  | 210 => some 68
  | 211 => some 69
  | 212 => some 70
  | 213 => some 71
  | 214 => some 72
  | 215 => some 137
  | 229 => some 108
  | 230 => some 138
  | 246 => some 154
  | 247 => some 155
  | 248 => some 77
  | 249 => some 78
  | 250 => some 79
  | 251 => some 80
  | 253 => some 83
  | 254 => some 84
  | 255 => some 85
  | 256 => some 86
  | 257 => some 89
  | 258 => some 90
  | 259 => some 91
  | 260 => some 98
  | 261 => some 99
  | 262 => some 100
  | 263 => some 101
  | 264 => some 107
  | 265 => some 109
  | 266 => some 111
  | 267 => some 112
  | 268 => some 113
  | 269 => some 114
  | 274 => some 162
  | 289 => some 170
  | 300 => some 122
  | 301 => some 124
  | 302 => some 125
  | 303 => some 126
  | 304 => some 127
  | 305 => some 128
  | 306 => some 129
  | 307 => some 130
  | 308 => some 131
  | 309 => some 132
  | 310 => some 133
  | 311 => some 134
  | 312 => some 135
  | 313 => some 136
  | 314 => some 139
  | 315 => some 140
  | 331 => some 156
  | 332 => some 157
  | 333 => some 158
  | 334 => some 159
  | 335 => some 160
  | 336 => some 161
  | 337 => some 163
  | 338 => some 164
  | 339 => some 165
  | 340 => some 166
  | 341 => some 167
  | 342 => some 168
  | 343 => some 169
  | 344 => some 189
  | 345 => some 190
  | 346 => some 191
  | 1006 => some 3
  | 1008 => some 5
  | _ => none
def abi : Nat → List Mode
  | 22 => [.lend]
  | 42 => []
  | 43 => [.lend]
  | 44 => [.lend, .lend]
  | 47 => [.lend, .lend, .lend]
  | 70 => [.lend]
  | 71 => [.bor]
  | 72 => [.bor]
  | 73 => [.bor]
  | 74 => [.bor]
  | 75 => [.bor]
  | 76 => [.bor]
  | 77 => [.bor]
  | 78 => [.bor]
  | 79 => [.bor]
  | 80 => [.bor]
  | 81 => [.lend]
  | 82 => [.lend]
  | 87 => [.lend]
  | 88 => [.lend, .lend]
  | 89 => [.bor, .lend]
  | 90 => [.give, .lend, .lend]
  | 91 => [.give, .lend, .lend]
  | 92 => [.lend, .lend, .lend]
  | 121 => [.lend, .lend, .lend]
  | 122 => [.lend, .lend]
  | 123 => [.lend]
  | 124 => [.bor, .lend]
  | 125 => [.lend, .lend]
  | 126 => [.bor, .lend, .lend, .lend]
  | 127 => [.lend, .lend, .lend]
  | 128 => [.lend, .lend]
  | 129 => [.lend, .lend]
  | 130 => [.lend, .lend, .lend]
  | 131 => [.lend, .lend]
  | 132 => [.lend]
  | 133 => [.lend]
  | 134 => [.lend]
  | 135 => [.lend]
  | 136 => [.lend]
  | 137 => [.lend]
  | 138 => [.lend, .lend]
  | 142 => [.lend, .lend]
  | 143 => [.lend]
  | 146 => [.lend]
  | 149 => [.lend]
  | 150 => [.lend]
  | 151 => [.lend, .lend, .lend]
  | 152 => [.lend, .lend]
  | 154 => [.lend, .lend]
  | 155 => [.lend]
  | 191 => [.lend]
  | 192 => [.lend]
  | 193 => [.lend]
  | 194 => [.lend, .lend]
  | 195 => [.lend]
  | 196 => [.give, .lend, .lend]
  | 197 => [.lend, .lend]
  | 198 => [.lend]
  | 199 => [.lend]
  | 200 => [.lend, .lend]
  | 201 => [.lend, .lend]
  | 202 => [.lend]
  | 203 => [.lend]
  | 204 => [.lend, .lend]
  | 205 => [.bor, .lend]
  | 206 => [.lend, .lend]
  | 207 => [.lend]
  | 208 => [.lend]
  | 209 => [.lend, .lend]
  | 210 => [.lend]
  | 211 => [.lend, .lend]
  | 212 => [.lend]
  | 213 => [.lend, .lend]
  | 214 => [.lend]
  | 215 => [.lend]
  | 229 => [.lend]
  | 230 => [.lend, .lend]
  | 246 => [.lend]
  | 247 => [.lend, .lend, .lend]
  | 248 => [.lend]
  | 249 => [.lend]
  | 250 => [.lend]
  | 251 => [.lend]
  | 253 => [.lend, .lend]
  | 254 => [.lend, .lend, .lend]
  | 255 => [.lend]
  | 256 => [.lend, .lend]
  | 257 => [.lend]
  | 258 => [.lend, .lend]
  | 259 => [.lend]
  | 260 => [.lend, .lend]
  | 261 => [.give, .lend]
  | 262 => [.lend]
  | 263 => [.lend]
  | 264 => [.lend, .lend]
  | 265 => [.lend]
  | 266 => [.lend, .lend]
  | 267 => [.lend]
  | 268 => [.lend]
  | 269 => [.lend]
  | 274 => [.lend, .lend]
  | 289 => [.lend]
  | 300 => [.lend]
  | 301 => [.lend]
  | 302 => [.lend]
  | 303 => [.lend]
  | 304 => [.lend]
  | 305 => [.lend, .lend]
  | 306 => [.lend]
  | 307 => [.lend]
  | 308 => [.lend]
  | 309 => [.lend, .lend]
  | 310 => [.lend]
  | 311 => [.bor, .lend, .lend]
  | 312 => [.lend, .lend]
  | 313 => [.lend]
  | 314 => [.lend]
  | 315 => [.give, .lend]
  | 331 => [.lend]
  | 332 => [.lend, .lend]
  | 333 => [.lend, .lend]
  | 334 => [.lend, .lend]
  | 335 => [.lend]
  | 336 => [.lend]
  | 337 => [.lend]
  | 338 => [.lend]
  | 339 => [.lend]
  | 340 => [.lend, .lend]
  | 341 => [.lend, .lend]
  | 342 => [.lend, .lend]
  | 343 => [.give, .lend]
  | 344 => [.lend, .lend]
  | 345 => [.lend]
  | 346 => [.lend]
  | 1006 => []
  | 1008 => []
  | _ => []
theorem k22 : chkFun Tryz.prog nf abi Tryz.f6 F22 = true := by kernel_rfl
theorem k42 : chkFun Tryz.prog nf abi Tryz.f12 F42 = true := by kernel_rfl
theorem k43 : chkFun Tryz.prog nf abi Tryz.f13 F43 = true := by kernel_rfl
theorem k44 : chkFun Tryz.prog nf abi Tryz.f7 F44 = true := by kernel_rfl
theorem k47 : chkFun Tryz.prog nf abi Tryz.f30 F47 = true := by kernel_rfl
theorem k70 : chkFun Tryz.prog nf abi Tryz.f26 F70 = true := by kernel_rfl
theorem k71 : chkFun Tryz.prog nf abi Tryz.f14 F71 = true := by kernel_rfl
theorem k72 : chkFun Tryz.prog nf abi Tryz.f15 F72 = true := by kernel_rfl
theorem k73 : chkFun Tryz.prog nf abi Tryz.f16 F73 = true := by kernel_rfl
theorem k74 : chkFun Tryz.prog nf abi Tryz.f17 F74 = true := by kernel_rfl
theorem k75 : chkFun Tryz.prog nf abi Tryz.f18 F75 = true := by kernel_rfl
theorem k76 : chkFun Tryz.prog nf abi Tryz.f19 F76 = true := by kernel_rfl
theorem k77 : chkFun Tryz.prog nf abi Tryz.f20 F77 = true := by kernel_rfl
theorem k78 : chkFun Tryz.prog nf abi Tryz.f21 F78 = true := by kernel_rfl
theorem k79 : chkFun Tryz.prog nf abi Tryz.f22 F79 = true := by kernel_rfl
theorem k80 : chkFun Tryz.prog nf abi Tryz.f23 F80 = true := by kernel_rfl
theorem k81 : chkFun Tryz.prog nf abi Tryz.f24 F81 = true := by kernel_rfl
theorem k82 : chkFun Tryz.prog nf abi Tryz.f51 F82 = true := by kernel_rfl
theorem k87 : chkFun Tryz.prog nf abi Tryz.f47 F87 = true := by kernel_rfl
theorem k88 : chkFun Tryz.prog nf abi Tryz.f64 F88 = true := by kernel_rfl
theorem k89 : chkFun Tryz.prog nf abi Tryz.f58 F89 = true := by kernel_rfl
theorem k90 : chkFun Tryz.prog nf abi Tryz.f59 F90 = true := by kernel_rfl
theorem k91 : chkFun Tryz.prog nf abi Tryz.f60 F91 = true := by kernel_rfl
theorem k92 : chkFun Tryz.prog nf abi Tryz.f61 F92 = true := by kernel_rfl
theorem k121 : chkFun Tryz.prog nf abi Tryz.f27 F121 = true := by kernel_rfl
theorem k122 : chkFun Tryz.prog nf abi Tryz.f28 F122 = true := by kernel_rfl
theorem k123 : chkFun Tryz.prog nf abi Tryz.f29 F123 = true := by kernel_rfl
theorem k124 : chkFun Tryz.prog nf abi Tryz.f31 F124 = true := by kernel_rfl
theorem k125 : chkFun Tryz.prog nf abi Tryz.f32 F125 = true := by kernel_rfl
theorem k126 : chkFun Tryz.prog nf abi Tryz.f33 F126 = true := by kernel_rfl
theorem k127 : chkFun Tryz.prog nf abi Tryz.f34 F127 = true := by kernel_rfl
theorem k128 : chkFun Tryz.prog nf abi Tryz.f35 F128 = true := by kernel_rfl
theorem k129 : chkFun Tryz.prog nf abi Tryz.f36 F129 = true := by kernel_rfl
theorem k130 : chkFun Tryz.prog nf abi Tryz.f37 F130 = true := by kernel_rfl
theorem k131 : chkFun Tryz.prog nf abi Tryz.f38 F131 = true := by kernel_rfl
theorem k132 : chkFun Tryz.prog nf abi Tryz.f92 F132 = true := by kernel_rfl
theorem k133 : chkFun Tryz.prog nf abi Tryz.f93 F133 = true := by kernel_rfl
theorem k134 : chkFun Tryz.prog nf abi Tryz.f94 F134 = true := by kernel_rfl
theorem k135 : chkFun Tryz.prog nf abi Tryz.f81 F135 = true := by kernel_rfl
theorem k136 : chkFun Tryz.prog nf abi Tryz.f95 F136 = true := by kernel_rfl
theorem k137 : chkFun Tryz.prog nf abi Tryz.f87 F137 = true := by kernel_rfl
theorem k138 : chkFun Tryz.prog nf abi Tryz.f96 F138 = true := by kernel_rfl
theorem k142 : chkFun Tryz.prog nf abi Tryz.f110 F142 = true := by kernel_rfl
theorem k143 : chkFun Tryz.prog nf abi Tryz.f97 F143 = true := by kernel_rfl
theorem k146 : chkFun Tryz.prog nf abi Tryz.f52 F146 = true := by kernel_rfl
theorem k149 : chkFun Tryz.prog nf abi Tryz.f88 F149 = true := by kernel_rfl
theorem k150 : chkFun Tryz.prog nf abi Tryz.f65 F150 = true := by kernel_rfl
theorem k151 : chkFun Tryz.prog nf abi Tryz.f102 F151 = true := by kernel_rfl
theorem k152 : chkFun Tryz.prog nf abi Tryz.f103 F152 = true := by kernel_rfl
theorem k154 : chkFun Tryz.prog nf abi Tryz.f105 F154 = true := by kernel_rfl
theorem k155 : chkFun Tryz.prog nf abi Tryz.f106 F155 = true := by kernel_rfl
theorem k191 : chkFun Tryz.prog nf abi Tryz.f123 F191 = true := by kernel_rfl
theorem k192 : chkFun Tryz.prog nf abi Tryz.f41 F192 = true := by kernel_rfl
theorem k193 : chkFun Tryz.prog nf abi Tryz.f42 F193 = true := by kernel_rfl
theorem k194 : chkFun Tryz.prog nf abi Tryz.f43 F194 = true := by kernel_rfl
theorem k195 : chkFun Tryz.prog nf abi Tryz.f44 F195 = true := by kernel_rfl
theorem k196 : chkFun Tryz.prog nf abi Tryz.f45 F196 = true := by kernel_rfl
theorem k197 : chkFun Tryz.prog nf abi Tryz.f46 F197 = true := by kernel_rfl
theorem k198 : chkFun Tryz.prog nf abi Tryz.f48 F198 = true := by kernel_rfl
theorem k199 : chkFun Tryz.prog nf abi Tryz.f49 F199 = true := by kernel_rfl
theorem k200 : chkFun Tryz.prog nf abi Tryz.f50 F200 = true := by kernel_rfl
theorem k201 : chkFun Tryz.prog nf abi Tryz.f53 F201 = true := by kernel_rfl
theorem k202 : chkFun Tryz.prog nf abi Tryz.f54 F202 = true := by kernel_rfl
theorem k203 : chkFun Tryz.prog nf abi Tryz.f55 F203 = true := by kernel_rfl
theorem k204 : chkFun Tryz.prog nf abi Tryz.f56 F204 = true := by kernel_rfl
theorem k205 : chkFun Tryz.prog nf abi Tryz.f57 F205 = true := by kernel_rfl
theorem k206 : chkFun Tryz.prog nf abi Tryz.f62 F206 = true := by kernel_rfl
theorem k207 : chkFun Tryz.prog nf abi Tryz.f63 F207 = true := by kernel_rfl
theorem k208 : chkFun Tryz.prog nf abi Tryz.f66 F208 = true := by kernel_rfl
theorem k209 : chkFun Tryz.prog nf abi Tryz.f67 F209 = true := by kernel_rfl
theorem k210 : chkFun Tryz.prog nf abi Tryz.f68 F210 = true := by kernel_rfl
theorem k211 : chkFun Tryz.prog nf abi Tryz.f69 F211 = true := by kernel_rfl
theorem k212 : chkFun Tryz.prog nf abi Tryz.f70 F212 = true := by kernel_rfl
theorem k213 : chkFun Tryz.prog nf abi Tryz.f71 F213 = true := by kernel_rfl
theorem k214 : chkFun Tryz.prog nf abi Tryz.f72 F214 = true := by kernel_rfl
theorem k215 : chkFun Tryz.prog nf abi Tryz.f137 F215 = true := by kernel_rfl
theorem k229 : chkFun Tryz.prog nf abi Tryz.f108 F229 = true := by kernel_rfl
theorem k230 : chkFun Tryz.prog nf abi Tryz.f138 F230 = true := by kernel_rfl
theorem k246 : chkFun Tryz.prog nf abi Tryz.f154 F246 = true := by kernel_rfl
theorem k247 : chkFun Tryz.prog nf abi Tryz.f155 F247 = true := by kernel_rfl
theorem k248 : chkFun Tryz.prog nf abi Tryz.f77 F248 = true := by kernel_rfl
theorem k249 : chkFun Tryz.prog nf abi Tryz.f78 F249 = true := by kernel_rfl
theorem k250 : chkFun Tryz.prog nf abi Tryz.f79 F250 = true := by kernel_rfl
theorem k251 : chkFun Tryz.prog nf abi Tryz.f80 F251 = true := by kernel_rfl
theorem k253 : chkFun Tryz.prog nf abi Tryz.f83 F253 = true := by kernel_rfl
theorem k254 : chkFun Tryz.prog nf abi Tryz.f84 F254 = true := by kernel_rfl
theorem k255 : chkFun Tryz.prog nf abi Tryz.f85 F255 = true := by kernel_rfl
theorem k256 : chkFun Tryz.prog nf abi Tryz.f86 F256 = true := by kernel_rfl
theorem k257 : chkFun Tryz.prog nf abi Tryz.f89 F257 = true := by kernel_rfl
theorem k258 : chkFun Tryz.prog nf abi Tryz.f90 F258 = true := by kernel_rfl
theorem k259 : chkFun Tryz.prog nf abi Tryz.f91 F259 = true := by kernel_rfl
theorem k260 : chkFun Tryz.prog nf abi Tryz.f98 F260 = true := by kernel_rfl
theorem k261 : chkFun Tryz.prog nf abi Tryz.f99 F261 = true := by kernel_rfl
theorem k262 : chkFun Tryz.prog nf abi Tryz.f100 F262 = true := by kernel_rfl
theorem k263 : chkFun Tryz.prog nf abi Tryz.f101 F263 = true := by kernel_rfl
theorem k264 : chkFun Tryz.prog nf abi Tryz.f107 F264 = true := by kernel_rfl
theorem k265 : chkFun Tryz.prog nf abi Tryz.f109 F265 = true := by kernel_rfl
theorem k266 : chkFun Tryz.prog nf abi Tryz.f111 F266 = true := by kernel_rfl
theorem k267 : chkFun Tryz.prog nf abi Tryz.f112 F267 = true := by kernel_rfl
theorem k268 : chkFun Tryz.prog nf abi Tryz.f113 F268 = true := by kernel_rfl
theorem k269 : chkFun Tryz.prog nf abi Tryz.f114 F269 = true := by kernel_rfl
theorem k274 : chkFun Tryz.prog nf abi Tryz.f162 F274 = true := by kernel_rfl
theorem k289 : chkFun Tryz.prog nf abi Tryz.f170 F289 = true := by kernel_rfl
theorem k300 : chkFun Tryz.prog nf abi Tryz.f122 F300 = true := by kernel_rfl
theorem k301 : chkFun Tryz.prog nf abi Tryz.f124 F301 = true := by kernel_rfl
theorem k302 : chkFun Tryz.prog nf abi Tryz.f125 F302 = true := by kernel_rfl
theorem k303 : chkFun Tryz.prog nf abi Tryz.f126 F303 = true := by kernel_rfl
theorem k304 : chkFun Tryz.prog nf abi Tryz.f127 F304 = true := by kernel_rfl
theorem k305 : chkFun Tryz.prog nf abi Tryz.f128 F305 = true := by kernel_rfl
theorem k306 : chkFun Tryz.prog nf abi Tryz.f129 F306 = true := by kernel_rfl
theorem k307 : chkFun Tryz.prog nf abi Tryz.f130 F307 = true := by kernel_rfl
theorem k308 : chkFun Tryz.prog nf abi Tryz.f131 F308 = true := by kernel_rfl
theorem k309 : chkFun Tryz.prog nf abi Tryz.f132 F309 = true := by kernel_rfl
theorem k310 : chkFun Tryz.prog nf abi Tryz.f133 F310 = true := by kernel_rfl
theorem k311 : chkFun Tryz.prog nf abi Tryz.f134 F311 = true := by kernel_rfl
theorem k312 : chkFun Tryz.prog nf abi Tryz.f135 F312 = true := by kernel_rfl
theorem k313 : chkFun Tryz.prog nf abi Tryz.f136 F313 = true := by kernel_rfl
theorem k314 : chkFun Tryz.prog nf abi Tryz.f139 F314 = true := by kernel_rfl
theorem k315 : chkFun Tryz.prog nf abi Tryz.f140 F315 = true := by kernel_rfl
theorem k331 : chkFun Tryz.prog nf abi Tryz.f156 F331 = true := by kernel_rfl
theorem k332 : chkFun Tryz.prog nf abi Tryz.f157 F332 = true := by kernel_rfl
theorem k333 : chkFun Tryz.prog nf abi Tryz.f158 F333 = true := by kernel_rfl
theorem k334 : chkFun Tryz.prog nf abi Tryz.f159 F334 = true := by kernel_rfl
theorem k335 : chkFun Tryz.prog nf abi Tryz.f160 F335 = true := by kernel_rfl
theorem k336 : chkFun Tryz.prog nf abi Tryz.f161 F336 = true := by kernel_rfl
theorem k337 : chkFun Tryz.prog nf abi Tryz.f163 F337 = true := by kernel_rfl
theorem k338 : chkFun Tryz.prog nf abi Tryz.f164 F338 = true := by kernel_rfl
theorem k339 : chkFun Tryz.prog nf abi Tryz.f165 F339 = true := by kernel_rfl
theorem k340 : chkFun Tryz.prog nf abi Tryz.f166 F340 = true := by kernel_rfl
theorem k341 : chkFun Tryz.prog nf abi Tryz.f167 F341 = true := by kernel_rfl
theorem k342 : chkFun Tryz.prog nf abi Tryz.f168 F342 = true := by kernel_rfl
theorem k343 : chkFun Tryz.prog nf abi Tryz.f169 F343 = true := by kernel_rfl
theorem k344 : chkFun Tryz.prog nf abi Tryz.f189 F344 = true := by kernel_rfl
theorem k345 : chkFun Tryz.prog nf abi Tryz.f190 F345 = true := by kernel_rfl
theorem k346 : chkFun Tryz.prog nf abi Tryz.f191 F346 = true := by kernel_rfl
theorem k1006 : chkFun Tryz.prog nf abi Tryz.f3 F1006 = true := by kernel_rfl
theorem k1008 : chkFun Tryz.prog nf abi Tryz.f5 F1008 = true := by kernel_rfl
end Fo.Tryz
