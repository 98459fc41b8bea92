/-
  The functions that KernNone reaches; each is looked at by the kernel.
-/
import Derived.Test.YtjpjdmbomljdcaaGreatKernNoneDefs
import Derived.Test.YtjpjdmbomljdcaaGreatProg
set_option maxRecDepth 100000
namespace Fo.Tryz
open Go Go.Proofs
def modes : Nat → List Mode
  | 14 => [.lend, .lend]
  | 15 => [.lend]
  | 22 => [.lend]
  | 30 => [.lend]
  | 32 => [.lend, .lend]
  | 33 => [.lend, .lend]
  | 34 => [.lend, .lend]
  | 35 => [.lend, .lend]
  | 36 => [.lend, .lend]
  | 37 => [.lend]
  | 42 => []
  | 43 => [.lend]
  | 45 => [.lend]
  | 47 => [.lend, .lend, .lend]
  | 55 => [.lend, .lend]
  | 56 => []
  | 60 => [.lend, .lend]
  | 61 => [.lend, .lend]
  | 62 => [.lend, .lend]
  | 63 => [.lend, .lend]
  | 64 => [.lend]
  | 70 => [.lend]
  | 82 => [.lend]
  | 83 => [.bor]
  | 84 => [.bor]
  | 85 => [.bor]
  | 86 => [.bor]
  | 87 => [.lend]
  | 88 => [.lend, .lend]
  | 89 => [.bor, .lend]
  | 90 => [.give, .lend, .lend]
  | 91 => [.give, .lend, .lend]
  | 92 => [.lend, .lend, .lend]
  | 94 => [.lend]
  | 98 => [.lend, .lend]
  | 99 => [.lend]
  | 100 => [.lend, .lend, .lend]
  | 114 => [.lend, .lend]
  | 115 => [.lend, .lend]
  | 116 => [.lend, .lend]
  | 123 => [.lend]
  | 127 => [.lend, .lend, .lend]
  | 132 => [.lend]
  | 133 => [.lend]
  | 134 => [.lend]
  | 135 => [.lend]
  | 136 => [.lend]
  | 137 => [.lend]
  | 138 => [.lend, .lend]
  | 139 => [.bor, .lend]
  | 140 => [.bor, .lend]
  | 141 => [.lend]
  | 142 => [.lend, .lend]
  | 143 => [.lend]
  | 144 => [.lend, .lend]
  | 145 => [.lend, .lend, .lend]
  | 146 => [.lend]
  | 147 => [.bor, .bor]
  | 148 => [.bor, .bor]
  | 149 => [.lend]
  | 150 => [.lend]
  | 151 => [.lend, .lend, .lend]
  | 152 => [.lend, .lend]
  | 154 => [.lend, .lend]
  | 155 => [.lend]
  | 158 => [.lend, .lend]
  | 160 => [.lend]
  | 161 => [.lend, .lend]
  | 165 => [.lend, .lend]
  | 190 => [.lend, .lend]
  | 191 => [.lend]
  | 194 => [.lend, .lend]
  | 199 => [.lend]
  | 200 => [.lend, .lend]
  | 201 => [.lend, .lend]
  | 202 => [.lend]
  | 203 => [.lend]
  | 204 => [.lend, .lend]
  | 205 => [.bor, .lend]
  | 208 => [.lend]
  | 210 => [.lend]
  | 214 => [.lend]
  | 215 => [.lend]
  | 216 => [.lend, .lend]
  | 217 => [.lend, .lend]
  | 218 => [.lend]
  | 219 => [.give, .lend]
  | 220 => [.lend]
  | 221 => [.lend, .lend, .lend]
  | 222 => [.lend]
  | 223 => [.lend, .lend]
  | 224 => [.lend, .lend]
  | 225 => [.lend, .lend, .lend]
  | 226 => [.lend, .lend, .lend]
  | 227 => [.bor, .bor]
  | 228 => [.lend, .lend, .lend]
  | 229 => [.lend]
  | 230 => [.lend, .lend]
  | 231 => [.lend]
  | 232 => [.lend]
  | 233 => [.lend]
  | 234 => [.lend, .lend, .lend]
  | 235 => [.lend]
  | 236 => [.lend, .lend]
  | 246 => [.lend]
  | 247 => [.lend, .lend, .lend]
  | 258 => [.lend, .lend]
  | 260 => [.lend, .lend]
  | 261 => [.give, .lend]
  | 262 => [.lend]
  | 263 => [.lend]
  | 265 => [.lend]
  | 267 => [.lend]
  | 268 => [.lend]
  | 269 => [.lend]
  | 270 => [.lend]
  | 271 => [.lend, .lend, .lend]
  | 272 => [.lend, .lend]
  | 273 => [.lend, .lend]
  | 274 => [.lend, .lend]
  | 275 => [.lend, .lend, .lend]
  | 276 => [.lend, .lend, .lend]
  | 277 => [.lend, .lend]
  | 278 => [.lend]
  | 279 => [.lend]
  | 280 => [.lend, .lend]
  | 281 => [.lend]
  | 282 => [.lend, .lend]
  | 283 => [.lend, .lend]
  | 284 => [.lend]
  | 285 => [.give, .lend, .lend]
  | 286 => [.lend, .lend]
  | 287 => [.lend]
  | 288 => [.lend, .lend]
  | 289 => [.lend]
  | 290 => [.lend]
  | 291 => [.lend]
  | 292 => [.lend]
  | 293 => [.lend, .lend]
  | 294 => [.lend, .lend, .lend]
  | 315 => [.give, .lend]
  | 316 => [.lend, .lend]
  | 317 => [.lend]
  | 318 => [.lend]
  | 319 => [.lend]
  | 320 => [.lend, .lend]
  | 321 => [.lend, .lend]
  | 322 => [.lend]
  | 323 => [.lend]
  | 324 => [.lend, .lend]
  | 325 => [.lend, .lend, .lend]
  | 326 => [.lend, .lend]
  | 327 => [.lend, .lend]
  | 328 => [.lend, .lend]
  | 1011 => [.lend, .lend, .lend]
  | 1017 => []
  | _ => []
def abi (fx : List Fact) : Abi := ⟨modes, fx⟩
def tbl : Nat → Option FuncId
  | 14 => some 15
  | 15 => some 16
  | 22 => some 10
  | 30 => some 11
  | 32 => some 42
  | 33 => some 43
  | 34 => some 44
  | 35 => some 45
  | 36 => some 46
  | 37 => some 47
  | 42 => some 25
  | 43 => some 26
  | 45 => some 13
  | 47 => some 12
  | 55 => some 91
  | 56 => some 27
  | 60 => some 92
  | 61 => some 93
  | 62 => some 94
  | 63 => some 95
  | 64 => some 96
  | 70 => some 63
  | 82 => some 28
  | 83 => some 33
  | 84 => some 34
  | 85 => some 35
  | 86 => some 36
  | 87 => some 112
  | 88 => some 113
  | 89 => some 29
  | 90 => some 30
  | 91 => some 31
  | 92 => some 32
  | 94 => some 184
  | 98 => some 134
  | 99 => some 64
  | 100 => some 17
  | 114 => some 135
  | 115 => some 136
  | 116 => some 137
  | 123 => some 14
  | 127 => some 71
  | 132 => some 65
  | 133 => some 66
  | 134 => some 67
  | 135 => some 68
  | 136 => some 69
  | 137 => some 70
  | 138 => some 72
  | 139 => some 78
  | 140 => some 79
  | 141 => some 80
  | 142 => some 81
  | 143 => some 62
  | 144 => some 82
  | 145 => some 83
  | 146 => some 24
  | 147 => some 84
  | 148 => some 85
  | 149 => some 157
  | 150 => some 115
  | 151 => some 73
  | 152 => some 74
  | 154 => some 76
  | 155 => some 77
  | 158 => some 214
  | 160 => some 48
  | 161 => some 49
  | 165 => some 143
  | 190 => some 183
  | 191 => some 209
  | 194 => some 88
  | 199 => some 114
  | 200 => some 121
  | 201 => some 37
  | 202 => some 38
  | 203 => some 39
  | 204 => some 40
  | 205 => some 41
  | 208 => some 116
  | 210 => some 153
  | 214 => some 122
  | 215 => some 117
  | 216 => some 119
  | 217 => some 120
  | 218 => some 123
  | 219 => some 124
  | 220 => some 125
  | 221 => some 126
  | 222 => some 127
  | 223 => some 128
  | 224 => some 129
  | 225 => some 130
  | 226 => some 131
  | 227 => some 132
  | 228 => some 133
  | 229 => some 158
  | 230 => some 118
  | 231 => some 97
  | 232 => some 98
  | 233 => some 99
  | 234 => some 100
  | 235 => some 101
  | 236 => some 102
  | 246 => some 230
  | 247 => some 231
  | 258 => some 201
  | 260 => some 86
  | 261 => some 87
  | 262 => some 89
  | 263 => some 90
  | 265 => some 159
  | 267 => some 165
  | 268 => some 166
  | 269 => some 167
  | 270 => some 161
  | 271 => some 162
  | 272 => some 163
  | 273 => some 164
  | 274 => some 168
  | 275 => some 169
  | 276 => some 170
  | 277 => some 171
  | 278 => some 172
  | 279 => some 173
  | 280 => some 174
  | 281 => some 175
  | 282 => some 176
  | 283 => some 177
  | 284 => some 178
  | 285 => some 179
  | 286 => some 180
  | 287 => some 181
  | 288 => some 182
  | 289 => some 160
  | 290 => some 138
  | 291 => some 139
  | 292 => some 140
  | 293 => some 141
  | 294 => some 142
  | 315 => some 205
  | 316 => some 206
  | 317 => some 207
  | 318 => some 208
  | 319 => some 210
  | 320 => some 211
  | 321 => some 212
  | 322 => some 213
  | 323 => some 185
  | 324 => some 186
  | 325 => some 187
  | 326 => some 188
  | 327 => some 189
  | 328 => some 190
  | 1011 => some 3
  | 1017 => some 9
  | _ => none
noncomputable def nf (ρ : Nat → Int) : Nm := ⟨tbl, ρ, fun f ns => if f = 265 then sealN (abi []) ns else 0⟩
theorem k14 (ρ : Nat → Int) (fx : List Fact) : chkFun Tryz.prog (nf ρ) (abi fx) Tryz.f15 F14 = true := by kernel_rfl
theorem k15 (ρ : Nat → Int) (fx : List Fact) : chkFun Tryz.prog (nf ρ) (abi fx) Tryz.f16 F15 = true := by kernel_rfl
theorem k22 (ρ : Nat → Int) (fx : List Fact) : chkFun Tryz.prog (nf ρ) (abi fx) Tryz.f10 F22 = true := by kernel_rfl
theorem k30 (ρ : Nat → Int) (fx : List Fact) : chkFun Tryz.prog (nf ρ) (abi fx) Tryz.f11 F30 = true := by kernel_rfl
theorem k32 (ρ : Nat → Int) (fx : List Fact) : chkFun Tryz.prog (nf ρ) (abi fx) Tryz.f42 F32 = true := by kernel_rfl
theorem k33 (ρ : Nat → Int) (fx : List Fact) : chkFun Tryz.prog (nf ρ) (abi fx) Tryz.f43 F33 = true := by kernel_rfl
theorem k34 (ρ : Nat → Int) (fx : List Fact) : chkFun Tryz.prog (nf ρ) (abi fx) Tryz.f44 F34 = true := by kernel_rfl
theorem k35 (ρ : Nat → Int) (fx : List Fact) : chkFun Tryz.prog (nf ρ) (abi fx) Tryz.f45 F35 = true := by kernel_rfl
theorem k36 (ρ : Nat → Int) (fx : List Fact) : chkFun Tryz.prog (nf ρ) (abi fx) Tryz.f46 F36 = true := by kernel_rfl
theorem k37 (ρ : Nat → Int) (fx : List Fact) : chkFun Tryz.prog (nf ρ) (abi fx) Tryz.f47 F37 = true := by kernel_rfl
theorem k42 (ρ : Nat → Int) (fx : List Fact) : chkFun Tryz.prog (nf ρ) (abi fx) Tryz.f25 F42 = true := by kernel_rfl
theorem k43 (ρ : Nat → Int) (fx : List Fact) : chkFun Tryz.prog (nf ρ) (abi fx) Tryz.f26 F43 = true := by kernel_rfl
theorem k45 (ρ : Nat → Int) (fx : List Fact) : chkFun Tryz.prog (nf ρ) (abi fx) Tryz.f13 F45 = true := by kernel_rfl
theorem k47 (ρ : Nat → Int) (fx : List Fact) : chkFun Tryz.prog (nf ρ) (abi fx) Tryz.f12 F47 = true := by kernel_rfl
theorem k55 (ρ : Nat → Int) (fx : List Fact) : chkFun Tryz.prog (nf ρ) (abi fx) Tryz.f91 F55 = true := by kernel_rfl
theorem k56 (ρ : Nat → Int) (fx : List Fact) : chkFun Tryz.prog (nf ρ) (abi fx) Tryz.f27 F56 = true := by kernel_rfl
theorem k60 (ρ : Nat → Int) (fx : List Fact) : chkFun Tryz.prog (nf ρ) (abi fx) Tryz.f92 F60 = true := by kernel_rfl
theorem k61 (ρ : Nat → Int) (fx : List Fact) : chkFun Tryz.prog (nf ρ) (abi fx) Tryz.f93 F61 = true := by kernel_rfl
theorem k62 (ρ : Nat → Int) (fx : List Fact) : chkFun Tryz.prog (nf ρ) (abi fx) Tryz.f94 F62 = true := by kernel_rfl
theorem k63 (ρ : Nat → Int) (fx : List Fact) : chkFun Tryz.prog (nf ρ) (abi fx) Tryz.f95 F63 = true := by kernel_rfl
theorem k64 (ρ : Nat → Int) (fx : List Fact) : chkFun Tryz.prog (nf ρ) (abi fx) Tryz.f96 F64 = true := by kernel_rfl
theorem k70 (ρ : Nat → Int) (fx : List Fact) : chkFun Tryz.prog (nf ρ) (abi fx) Tryz.f63 F70 = true := by kernel_rfl
theorem k82 (ρ : Nat → Int) (fx : List Fact) : chkFun Tryz.prog (nf ρ) (abi fx) Tryz.f28 F82 = true := by kernel_rfl
theorem k83 (ρ : Nat → Int) (fx : List Fact) : chkFun Tryz.prog (nf ρ) (abi fx) Tryz.f33 F83 = true := by kernel_rfl
theorem k84 (ρ : Nat → Int) (fx : List Fact) : chkFun Tryz.prog (nf ρ) (abi fx) Tryz.f34 F84 = true := by kernel_rfl
theorem k85 (ρ : Nat → Int) (fx : List Fact) : chkFun Tryz.prog (nf ρ) (abi fx) Tryz.f35 F85 = true := by kernel_rfl
theorem k86 (ρ : Nat → Int) (fx : List Fact) : chkFun Tryz.prog (nf ρ) (abi fx) Tryz.f36 F86 = true := by kernel_rfl
theorem k87 (ρ : Nat → Int) (fx : List Fact) : chkFun Tryz.prog (nf ρ) (abi fx) Tryz.f112 F87 = true := by kernel_rfl
theorem k88 (ρ : Nat → Int) (fx : List Fact) : chkFun Tryz.prog (nf ρ) (abi fx) Tryz.f113 F88 = true := by kernel_rfl
theorem k89 (ρ : Nat → Int) (fx : List Fact) : chkFun Tryz.prog (nf ρ) (abi fx) Tryz.f29 F89 = true := by kernel_rfl
theorem k90 (ρ : Nat → Int) (fx : List Fact) : chkFun Tryz.prog (nf ρ) (abi fx) Tryz.f30 F90 = true := by kernel_rfl
theorem k91 (ρ : Nat → Int) (fx : List Fact) : chkFun Tryz.prog (nf ρ) (abi fx) Tryz.f31 F91 = true := by kernel_rfl
theorem k92 (ρ : Nat → Int) (fx : List Fact) : chkFun Tryz.prog (nf ρ) (abi fx) Tryz.f32 F92 = true := by kernel_rfl
theorem k94 (ρ : Nat → Int) (fx : List Fact) : chkFun Tryz.prog (nf ρ) (abi fx) Tryz.f184 F94 = true := by kernel_rfl
theorem k98 (ρ : Nat → Int) (fx : List Fact) : chkFun Tryz.prog (nf ρ) (abi fx) Tryz.f134 F98 = true := by kernel_rfl
theorem k99 (ρ : Nat → Int) (fx : List Fact) : chkFun Tryz.prog (nf ρ) (abi fx) Tryz.f64 F99 = true := by kernel_rfl
theorem k100 (ρ : Nat → Int) (fx : List Fact) : chkFun Tryz.prog (nf ρ) (abi fx) Tryz.f17 F100 = true := by kernel_rfl
theorem k114 (ρ : Nat → Int) (fx : List Fact) : chkFun Tryz.prog (nf ρ) (abi fx) Tryz.f135 F114 = true := by kernel_rfl
theorem k115 (ρ : Nat → Int) (fx : List Fact) : chkFun Tryz.prog (nf ρ) (abi fx) Tryz.f136 F115 = true := by kernel_rfl
theorem k116 (ρ : Nat → Int) (fx : List Fact) : chkFun Tryz.prog (nf ρ) (abi fx) Tryz.f137 F116 = true := by kernel_rfl
theorem k123 (ρ : Nat → Int) (fx : List Fact) : chkFun Tryz.prog (nf ρ) (abi fx) Tryz.f14 F123 = true := by kernel_rfl
theorem k127 (ρ : Nat → Int) (fx : List Fact) : chkFun Tryz.prog (nf ρ) (abi fx) Tryz.f71 F127 = true := by kernel_rfl
theorem k132 (ρ : Nat → Int) (fx : List Fact) : chkFun Tryz.prog (nf ρ) (abi fx) Tryz.f65 F132 = true := by kernel_rfl
theorem k133 (ρ : Nat → Int) (fx : List Fact) : chkFun Tryz.prog (nf ρ) (abi fx) Tryz.f66 F133 = true := by kernel_rfl
theorem k134 (ρ : Nat → Int) (fx : List Fact) : chkFun Tryz.prog (nf ρ) (abi fx) Tryz.f67 F134 = true := by kernel_rfl
theorem k135 (ρ : Nat → Int) (fx : List Fact) : chkFun Tryz.prog (nf ρ) (abi fx) Tryz.f68 F135 = true := by kernel_rfl
theorem k136 (ρ : Nat → Int) (fx : List Fact) : chkFun Tryz.prog (nf ρ) (abi fx) Tryz.f69 F136 = true := by kernel_rfl
theorem k137 (ρ : Nat → Int) (fx : List Fact) : chkFun Tryz.prog (nf ρ) (abi fx) Tryz.f70 F137 = true := by kernel_rfl
theorem k138 (ρ : Nat → Int) (fx : List Fact) : chkFun Tryz.prog (nf ρ) (abi fx) Tryz.f72 F138 = true := by kernel_rfl
theorem k139 (ρ : Nat → Int) (fx : List Fact) : chkFun Tryz.prog (nf ρ) (abi fx) Tryz.f78 F139 = true := by kernel_rfl
theorem k140 (ρ : Nat → Int) (fx : List Fact) : chkFun Tryz.prog (nf ρ) (abi fx) Tryz.f79 F140 = true := by kernel_rfl
theorem k141 (ρ : Nat → Int) (fx : List Fact) : chkFun Tryz.prog (nf ρ) (abi fx) Tryz.f80 F141 = true := by kernel_rfl
theorem k142 (ρ : Nat → Int) (fx : List Fact) : chkFun Tryz.prog (nf ρ) (abi fx) Tryz.f81 F142 = true := by kernel_rfl
theorem k143 (ρ : Nat → Int) (fx : List Fact) : chkFun Tryz.prog (nf ρ) (abi fx) Tryz.f62 F143 = true := by kernel_rfl
theorem k144 (ρ : Nat → Int) (fx : List Fact) : chkFun Tryz.prog (nf ρ) (abi fx) Tryz.f82 F144 = true := by kernel_rfl
theorem k145 (ρ : Nat → Int) (fx : List Fact) : chkFun Tryz.prog (nf ρ) (abi fx) Tryz.f83 F145 = true := by kernel_rfl
theorem k146 (ρ : Nat → Int) (fx : List Fact) : chkFun Tryz.prog (nf ρ) (abi fx) Tryz.f24 F146 = true := by kernel_rfl
theorem k147 (ρ : Nat → Int) (fx : List Fact) : chkFun Tryz.prog (nf ρ) (abi fx) Tryz.f84 F147 = true := by kernel_rfl
theorem k148 (ρ : Nat → Int) (fx : List Fact) : chkFun Tryz.prog (nf ρ) (abi fx) Tryz.f85 F148 = true := by kernel_rfl
theorem k149 (ρ : Nat → Int) (fx : List Fact) : chkFun Tryz.prog (nf ρ) (abi fx) Tryz.f157 F149 = true := by kernel_rfl
theorem k150 (ρ : Nat → Int) (fx : List Fact) : chkFun Tryz.prog (nf ρ) (abi fx) Tryz.f115 F150 = true := by kernel_rfl
theorem k151 (ρ : Nat → Int) (fx : List Fact) : chkFun Tryz.prog (nf ρ) (abi fx) Tryz.f73 F151 = true := by kernel_rfl
theorem k152 (ρ : Nat → Int) (fx : List Fact) : chkFun Tryz.prog (nf ρ) (abi fx) Tryz.f74 F152 = true := by kernel_rfl
theorem k154 (ρ : Nat → Int) (fx : List Fact) : chkFun Tryz.prog (nf ρ) (abi fx) Tryz.f76 F154 = true := by kernel_rfl
theorem k155 (ρ : Nat → Int) (fx : List Fact) : chkFun Tryz.prog (nf ρ) (abi fx) Tryz.f77 F155 = true := by kernel_rfl
theorem k158 (ρ : Nat → Int) (fx : List Fact) : chkFun Tryz.prog (nf ρ) (abi fx) Tryz.f214 F158 = true := by kernel_rfl
theorem k160 (ρ : Nat → Int) (fx : List Fact) : chkFun Tryz.prog (nf ρ) (abi fx) Tryz.f48 F160 = true := by kernel_rfl
theorem k161 (ρ : Nat → Int) (fx : List Fact) : chkFun Tryz.prog (nf ρ) (abi fx) Tryz.f49 F161 = true := by kernel_rfl
theorem k165 (ρ : Nat → Int) (fx : List Fact) : chkFun Tryz.prog (nf ρ) (abi fx) Tryz.f143 F165 = true := by kernel_rfl
theorem k190 (ρ : Nat → Int) (fx : List Fact) : chkFun Tryz.prog (nf ρ) (abi fx) Tryz.f183 F190 = true := by kernel_rfl
theorem k191 (ρ : Nat → Int) (fx : List Fact) : chkFun Tryz.prog (nf ρ) (abi fx) Tryz.f209 F191 = true := by kernel_rfl
theorem k194 (ρ : Nat → Int) (fx : List Fact) : chkFun Tryz.prog (nf ρ) (abi fx) Tryz.f88 F194 = true := by kernel_rfl
theorem k199 (ρ : Nat → Int) (fx : List Fact) : chkFun Tryz.prog (nf ρ) (abi fx) Tryz.f114 F199 = true := by kernel_rfl
theorem k200 (ρ : Nat → Int) (fx : List Fact) : chkFun Tryz.prog (nf ρ) (abi fx) Tryz.f121 F200 = true := by kernel_rfl
theorem k201 (ρ : Nat → Int) (fx : List Fact) : chkFun Tryz.prog (nf ρ) (abi fx) Tryz.f37 F201 = true := by kernel_rfl
theorem k202 (ρ : Nat → Int) (fx : List Fact) : chkFun Tryz.prog (nf ρ) (abi fx) Tryz.f38 F202 = true := by kernel_rfl
theorem k203 (ρ : Nat → Int) (fx : List Fact) : chkFun Tryz.prog (nf ρ) (abi fx) Tryz.f39 F203 = true := by kernel_rfl
theorem k204 (ρ : Nat → Int) (fx : List Fact) : chkFun Tryz.prog (nf ρ) (abi fx) Tryz.f40 F204 = true := by kernel_rfl
theorem k205 (ρ : Nat → Int) (fx : List Fact) : chkFun Tryz.prog (nf ρ) (abi fx) Tryz.f41 F205 = true := by kernel_rfl
theorem k208 (ρ : Nat → Int) (fx : List Fact) : chkFun Tryz.prog (nf ρ) (abi fx) Tryz.f116 F208 = true := by kernel_rfl
theorem k210 (ρ : Nat → Int) (fx : List Fact) : chkFun Tryz.prog (nf ρ) (abi fx) Tryz.f153 F210 = true := by kernel_rfl
theorem k214 (ρ : Nat → Int) (fx : List Fact) : chkFun Tryz.prog (nf ρ) (abi fx) Tryz.f122 F214 = true := by kernel_rfl
theorem k215 (ρ : Nat → Int) (fx : List Fact) : chkFun Tryz.prog (nf ρ) (abi fx) Tryz.f117 F215 = true := by kernel_rfl
theorem k216 (ρ : Nat → Int) (fx : List Fact) : chkFun Tryz.prog (nf ρ) (abi fx) Tryz.f119 F216 = true := by kernel_rfl
theorem k217 (ρ : Nat → Int) (fx : List Fact) : chkFun Tryz.prog (nf ρ) (abi fx) Tryz.f120 F217 = true := by kernel_rfl
theorem k218 (ρ : Nat → Int) (fx : List Fact) : chkFun Tryz.prog (nf ρ) (abi fx) Tryz.f123 F218 = true := by kernel_rfl
theorem k219 (ρ : Nat → Int) (fx : List Fact) : chkFun Tryz.prog (nf ρ) (abi fx) Tryz.f124 F219 = true := by kernel_rfl
theorem k220 (ρ : Nat → Int) (fx : List Fact) : chkFun Tryz.prog (nf ρ) (abi fx) Tryz.f125 F220 = true := by kernel_rfl
theorem k221 (ρ : Nat → Int) (fx : List Fact) : chkFun Tryz.prog (nf ρ) (abi fx) Tryz.f126 F221 = true := by kernel_rfl
theorem k222 (ρ : Nat → Int) (fx : List Fact) : chkFun Tryz.prog (nf ρ) (abi fx) Tryz.f127 F222 = true := by kernel_rfl
theorem k223 (ρ : Nat → Int) (fx : List Fact) : chkFun Tryz.prog (nf ρ) (abi fx) Tryz.f128 F223 = true := by kernel_rfl
theorem k224 (ρ : Nat → Int) (fx : List Fact) : chkFun Tryz.prog (nf ρ) (abi fx) Tryz.f129 F224 = true := by kernel_rfl
theorem k225 (ρ : Nat → Int) (fx : List Fact) : chkFun Tryz.prog (nf ρ) (abi fx) Tryz.f130 F225 = true := by kernel_rfl
theorem k226 (ρ : Nat → Int) (fx : List Fact) : chkFun Tryz.prog (nf ρ) (abi fx) Tryz.f131 F226 = true := by kernel_rfl
theorem k227 (ρ : Nat → Int) (fx : List Fact) : chkFun Tryz.prog (nf ρ) (abi fx) Tryz.f132 F227 = true := by kernel_rfl
theorem k228 (ρ : Nat → Int) (fx : List Fact) : chkFun Tryz.prog (nf ρ) (abi fx) Tryz.f133 F228 = true := by kernel_rfl
theorem k229 (ρ : Nat → Int) (fx : List Fact) : chkFun Tryz.prog (nf ρ) (abi fx) Tryz.f158 F229 = true := by kernel_rfl
theorem k230 (ρ : Nat → Int) (fx : List Fact) : chkFun Tryz.prog (nf ρ) (abi fx) Tryz.f118 F230 = true := by kernel_rfl
theorem k231 (ρ : Nat → Int) (fx : List Fact) : chkFun Tryz.prog (nf ρ) (abi fx) Tryz.f97 F231 = true := by kernel_rfl
theorem k232 (ρ : Nat → Int) (fx : List Fact) : chkFun Tryz.prog (nf ρ) (abi fx) Tryz.f98 F232 = true := by kernel_rfl
theorem k233 (ρ : Nat → Int) (fx : List Fact) : chkFun Tryz.prog (nf ρ) (abi fx) Tryz.f99 F233 = true := by kernel_rfl
theorem k234 (ρ : Nat → Int) (fx : List Fact) : chkFun Tryz.prog (nf ρ) (abi fx) Tryz.f100 F234 = true := by kernel_rfl
theorem k235 (ρ : Nat → Int) (fx : List Fact) : chkFun Tryz.prog (nf ρ) (abi fx) Tryz.f101 F235 = true := by kernel_rfl
theorem k236 (ρ : Nat → Int) (fx : List Fact) : chkFun Tryz.prog (nf ρ) (abi fx) Tryz.f102 F236 = true := by kernel_rfl
theorem k246 (ρ : Nat → Int) (fx : List Fact) : chkFun Tryz.prog (nf ρ) (abi fx) Tryz.f230 F246 = true := by kernel_rfl
theorem k247 (ρ : Nat → Int) (fx : List Fact) : chkFun Tryz.prog (nf ρ) (abi fx) Tryz.f231 F247 = true := by kernel_rfl
theorem k258 (ρ : Nat → Int) (fx : List Fact) : chkFun Tryz.prog (nf ρ) (abi fx) Tryz.f201 F258 = true := by kernel_rfl
theorem k260 (ρ : Nat → Int) (fx : List Fact) : chkFun Tryz.prog (nf ρ) (abi fx) Tryz.f86 F260 = true := by kernel_rfl
theorem k261 (ρ : Nat → Int) (fx : List Fact) : chkFun Tryz.prog (nf ρ) (abi fx) Tryz.f87 F261 = true := by kernel_rfl
theorem k262 (ρ : Nat → Int) (fx : List Fact) : chkFun Tryz.prog (nf ρ) (abi fx) Tryz.f89 F262 = true := by kernel_rfl
theorem k263 (ρ : Nat → Int) (fx : List Fact) : chkFun Tryz.prog (nf ρ) (abi fx) Tryz.f90 F263 = true := by kernel_rfl
theorem k265 (ρ : Nat → Int) (fx : List Fact) : chkFun Tryz.prog (nf ρ) (abi fx) Tryz.f159 F265 = true := by kernel_rfl
theorem k267 (ρ : Nat → Int) (fx : List Fact) : chkFun Tryz.prog (nf ρ) (abi fx) Tryz.f165 F267 = true := by kernel_rfl
theorem k268 (ρ : Nat → Int) (fx : List Fact) : chkFun Tryz.prog (nf ρ) (abi fx) Tryz.f166 F268 = true := by kernel_rfl
theorem k269 (ρ : Nat → Int) (fx : List Fact) : chkFun Tryz.prog (nf ρ) (abi fx) Tryz.f167 F269 = true := by kernel_rfl
theorem k270 (ρ : Nat → Int) (fx : List Fact) : chkFun Tryz.prog (nf ρ) (abi fx) Tryz.f161 F270 = true := by kernel_rfl
theorem k271 (ρ : Nat → Int) (fx : List Fact) : chkFun Tryz.prog (nf ρ) (abi fx) Tryz.f162 F271 = true := by kernel_rfl
theorem k272 (ρ : Nat → Int) (fx : List Fact) : chkFun Tryz.prog (nf ρ) (abi fx) Tryz.f163 F272 = true := by kernel_rfl
theorem k273 (ρ : Nat → Int) (fx : List Fact) : chkFun Tryz.prog (nf ρ) (abi fx) Tryz.f164 F273 = true := by kernel_rfl
theorem k274 (ρ : Nat → Int) (fx : List Fact) : chkFun Tryz.prog (nf ρ) (abi fx) Tryz.f168 F274 = true := by kernel_rfl
theorem k275 (ρ : Nat → Int) (fx : List Fact) : chkFun Tryz.prog (nf ρ) (abi fx) Tryz.f169 F275 = true := by kernel_rfl
theorem k276 (ρ : Nat → Int) (fx : List Fact) : chkFun Tryz.prog (nf ρ) (abi fx) Tryz.f170 F276 = true := by kernel_rfl
theorem k277 (ρ : Nat → Int) (fx : List Fact) : chkFun Tryz.prog (nf ρ) (abi fx) Tryz.f171 F277 = true := by kernel_rfl
theorem k278 (ρ : Nat → Int) (fx : List Fact) : chkFun Tryz.prog (nf ρ) (abi fx) Tryz.f172 F278 = true := by kernel_rfl
theorem k279 (ρ : Nat → Int) (fx : List Fact) : chkFun Tryz.prog (nf ρ) (abi fx) Tryz.f173 F279 = true := by kernel_rfl
theorem k280 (ρ : Nat → Int) (fx : List Fact) : chkFun Tryz.prog (nf ρ) (abi fx) Tryz.f174 F280 = true := by kernel_rfl
theorem k281 (ρ : Nat → Int) (fx : List Fact) : chkFun Tryz.prog (nf ρ) (abi fx) Tryz.f175 F281 = true := by kernel_rfl
theorem k282 (ρ : Nat → Int) (fx : List Fact) : chkFun Tryz.prog (nf ρ) (abi fx) Tryz.f176 F282 = true := by kernel_rfl
theorem k283 (ρ : Nat → Int) (fx : List Fact) : chkFun Tryz.prog (nf ρ) (abi fx) Tryz.f177 F283 = true := by kernel_rfl
theorem k284 (ρ : Nat → Int) (fx : List Fact) : chkFun Tryz.prog (nf ρ) (abi fx) Tryz.f178 F284 = true := by kernel_rfl
theorem k285 (ρ : Nat → Int) (fx : List Fact) : chkFun Tryz.prog (nf ρ) (abi fx) Tryz.f179 F285 = true := by kernel_rfl
theorem k286 (ρ : Nat → Int) (fx : List Fact) : chkFun Tryz.prog (nf ρ) (abi fx) Tryz.f180 F286 = true := by kernel_rfl
theorem k287 (ρ : Nat → Int) (fx : List Fact) : chkFun Tryz.prog (nf ρ) (abi fx) Tryz.f181 F287 = true := by kernel_rfl
theorem k288 (ρ : Nat → Int) (fx : List Fact) : chkFun Tryz.prog (nf ρ) (abi fx) Tryz.f182 F288 = true := by kernel_rfl
theorem k289 (ρ : Nat → Int) (fx : List Fact) : chkFun Tryz.prog (nf ρ) (abi fx) Tryz.f160 F289 = true := by kernel_rfl
theorem k290 (ρ : Nat → Int) (fx : List Fact) : chkFun Tryz.prog (nf ρ) (abi fx) Tryz.f138 F290 = true := by kernel_rfl
theorem k291 (ρ : Nat → Int) (fx : List Fact) : chkFun Tryz.prog (nf ρ) (abi fx) Tryz.f139 F291 = true := by kernel_rfl
theorem k292 (ρ : Nat → Int) (fx : List Fact) : chkFun Tryz.prog (nf ρ) (abi fx) Tryz.f140 F292 = true := by kernel_rfl
theorem k293 (ρ : Nat → Int) (fx : List Fact) : chkFun Tryz.prog (nf ρ) (abi fx) Tryz.f141 F293 = true := by kernel_rfl
theorem k294 (ρ : Nat → Int) (fx : List Fact) : chkFun Tryz.prog (nf ρ) (abi fx) Tryz.f142 F294 = true := by kernel_rfl
theorem k315 (ρ : Nat → Int) (fx : List Fact) : chkFun Tryz.prog (nf ρ) (abi fx) Tryz.f205 F315 = true := by kernel_rfl
theorem k316 (ρ : Nat → Int) (fx : List Fact) : chkFun Tryz.prog (nf ρ) (abi fx) Tryz.f206 F316 = true := by kernel_rfl
theorem k317 (ρ : Nat → Int) (fx : List Fact) : chkFun Tryz.prog (nf ρ) (abi fx) Tryz.f207 F317 = true := by kernel_rfl
theorem k318 (ρ : Nat → Int) (fx : List Fact) : chkFun Tryz.prog (nf ρ) (abi fx) Tryz.f208 F318 = true := by kernel_rfl
theorem k319 (ρ : Nat → Int) (fx : List Fact) : chkFun Tryz.prog (nf ρ) (abi fx) Tryz.f210 F319 = true := by kernel_rfl
theorem k320 (ρ : Nat → Int) (fx : List Fact) : chkFun Tryz.prog (nf ρ) (abi fx) Tryz.f211 F320 = true := by kernel_rfl
theorem k321 (ρ : Nat → Int) (fx : List Fact) : chkFun Tryz.prog (nf ρ) (abi fx) Tryz.f212 F321 = true := by kernel_rfl
theorem k322 (ρ : Nat → Int) (fx : List Fact) : chkFun Tryz.prog (nf ρ) (abi fx) Tryz.f213 F322 = true := by kernel_rfl
theorem k323 (ρ : Nat → Int) (fx : List Fact) : chkFun Tryz.prog (nf ρ) (abi fx) Tryz.f185 F323 = true := by kernel_rfl
theorem k324 (ρ : Nat → Int) (fx : List Fact) : chkFun Tryz.prog (nf ρ) (abi fx) Tryz.f186 F324 = true := by kernel_rfl
theorem k325 (ρ : Nat → Int) (fx : List Fact) : chkFun Tryz.prog (nf ρ) (abi fx) Tryz.f187 F325 = true := by kernel_rfl
theorem k326 (ρ : Nat → Int) (fx : List Fact) : chkFun Tryz.prog (nf ρ) (abi fx) Tryz.f188 F326 = true := by kernel_rfl
theorem k327 (ρ : Nat → Int) (fx : List Fact) : chkFun Tryz.prog (nf ρ) (abi fx) Tryz.f189 F327 = true := by kernel_rfl
theorem k328 (ρ : Nat → Int) (fx : List Fact) : chkFun Tryz.prog (nf ρ) (abi fx) Tryz.f190 F328 = true := by kernel_rfl
theorem k1011 (ρ : Nat → Int) (fx : List Fact) : chkFun Tryz.prog (nf ρ) (abi fx) Tryz.f3 F1011 = true := by kernel_rfl
theorem k1017 (ρ : Nat → Int) (fx : List Fact) : chkFun Tryz.prog (nf ρ) (abi fx) Tryz.f9 F1017 = true := by kernel_rfl
end Fo.Tryz
