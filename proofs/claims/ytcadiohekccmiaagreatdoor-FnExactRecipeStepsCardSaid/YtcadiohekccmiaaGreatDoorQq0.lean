import Derived.Test.YtcadiohekccmiaaGreatDoorProg
import Derived.Test.YtcadiohekccmiaaGreatDoorQm0
import Derived.KernelRfl
namespace Go.Qz
open Go.Proofs
@[simp] theorem ty_size3 : sizeT Tryz.prog 3 = some 1 := by kernel_rfl
@[simp] theorem ty_agg3 : isAggT Tryz.prog 3 = false := by kernel_rfl
@[simp] theorem ty_size4 : sizeT Tryz.prog 4 = some 1 := by kernel_rfl
@[simp] theorem ty_agg4 : isAggT Tryz.prog 4 = false := by kernel_rfl
@[simp] theorem ty_zero4 : zeroA Tryz.prog 4 = some [.ro (.bool false)] := by kernel_rfl
@[simp] theorem ty_size5 : sizeT Tryz.prog 5 = some 1 := by kernel_rfl
@[simp] theorem ty_agg5 : isAggT Tryz.prog 5 = false := by kernel_rfl
@[simp] theorem ty_zero5 : zeroA Tryz.prog 5 = some [.ro (.int .u8 0)] := by kernel_rfl
@[simp] theorem ty_size9 : sizeT Tryz.prog 9 = some 1 := by kernel_rfl
@[simp] theorem ty_agg9 : isAggT Tryz.prog 9 = false := by kernel_rfl
@[simp] theorem ty_zero9 : zeroA Tryz.prog 9 = some [.ro (.str ⟨#[]⟩)] := by kernel_rfl
@[simp] theorem ty_elem22 : elemT Tryz.prog 5 = some 1 := by kernel_rfl
@[simp] theorem ty_size23 : sizeT Tryz.prog 23 = some 1 := by kernel_rfl
@[simp] theorem ty_agg23 : isAggT Tryz.prog 23 = false := by kernel_rfl
@[simp] theorem ty_z23 : zOf Tryz.prog 23 = some 2 := by kernel_rfl
@[simp] theorem ty_elem23 : elemT Tryz.prog 33 = some 2 := by kernel_rfl
@[simp] theorem ty_size24 : sizeT Tryz.prog 24 = some 1 := by kernel_rfl
@[simp] theorem ty_agg24 : isAggT Tryz.prog 24 = false := by kernel_rfl
@[simp] theorem ty_z24 : zOf Tryz.prog 24 = some 3 := by kernel_rfl
@[simp] theorem ty_elem24 : elemT Tryz.prog 94 = some 3 := by kernel_rfl
@[simp] theorem ty_size25 : sizeT Tryz.prog 25 = some 1 := by kernel_rfl
@[simp] theorem ty_agg25 : isAggT Tryz.prog 25 = false := by kernel_rfl
@[simp] theorem ty_z25 : zOf Tryz.prog 25 = some 2 := by kernel_rfl
@[simp] theorem ty_elem25 : elemT Tryz.prog 97 = some 2 := by kernel_rfl
@[simp] theorem ty_size26 : sizeT Tryz.prog 26 = some 1 := by kernel_rfl
@[simp] theorem ty_agg26 : isAggT Tryz.prog 26 = false := by kernel_rfl
@[simp] theorem ty_z26 : zOf Tryz.prog 26 = some 2 := by kernel_rfl
@[simp] theorem ty_elem26 : elemT Tryz.prog 35 = some 2 := by kernel_rfl
@[simp] theorem ty_size27 : sizeT Tryz.prog 27 = some 1 := by kernel_rfl
@[simp] theorem ty_agg27 : isAggT Tryz.prog 27 = false := by kernel_rfl
@[simp] theorem ty_z27 : zOf Tryz.prog 27 = some 1 := by kernel_rfl
@[simp] theorem ty_elem27 : elemT Tryz.prog 9 = some 1 := by kernel_rfl
@[simp] theorem ty_size29 : sizeT Tryz.prog 29 = some 8 := by kernel_rfl
@[simp] theorem ty_agg29 : isAggT Tryz.prog 29 = true := by kernel_rfl
@[simp] theorem ty_f29_0 : fieldAt Tryz.prog 29 0 = some (0, 9) := by kernel_rfl
@[simp] theorem ty_f29_1 : fieldAt Tryz.prog 29 1 = some (1, 9) := by kernel_rfl
@[simp] theorem ty_f29_2 : fieldAt Tryz.prog 29 2 = some (2, 23) := by kernel_rfl
@[simp] theorem ty_f29_3 : fieldAt Tryz.prog 29 3 = some (3, 24) := by kernel_rfl
@[simp] theorem ty_f29_4 : fieldAt Tryz.prog 29 4 = some (4, 24) := by kernel_rfl
@[simp] theorem ty_f29_5 : fieldAt Tryz.prog 29 5 = some (5, 25) := by kernel_rfl
@[simp] theorem ty_f29_6 : fieldAt Tryz.prog 29 6 = some (6, 26) := by kernel_rfl
@[simp] theorem ty_f29_7 : fieldAt Tryz.prog 29 7 = some (7, 27) := by kernel_rfl
@[simp] theorem ty_zero29 : zeroA Tryz.prog 29 = some [.ro (.str ⟨#[]⟩), .ro (.str ⟨#[]⟩), .own (.sl 2 []), .own (.sl 3 []), .own (.sl 3 []), .own (.sl 2 []), .own (.sl 2 []), .own (.sl 1 [])] := by kernel_rfl
@[simp] theorem ty_size33 : sizeT Tryz.prog 33 = some 2 := by kernel_rfl
@[simp] theorem ty_agg33 : isAggT Tryz.prog 33 = true := by kernel_rfl
@[simp] theorem ty_f33_0 : fieldAt Tryz.prog 33 0 = some (0, 9) := by kernel_rfl
@[simp] theorem ty_f33_1 : fieldAt Tryz.prog 33 1 = some (1, 9) := by kernel_rfl
@[simp] theorem ty_pl33 : placesOk Tryz.prog 33 = true := by kernel_rfl
@[simp] theorem ty_zero33 : zeroA Tryz.prog 33 = some [.ro (.str ⟨#[]⟩), .ro (.str ⟨#[]⟩)] := by kernel_rfl
@[simp] theorem ty_size35 : sizeT Tryz.prog 35 = some 2 := by kernel_rfl
@[simp] theorem ty_agg35 : isAggT Tryz.prog 35 = true := by kernel_rfl
@[simp] theorem ty_f35_0 : fieldAt Tryz.prog 35 0 = some (0, 9) := by kernel_rfl
@[simp] theorem ty_f35_1 : fieldAt Tryz.prog 35 1 = some (1, 9) := by kernel_rfl
@[simp] theorem ty_zero35 : zeroA Tryz.prog 35 = some [.ro (.str ⟨#[]⟩), .ro (.str ⟨#[]⟩)] := by kernel_rfl
@[simp] theorem ty_size39 : sizeT Tryz.prog 39 = some 1 := by kernel_rfl
@[simp] theorem ty_agg39 : isAggT Tryz.prog 39 = false := by kernel_rfl
@[simp] theorem ty_z39 : zOf Tryz.prog 39 = some 2 := by kernel_rfl
@[simp] theorem ty_size40 : sizeT Tryz.prog 40 = some 1 := by kernel_rfl
@[simp] theorem ty_agg40 : isAggT Tryz.prog 40 = false := by kernel_rfl
@[simp] theorem ty_z40 : zOf Tryz.prog 40 = some 3 := by kernel_rfl
@[simp] theorem ty_size41 : sizeT Tryz.prog 41 = some 1 := by kernel_rfl
@[simp] theorem ty_agg41 : isAggT Tryz.prog 41 = false := by kernel_rfl
@[simp] theorem ty_z41 : zOf Tryz.prog 41 = some 2 := by kernel_rfl
@[simp] theorem ty_size42 : sizeT Tryz.prog 42 = some 1 := by kernel_rfl
@[simp] theorem ty_agg42 : isAggT Tryz.prog 42 = false := by kernel_rfl
@[simp] theorem ty_z42 : zOf Tryz.prog 42 = some 2 := by kernel_rfl
@[simp] theorem ty_size44 : sizeT Tryz.prog 44 = some 8 := by kernel_rfl
@[simp] theorem ty_agg44 : isAggT Tryz.prog 44 = true := by kernel_rfl
@[simp] theorem ty_f44_0 : fieldAt Tryz.prog 44 0 = some (0, 9) := by kernel_rfl
@[simp] theorem ty_f44_1 : fieldAt Tryz.prog 44 1 = some (1, 9) := by kernel_rfl
@[simp] theorem ty_f44_2 : fieldAt Tryz.prog 44 2 = some (2, 39) := by kernel_rfl
@[simp] theorem ty_f44_3 : fieldAt Tryz.prog 44 3 = some (3, 40) := by kernel_rfl
@[simp] theorem ty_f44_4 : fieldAt Tryz.prog 44 4 = some (4, 40) := by kernel_rfl
@[simp] theorem ty_f44_5 : fieldAt Tryz.prog 44 5 = some (5, 41) := by kernel_rfl
@[simp] theorem ty_f44_6 : fieldAt Tryz.prog 44 6 = some (6, 42) := by kernel_rfl
@[simp] theorem ty_f44_7 : fieldAt Tryz.prog 44 7 = some (7, 27) := by kernel_rfl
@[simp] theorem ty_size94 : sizeT Tryz.prog 94 = some 3 := by kernel_rfl
@[simp] theorem ty_agg94 : isAggT Tryz.prog 94 = true := by kernel_rfl
@[simp] theorem ty_f94_0 : fieldAt Tryz.prog 94 0 = some (0, 9) := by kernel_rfl
@[simp] theorem ty_f94_1 : fieldAt Tryz.prog 94 1 = some (1, 3) := by kernel_rfl
@[simp] theorem ty_f94_2 : fieldAt Tryz.prog 94 2 = some (2, 9) := by kernel_rfl
@[simp] theorem ty_zero94 : zeroA Tryz.prog 94 = some [.ro (.str ⟨#[]⟩), .ro (.int .i64 0), .ro (.str ⟨#[]⟩)] := by kernel_rfl
@[simp] theorem ty_size97 : sizeT Tryz.prog 97 = some 2 := by kernel_rfl
@[simp] theorem ty_agg97 : isAggT Tryz.prog 97 = true := by kernel_rfl
@[simp] theorem ty_f97_0 : fieldAt Tryz.prog 97 0 = some (0, 9) := by kernel_rfl
@[simp] theorem ty_f97_1 : fieldAt Tryz.prog 97 1 = some (1, 9) := by kernel_rfl
@[simp] theorem ty_zero97 : zeroA Tryz.prog 97 = some [.ro (.str ⟨#[]⟩), .ro (.str ⟨#[]⟩)] := by kernel_rfl
@[simp] theorem ty_size138 : sizeT Tryz.prog 138 = some 2 := by kernel_rfl
@[simp] theorem ty_agg138 : isAggT Tryz.prog 138 = true := by kernel_rfl
@[simp] theorem ty_f138_0 : fieldAt Tryz.prog 138 0 = some (0, 9) := by kernel_rfl
@[simp] theorem ty_f138_1 : fieldAt Tryz.prog 138 1 = some (1, 9) := by kernel_rfl
@[simp] theorem ty_size140 : sizeT Tryz.prog 140 = some 3 := by kernel_rfl
@[simp] theorem ty_agg140 : isAggT Tryz.prog 140 = true := by kernel_rfl
@[simp] theorem ty_f140_0 : fieldAt Tryz.prog 140 0 = some (0, 9) := by kernel_rfl
@[simp] theorem ty_f140_1 : fieldAt Tryz.prog 140 1 = some (1, 3) := by kernel_rfl
@[simp] theorem ty_f140_2 : fieldAt Tryz.prog 140 2 = some (2, 9) := by kernel_rfl
@[simp] theorem ty_size142 : sizeT Tryz.prog 142 = some 2 := by kernel_rfl
@[simp] theorem ty_agg142 : isAggT Tryz.prog 142 = true := by kernel_rfl
@[simp] theorem ty_f142_0 : fieldAt Tryz.prog 142 0 = some (0, 9) := by kernel_rfl
@[simp] theorem ty_f142_1 : fieldAt Tryz.prog 142 1 = some (1, 9) := by kernel_rfl
@[simp] theorem ty_size144 : sizeT Tryz.prog 144 = some 2 := by kernel_rfl
@[simp] theorem ty_agg144 : isAggT Tryz.prog 144 = true := by kernel_rfl
@[simp] theorem ty_f144_0 : fieldAt Tryz.prog 144 0 = some (0, 9) := by kernel_rfl
@[simp] theorem ty_f144_1 : fieldAt Tryz.prog 144 1 = some (1, 9) := by kernel_rfl
@[simp] theorem ty_z166 : zOf Tryz.prog 166 = some 1 := by kernel_rfl
@[simp] theorem ty_elem166 : elemT Tryz.prog 3 = some 1 := by kernel_rfl
@[simp] theorem ty_size167 : sizeT Tryz.prog 167 = some 1 := by kernel_rfl
@[simp] theorem ty_agg167 : isAggT Tryz.prog 167 = false := by kernel_rfl
@[simp] theorem ty_z167 : zOf Tryz.prog 167 = some 1 := by kernel_rfl
@[simp] theorem ty_zero167 : zeroA Tryz.prog 167 = some [.own (.sl 1 [])] := by kernel_rfl
@[simp] theorem ty_size172 : sizeT Tryz.prog 172 = some 2 := by kernel_rfl
@[simp] theorem ty_f172_0 : fieldAt Tryz.prog 172 0 = some (0, 23) := by kernel_rfl
@[simp] theorem ty_f172_1 : fieldAt Tryz.prog 172 1 = some (1, 27) := by kernel_rfl
@[simp] theorem ty_pl172 : placesOk Tryz.prog 172 = true := by kernel_rfl
@[simp] theorem ty_zero172 : zeroA Tryz.prog 172 = some [.own (.sl 2 []), .own (.sl 1 [])] := by kernel_rfl
@[simp] theorem ty_size188 : sizeT Tryz.prog 188 = some 1 := by kernel_rfl
@[simp] theorem ty_agg188 : isAggT Tryz.prog 188 = false := by kernel_rfl
@[simp] theorem ty_z188 : zOf Tryz.prog 188 = some 2 := by kernel_rfl
@[simp] theorem ty_elem188 : elemT Tryz.prog 216 = some 2 := by kernel_rfl
@[simp] theorem ty_zero188 : zeroA Tryz.prog 188 = some [.own (.sl 2 [])] := by kernel_rfl
@[simp] theorem ty_f195_0 : fieldAt Tryz.prog 195 0 = some (0, 3) := by kernel_rfl
@[simp] theorem ty_pl195 : placesOk Tryz.prog 195 = true := by kernel_rfl
@[simp] theorem ty_zero195 : zeroA Tryz.prog 195 = some [.ro (.int .i64 0)] := by kernel_rfl
@[simp] theorem ty_size211 : sizeT Tryz.prog 211 = some 1 := by kernel_rfl
@[simp] theorem ty_z211 : zOf Tryz.prog 211 = some 2 := by kernel_rfl
@[simp] theorem ty_elem211 : elemT Tryz.prog 241 = some 2 := by kernel_rfl
@[simp] theorem ty_zero211 : zeroA Tryz.prog 211 = some [.own (.sl 2 [])] := by kernel_rfl
@[simp] theorem ty_f216_0 : fieldAt Tryz.prog 216 0 = some (0, 4) := by kernel_rfl
@[simp] theorem ty_f216_1 : fieldAt Tryz.prog 216 1 = some (1, 54) := by kernel_rfl
@[simp] theorem ty_pl216 : placesOk Tryz.prog 216 = true := by kernel_rfl
@[simp] theorem ty_zero216 : zeroA Tryz.prog 216 = some [.ro (.bool false), .ro (.nilf)] := by kernel_rfl
@[simp] theorem ty_size241 : sizeT Tryz.prog 241 = some 2 := by kernel_rfl
@[simp] theorem ty_agg241 : isAggT Tryz.prog 241 = true := by kernel_rfl
@[simp] theorem ty_f241_0 : fieldAt Tryz.prog 241 0 = some (0, 4) := by kernel_rfl
@[simp] theorem ty_f241_1 : fieldAt Tryz.prog 241 1 = some (1, 176) := by kernel_rfl
@[simp] theorem ty_pl241 : placesOk Tryz.prog 241 = true := by kernel_rfl
@[simp] theorem ty_zero241 : zeroA Tryz.prog 241 = some [.ro (.bool false), .ro (.nilf)] := by kernel_rfl
attribute [simp] Tryz.underlying10
attribute [simp] Tryz.underlying11
attribute [simp] Tryz.underlying112
attribute [simp] Tryz.underlying113
attribute [simp] Tryz.underlying12
attribute [simp] Tryz.underlying13
attribute [simp] Tryz.underlying138
attribute [simp] Tryz.underlying14
attribute [simp] Tryz.underlying140
attribute [simp] Tryz.underlying142
attribute [simp] Tryz.underlying144
attribute [simp] Tryz.underlying15
attribute [simp] Tryz.underlying154
attribute [simp] Tryz.underlying16
attribute [simp] Tryz.underlying160
attribute [simp] Tryz.underlying166
attribute [simp] Tryz.underlying167
attribute [simp] Tryz.underlying17
attribute [simp] Tryz.underlying171
attribute [simp] Tryz.underlying172
attribute [simp] Tryz.underlying18
attribute [simp] Tryz.underlying180
attribute [simp] Tryz.underlying188
attribute [simp] Tryz.underlying19
attribute [simp] Tryz.underlying193
attribute [simp] Tryz.underlying194
attribute [simp] Tryz.underlying195
attribute [simp] Tryz.underlying197
attribute [simp] Tryz.underlying2
attribute [simp] Tryz.underlying20
attribute [simp] Tryz.underlying202
attribute [simp] Tryz.underlying203
attribute [simp] Tryz.underlying206
attribute [simp] Tryz.underlying207
attribute [simp] Tryz.underlying21
attribute [simp] Tryz.underlying210
attribute [simp] Tryz.underlying211
attribute [simp] Tryz.underlying215
attribute [simp] Tryz.underlying216
attribute [simp] Tryz.underlying218
attribute [simp] Tryz.underlying219
attribute [simp] Tryz.underlying22
attribute [simp] Tryz.underlying220
attribute [simp] Tryz.underlying222
attribute [simp] Tryz.underlying223
attribute [simp] Tryz.underlying225
attribute [simp] Tryz.underlying23
attribute [simp] Tryz.underlying230
attribute [simp] Tryz.underlying231
attribute [simp] Tryz.underlying232
attribute [simp] Tryz.underlying233
attribute [simp] Tryz.underlying236
attribute [simp] Tryz.underlying24
attribute [simp] Tryz.underlying240
attribute [simp] Tryz.underlying241
attribute [simp] Tryz.underlying244
attribute [simp] Tryz.underlying245
attribute [simp] Tryz.underlying246
attribute [simp] Tryz.underlying247
attribute [simp] Tryz.underlying25
attribute [simp] Tryz.underlying251
attribute [simp] Tryz.underlying254
attribute [simp] Tryz.underlying256
attribute [simp] Tryz.underlying257
attribute [simp] Tryz.underlying26
attribute [simp] Tryz.underlying261
attribute [simp] Tryz.underlying262
attribute [simp] Tryz.underlying263
attribute [simp] Tryz.underlying264
attribute [simp] Tryz.underlying265
attribute [simp] Tryz.underlying268
attribute [simp] Tryz.underlying27
attribute [simp] Tryz.underlying270
attribute [simp] Tryz.underlying271
attribute [simp] Tryz.underlying272
attribute [simp] Tryz.underlying273
attribute [simp] Tryz.underlying277
attribute [simp] Tryz.underlying278
attribute [simp] Tryz.underlying279
attribute [simp] Tryz.underlying28
attribute [simp] Tryz.underlying281
attribute [simp] Tryz.underlying282
attribute [simp] Tryz.underlying283
attribute [simp] Tryz.underlying284
attribute [simp] Tryz.underlying285
attribute [simp] Tryz.underlying286
attribute [simp] Tryz.underlying287
attribute [simp] Tryz.underlying288
attribute [simp] Tryz.underlying29
attribute [simp] Tryz.underlying3
attribute [simp] Tryz.underlying32
attribute [simp] Tryz.underlying33
attribute [simp] Tryz.underlying34
attribute [simp] Tryz.underlying35
attribute [simp] Tryz.underlying39
attribute [simp] Tryz.underlying4
attribute [simp] Tryz.underlying40
attribute [simp] Tryz.underlying41
attribute [simp] Tryz.underlying42
attribute [simp] Tryz.underlying43
attribute [simp] Tryz.underlying44
attribute [simp] Tryz.underlying5
attribute [simp] Tryz.underlying58
attribute [simp] Tryz.underlying6
attribute [simp] Tryz.underlying7
attribute [simp] Tryz.underlying8
attribute [simp] Tryz.underlying84
attribute [simp] Tryz.underlying85
attribute [simp] Tryz.underlying86
attribute [simp] Tryz.underlying87
attribute [simp] Tryz.underlying88
attribute [simp] Tryz.underlying9
attribute [simp] Tryz.underlying93
attribute [simp] Tryz.underlying94
attribute [simp] Tryz.underlying96
attribute [simp] Tryz.underlying97
end Go.Qz
