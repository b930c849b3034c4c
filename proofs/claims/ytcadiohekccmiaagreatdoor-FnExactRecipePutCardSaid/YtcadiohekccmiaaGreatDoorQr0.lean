import Derived.Test.YtcadiohekccmiaaGreatDoorProg
import Derived.Test.YtcadiohekccmiaaGreatDoorQn0
import Derived.KernelRfl
namespace Go.Qz
open Go.Proofs
@[simp] theorem ybh : za8 Tryz.prog 3 = some 1 := by kernel_rfl
@[simp] theorem ydl : za3 Tryz.prog 3 = false := by kernel_rfl
@[simp] theorem ybi : za8 Tryz.prog 4 = some 1 := by kernel_rfl
@[simp] theorem ydm : za3 Tryz.prog 4 = false := by kernel_rfl
@[simp] theorem ybj : zeu Tryz.prog 4 = some [.ro (.bool false)] := by kernel_rfl
@[simp] theorem ybk : za8 Tryz.prog 5 = some 1 := by kernel_rfl
@[simp] theorem ydn : za3 Tryz.prog 5 = false := by kernel_rfl
@[simp] theorem ybl : zeu Tryz.prog 5 = some [.ro (.int .u8 0)] := by kernel_rfl
@[simp] theorem ybm : za8 Tryz.prog 9 = some 1 := by kernel_rfl
@[simp] theorem ydo : za3 Tryz.prog 9 = false := by kernel_rfl
@[simp] theorem ybn : zeu Tryz.prog 9 = some [.ro (.str ⟨#[]⟩)] := by kernel_rfl
@[simp] theorem z8s : za8 Tryz.prog 22 = some 1 := by kernel_rfl
@[simp] theorem ybo : za3 Tryz.prog 22 = false := by kernel_rfl
@[simp] theorem z8t : zx7 Tryz.prog 22 = some 5 := by kernel_rfl
@[simp] theorem ylr : zOf Tryz.prog 22 = some 1 := by kernel_rfl
@[simp] theorem z8u : za8 Tryz.prog 23 = some 1 := by kernel_rfl
@[simp] theorem ybp : za3 Tryz.prog 23 = false := by kernel_rfl
@[simp] theorem yls : zOf Tryz.prog 23 = some 2 := by kernel_rfl
@[simp] theorem z8v : zhu Tryz.prog 33 = some 2 := by kernel_rfl
@[simp] theorem z8w : za8 Tryz.prog 24 = some 1 := by kernel_rfl
@[simp] theorem ybq : za3 Tryz.prog 24 = false := by kernel_rfl
@[simp] theorem ylt : zOf Tryz.prog 24 = some 3 := by kernel_rfl
@[simp] theorem z8x : zhu Tryz.prog 94 = some 3 := by kernel_rfl
@[simp] theorem z8y : za8 Tryz.prog 25 = some 1 := by kernel_rfl
@[simp] theorem ybr : za3 Tryz.prog 25 = false := by kernel_rfl
@[simp] theorem ylu : zOf Tryz.prog 25 = some 2 := by kernel_rfl
@[simp] theorem z8z : zhu Tryz.prog 97 = some 2 := by kernel_rfl
@[simp] theorem z80 : za8 Tryz.prog 26 = some 1 := by kernel_rfl
@[simp] theorem ybs : za3 Tryz.prog 26 = false := by kernel_rfl
@[simp] theorem ylv : zOf Tryz.prog 26 = some 2 := by kernel_rfl
@[simp] theorem z81 : zhu Tryz.prog 35 = some 2 := by kernel_rfl
@[simp] theorem z82 : za8 Tryz.prog 27 = some 1 := by kernel_rfl
@[simp] theorem ybt : za3 Tryz.prog 27 = false := by kernel_rfl
@[simp] theorem ylw : zOf Tryz.prog 27 = some 1 := by kernel_rfl
@[simp] theorem z83 : zhu Tryz.prog 9 = some 1 := by kernel_rfl
@[simp] theorem z84 : za8 Tryz.prog 29 = some 8 := by kernel_rfl
@[simp] theorem ybu : za3 Tryz.prog 29 = true := by kernel_rfl
@[simp] theorem ybv : fieldAt Tryz.prog 29 0 = some (0,9) := by kernel_rfl
@[simp] theorem ybw : fieldAt Tryz.prog 29 1 = some (1,9) := by kernel_rfl
@[simp] theorem ybx : fieldAt Tryz.prog 29 2 = some (2,23) := by kernel_rfl
@[simp] theorem yby : fieldAt Tryz.prog 29 3 = some (3,24) := by kernel_rfl
@[simp] theorem ybz : fieldAt Tryz.prog 29 4 = some (4,24) := by kernel_rfl
@[simp] theorem yb0 : fieldAt Tryz.prog 29 5 = some (5,25) := by kernel_rfl
@[simp] theorem yb1 : fieldAt Tryz.prog 29 6 = some (6,26) := by kernel_rfl
@[simp] theorem yb2 : fieldAt Tryz.prog 29 7 = some (7,27) := by kernel_rfl
@[simp] theorem z85 : zeu Tryz.prog 29 = some [.ro (.str ⟨#[]⟩),.ro (.str ⟨#[]⟩),.own (.sl 2 []),.own (.sl 3 []),.own (.sl 3 []),.own (.sl 2 []),.own (.sl 2 []),.own (.sl 1 [])] := by kernel_rfl
@[simp] theorem z86 : za8 Tryz.prog 33 = some 2 := by kernel_rfl
@[simp] theorem yb3 : za3 Tryz.prog 33 = true := by kernel_rfl
@[simp] theorem yb4 : fieldAt Tryz.prog 33 0 = some (0,9) := by kernel_rfl
@[simp] theorem yb5 : fieldAt Tryz.prog 33 1 = some (1,9) := by kernel_rfl
@[simp] theorem ydp : zey Tryz.prog 33 = true := by kernel_rfl
@[simp] theorem z87 : zeu Tryz.prog 33 = some [.ro (.str ⟨#[]⟩),.ro (.str ⟨#[]⟩)] := by kernel_rfl
@[simp] theorem z88 : za8 Tryz.prog 35 = some 2 := by kernel_rfl
@[simp] theorem yb6 : za3 Tryz.prog 35 = true := by kernel_rfl
@[simp] theorem yb7 : fieldAt Tryz.prog 35 0 = some (0,9) := by kernel_rfl
@[simp] theorem yb8 : fieldAt Tryz.prog 35 1 = some (1,9) := by kernel_rfl
@[simp] theorem z89 : zeu Tryz.prog 35 = some [.ro (.str ⟨#[]⟩),.ro (.str ⟨#[]⟩)] := by kernel_rfl
@[simp] theorem z9a : za8 Tryz.prog 39 = some 1 := by kernel_rfl
@[simp] theorem yb9 : za3 Tryz.prog 39 = false := by kernel_rfl
@[simp] theorem ylx : zOf Tryz.prog 39 = some 2 := by kernel_rfl
@[simp] theorem z9b : za8 Tryz.prog 40 = some 1 := by kernel_rfl
@[simp] theorem yca : za3 Tryz.prog 40 = false := by kernel_rfl
@[simp] theorem yly : zOf Tryz.prog 40 = some 3 := by kernel_rfl
@[simp] theorem z9c : za8 Tryz.prog 41 = some 1 := by kernel_rfl
@[simp] theorem ycb : za3 Tryz.prog 41 = false := by kernel_rfl
@[simp] theorem ylz : zOf Tryz.prog 41 = some 2 := by kernel_rfl
@[simp] theorem z9d : za8 Tryz.prog 42 = some 1 := by kernel_rfl
@[simp] theorem ycc : za3 Tryz.prog 42 = false := by kernel_rfl
@[simp] theorem yl0 : zOf Tryz.prog 42 = some 2 := by kernel_rfl
@[simp] theorem z9e : za8 Tryz.prog 44 = some 8 := by kernel_rfl
@[simp] theorem ycd : za3 Tryz.prog 44 = true := by kernel_rfl
@[simp] theorem yce : fieldAt Tryz.prog 44 0 = some (0,9) := by kernel_rfl
@[simp] theorem ycf : fieldAt Tryz.prog 44 1 = some (1,9) := by kernel_rfl
@[simp] theorem ycg : fieldAt Tryz.prog 44 2 = some (2,39) := by kernel_rfl
@[simp] theorem ych : fieldAt Tryz.prog 44 3 = some (3,40) := by kernel_rfl
@[simp] theorem yci : fieldAt Tryz.prog 44 4 = some (4,40) := by kernel_rfl
@[simp] theorem ycj : fieldAt Tryz.prog 44 5 = some (5,41) := by kernel_rfl
@[simp] theorem yck : fieldAt Tryz.prog 44 6 = some (6,42) := by kernel_rfl
@[simp] theorem ycl : fieldAt Tryz.prog 44 7 = some (7,27) := by kernel_rfl
@[simp] theorem ycm : zu8 Tryz.prog 86 = some 5 := by kernel_rfl
@[simp] theorem ycn : fieldAt Tryz.prog 86 1 = some (1,22) := by kernel_rfl
@[simp] theorem z9f : zeu Tryz.prog 86 = some [.ro (.nilp),.own (.sl 1 [])] := by kernel_rfl
@[simp] theorem z9g : za8 Tryz.prog 94 = some 3 := by kernel_rfl
@[simp] theorem yco : za3 Tryz.prog 94 = true := by kernel_rfl
@[simp] theorem ycp : fieldAt Tryz.prog 94 0 = some (0,9) := by kernel_rfl
@[simp] theorem ycq : fieldAt Tryz.prog 94 1 = some (1,3) := by kernel_rfl
@[simp] theorem ycr : fieldAt Tryz.prog 94 2 = some (2,9) := by kernel_rfl
@[simp] theorem z9h : zeu Tryz.prog 94 = some [.ro (.str ⟨#[]⟩),.ro (.int .i64 0),.ro (.str ⟨#[]⟩)] := by kernel_rfl
@[simp] theorem z9i : za8 Tryz.prog 97 = some 2 := by kernel_rfl
@[simp] theorem ycs : za3 Tryz.prog 97 = true := by kernel_rfl
@[simp] theorem yct : fieldAt Tryz.prog 97 0 = some (0,9) := by kernel_rfl
@[simp] theorem ycu : fieldAt Tryz.prog 97 1 = some (1,9) := by kernel_rfl
@[simp] theorem z9j : zeu Tryz.prog 97 = some [.ro (.str ⟨#[]⟩),.ro (.str ⟨#[]⟩)] := by kernel_rfl
@[simp] theorem z7a : za8 Tryz.prog 138 = some 2 := by kernel_rfl
@[simp] theorem z9k : za3 Tryz.prog 138 = true := by kernel_rfl
@[simp] theorem z9l : fieldAt Tryz.prog 138 0 = some (0,9) := by kernel_rfl
@[simp] theorem z9m : fieldAt Tryz.prog 138 1 = some (1,9) := by kernel_rfl
@[simp] theorem z7b : za8 Tryz.prog 140 = some 3 := by kernel_rfl
@[simp] theorem z9n : za3 Tryz.prog 140 = true := by kernel_rfl
@[simp] theorem z9o : fieldAt Tryz.prog 140 0 = some (0,9) := by kernel_rfl
@[simp] theorem z9p : fieldAt Tryz.prog 140 1 = some (1,3) := by kernel_rfl
@[simp] theorem z9q : fieldAt Tryz.prog 140 2 = some (2,9) := by kernel_rfl
@[simp] theorem z7c : za8 Tryz.prog 142 = some 2 := by kernel_rfl
@[simp] theorem z9r : za3 Tryz.prog 142 = true := by kernel_rfl
@[simp] theorem z9s : fieldAt Tryz.prog 142 0 = some (0,9) := by kernel_rfl
@[simp] theorem z9t : fieldAt Tryz.prog 142 1 = some (1,9) := by kernel_rfl
@[simp] theorem z7d : za8 Tryz.prog 144 = some 2 := by kernel_rfl
@[simp] theorem z9u : za3 Tryz.prog 144 = true := by kernel_rfl
@[simp] theorem z9v : fieldAt Tryz.prog 144 0 = some (0,9) := by kernel_rfl
@[simp] theorem z9w : fieldAt Tryz.prog 144 1 = some (1,9) := by kernel_rfl
@[simp] theorem ydq : zOf Tryz.prog 166 = some 1 := by kernel_rfl
@[simp] theorem z7e : zhu Tryz.prog 3 = some 1 := by kernel_rfl
@[simp] theorem z7f : za8 Tryz.prog 167 = some 1 := by kernel_rfl
@[simp] theorem z9x : za3 Tryz.prog 167 = false := by kernel_rfl
@[simp] theorem ydr : zOf Tryz.prog 167 = some 1 := by kernel_rfl
@[simp] theorem z7g : zeu Tryz.prog 167 = some [.own (.sl 1 [])] := by kernel_rfl
@[simp] theorem z7h : za8 Tryz.prog 172 = some 2 := by kernel_rfl
@[simp] theorem z9y : fieldAt Tryz.prog 172 0 = some (0,23) := by kernel_rfl
@[simp] theorem z9z : fieldAt Tryz.prog 172 1 = some (1,27) := by kernel_rfl
@[simp] theorem ycv : zey Tryz.prog 172 = true := by kernel_rfl
@[simp] theorem z7i : zeu Tryz.prog 172 = some [.own (.sl 2 []),.own (.sl 1 [])] := by kernel_rfl
@[simp] theorem z7j : za8 Tryz.prog 188 = some 1 := by kernel_rfl
@[simp] theorem z90 : za3 Tryz.prog 188 = false := by kernel_rfl
@[simp] theorem yds : zOf Tryz.prog 188 = some 2 := by kernel_rfl
@[simp] theorem z7k : zhu Tryz.prog 216 = some 2 := by kernel_rfl
@[simp] theorem z7l : zeu Tryz.prog 188 = some [.own (.sl 2 [])] := by kernel_rfl
@[simp] theorem z91 : fieldAt Tryz.prog 195 0 = some (0,3) := by kernel_rfl
@[simp] theorem ycw : zey Tryz.prog 195 = true := by kernel_rfl
@[simp] theorem z7m : zeu Tryz.prog 195 = some [.ro (.int .i64 0)] := by kernel_rfl
@[simp] theorem z7n : za8 Tryz.prog 211 = some 1 := by kernel_rfl
@[simp] theorem ydt : zOf Tryz.prog 211 = some 2 := by kernel_rfl
@[simp] theorem z7o : zhu Tryz.prog 241 = some 2 := by kernel_rfl
@[simp] theorem z7p : zeu Tryz.prog 211 = some [.own (.sl 2 [])] := by kernel_rfl
@[simp] theorem z92 : fieldAt Tryz.prog 216 0 = some (0,4) := by kernel_rfl
@[simp] theorem z93 : fieldAt Tryz.prog 216 1 = some (1,54) := by kernel_rfl
@[simp] theorem ycx : zey Tryz.prog 216 = true := by kernel_rfl
@[simp] theorem z7q : zeu Tryz.prog 216 = some [.ro (.bool false),.ro (.nilf)] := by kernel_rfl
@[simp] theorem z7r : za8 Tryz.prog 241 = some 2 := by kernel_rfl
@[simp] theorem z94 : za3 Tryz.prog 241 = true := by kernel_rfl
@[simp] theorem z95 : fieldAt Tryz.prog 241 0 = some (0,4) := by kernel_rfl
@[simp] theorem z96 : fieldAt Tryz.prog 241 1 = some (1,176) := by kernel_rfl
@[simp] theorem ycy : zey Tryz.prog 241 = true := by kernel_rfl
@[simp] theorem z7s : zeu Tryz.prog 241 = some [.ro (.bool false),.ro (.nilf)] := by kernel_rfl
attribute [simp] Tryz.underlying10
attribute [simp] Tryz.underlying11
attribute [simp] Tryz.underlying112
attribute [simp] Tryz.underlying113
attribute [simp] Tryz.underlying12
attribute [simp] Tryz.underlying13
attribute [simp] Tryz.underlying138
attribute [simp] Tryz.underlying14
attribute [simp] Tryz.underlying140
attribute [simp] Tryz.underlying142
attribute [simp] Tryz.underlying144
attribute [simp] Tryz.underlying15
attribute [simp] Tryz.underlying154
attribute [simp] Tryz.underlying16
attribute [simp] Tryz.underlying160
attribute [simp] Tryz.underlying166
attribute [simp] Tryz.underlying167
attribute [simp] Tryz.underlying17
attribute [simp] Tryz.underlying171
attribute [simp] Tryz.underlying172
attribute [simp] Tryz.underlying18
attribute [simp] Tryz.underlying180
attribute [simp] Tryz.underlying188
attribute [simp] Tryz.underlying19
attribute [simp] Tryz.underlying193
attribute [simp] Tryz.underlying194
attribute [simp] Tryz.underlying195
attribute [simp] Tryz.underlying197
attribute [simp] Tryz.underlying2
attribute [simp] Tryz.underlying20
attribute [simp] Tryz.underlying202
attribute [simp] Tryz.underlying203
attribute [simp] Tryz.underlying206
attribute [simp] Tryz.underlying207
attribute [simp] Tryz.underlying21
attribute [simp] Tryz.underlying210
attribute [simp] Tryz.underlying211
attribute [simp] Tryz.underlying215
attribute [simp] Tryz.underlying216
attribute [simp] Tryz.underlying218
attribute [simp] Tryz.underlying219
attribute [simp] Tryz.underlying22
attribute [simp] Tryz.underlying220
attribute [simp] Tryz.underlying222
attribute [simp] Tryz.underlying223
attribute [simp] Tryz.underlying225
attribute [simp] Tryz.underlying23
attribute [simp] Tryz.underlying230
attribute [simp] Tryz.underlying231
attribute [simp] Tryz.underlying232
attribute [simp] Tryz.underlying233
attribute [simp] Tryz.underlying236
attribute [simp] Tryz.underlying24
attribute [simp] Tryz.underlying240
attribute [simp] Tryz.underlying241
attribute [simp] Tryz.underlying244
attribute [simp] Tryz.underlying245
attribute [simp] Tryz.underlying246
attribute [simp] Tryz.underlying247
attribute [simp] Tryz.underlying25
attribute [simp] Tryz.underlying251
attribute [simp] Tryz.underlying254
attribute [simp] Tryz.underlying256
attribute [simp] Tryz.underlying257
attribute [simp] Tryz.underlying26
attribute [simp] Tryz.underlying261
attribute [simp] Tryz.underlying262
attribute [simp] Tryz.underlying263
attribute [simp] Tryz.underlying264
attribute [simp] Tryz.underlying265
attribute [simp] Tryz.underlying268
attribute [simp] Tryz.underlying27
attribute [simp] Tryz.underlying270
attribute [simp] Tryz.underlying271
attribute [simp] Tryz.underlying272
attribute [simp] Tryz.underlying273
attribute [simp] Tryz.underlying277
attribute [simp] Tryz.underlying278
attribute [simp] Tryz.underlying279
attribute [simp] Tryz.underlying28
attribute [simp] Tryz.underlying281
attribute [simp] Tryz.underlying282
attribute [simp] Tryz.underlying283
attribute [simp] Tryz.underlying284
attribute [simp] Tryz.underlying285
attribute [simp] Tryz.underlying286
attribute [simp] Tryz.underlying287
attribute [simp] Tryz.underlying288
attribute [simp] Tryz.underlying29
attribute [simp] Tryz.underlying3
attribute [simp] Tryz.underlying32
attribute [simp] Tryz.underlying33
attribute [simp] Tryz.underlying34
attribute [simp] Tryz.underlying35
attribute [simp] Tryz.underlying39
attribute [simp] Tryz.underlying4
attribute [simp] Tryz.underlying40
attribute [simp] Tryz.underlying41
attribute [simp] Tryz.underlying42
attribute [simp] Tryz.underlying43
attribute [simp] Tryz.underlying44
attribute [simp] Tryz.underlying5
attribute [simp] Tryz.underlying58
attribute [simp] Tryz.underlying6
attribute [simp] Tryz.underlying7
attribute [simp] Tryz.underlying8
attribute [simp] Tryz.underlying84
attribute [simp] Tryz.underlying85
attribute [simp] Tryz.underlying86
attribute [simp] Tryz.underlying87
attribute [simp] Tryz.underlying88
attribute [simp] Tryz.underlying9
attribute [simp] Tryz.underlying93
attribute [simp] Tryz.underlying94
attribute [simp] Tryz.underlying96
attribute [simp] Tryz.underlying97
end Go.Qz
