import Derived.Test.YtcadiohekccmiaaGreatDoorProg
import Derived.Test.YtcadiohekccmiaaGreatDoorQn0
import Derived.KernelRfl
namespace Go.Qz
open Go.Proofs
@[simp] theorem ye9:zbn Tryz.prog 3=some 1:=by kernel_rfl
@[simp] theorem yg1:zbo Tryz.prog 3=false:=by kernel_rfl
@[simp] theorem yfa:zbn Tryz.prog 4=some 1:=by kernel_rfl
@[simp] theorem yg2:zbo Tryz.prog 4=false:=by kernel_rfl
@[simp] theorem yfb:zew Tryz.prog 4=some [.ro (.bool false)]:=by kernel_rfl
@[simp] theorem yfc:zbn Tryz.prog 5=some 1:=by kernel_rfl
@[simp] theorem yg3:zbo Tryz.prog 5=false:=by kernel_rfl
@[simp] theorem yfd:zew Tryz.prog 5=some [.ro (.int .u8 0)]:=by kernel_rfl
@[simp] theorem yfe:zbn Tryz.prog 9=some 1:=by kernel_rfl
@[simp] theorem yg4:zbo Tryz.prog 9=false:=by kernel_rfl
@[simp] theorem yff:zew Tryz.prog 9=some [.ro (.str ⟨#[]⟩)]:=by kernel_rfl
@[simp] theorem yci:zbn Tryz.prog 22=some 1:=by kernel_rfl
@[simp] theorem yfg:zbo Tryz.prog 22=false:=by kernel_rfl
@[simp] theorem ycj:zz3 Tryz.prog 22=some 5:=by kernel_rfl
@[simp] theorem yqm:zOf Tryz.prog 22=some 1:=by kernel_rfl
@[simp] theorem yck:zhc Tryz.prog 5=some 1:=by kernel_rfl
@[simp] theorem ycl:zbn Tryz.prog 23=some 1:=by kernel_rfl
@[simp] theorem yfh:zbo Tryz.prog 23=false:=by kernel_rfl
@[simp] theorem yqn:zOf Tryz.prog 23=some 2:=by kernel_rfl
@[simp] theorem ycm:zhc Tryz.prog 33=some 2:=by kernel_rfl
@[simp] theorem ycn:zbn Tryz.prog 24=some 1:=by kernel_rfl
@[simp] theorem yfi:zbo Tryz.prog 24=false:=by kernel_rfl
@[simp] theorem yqo:zOf Tryz.prog 24=some 3:=by kernel_rfl
@[simp] theorem yco:zhc Tryz.prog 94=some 3:=by kernel_rfl
@[simp] theorem ycp:zbn Tryz.prog 25=some 1:=by kernel_rfl
@[simp] theorem yfj:zbo Tryz.prog 25=false:=by kernel_rfl
@[simp] theorem yqp:zOf Tryz.prog 25=some 2:=by kernel_rfl
@[simp] theorem ycq:zhc Tryz.prog 97=some 2:=by kernel_rfl
@[simp] theorem ycr:zbn Tryz.prog 26=some 1:=by kernel_rfl
@[simp] theorem yfk:zbo Tryz.prog 26=false:=by kernel_rfl
@[simp] theorem yqq:zOf Tryz.prog 26=some 2:=by kernel_rfl
@[simp] theorem ycs:zhc Tryz.prog 35=some 2:=by kernel_rfl
@[simp] theorem yct:zbn Tryz.prog 27=some 1:=by kernel_rfl
@[simp] theorem yfl:zbo Tryz.prog 27=false:=by kernel_rfl
@[simp] theorem yqr:zOf Tryz.prog 27=some 1:=by kernel_rfl
@[simp] theorem ycu:zhc Tryz.prog 9=some 1:=by kernel_rfl
@[simp] theorem ycv:zbn Tryz.prog 29=some 8:=by kernel_rfl
@[simp] theorem yfm:zbo Tryz.prog 29=true:=by kernel_rfl
@[simp] theorem yfn:fieldAt Tryz.prog 29 0=some (0,9):=by kernel_rfl
@[simp] theorem yfo:fieldAt Tryz.prog 29 1=some (1,9):=by kernel_rfl
@[simp] theorem yfp:fieldAt Tryz.prog 29 2=some (2,23):=by kernel_rfl
@[simp] theorem yfq:fieldAt Tryz.prog 29 3=some (3,24):=by kernel_rfl
@[simp] theorem yfr:fieldAt Tryz.prog 29 4=some (4,24):=by kernel_rfl
@[simp] theorem yfs:fieldAt Tryz.prog 29 5=some (5,25):=by kernel_rfl
@[simp] theorem yft:fieldAt Tryz.prog 29 6=some (6,26):=by kernel_rfl
@[simp] theorem yfu:fieldAt Tryz.prog 29 7=some (7,27):=by kernel_rfl
@[simp] theorem yg5:zc0 Tryz.prog 29=true:=by kernel_rfl
@[simp] theorem ycw:zew Tryz.prog 29=some [.ro (.str ⟨#[]⟩),.ro (.str ⟨#[]⟩),.own (.sl 2 []),.own (.sl 3 []),.own (.sl 3 []),.own (.sl 2 []),.own (.sl 2 []),.own (.sl 1 [])]:=by kernel_rfl
@[simp] theorem ycx:zbn Tryz.prog 33=some 2:=by kernel_rfl
@[simp] theorem yfv:zbo Tryz.prog 33=true:=by kernel_rfl
@[simp] theorem yfw:fieldAt Tryz.prog 33 0=some (0,9):=by kernel_rfl
@[simp] theorem yfx:fieldAt Tryz.prog 33 1=some (1,9):=by kernel_rfl
@[simp] theorem yg6:zc0 Tryz.prog 33=true:=by kernel_rfl
@[simp] theorem ycy:zew Tryz.prog 33=some [.ro (.str ⟨#[]⟩),.ro (.str ⟨#[]⟩)]:=by kernel_rfl
@[simp] theorem ycz:zbn Tryz.prog 35=some 2:=by kernel_rfl
@[simp] theorem yfy:zbo Tryz.prog 35=true:=by kernel_rfl
@[simp] theorem yfz:fieldAt Tryz.prog 35 0=some (0,9):=by kernel_rfl
@[simp] theorem yf0:fieldAt Tryz.prog 35 1=some (1,9):=by kernel_rfl
@[simp] theorem yg7:zc0 Tryz.prog 35=true:=by kernel_rfl
@[simp] theorem yc0:zew Tryz.prog 35=some [.ro (.str ⟨#[]⟩),.ro (.str ⟨#[]⟩)]:=by kernel_rfl
@[simp] theorem yf1:zw1 Tryz.prog 86=some 5:=by kernel_rfl
@[simp] theorem yf2:fieldAt Tryz.prog 86 1=some (1,22):=by kernel_rfl
@[simp] theorem yc1:zew Tryz.prog 86=some [.ro (.nilp),.own (.sl 1 [])]:=by kernel_rfl
@[simp] theorem yc2:zbn Tryz.prog 94=some 3:=by kernel_rfl
@[simp] theorem yf3:zbo Tryz.prog 94=true:=by kernel_rfl
@[simp] theorem yf4:fieldAt Tryz.prog 94 0=some (0,9):=by kernel_rfl
@[simp] theorem yf5:fieldAt Tryz.prog 94 1=some (1,3):=by kernel_rfl
@[simp] theorem yf6:fieldAt Tryz.prog 94 2=some (2,9):=by kernel_rfl
@[simp] theorem yg8:zc0 Tryz.prog 94=true:=by kernel_rfl
@[simp] theorem yc3:zew Tryz.prog 94=some [.ro (.str ⟨#[]⟩),.ro (.int .i64 0),.ro (.str ⟨#[]⟩)]:=by kernel_rfl
@[simp] theorem yc4:zbn Tryz.prog 97=some 2:=by kernel_rfl
@[simp] theorem yf7:zbo Tryz.prog 97=true:=by kernel_rfl
@[simp] theorem yf8:fieldAt Tryz.prog 97 0=some (0,9):=by kernel_rfl
@[simp] theorem yf9:fieldAt Tryz.prog 97 1=some (1,9):=by kernel_rfl
@[simp] theorem yg9:zc0 Tryz.prog 97=true:=by kernel_rfl
@[simp] theorem yc5:zew Tryz.prog 97=some [.ro (.str ⟨#[]⟩),.ro (.str ⟨#[]⟩)]:=by kernel_rfl
@[simp] theorem yc6:fieldAt Tryz.prog 113 0=some (0,22):=by kernel_rfl
@[simp] theorem yc7:fieldAt Tryz.prog 113 1=some (1,3):=by kernel_rfl
@[simp] theorem yha:zOf Tryz.prog 166=some 1:=by kernel_rfl
@[simp] theorem ya2:zhc Tryz.prog 3=some 1:=by kernel_rfl
@[simp] theorem ya3:zbn Tryz.prog 167=some 1:=by kernel_rfl
@[simp] theorem yc8:zbo Tryz.prog 167=false:=by kernel_rfl
@[simp] theorem yhb:zOf Tryz.prog 167=some 1:=by kernel_rfl
@[simp] theorem ya4:zew Tryz.prog 167=some [.own (.sl 1 [])]:=by kernel_rfl
@[simp] theorem ya5:zbn Tryz.prog 172=some 2:=by kernel_rfl
@[simp] theorem yc9:fieldAt Tryz.prog 172 0=some (0,23):=by kernel_rfl
@[simp] theorem yda:fieldAt Tryz.prog 172 1=some (1,27):=by kernel_rfl
@[simp] theorem yga:zc0 Tryz.prog 172=true:=by kernel_rfl
@[simp] theorem ya6:zew Tryz.prog 172=some [.own (.sl 2 []),.own (.sl 1 [])]:=by kernel_rfl
@[simp] theorem ya7:zbn Tryz.prog 188=some 1:=by kernel_rfl
@[simp] theorem ydb:zbo Tryz.prog 188=false:=by kernel_rfl
@[simp] theorem yhc:zOf Tryz.prog 188=some 2:=by kernel_rfl
@[simp] theorem ya8:zhc Tryz.prog 216=some 2:=by kernel_rfl
@[simp] theorem ya9:zew Tryz.prog 188=some [.own (.sl 2 [])]:=by kernel_rfl
@[simp] theorem ydc:fieldAt Tryz.prog 195 0=some (0,3):=by kernel_rfl
@[simp] theorem ygb:zc0 Tryz.prog 195=true:=by kernel_rfl
@[simp] theorem yba:zew Tryz.prog 195=some [.ro (.int .i64 0)]:=by kernel_rfl
@[simp] theorem ybb:zbn Tryz.prog 206=some 1:=by kernel_rfl
@[simp] theorem ydd:zbo Tryz.prog 206=false:=by kernel_rfl
@[simp] theorem ybc:zew Tryz.prog 206=some [.ro (.int .u32 0)]:=by kernel_rfl
@[simp] theorem yhd:zOf Tryz.prog 207=some 1:=by kernel_rfl
@[simp] theorem ybd:zhc Tryz.prog 206=some 1:=by kernel_rfl
@[simp] theorem ybe:zbn Tryz.prog 211=some 1:=by kernel_rfl
@[simp] theorem yhe:zOf Tryz.prog 211=some 2:=by kernel_rfl
@[simp] theorem ybf:zhc Tryz.prog 241=some 2:=by kernel_rfl
@[simp] theorem ybg:zew Tryz.prog 211=some [.own (.sl 2 [])]:=by kernel_rfl
@[simp] theorem yde:fieldAt Tryz.prog 216 0=some (0,4):=by kernel_rfl
@[simp] theorem ydf:fieldAt Tryz.prog 216 1=some (1,54):=by kernel_rfl
@[simp] theorem ygc:zc0 Tryz.prog 216=true:=by kernel_rfl
@[simp] theorem ybh:zew Tryz.prog 216=some [.ro (.bool false),.ro (.nilf)]:=by kernel_rfl
@[simp] theorem ybi:zbn Tryz.prog 241=some 2:=by kernel_rfl
@[simp] theorem ydg:zbo Tryz.prog 241=true:=by kernel_rfl
@[simp] theorem ydh:fieldAt Tryz.prog 241 0=some (0,4):=by kernel_rfl
@[simp] theorem ydi:fieldAt Tryz.prog 241 1=some (1,176):=by kernel_rfl
@[simp] theorem ygd:zc0 Tryz.prog 241=true:=by kernel_rfl
@[simp] theorem ybj:zew Tryz.prog 241=some [.ro (.bool false),.ro (.nilf)]:=by kernel_rfl
attribute [simp] Tryz.underlying10
attribute [simp] Tryz.underlying11
attribute [simp] Tryz.underlying112
attribute [simp] Tryz.underlying113
attribute [simp] Tryz.underlying12
attribute [simp] Tryz.underlying13
attribute [simp] Tryz.underlying138
attribute [simp] Tryz.underlying14
attribute [simp] Tryz.underlying140
attribute [simp] Tryz.underlying142
attribute [simp] Tryz.underlying144
attribute [simp] Tryz.underlying15
attribute [simp] Tryz.underlying154
attribute [simp] Tryz.underlying16
attribute [simp] Tryz.underlying160
attribute [simp] Tryz.underlying166
attribute [simp] Tryz.underlying167
attribute [simp] Tryz.underlying17
attribute [simp] Tryz.underlying171
attribute [simp] Tryz.underlying172
attribute [simp] Tryz.underlying18
attribute [simp] Tryz.underlying180
attribute [simp] Tryz.underlying188
attribute [simp] Tryz.underlying19
attribute [simp] Tryz.underlying193
attribute [simp] Tryz.underlying194
attribute [simp] Tryz.underlying195
attribute [simp] Tryz.underlying197
attribute [simp] Tryz.underlying2
attribute [simp] Tryz.underlying20
attribute [simp] Tryz.underlying202
attribute [simp] Tryz.underlying203
attribute [simp] Tryz.underlying206
attribute [simp] Tryz.underlying207
attribute [simp] Tryz.underlying21
attribute [simp] Tryz.underlying210
attribute [simp] Tryz.underlying211
attribute [simp] Tryz.underlying215
attribute [simp] Tryz.underlying216
attribute [simp] Tryz.underlying218
attribute [simp] Tryz.underlying219
attribute [simp] Tryz.underlying22
attribute [simp] Tryz.underlying220
attribute [simp] Tryz.underlying222
attribute [simp] Tryz.underlying223
attribute [simp] Tryz.underlying225
attribute [simp] Tryz.underlying23
attribute [simp] Tryz.underlying230
attribute [simp] Tryz.underlying231
attribute [simp] Tryz.underlying232
attribute [simp] Tryz.underlying233
attribute [simp] Tryz.underlying236
attribute [simp] Tryz.underlying24
attribute [simp] Tryz.underlying240
attribute [simp] Tryz.underlying241
attribute [simp] Tryz.underlying244
attribute [simp] Tryz.underlying245
attribute [simp] Tryz.underlying246
attribute [simp] Tryz.underlying247
attribute [simp] Tryz.underlying25
attribute [simp] Tryz.underlying251
attribute [simp] Tryz.underlying254
attribute [simp] Tryz.underlying256
attribute [simp] Tryz.underlying257
attribute [simp] Tryz.underlying26
attribute [simp] Tryz.underlying261
attribute [simp] Tryz.underlying262
attribute [simp] Tryz.underlying263
attribute [simp] Tryz.underlying264
attribute [simp] Tryz.underlying265
attribute [simp] Tryz.underlying268
attribute [simp] Tryz.underlying27
attribute [simp] Tryz.underlying270
attribute [simp] Tryz.underlying271
attribute [simp] Tryz.underlying272
attribute [simp] Tryz.underlying273
attribute [simp] Tryz.underlying277
attribute [simp] Tryz.underlying278
attribute [simp] Tryz.underlying279
attribute [simp] Tryz.underlying28
attribute [simp] Tryz.underlying281
attribute [simp] Tryz.underlying282
attribute [simp] Tryz.underlying283
attribute [simp] Tryz.underlying284
attribute [simp] Tryz.underlying285
attribute [simp] Tryz.underlying286
attribute [simp] Tryz.underlying287
attribute [simp] Tryz.underlying288
attribute [simp] Tryz.underlying29
attribute [simp] Tryz.underlying3
attribute [simp] Tryz.underlying32
attribute [simp] Tryz.underlying33
attribute [simp] Tryz.underlying34
attribute [simp] Tryz.underlying35
attribute [simp] Tryz.underlying39
attribute [simp] Tryz.underlying4
attribute [simp] Tryz.underlying40
attribute [simp] Tryz.underlying41
attribute [simp] Tryz.underlying42
attribute [simp] Tryz.underlying43
attribute [simp] Tryz.underlying44
attribute [simp] Tryz.underlying5
attribute [simp] Tryz.underlying58
attribute [simp] Tryz.underlying6
attribute [simp] Tryz.underlying7
attribute [simp] Tryz.underlying8
attribute [simp] Tryz.underlying84
attribute [simp] Tryz.underlying85
attribute [simp] Tryz.underlying86
attribute [simp] Tryz.underlying87
attribute [simp] Tryz.underlying88
attribute [simp] Tryz.underlying9
attribute [simp] Tryz.underlying93
attribute [simp] Tryz.underlying94
attribute [simp] Tryz.underlying96
attribute [simp] Tryz.underlying97
end Go.Qz
