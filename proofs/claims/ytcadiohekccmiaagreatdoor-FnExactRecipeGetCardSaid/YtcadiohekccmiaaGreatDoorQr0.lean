import Derived.Test.YtcadiohekccmiaaGreatDoorProg
import Derived.Test.YtcadiohekccmiaaGreatDoorQn0
import Derived.KernelRfl
namespace Go.Qz
open Go.Proofs
@[simp] theorem tyA0:(λP:Program=>zbq P 3=some 1/\zbv P 3=false/\zbq P 4=some 1/\zbv P 4=false/\zfm P 4=some [.ro (.bool false)]/\zbq P 5=some 1/\zbv P 5=false/\zfm P 5=some [.ro (.int .u8 0)]/\zbq P 9=some 1/\zbv P 9=false/\zfm P 9=some [.ro (.str ⟨#[]⟩)]/\zbq P 22=some 1/\zbv P 22=false/\z2d P 22=some 5/\zOf P 22=some 1/\zhl P 5=some 1/\zbq P 23=some 1/\zbv P 23=false/\zOf P 23=some 2/\zhl P 33=some 2/\zbq P 24=some 1/\zbv P 24=false/\zOf P 24=some 3/\zhl P 94=some 3/\zbq P 25=some 1/\zbv P 25=false/\zOf P 25=some 2/\zhl P 97=some 2/\zbq P 26=some 1/\zbv P 26=false/\zOf P 26=some 2/\zhl P 35=some 2/\zbq P 27=some 1/\zbv P 27=false/\zOf P 27=some 1/\zhl P 9=some 1/\zbq P 29=some 8/\zbv P 29=true/\fieldAt P 29 0=some (0,9)/\fieldAt P 29 1=some (1,9)/\fieldAt P 29 2=some (2,23)/\fieldAt P 29 3=some (3,24)/\fieldAt P 29 4=some (4,24)/\fieldAt P 29 5=some (5,25)/\fieldAt P 29 6=some (6,26)/\fieldAt P 29 7=some (7,27)/\zc0 P 29=true/\zfm P 29=some [.ro (.str ⟨#[]⟩),.ro (.str ⟨#[]⟩),.own (.sl 2 []),.own (.sl 3 []),.own (.sl 3 []),.own (.sl 2 []),.own (.sl 2 []),.own (.sl 1 [])]/\zbq P 33=some 2/\zbv P 33=true/\fieldAt P 33 0=some (0,9)/\fieldAt P 33 1=some (1,9)/\zc0 P 33=true/\zfm P 33=some [.ro (.str ⟨#[]⟩),.ro (.str ⟨#[]⟩)]/\zbq P 35=some 2/\zbv P 35=true/\fieldAt P 35 0=some (0,9)/\fieldAt P 35 1=some (1,9)/\zc0 P 35=true/\zfm P 35=some [.ro (.str ⟨#[]⟩),.ro (.str ⟨#[]⟩)]) Tryz.prog:=by
  dsimp only
  and_intros<;>kernel_rfl
@[simp] theorem tyA1:(λP:Program=>zyd P 86=some 5/\fieldAt P 86 1=some (1,22)/\zfm P 86=some [.ro (.nilp),.own (.sl 1 [])]/\zbq P 94=some 3/\zbv P 94=true/\fieldAt P 94 0=some (0,9)/\fieldAt P 94 1=some (1,3)/\fieldAt P 94 2=some (2,9)/\zc0 P 94=true/\zfm P 94=some [.ro (.str ⟨#[]⟩),.ro (.int .i64 0),.ro (.str ⟨#[]⟩)]/\zbq P 97=some 2/\zbv P 97=true/\fieldAt P 97 0=some (0,9)/\fieldAt P 97 1=some (1,9)/\zc0 P 97=true/\zfm P 97=some [.ro (.str ⟨#[]⟩),.ro (.str ⟨#[]⟩)]/\zOf P 166=some 1/\zhl P 3=some 1/\zbq P 167=some 1/\zbv P 167=false/\zOf P 167=some 1/\zfm P 167=some [.own (.sl 1 [])]/\zbq P 172=some 2/\fieldAt P 172 0=some (0,23)/\fieldAt P 172 1=some (1,27)/\zc0 P 172=true/\zfm P 172=some [.own (.sl 2 []),.own (.sl 1 [])]/\zbq P 188=some 1/\zbv P 188=false/\zOf P 188=some 2/\zhl P 216=some 2/\zfm P 188=some [.own (.sl 2 [])]/\fieldAt P 195 0=some (0,3)/\zc0 P 195=true/\zfm P 195=some [.ro (.int .i64 0)]/\zbq P 211=some 1/\zOf P 211=some 2/\zhl P 241=some 2/\zfm P 211=some [.own (.sl 2 [])]/\fieldAt P 216 0=some (0,4)/\fieldAt P 216 1=some (1,54)/\zc0 P 216=true/\zfm P 216=some [.ro (.bool false),.ro (.nilf)]/\zbq P 241=some 2/\zbv P 241=true/\fieldAt P 241 0=some (0,4)/\fieldAt P 241 1=some (1,176)/\zc0 P 241=true/\zfm P 241=some [.ro (.bool false),.ro (.nilf)]) Tryz.prog:=by
  dsimp only
  and_intros<;>kernel_rfl
attribute [simp] Tryz.underlying10 Tryz.underlying11 Tryz.underlying112 Tryz.underlying113 Tryz.underlying12 Tryz.underlying13 Tryz.underlying138 Tryz.underlying14 Tryz.underlying140 Tryz.underlying142 Tryz.underlying144 Tryz.underlying15 Tryz.underlying154 Tryz.underlying16 Tryz.underlying160 Tryz.underlying166 Tryz.underlying167 Tryz.underlying17 Tryz.underlying171 Tryz.underlying172 Tryz.underlying18 Tryz.underlying180 Tryz.underlying188 Tryz.underlying19 Tryz.underlying193 Tryz.underlying194 Tryz.underlying195 Tryz.underlying197 Tryz.underlying2 Tryz.underlying20 Tryz.underlying202 Tryz.underlying203 Tryz.underlying206 Tryz.underlying207 Tryz.underlying21 Tryz.underlying210 Tryz.underlying211 Tryz.underlying215 Tryz.underlying216 Tryz.underlying218 Tryz.underlying219 Tryz.underlying22 Tryz.underlying220 Tryz.underlying222 Tryz.underlying223 Tryz.underlying225 Tryz.underlying23 Tryz.underlying230 Tryz.underlying231 Tryz.underlying232 Tryz.underlying233 Tryz.underlying236 Tryz.underlying24 Tryz.underlying240 Tryz.underlying241 Tryz.underlying244 Tryz.underlying245 Tryz.underlying246 Tryz.underlying247 Tryz.underlying25 Tryz.underlying251 Tryz.underlying254 Tryz.underlying256 Tryz.underlying257 Tryz.underlying26 Tryz.underlying261 Tryz.underlying262 Tryz.underlying263 Tryz.underlying264 Tryz.underlying265 Tryz.underlying268 Tryz.underlying27 Tryz.underlying270 Tryz.underlying271 Tryz.underlying272 Tryz.underlying273 Tryz.underlying277 Tryz.underlying278 Tryz.underlying279 Tryz.underlying28 Tryz.underlying281 Tryz.underlying282 Tryz.underlying283 Tryz.underlying284 Tryz.underlying285 Tryz.underlying286 Tryz.underlying287 Tryz.underlying288 Tryz.underlying29 Tryz.underlying3 Tryz.underlying32 Tryz.underlying33 Tryz.underlying34 Tryz.underlying35 Tryz.underlying39 Tryz.underlying4 Tryz.underlying40 Tryz.underlying41 Tryz.underlying42 Tryz.underlying43 Tryz.underlying44 Tryz.underlying5 Tryz.underlying58 Tryz.underlying6 Tryz.underlying7 Tryz.underlying8 Tryz.underlying84 Tryz.underlying85 Tryz.underlying86 Tryz.underlying87 Tryz.underlying88 Tryz.underlying9 Tryz.underlying93 Tryz.underlying94 Tryz.underlying96 Tryz.underlying97
end Go.Qz
namespace Go.Qz
open Go.Proofs
noncomputable section
abbrev Fn9:FuncId:=9
noncomputable def r9:=RC Tryz.f9
def q9c0:zab:=.seq (r9 24) (.ret)
def q9c1:zab:=.seq (.seq (r9 22) (.cond (.tmp 65) (.seq (r9 23) (.ret)) (.skip))) (q9c0)
def q9c2:zab:=.seq (r9 18) (.seq (r9 19) (.seq (.seq (r9 20) (.cond (.tmp 62) (.seq (r9 21) (.ret)) (.skip))) (q9c1)))
def q9c3:zab:=.seq (r9 15) (.seq (.seq (r9 16) (.cond (.tmp 57) (.seq (r9 17) (.ret)) (.skip))) (q9c2))
def q9c4:zab:=.seq (.seq (r9 13) (.cond (.tmp 43) (.seq (r9 14) (.ret)) (.skip))) (q9c3)
def q9c5:zab:=.seq (r9 7) (.seq (r9 8) (.seq (r9 9) (.seq (r9 10) (.seq (.seq (r9 11) (.cond (.tmp 40) (.seq (r9 12) (.ret)) (.skip))) (q9c4)))))
def q9c6:zab:=.seq (r9 3) (.seq (r9 4) (.seq (.seq (r9 5) (.cond (.tmp 32) (.seq (r9 6) (.ret)) (.skip))) (q9c5)))
@[simp] theorem ym7:Said (by and_intros<;>cbv:r9 0=_/\r9 1=_/\r9 2=_/\r9 3=_/\r9 4=_/\r9 5=_/\r9 6=_/\r9 7=_/\r9 8=_/\r9 9=_/\r9 10=_/\r9 11=_/\r9 12=_/\r9 13=_/\r9 14=_/\r9 15=_/\r9 16=_/\r9 17=_/\r9 18=_/\r9 19=_/\r9 20=_/\r9 21=_/\r9 22=_/\r9 23=_/\r9 24=_):=said _
@[simp] theorem zo2:Said (And.intro (zac q9c0.eq_1) (And.intro (zac q9c1.eq_1) (And.intro (zac q9c2.eq_1) (And.intro (zac q9c3.eq_1) (And.intro (zac q9c4.eq_1) (And.intro (zac q9c5.eq_1) (zac q9c6.eq_1))))))):=said _
@[simp] def q9:QFn:=⟨66,[(.tmp 2,4)],.seq (r9 0) (.seq (.seq (r9 1) (.cond (.tmp 13) (.seq (r9 2) (.ret)) (.skip))) (q9c6))⟩
theorem Cv9:zap Tryz.f9=some q9:=by kernel_rfl
abbrev Fn12:FuncId:=12
noncomputable def r12:=RC Tryz.f12
def q12c0:zab:=.seq (r12 5) (.seq (r12 6) (.ret))
def q12c1:zab:=.seq (.seq (r12 3) (.cond (.tmp 9) (.seq (r12 4) (.ret)) (.skip))) (q12c0)
@[simp] theorem ylo:Said (by and_intros<;>cbv:r12 0=_/\r12 1=_/\r12 2=_/\r12 3=_/\r12 4=_/\r12 5=_/\r12 6=_):=said _
@[simp] theorem zve:Said (And.intro (zac q12c0.eq_1) (zac q12c1.eq_1)):=said _
@[simp] def q12:QFn:=⟨16,[(.tmp 2,3)],.seq (r12 0) (.seq (.seq (r12 1) (.cond (.tmp 7) (.seq (r12 2) (.ret)) (.skip))) (q12c1))⟩
theorem Cv12:zap Tryz.f12=some q12:=by kernel_rfl
abbrev Fn13:FuncId:=13
noncomputable def rD13:=RD Tryz.f13
noncomputable def r13:=RC Tryz.f13
def q13c0:zab:=r13 7
def q13c1:zab:=.seq (.block 1 (.seq (rD13 8 16) (.seq (r13 9) (.cond (.tmp 37) (.seq (r13 10) (.ret)) (.skip))))) (q13c0)
def q13l0:zab:=.seq (.seq (r13 6) (.cond (.tmp 18) (.skip) (.exit 0))) (q13c1)
def q13c2:zab:=r13 13
def q13c3:zab:=.seq (.block 3 (.seq (rD13 14 13) (.seq (r13 15) (.cond (.tmp 59) (.seq (r13 16) (.ret)) (.skip))))) (q13c2)
def q13l1:zab:=.seq (.seq (r13 12) (.cond (.tmp 43) (.skip) (.exit 2))) (q13c3)
def q13c4:zab:=.seq (r13 17) (.ret)
def q13c5:zab:=.seq (.seq (r13 11) (.block 2 (.loop q13l1))) (q13c4)
def q13c6:zab:=.seq (.seq (r13 5) (.block 0 (.loop q13l0))) (q13c5)
def q13c7:zab:=.seq (.seq (r13 3) (.cond (.tmp 13) (.seq (r13 4) (.ret)) (.skip))) (q13c6)
@[simp] theorem ylp:Said (by and_intros<;>cbv:r13 0=_/\r13 1=_/\r13 2=_/\r13 3=_/\r13 4=_/\r13 5=_/\r13 6=_/\rD13 8 16=_/\r13 9=_/\r13 10=_/\r13 7=_/\r13 11=_/\r13 12=_/\rD13 14 13=_/\r13 15=_/\r13 16=_/\r13 13=_/\r13 17=_):=said _
@[simp] theorem yec:Said (zac q13c5.eq_1):=said _
@[simp] theorem zvf:Said (And.intro (zac q13c0.eq_1) (And.intro (zac q13c1.eq_1) (And.intro (zac q13l0.eq_1) (And.intro (zac q13c2.eq_1) (And.intro (zac q13c3.eq_1) (And.intro (zac q13l1.eq_1) (And.intro (zac q13c4.eq_1) (And.intro (zac q13c6.eq_1) (zac q13c7.eq_1))))))))):=said _
@[simp] def q13:QFn:=⟨61,[(.tmp 2,3)],.seq (r13 0) (.seq (.seq (r13 1) (.cond (.tmp 11) (.seq (r13 2) (.ret)) (.skip))) (q13c7))⟩
theorem Cv13:zap Tryz.f13=some q13:=by kernel_rfl
abbrev Fn20:FuncId:=20
noncomputable def r20:=RC Tryz.f20
def q20c0:zab:=.seq (r20 17) (.ret)
def q20c1:zab:=.seq (.seq (r20 15) (.cond (.tmp 50) (.seq (r20 16) (.ret)) (.skip))) (q20c0)
def q20c2:zab:=.seq (.seq (r20 13) (.cond (.tmp 44) (.seq (r20 14) (.ret)) (.skip))) (q20c1)
def q20c3:zab:=.seq (.seq (r20 11) (.cond (.tmp 38) (.seq (r20 12) (.ret)) (.skip))) (q20c2)
def q20c4:zab:=.seq (.seq (r20 9) (.cond (.tmp 32) (.seq (r20 10) (.ret)) (.skip))) (q20c3)
def q20c5:zab:=.seq (.seq (r20 7) (.cond (.tmp 26) (.seq (r20 8) (.ret)) (.skip))) (q20c4)
def q20c6:zab:=.seq (.seq (r20 5) (.cond (.tmp 20) (.seq (r20 6) (.ret)) (.skip))) (q20c5)
def q20c7:zab:=.seq (.seq (r20 3) (.cond (.tmp 14) (.seq (r20 4) (.ret)) (.skip))) (q20c6)
@[simp] theorem ylq:Said (by and_intros<;>cbv:r20 0=_/\r20 1=_/\r20 2=_/\r20 3=_/\r20 4=_/\r20 5=_/\r20 6=_/\r20 7=_/\r20 8=_/\r20 9=_/\r20 10=_/\r20 11=_/\r20 12=_/\r20 13=_/\r20 14=_/\r20 15=_/\r20 16=_/\r20 17=_):=said _
@[simp] theorem z00:Said (And.intro (zac q20c0.eq_1) (And.intro (zac q20c1.eq_1) (And.intro (zac q20c2.eq_1) (And.intro (zac q20c3.eq_1) (And.intro (zac q20c4.eq_1) (And.intro (zac q20c5.eq_1) (And.intro (zac q20c6.eq_1) (zac q20c7.eq_1)))))))):=said _
@[simp] def q20:QFn:=⟨51,[(.tmp 4,4)],.seq (r20 0) (.seq (.seq (r20 1) (.cond (.tmp 9) (.seq (r20 2) (.ret)) (.skip))) (q20c7))⟩
theorem Cv20:zap Tryz.f20=some q20:=by kernel_rfl
abbrev Fn21:FuncId:=21
noncomputable def rD21:=RD Tryz.f21
noncomputable def r21:=RC Tryz.f21
def q21c0:zab:=r21 5
def q21c1:zab:=.seq (.block 1 (.seq (rD21 6 8) (.cond (.tmp 25) (.seq (r21 7) (.ret)) (.skip)))) (q21c0)
def q21l0:zab:=.seq (.seq (r21 4) (.cond (.tmp 14) (.skip) (.exit 0))) (q21c1)
def q21c2:zab:=.seq (r21 8) (.ret)
def q21c3:zab:=.seq (.seq (r21 3) (.block 0 (.loop q21l0))) (q21c2)
@[simp] theorem ylr:Said (by and_intros<;>cbv:r21 0=_/\r21 1=_/\r21 2=_/\r21 3=_/\r21 4=_/\rD21 6 8=_/\r21 7=_/\r21 5=_/\r21 8=_):=said _
@[simp] theorem zyx:Said (And.intro (zac q21c0.eq_1) (And.intro (zac q21c1.eq_1) (And.intro (zac q21l0.eq_1) (And.intro (zac q21c2.eq_1) (zac q21c3.eq_1))))):=said _
@[simp] def q21:QFn:=⟨26,[(.tmp 4,4)],.seq (r21 0) (.seq (.seq (r21 1) (.cond (.tmp 10) (.seq (r21 2) (.ret)) (.skip))) (q21c3))⟩
theorem Cv21:zap Tryz.f21=some q21:=by kernel_rfl
abbrev Fn23:FuncId:=23
noncomputable def r23:=RC Tryz.f23
def q23c0:zab:=r23 3
def q23c1:zab:=.seq (.block 1 (.seq (r23 4) (r23 5))) (q23c0)
def q23l0:zab:=.seq (.seq (r23 2) (.cond (.tmp 9) (.skip) (.exit 0))) (q23c1)
def q23c2:zab:=.seq (r23 6) (.ret)
@[simp] theorem yls:Said (by and_intros<;>cbv:r23 0=_/\r23 1=_/\r23 2=_/\r23 4=_/\r23 5=_/\r23 3=_/\r23 6=_):=said _
@[simp] theorem zvg:Said (And.intro (zac q23c0.eq_1) (And.intro (zac q23c1.eq_1) (And.intro (zac q23l0.eq_1) (zac q23c2.eq_1)))):=said _
@[simp] def q23:QFn:=⟨20,[(.tmp 4,3)],.seq (r23 0) (.seq (.seq (r23 1) (.block 0 (.loop q23l0))) (q23c2))⟩
theorem Cv23:zap Tryz.f23=some q23:=by kernel_rfl
abbrev Fn24:FuncId:=24
noncomputable def rD24:=RD Tryz.f24
noncomputable def r24:=RC Tryz.f24
def q24c0:zab:=r24 6
def q24c1:zab:=r24 3
def q24c2:zab:=.seq (.block 1 (.seq (.seq (rD24 4 6) (.cond (.tmp 18) (.seq (r24 5) (.ret)) (.skip))) (q24c0))) (q24c1)
def q24l0:zab:=.seq (.seq (r24 2) (.cond (.tmp 9) (.skip) (.exit 0))) (q24c2)
def q24c3:zab:=.seq (r24 7) (.ret)
@[simp] theorem ylt:Said (by and_intros<;>cbv:r24 0=_/\r24 1=_/\r24 2=_/\rD24 4 6=_/\r24 5=_/\r24 6=_/\r24 3=_/\r24 7=_):=said _
@[simp] theorem zvh:Said (And.intro (zac q24c0.eq_1) (And.intro (zac q24c1.eq_1) (And.intro (zac q24c2.eq_1) (And.intro (zac q24l0.eq_1) (zac q24c3.eq_1))))):=said _
@[simp] def q24:QFn:=⟨22,[(.tmp 4,3)],.seq (r24 0) (.seq (.seq (r24 1) (.block 0 (.loop q24l0))) (q24c3))⟩
theorem Cv24:zap Tryz.f24=some q24:=by kernel_rfl
abbrev Fn26:FuncId:=26
noncomputable def r26:=RC Tryz.f26
def q26c0:zab:=r26 11
def q26c1:zab:=.seq (.block 1 (.seq (r26 9) (r26 10))) (q26c0)
def q26l0:zab:=.seq (r26 8) (.seq (.cond (.tmp 35) (.skip) (.exit 0)) (q26c1))
def q26c2:zab:=r26 16
def q26c3:zab:=.seq (.block 3 (.seq (r26 14) (r26 15))) (q26c2)
def q26l1:zab:=.seq (r26 13) (.seq (.cond (.tmp 50) (.skip) (.exit 2)) (q26c3))
def q26c4:zab:=r26 21
def q26c5:zab:=.seq (.block 5 (.seq (r26 19) (r26 20))) (q26c4)
def q26l2:zab:=.seq (r26 18) (.seq (.cond (.tmp 63) (.skip) (.exit 4)) (q26c5))
def q26c6:zab:=r26 26
def q26c7:zab:=.seq (.block 7 (.seq (r26 24) (r26 25))) (q26c6)
def q26l3:zab:=.seq (r26 23) (.seq (.cond (.tmp 76) (.skip) (.exit 6)) (q26c7))
def q26c8:zab:=r26 31
def q26c9:zab:=.seq (.block 9 (.seq (r26 29) (r26 30))) (q26c8)
def q26l4:zab:=.seq (r26 28) (.seq (.cond (.tmp 91) (.skip) (.exit 8)) (q26c9))
def q26c10:zab:=r26 36
def q26c11:zab:=.seq (.block 11 (.seq (r26 34) (r26 35))) (q26c10)
def q26l5:zab:=.seq (r26 33) (.seq (.cond (.tmp 106) (.skip) (.exit 10)) (q26c11))
def q26c12:zab:=.seq (r26 37) (.ret)
def q26c13:zab:=.seq (.seq (r26 32) (.block 10 (.loop q26l5))) (q26c12)
def q26c14:zab:=.seq (.seq (r26 27) (.block 8 (.loop q26l4))) (q26c13)
def q26c15:zab:=.seq (.seq (r26 22) (.block 6 (.loop q26l3))) (q26c14)
def q26c16:zab:=.seq (.seq (r26 17) (.block 4 (.loop q26l2))) (q26c15)
def q26c17:zab:=.seq (.seq (r26 12) (.block 2 (.loop q26l1))) (q26c16)
def q26c18:zab:=.seq (r26 3) (.seq (r26 4) (.seq (r26 5) (.seq (r26 6) (.seq (.seq (r26 7) (.block 0 (.loop q26l0))) (q26c17)))))
@[simp] theorem ylu:Said (by and_intros<;>cbv:r26 0=_/\r26 1=_/\r26 2=_/\r26 3=_/\r26 4=_/\r26 5=_/\r26 6=_/\r26 7=_/\r26 8=_/\r26 9=_/\r26 10=_/\r26 11=_/\r26 12=_/\r26 13=_/\r26 14=_/\r26 15=_/\r26 16=_/\r26 17=_/\r26 18=_/\r26 19=_/\r26 20=_/\r26 21=_/\r26 22=_/\r26 23=_/\r26 24=_/\r26 25=_/\r26 26=_/\r26 27=_/\r26 28=_/\r26 29=_/\r26 30=_/\r26 31=_/\r26 32=_/\r26 33=_/\r26 34=_/\r26 35=_/\r26 36=_/\r26 37=_):=said _
@[simp] theorem zwy:Said (zac q26c12.eq_1):=said _
@[simp] theorem z4k:Said (zac q26c13.eq_1):=said _
@[simp] theorem z4l:Said (zac q26c14.eq_1):=said _
@[simp] theorem z4m:Said (zac q26c15.eq_1):=said _
@[simp] theorem z4n:Said (zac q26c16.eq_1):=said _
@[simp] theorem z4o:Said (zac q26c17.eq_1):=said _
@[simp] theorem ybx:Said (zac q26c18.eq_1):=said _
@[simp] theorem zyy:Said (And.intro (zac q26c0.eq_1) (And.intro (zac q26c1.eq_1) (And.intro (zac q26l0.eq_1) (And.intro (zac q26c2.eq_1) (And.intro (zac q26c3.eq_1) (And.intro (zac q26l1.eq_1) (And.intro (zac q26c4.eq_1) (And.intro (zac q26c5.eq_1) (And.intro (zac q26l2.eq_1) (And.intro (zac q26c6.eq_1) (And.intro (zac q26c7.eq_1) (And.intro (zac q26l3.eq_1) (And.intro (zac q26c8.eq_1) (And.intro (zac q26c9.eq_1) (And.intro (zac q26l4.eq_1) (And.intro (zac q26c10.eq_1) (And.intro (zac q26c11.eq_1) (zac q26l5.eq_1)))))))))))))))))):=said _
@[simp] def q26:QFn:=⟨115,[(.tmp 2,9)],.seq (r26 0) (.seq (.seq (r26 1) (.cond (.tmp 19) (.seq (r26 2) (.ret)) (.skip))) (q26c18))⟩
theorem Cv26:zap Tryz.f26=some q26:=by kernel_rfl
abbrev Fn27:FuncId:=27
noncomputable def rF27:=RF Tryz.f27
noncomputable def r27:=RC Tryz.f27
def q27c0:zab:=r27 9
def q27c1:zab:=r27 5
def q27c2:zab:=.seq (.block 1 (.seq (rF27 6) (.seq (.seq (r27 7) (.cond (.tmp 36) (.seq (r27 8) (.ret)) (.skip))) (q27c0)))) (q27c1)
def q27l0:zab:=.seq (.seq (r27 4) (.cond (.tmp 23) (.skip) (.exit 0))) (q27c2)
def q27c3:zab:=.seq (r27 12) (.ret)
def q27c4:zab:=.seq (.seq (r27 10) (.cond (.tmp 52) (.seq (r27 11) (.ret)) (.skip))) (q27c3)
@[simp] theorem ylv:Said (by and_intros<;>cbv:r27 0=_/\r27 1=_/\r27 2=_/\r27 3=_/\r27 4=_/\rF27 6=_/\r27 7=_/\r27 8=_/\r27 9=_/\r27 5=_/\r27 10=_/\r27 11=_/\r27 12=_):=said _
@[simp] theorem z4p:Said (zac q27c4.eq_1):=said _
@[simp] theorem zyz:Said (And.intro (zac q27c0.eq_1) (And.intro (zac q27c1.eq_1) (And.intro (zac q27c2.eq_1) (And.intro (zac q27l0.eq_1) (zac q27c3.eq_1))))):=said _
@[simp] def q27:QFn:=⟨55,[(.cell 2 29,29),(.tmp 3,4)],.seq (r27 0) (.seq (r27 1) (.seq (r27 2) (.seq (.seq (r27 3) (.block 0 (.loop q27l0))) (q27c4))))⟩
theorem Cv27:zap Tryz.f27=some q27:=by kernel_rfl
abbrev Fn28:FuncId:=28
noncomputable def r28:=RC Tryz.f28
def q28c0:zab:=.seq (r28 11) (.ret)
def q28c1:zab:=.seq (.seq (r28 9) (.cond (.tmp 31) (.seq (r28 10) (.ret)) (.skip))) (q28c0)
def q28c2:zab:=.seq (r28 4) (.seq (.seq (r28 5) (.block 0 (.range 22 [23] (r28 6) (.block 1 (.seq (r28 7) (.cond (.tmp 26) (.seq (r28 8) (.ret)) (.skip))))))) (q28c1))
@[simp] theorem ylw:Said (by and_intros<;>cbv:r28 0=_/\r28 1=_/\r28 2=_/\r28 3=_/\r28 4=_/\r28 5=_/\r28 6=_/\r28 7=_/\r28 8=_/\r28 9=_/\r28 10=_/\r28 11=_):=said _
@[simp] theorem yed:Said (zac q28c1.eq_1):=said _
@[simp] theorem zy0:Said (And.intro (zac q28c0.eq_1) (zac q28c2.eq_1)):=said _
@[simp] def q28:QFn:=⟨34,[(.cell 2 29,29),(.cell 3 4,4)],.seq (r28 0) (.seq (r28 1) (.seq (.seq (r28 2) (.cond (.tmp 19) (.seq (r28 3) (.ret)) (.skip))) (q28c2)))⟩
theorem Cv28:zap Tryz.f28=some q28:=by kernel_rfl
abbrev Fn29:FuncId:=29
noncomputable def r29:=RC Tryz.f29
def q29c0:zab:=.seq (r29 19) (.ret)
def q29c1:zab:=.seq (r29 16) (.seq (.seq (r29 17) (.cond (.tmp 40) (.seq (r29 18) (.ret)) (.skip))) (q29c0))
def q29c2:zab:=.seq (r29 13) (.seq (.seq (r29 14) (.cond (.tmp 34) (.seq (r29 15) (.ret)) (.skip))) (q29c1))
def q29c3:zab:=.seq (r29 10) (.seq (.seq (r29 11) (.cond (.tmp 28) (.seq (r29 12) (.ret)) (.skip))) (q29c2))
def q29c4:zab:=.seq (r29 7) (.seq (.seq (r29 8) (.cond (.tmp 22) (.seq (r29 9) (.ret)) (.skip))) (q29c3))
def q29c5:zab:=.seq (r29 4) (.seq (.seq (r29 5) (.cond (.tmp 16) (.seq (r29 6) (.ret)) (.skip))) (q29c4))
@[simp] theorem ylx:Said (by and_intros<;>cbv:r29 0=_/\r29 1=_/\r29 2=_/\r29 3=_/\r29 4=_/\r29 5=_/\r29 6=_/\r29 7=_/\r29 8=_/\r29 9=_/\r29 10=_/\r29 11=_/\r29 12=_/\r29 13=_/\r29 14=_/\r29 15=_/\r29 16=_/\r29 17=_/\r29 18=_/\r29 19=_):=said _
@[simp] theorem zwz:Said (And.intro (zac q29c0.eq_1) (And.intro (zac q29c1.eq_1) (And.intro (zac q29c2.eq_1) (And.intro (zac q29c3.eq_1) (And.intro (zac q29c4.eq_1) (zac q29c5.eq_1)))))):=said _
@[simp] def q29:QFn:=⟨42,[(.tmp 4,3)],.seq (r29 0) (.seq (r29 1) (.seq (.seq (r29 2) (.cond (.tmp 10) (.seq (r29 3) (.ret)) (.skip))) (q29c5)))⟩
theorem Cv29:zap Tryz.f29=some q29:=by kernel_rfl
abbrev Fn35:FuncId:=35
noncomputable def r35:=RC Tryz.f35
def q35c0:zab:=.seq (r35 5) (.ret)
def q35c1:zab:=.seq (.seq (r35 3) (.cond (.tmp 35) (.seq (r35 4) (.ret)) (.skip))) (q35c0)
@[simp] theorem yly:Said (by and_intros<;>cbv:r35 0=_/\r35 1=_/\r35 2=_/\r35 3=_/\r35 4=_/\r35 5=_):=said _
@[simp] theorem zw0:Said (And.intro (zac q35c0.eq_1) (zac q35c1.eq_1)):=said _
@[simp] def q35:QFn:=⟨64,[(.tmp 2,4)],.seq (r35 0) (.seq (.seq (r35 1) (.cond (.tmp 18) (.seq (r35 2) (.ret)) (.skip))) (q35c1))⟩
theorem Cv35:zap Tryz.f35=some q35:=by kernel_rfl
abbrev Fn36:FuncId:=36
noncomputable def r36:=RC Tryz.f36
@[simp] theorem ylz:Said (by and_intros<;>cbv:r36 0=_/\r36 1=_/\r36 2=_/\r36 3=_/\r36 4=_):=said _
@[simp] def q36:QFn:=⟨39,[(.tmp 2,4)],.seq (r36 0) (.seq (r36 1) (.seq (r36 2) (.seq (r36 3) (.seq (r36 4) (.ret)))))⟩
theorem Cv36:zap Tryz.f36=some q36:=by kernel_rfl
abbrev Fn37:FuncId:=37
noncomputable def r37:=RC Tryz.f37
def q37c0:zab:=r37 8
def q37c1:zab:=.seq (.block 1 (.seq (r37 4) (.seq (r37 5) (.seq (r37 6) (.cond (.tmp 32) (.seq (r37 7) (.ret)) (.skip)))))) (q37c0)
def q37l0:zab:=.seq (r37 3) (.seq (.cond (.tmp 19) (.skip) (.exit 0)) (q37c1))
def q37c2:zab:=r37 16
def q37c3:zab:=r37 17
def q37c4:zab:=.seq (.block 3 (.seq (r37 12) (.seq (r37 13) (.seq (.seq (r37 14) (.cond (.tmp 49) (.seq (r37 15) (.ret)) (.skip))) (q37c2))))) (q37c3)
def q37l1:zab:=.seq (r37 11) (.seq (.cond (.tmp 39) (.skip) (.exit 2)) (q37c4))
def q37c5:zab:=.seq (r37 18) (.ret)
def q37c6:zab:=.seq (r37 9) (.seq (.seq (r37 10) (.block 2 (.loop q37l1))) (q37c5))
@[simp] theorem yl0:Said (by and_intros<;>cbv:r37 0=_/\r37 1=_/\r37 2=_/\r37 3=_/\r37 4=_/\r37 5=_/\r37 6=_/\r37 7=_/\r37 8=_/\r37 9=_/\r37 10=_/\r37 11=_/\r37 12=_/\r37 13=_/\r37 14=_/\r37 15=_/\r37 16=_/\r37 17=_/\r37 18=_):=said _
@[simp] theorem yee:Said (zac q37c6.eq_1):=said _
@[simp] theorem zvi:Said (And.intro (zac q37c0.eq_1) (And.intro (zac q37c1.eq_1) (And.intro (zac q37l0.eq_1) (And.intro (zac q37c2.eq_1) (And.intro (zac q37c3.eq_1) (And.intro (zac q37c4.eq_1) (And.intro (zac q37l1.eq_1) (zac q37c5.eq_1)))))))):=said _
@[simp] def q37:QFn:=⟨57,[(.tmp 2,27),(.tmp 3,3)],.seq (r37 0) (.seq (r37 1) (.seq (.seq (r37 2) (.block 0 (.loop q37l0))) (q37c6)))⟩
theorem Cv37:zap Tryz.f37=some q37:=by kernel_rfl
abbrev Fn38:FuncId:=38
noncomputable def r38:=RC Tryz.f38
def q38c0:zab:=r38 3
def q38c1:zab:=.seq (.block 1 (.seq (r38 4) (.cond (.tmp 31) (.seq (r38 5) (.ret)) (.skip)))) (q38c0)
def q38l0:zab:=.seq (.seq (r38 2) (.cond (.tmp 11) (.skip) (.exit 0))) (q38c1)
def q38c2:zab:=r38 8
def q38c3:zab:=.seq (.block 3 (.seq (r38 9) (.cond (.tmp 56) (.seq (r38 10) (.ret)) (.skip)))) (q38c2)
def q38l1:zab:=.seq (.seq (r38 7) (.cond (.tmp 36) (.skip) (.exit 2))) (q38c3)
def q38c4:zab:=r38 13
def q38c5:zab:=.seq (.block 5 (.seq (r38 14) (.cond (.tmp 70) (.seq (r38 15) (.ret)) (.skip)))) (q38c4)
def q38l2:zab:=.seq (.seq (r38 12) (.cond (.tmp 61) (.skip) (.exit 4))) (q38c5)
def q38c6:zab:=.seq (r38 16) (.seq (r38 17) (.ret))
def q38c7:zab:=.seq (.seq (r38 11) (.block 4 (.loop q38l2))) (q38c6)
def q38c8:zab:=.seq (.seq (r38 6) (.block 2 (.loop q38l1))) (q38c7)
@[simp] theorem yl1:Said (by and_intros<;>cbv:r38 0=_/\r38 1=_/\r38 2=_/\r38 4=_/\r38 5=_/\r38 3=_/\r38 6=_/\r38 7=_/\r38 9=_/\r38 10=_/\r38 8=_/\r38 11=_/\r38 12=_/\r38 14=_/\r38 15=_/\r38 13=_/\r38 16=_/\r38 17=_):=said _
@[simp] theorem yar:Said (zac q38c6.eq_1):=said _
@[simp] theorem yas:Said (zac q38c7.eq_1):=said _
@[simp] theorem yat:Said (zac q38c8.eq_1):=said _
@[simp] theorem z4q:Said (And.intro (zac q38c0.eq_1) (And.intro (zac q38c1.eq_1) (And.intro (zac q38l0.eq_1) (And.intro (zac q38c2.eq_1) (And.intro (zac q38c3.eq_1) (And.intro (zac q38l1.eq_1) (And.intro (zac q38c4.eq_1) (And.intro (zac q38c5.eq_1) (zac q38l2.eq_1))))))))):=said _
@[simp] def q38:QFn:=⟨119,[(.tmp 2,4)],.seq (r38 0) (.seq (.seq (r38 1) (.block 0 (.loop q38l0))) (q38c8))⟩
theorem Cv38:zap Tryz.f38=some q38:=by kernel_rfl
abbrev Fn39:FuncId:=39
noncomputable def r39:=RC Tryz.f39
def q39c0:zab:=r39 4
def q39c1:zab:=.seq (.block 1 (r39 5)) (q39c0)
def q39l0:zab:=.seq (.seq (r39 3) (.cond (.tmp 18) (.skip) (.exit 0))) (q39c1)
def q39c2:zab:=r39 9
def q39c3:zab:=.seq (.block 3 (r39 10)) (q39c2)
def q39l1:zab:=.seq (.seq (r39 8) (.cond (.tmp 35) (.skip) (.exit 2))) (q39c3)
def q39c4:zab:=r39 14
def q39c5:zab:=.seq (.block 5 (r39 15)) (q39c4)
def q39l2:zab:=.seq (.seq (r39 13) (.cond (.tmp 54) (.skip) (.exit 4))) (q39c5)
def q39c6:zab:=r39 19
def q39c7:zab:=.seq (.block 7 (r39 20)) (q39c6)
def q39l3:zab:=.seq (.seq (r39 18) (.cond (.tmp 71) (.skip) (.exit 6))) (q39c7)
def q39c8:zab:=r39 24
def q39c9:zab:=.seq (.block 9 (r39 25)) (q39c8)
def q39l4:zab:=.seq (.seq (r39 23) (.cond (.tmp 90) (.skip) (.exit 8))) (q39c9)
def q39c10:zab:=.seq (r39 26) (.ret)
def q39c11:zab:=.seq (r39 21) (.seq (.seq (r39 22) (.block 8 (.loop q39l4))) (q39c10))
def q39c12:zab:=.seq (r39 16) (.seq (.seq (r39 17) (.block 6 (.loop q39l3))) (q39c11))
def q39c13:zab:=.seq (r39 11) (.seq (.seq (r39 12) (.block 4 (.loop q39l2))) (q39c12))
def q39c14:zab:=.seq (r39 6) (.seq (.seq (r39 7) (.block 2 (.loop q39l1))) (q39c13))
@[simp] theorem yl2:Said (by and_intros<;>cbv:r39 0=_/\r39 1=_/\r39 2=_/\r39 3=_/\r39 5=_/\r39 4=_/\r39 6=_/\r39 7=_/\r39 8=_/\r39 10=_/\r39 9=_/\r39 11=_/\r39 12=_/\r39 13=_/\r39 15=_/\r39 14=_/\r39 16=_/\r39 17=_/\r39 18=_/\r39 20=_/\r39 19=_/\r39 21=_/\r39 22=_/\r39 23=_/\r39 25=_/\r39 24=_/\r39 26=_):=said _
@[simp] theorem yby:Said (zac q39c10.eq_1):=said _
@[simp] theorem ybz:Said (zac q39c11.eq_1):=said _
@[simp] theorem yb0:Said (zac q39c12.eq_1):=said _
@[simp] theorem yb1:Said (zac q39c13.eq_1):=said _
@[simp] theorem yb2:Said (zac q39c14.eq_1):=said _
@[simp] theorem z12:Said (And.intro (zac q39c0.eq_1) (And.intro (zac q39c1.eq_1) (And.intro (zac q39l0.eq_1) (And.intro (zac q39c2.eq_1) (And.intro (zac q39c3.eq_1) (And.intro (zac q39l1.eq_1) (And.intro (zac q39c4.eq_1) (And.intro (zac q39c5.eq_1) (And.intro (zac q39l2.eq_1) (And.intro (zac q39c6.eq_1) (And.intro (zac q39c7.eq_1) (And.intro (zac q39l3.eq_1) (And.intro (zac q39c8.eq_1) (And.intro (zac q39c9.eq_1) (zac q39l4.eq_1))))))))))))))):=said _
@[simp] def q39:QFn:=⟨120,[(.tmp 2,4)],.seq (r39 0) (.seq (r39 1) (.seq (.seq (r39 2) (.block 0 (.loop q39l0))) (q39c14)))⟩
theorem Cv39:zap Tryz.f39=some q39:=by kernel_rfl
abbrev Fn40:FuncId:=40
noncomputable def rD40:=RD Tryz.f40
noncomputable def r40:=RC Tryz.f40
def q40c0:zab:=r40 14
def q40c1:zab:=.seq (.block 4 (.seq (r40 15) (.cond (.tmp 58) (.seq (r40 16) (.ret)) (.skip)))) (q40c0)
def q40l0:zab:=.seq (.seq (r40 13) (.cond (.tmp 50) (.skip) (.exit 3))) (q40c1)
def q40c2:zab:=.seq (r40 20) (.seq (r40 21) (.seq (r40 22) (.cond (.tmp 84) (.seq (r40 23) (.ret)) (.skip))))
def q40c3:zab:=.seq (rD40 17 17) (.seq (.seq (r40 18) (.cond (.tmp 76) (.seq (r40 19) (.ret)) (.skip))) (q40c2))
def q40c4:zab:=.seq (.seq (r40 12) (.block 3 (.loop q40l0))) (q40c3)
def q40c5:zab:=.seq (r40 6) (.seq (r40 7) (.seq (.block 2 (.seq (r40 8) (.cond (.tmp 41) (.seq (r40 9) (.ret)) (.seq (r40 10) (.cond (.tmp 44) (.seq (r40 11) (.ret)) (.skip)))))) (q40c4)))
def q40c6:zab:=.block 1 (.seq (.seq (r40 3) (.cond (.tmp 25) (.seq (r40 4) (.seq (r40 5) (.exit 1))) (.skip))) (q40c5))
def q40l1:zab:=.seq (.seq (r40 2) (.cond (.tmp 17) (.skip) (.exit 0))) (q40c6)
def q40c7:zab:=.seq (r40 26) (.ret)
def q40c8:zab:=.seq (.seq (r40 24) (.cond (.tmp 87) (.seq (r40 25) (.ret)) (.skip))) (q40c7)
@[simp] theorem yl3:Said (by and_intros<;>cbv:r40 0=_/\r40 1=_/\r40 2=_/\r40 3=_/\r40 4=_/\r40 5=_/\r40 6=_/\r40 7=_/\r40 8=_/\r40 9=_/\r40 10=_/\r40 11=_/\r40 12=_/\r40 13=_/\r40 15=_/\r40 16=_/\r40 14=_/\rD40 17 17=_/\r40 18=_/\r40 19=_/\r40 20=_/\r40 21=_/\r40 22=_/\r40 23=_/\r40 24=_/\r40 25=_/\r40 26=_):=said _
@[simp] theorem z01:Said (And.intro (zac q40c0.eq_1) (And.intro (zac q40c1.eq_1) (And.intro (zac q40l0.eq_1) (And.intro (zac q40c2.eq_1) (And.intro (zac q40c3.eq_1) (And.intro (zac q40c4.eq_1) (And.intro (zac q40c5.eq_1) (And.intro (zac q40c6.eq_1) (And.intro (zac q40l1.eq_1) (And.intro (zac q40c7.eq_1) (zac q40c8.eq_1))))))))))):=said _
@[simp] def q40:QFn:=⟨89,[(.tmp 6,9),(.tmp 7,3)],.seq (r40 0) (.seq (r40 1) (.seq (.block 0 (.loop q40l1)) (q40c8)))⟩
theorem Cv40:zap Tryz.f40=some q40:=by kernel_rfl
abbrev Fn41:FuncId:=41
noncomputable def r41:=RC Tryz.f41
@[simp] theorem yl4:Said (by and_intros<;>cbv:r41 0=_/\r41 1=_):=said _
@[simp] def q41:QFn:=⟨13,[(.tmp 2,23)],.seq (r41 0) (.seq (r41 1) (.ret))⟩
theorem Cv41:zap Tryz.f41=some q41:=by kernel_rfl
abbrev Fn52:FuncId:=52
noncomputable def rD52:=RD Tryz.f52
noncomputable def r52:=RC Tryz.f52
def q52c0:zab:=r52 5
def q52c1:zab:=.seq (.block 1 (.seq (rD52 6 8) (.cond (.tmp 26) (.seq (r52 7) (.ret)) (.skip)))) (q52c0)
def q52l0:zab:=.seq (.seq (r52 4) (.cond (.tmp 14) (.skip) (.exit 0))) (q52c1)
def q52c2:zab:=.seq (r52 8) (.ret)
def q52c3:zab:=.seq (.seq (r52 3) (.block 0 (.loop q52l0))) (q52c2)
@[simp] theorem yl5:Said (by and_intros<;>cbv:r52 0=_/\r52 1=_/\r52 2=_/\r52 3=_/\r52 4=_/\rD52 6 8=_/\r52 7=_/\r52 5=_/\r52 8=_):=said _
@[simp] theorem z4r:Said (And.intro (zac q52c0.eq_1) (And.intro (zac q52c1.eq_1) (And.intro (zac q52l0.eq_1) (And.intro (zac q52c2.eq_1) (zac q52c3.eq_1))))):=said _
@[simp] def q52:QFn:=⟨27,[(.tmp 4,4)],.seq (r52 0) (.seq (.seq (r52 1) (.cond (.tmp 10) (.seq (r52 2) (.ret)) (.skip))) (q52c3))⟩
theorem Cv52:zap Tryz.f52=some q52:=by kernel_rfl
abbrev Fn53:FuncId:=53
noncomputable def rD53:=RD Tryz.f53
noncomputable def r53:=RC Tryz.f53
def q53c0:zab:=r53 5
def q53c1:zab:=.seq (.block 1 (.seq (rD53 6 8) (.cond (.tmp 26) (.seq (r53 7) (.ret)) (.skip)))) (q53c0)
def q53l0:zab:=.seq (.seq (r53 4) (.cond (.tmp 14) (.skip) (.exit 0))) (q53c1)
def q53c2:zab:=.seq (r53 8) (.ret)
def q53c3:zab:=.seq (.seq (r53 3) (.block 0 (.loop q53l0))) (q53c2)
@[simp] theorem yl6:Said (by and_intros<;>cbv:r53 0=_/\r53 1=_/\r53 2=_/\r53 3=_/\r53 4=_/\rD53 6 8=_/\r53 7=_/\r53 5=_/\r53 8=_):=said _
@[simp] theorem z13:Said (And.intro (zac q53c0.eq_1) (And.intro (zac q53c1.eq_1) (And.intro (zac q53l0.eq_1) (And.intro (zac q53c2.eq_1) (zac q53c3.eq_1))))):=said _
@[simp] def q53:QFn:=⟨27,[(.tmp 4,4)],.seq (r53 0) (.seq (.seq (r53 1) (.cond (.tmp 10) (.seq (r53 2) (.ret)) (.skip))) (q53c3))⟩
theorem Cv53:zap Tryz.f53=some q53:=by kernel_rfl
abbrev Fn54:FuncId:=54
noncomputable def rD54:=RD Tryz.f54
noncomputable def r54:=RC Tryz.f54
def q54c0:zab:=r54 5
def q54c1:zab:=.seq (.block 1 (.seq (rD54 6 8) (.cond (.tmp 26) (.seq (r54 7) (.ret)) (.skip)))) (q54c0)
def q54l0:zab:=.seq (.seq (r54 4) (.cond (.tmp 14) (.skip) (.exit 0))) (q54c1)
def q54c2:zab:=.seq (r54 8) (.ret)
def q54c3:zab:=.seq (.seq (r54 3) (.block 0 (.loop q54l0))) (q54c2)
@[simp] theorem yl7:Said (by and_intros<;>cbv:r54 0=_/\r54 1=_/\r54 2=_/\r54 3=_/\r54 4=_/\rD54 6 8=_/\r54 7=_/\r54 5=_/\r54 8=_):=said _
@[simp] theorem zy1:Said (And.intro (zac q54c0.eq_1) (And.intro (zac q54c1.eq_1) (And.intro (zac q54l0.eq_1) (And.intro (zac q54c2.eq_1) (zac q54c3.eq_1))))):=said _
@[simp] def q54:QFn:=⟨27,[(.tmp 4,4)],.seq (r54 0) (.seq (.seq (r54 1) (.cond (.tmp 10) (.seq (r54 2) (.ret)) (.skip))) (q54c3))⟩
theorem Cv54:zap Tryz.f54=some q54:=by kernel_rfl
abbrev Fn55:FuncId:=55
noncomputable def rD55:=RD Tryz.f55
noncomputable def r55:=RC Tryz.f55
def q55c0:zab:=r55 5
def q55c1:zab:=.seq (.block 1 (.seq (rD55 6 8) (.cond (.tmp 26) (.seq (r55 7) (.ret)) (.skip)))) (q55c0)
def q55l0:zab:=.seq (.seq (r55 4) (.cond (.tmp 14) (.skip) (.exit 0))) (q55c1)
def q55c2:zab:=.seq (r55 8) (.ret)
def q55c3:zab:=.seq (.seq (r55 3) (.block 0 (.loop q55l0))) (q55c2)
@[simp] theorem yl8:Said (by and_intros<;>cbv:r55 0=_/\r55 1=_/\r55 2=_/\r55 3=_/\r55 4=_/\rD55 6 8=_/\r55 7=_/\r55 5=_/\r55 8=_):=said _
@[simp] theorem z02:Said (And.intro (zac q55c0.eq_1) (And.intro (zac q55c1.eq_1) (And.intro (zac q55l0.eq_1) (And.intro (zac q55c2.eq_1) (zac q55c3.eq_1))))):=said _
@[simp] def q55:QFn:=⟨27,[(.tmp 4,4)],.seq (r55 0) (.seq (.seq (r55 1) (.cond (.tmp 10) (.seq (r55 2) (.ret)) (.skip))) (q55c3))⟩
theorem Cv55:zap Tryz.f55=some q55:=by kernel_rfl
abbrev Fn56:FuncId:=56
noncomputable def r56:=RC Tryz.f56
def q56c0:zab:=r56 3
def q56c1:zab:=.seq (.block 1 (.seq (r56 4) (.seq (r56 5) (.seq (r56 6) (r56 7))))) (q56c0)
def q56l0:zab:=.seq (.seq (r56 2) (.cond (.tmp 9) (.skip) (.exit 0))) (q56c1)
def q56c2:zab:=.seq (r56 8) (.ret)
@[simp] theorem yl9:Said (by and_intros<;>cbv:r56 0=_/\r56 1=_/\r56 2=_/\r56 4=_/\r56 5=_/\r56 6=_/\r56 7=_/\r56 3=_/\r56 8=_):=said _
@[simp] theorem z03:Said (And.intro (zac q56c0.eq_1) (And.intro (zac q56c1.eq_1) (And.intro (zac q56l0.eq_1) (zac q56c2.eq_1)))):=said _
@[simp] def q56:QFn:=⟨29,[(.tmp 4,3)],.seq (r56 0) (.seq (.seq (r56 1) (.block 0 (.loop q56l0))) (q56c2))⟩
theorem Cv56:zap Tryz.f56=some q56:=by kernel_rfl
abbrev Fn57:FuncId:=57
noncomputable def r57:=RC Tryz.f57
def q57c0:zab:=r57 3
def q57c1:zab:=.seq (.block 1 (.seq (r57 4) (.seq (r57 5) (.seq (r57 6) (.seq (r57 7) (.seq (r57 8) (r57 9))))))) (q57c0)
def q57l0:zab:=.seq (.seq (r57 2) (.cond (.tmp 9) (.skip) (.exit 0))) (q57c1)
def q57c2:zab:=.seq (r57 10) (.ret)
@[simp] theorem yma:Said (by and_intros<;>cbv:r57 0=_/\r57 1=_/\r57 2=_/\r57 4=_/\r57 5=_/\r57 6=_/\r57 7=_/\r57 8=_/\r57 9=_/\r57 3=_/\r57 10=_):=said _
@[simp] theorem zy2:Said (And.intro (zac q57c0.eq_1) (And.intro (zac q57c1.eq_1) (And.intro (zac q57l0.eq_1) (zac q57c2.eq_1)))):=said _
@[simp] def q57:QFn:=⟨36,[(.tmp 4,3)],.seq (r57 0) (.seq (.seq (r57 1) (.block 0 (.loop q57l0))) (q57c2))⟩
theorem Cv57:zap Tryz.f57=some q57:=by kernel_rfl
abbrev Fn58:FuncId:=58
noncomputable def r58:=RC Tryz.f58
def q58c0:zab:=r58 3
def q58c1:zab:=.seq (.block 1 (.seq (r58 4) (.seq (r58 5) (.seq (r58 6) (r58 7))))) (q58c0)
def q58l0:zab:=.seq (.seq (r58 2) (.cond (.tmp 9) (.skip) (.exit 0))) (q58c1)
def q58c2:zab:=.seq (r58 8) (.ret)
@[simp] theorem ymb:Said (by and_intros<;>cbv:r58 0=_/\r58 1=_/\r58 2=_/\r58 4=_/\r58 5=_/\r58 6=_/\r58 7=_/\r58 3=_/\r58 8=_):=said _
@[simp] theorem zvj:Said (And.intro (zac q58c0.eq_1) (And.intro (zac q58c1.eq_1) (And.intro (zac q58l0.eq_1) (zac q58c2.eq_1)))):=said _
@[simp] def q58:QFn:=⟨29,[(.tmp 4,3)],.seq (r58 0) (.seq (.seq (r58 1) (.block 0 (.loop q58l0))) (q58c2))⟩
theorem Cv58:zap Tryz.f58=some q58:=by kernel_rfl
abbrev Fn59:FuncId:=59
noncomputable def r59:=RC Tryz.f59
def q59c0:zab:=r59 3
def q59c1:zab:=.seq (.block 1 (.seq (r59 4) (.seq (r59 5) (.seq (r59 6) (r59 7))))) (q59c0)
def q59l0:zab:=.seq (.seq (r59 2) (.cond (.tmp 9) (.skip) (.exit 0))) (q59c1)
def q59c2:zab:=.seq (r59 8) (.ret)
@[simp] theorem ymc:Said (by and_intros<;>cbv:r59 0=_/\r59 1=_/\r59 2=_/\r59 4=_/\r59 5=_/\r59 6=_/\r59 7=_/\r59 3=_/\r59 8=_):=said _
@[simp] theorem zw1:Said (And.intro (zac q59c0.eq_1) (And.intro (zac q59c1.eq_1) (And.intro (zac q59l0.eq_1) (zac q59c2.eq_1)))):=said _
@[simp] def q59:QFn:=⟨29,[(.tmp 4,3)],.seq (r59 0) (.seq (.seq (r59 1) (.block 0 (.loop q59l0))) (q59c2))⟩
theorem Cv59:zap Tryz.f59=some q59:=by kernel_rfl
abbrev Fn60:FuncId:=60
noncomputable def r60:=RC Tryz.f60
def q60c0:zab:=.block 1 (.seq (r60 5) (r60 6))
def q60l0:zab:=.seq (.seq (r60 4) (.cond (.tmp 7) (.skip) (.exit 0))) (q60c0)
def q60c1:zab:=.seq (r60 7) (.ret)
def q60c2:zab:=.seq (r60 3) (.seq (.block 0 (.loop q60l0)) (q60c1))
@[simp] theorem ymd:Said (by and_intros<;>cbv:r60 0=_/\r60 1=_/\r60 2=_/\r60 3=_/\r60 4=_/\r60 5=_/\r60 6=_/\r60 7=_):=said _
@[simp] theorem z04:Said (And.intro (zac q60c0.eq_1) (And.intro (zac q60l0.eq_1) (And.intro (zac q60c1.eq_1) (zac q60c2.eq_1)))):=said _
@[simp] def q60:QFn:=⟨20,[(.tmp 2,9)],.seq (r60 0) (.seq (.seq (r60 1) (.cond (.tmp 5) (.seq (r60 2) (.ret)) (.skip))) (q60c2))⟩
theorem Cv60:zap Tryz.f60=some q60:=by kernel_rfl
abbrev Fn61:FuncId:=61
noncomputable def rD61:=RD Tryz.f61
noncomputable def r61:=RC Tryz.f61
def q61c0:zab:=r61 4
def q61c1:zab:=.seq (.block 1 (rD61 5 16)) (q61c0)
def q61l0:zab:=.seq (.seq (r61 3) (.cond (.tmp 22) (.skip) (.exit 0))) (q61c1)
def q61c2:zab:=r61 8
def q61c3:zab:=.seq (.block 3 (r61 9)) (q61c2)
def q61l1:zab:=.seq (.seq (r61 7) (.cond (.tmp 47) (.skip) (.exit 2))) (q61c3)
def q61c4:zab:=r61 12
def q61c5:zab:=.seq (.block 5 (r61 13)) (q61c4)
def q61l2:zab:=.seq (.seq (r61 11) (.cond (.tmp 64) (.skip) (.exit 4))) (q61c5)
def q61c6:zab:=r61 16
def q61c7:zab:=.seq (.block 7 (rD61 17 16)) (q61c6)
def q61l3:zab:=.seq (.seq (r61 15) (.cond (.tmp 81) (.skip) (.exit 6))) (q61c7)
def q61c8:zab:=r61 20
def q61c9:zab:=.seq (.block 9 (rD61 21 16)) (q61c8)
def q61l4:zab:=.seq (.seq (r61 19) (.cond (.tmp 106) (.skip) (.exit 8))) (q61c9)
def q61c10:zab:=r61 24
def q61c11:zab:=.seq (.block 11 (r61 25)) (q61c10)
def q61l5:zab:=.seq (.seq (r61 23) (.cond (.tmp 131) (.skip) (.exit 10))) (q61c11)
def q61c12:zab:=.seq (r61 26) (.ret)
def q61c13:zab:=.seq (.seq (r61 22) (.block 10 (.loop q61l5))) (q61c12)
def q61c14:zab:=.seq (.seq (r61 18) (.block 8 (.loop q61l4))) (q61c13)
def q61c15:zab:=.seq (.seq (r61 14) (.block 6 (.loop q61l3))) (q61c14)
def q61c16:zab:=.seq (.seq (r61 10) (.block 4 (.loop q61l2))) (q61c15)
def q61c17:zab:=.seq (.seq (r61 6) (.block 2 (.loop q61l1))) (q61c16)
@[simp] theorem yme:Said (by and_intros<;>cbv:r61 0=_/\r61 1=_/\r61 2=_/\r61 3=_/\rD61 5 16=_/\r61 4=_/\r61 6=_/\r61 7=_/\r61 9=_/\r61 8=_/\r61 10=_/\r61 11=_/\r61 13=_/\r61 12=_/\r61 14=_/\r61 15=_/\rD61 17 16=_/\r61 16=_/\r61 18=_/\r61 19=_/\rD61 21 16=_/\r61 20=_/\r61 22=_/\r61 23=_/\r61 25=_/\r61 24=_/\r61 26=_):=said _
@[simp] theorem zw2:Said (zac q61c12.eq_1):=said _
@[simp] theorem z4s:Said (zac q61c13.eq_1):=said _
@[simp] theorem z4t:Said (zac q61c14.eq_1):=said _
@[simp] theorem z4u:Said (zac q61c15.eq_1):=said _
@[simp] theorem z4v:Said (zac q61c16.eq_1):=said _
@[simp] theorem z4w:Said (zac q61c17.eq_1):=said _
@[simp] theorem z69:Said (And.intro (zac q61c0.eq_1) (And.intro (zac q61c1.eq_1) (And.intro (zac q61l0.eq_1) (And.intro (zac q61c2.eq_1) (And.intro (zac q61c3.eq_1) (And.intro (zac q61l1.eq_1) (And.intro (zac q61c4.eq_1) (And.intro (zac q61c5.eq_1) (And.intro (zac q61l2.eq_1) (And.intro (zac q61c6.eq_1) (And.intro (zac q61c7.eq_1) (And.intro (zac q61l3.eq_1) (And.intro (zac q61c8.eq_1) (And.intro (zac q61c9.eq_1) (And.intro (zac q61l4.eq_1) (And.intro (zac q61c10.eq_1) (And.intro (zac q61c11.eq_1) (zac q61l5.eq_1)))))))))))))))))):=said _
@[simp] def q61:QFn:=⟨144,[(.tmp 2,9)],.seq (r61 0) (.seq (r61 1) (.seq (.seq (r61 2) (.block 0 (.loop q61l0))) (q61c17)))⟩
theorem Cv61:zap Tryz.f61=some q61:=by kernel_rfl
abbrev Fn62:FuncId:=62
noncomputable def r62:=RC Tryz.f62
@[simp] theorem ymf:Said (by and_intros<;>cbv:r62 0=_):=said _
@[simp] def q62:QFn:=⟨7,[],r62 0⟩
theorem Cv62:zap Tryz.f62=some q62:=by kernel_rfl
noncomputable def r63:=RC Tryz.f63
@[simp] theorem ymg:Said (by and_intros<;>cbv:r63 0=_/\r63 1=_/\r63 2=_/\r63 3=_):=said _
@[simp] def q63:QFn:=⟨19,[(.tmp 4,3),(.tmp 5,88)],.seq (r63 0) (.seq (r63 1) (.seq (r63 2) (.seq (r63 3) (.ret))))⟩
theorem Cv63:zap Tryz.f63=some q63:=by kernel_rfl
abbrev Fn65:FuncId:=65
noncomputable def r65:=RC Tryz.f65
def q65c0:zab:=.seq (r65 10) (.ret)
def q65c1:zab:=.seq (.seq (r65 3) (.block 0 (.seq (r65 4) (.cond (.tmp 8) (.seq (r65 5) (.ret)) (.seq (r65 6) (.cond (.tmp 16) (.seq (r65 7) (.ret)) (.seq (r65 8) (.cond (.tmp 24) (.seq (r65 9) (.ret)) (.skip))))))))) (q65c0)
@[simp] theorem ymh:Said (by and_intros<;>cbv:r65 0=_/\r65 1=_/\r65 2=_/\r65 3=_/\r65 4=_/\r65 5=_/\r65 6=_/\r65 7=_/\r65 8=_/\r65 9=_/\r65 10=_):=said _
@[simp] theorem z14:Said (And.intro (zac q65c0.eq_1) (zac q65c1.eq_1)):=said _
@[simp] def q65:QFn:=⟨34,[(.tmp 2,9)],.seq (r65 0) (.seq (.seq (r65 1) (.cond (.tmp 5) (.seq (r65 2) (.ret)) (.skip))) (q65c1))⟩
theorem Cv65:zap Tryz.f65=some q65:=by kernel_rfl
abbrev Fn67:FuncId:=67
noncomputable def r67:=RC Tryz.f67
def q67c0:zab:=r67 5
def q67c1:zab:=.seq (.block 1 (.seq (r67 6) (.cond (.tmp 27) (.seq (r67 7) (r67 8)) (.skip)))) (q67c0)
def q67l0:zab:=.seq (.seq (r67 4) (.cond (.tmp 20) (.skip) (.exit 0))) (q67c1)
def q67c2:zab:=.seq (r67 9) (.ret)
@[simp] theorem ymi:Said (by and_intros<;>cbv:r67 0=_/\r67 1=_/\r67 2=_/\r67 3=_/\r67 4=_/\r67 6=_/\r67 7=_/\r67 8=_/\r67 5=_/\r67 9=_):=said _
@[simp] theorem z7a:Said (And.intro (zac q67c0.eq_1) (And.intro (zac q67c1.eq_1) (And.intro (zac q67l0.eq_1) (zac q67c2.eq_1)))):=said _
@[simp] def q67:QFn:=⟨43,[(.tmp 6,27)],.seq (r67 0) (.seq (r67 1) (.seq (r67 2) (.seq (.seq (r67 3) (.block 0 (.loop q67l0))) (q67c2))))⟩
theorem Cv67:zap Tryz.f67=some q67:=by kernel_rfl
abbrev Fn68:FuncId:=68
noncomputable def r68:=RC Tryz.f68
def q68c0:zab:=.seq (r68 23) (.ret)
@[simp] theorem ymj:Said (by and_intros<;>cbv:r68 0=_/\r68 1=_/\r68 2=_/\r68 3=_/\r68 5=_/\r68 6=_/\r68 7=_/\r68 8=_/\r68 9=_/\r68 10=_/\r68 11=_/\r68 12=_/\r68 13=_/\r68 14=_/\r68 15=_/\r68 16=_/\r68 17=_/\r68 18=_/\r68 19=_/\r68 20=_/\r68 21=_/\r68 22=_/\r68 4=_/\r68 23=_):=said _
@[simp] theorem z4x:Said (zac q68c0.eq_1):=said _
@[simp] def q68:QFn:=⟨99,[(.cell 4 29,29),(.tmp 5,4)],.seq (r68 0) (.seq (r68 1) (.seq (r68 2) (.seq (.seq (r68 3) (.block 0 (.seq (r68 5) (.cond (.tmp 26) (r68 6) (.seq (r68 7) (.cond (.tmp 30) (r68 8) (.seq (r68 9) (.cond (.tmp 34) (r68 10) (.seq (r68 11) (.cond (.tmp 44) (.seq (r68 12) (r68 13)) (.seq (r68 14) (.cond (.tmp 57) (.seq (r68 15) (r68 16)) (.seq (r68 17) (.cond (.tmp 70) (r68 18) (.seq (r68 19) (.cond (.tmp 80) (r68 20) (.seq (r68 21) (.cond (.tmp 90) (r68 22) (.seq (r68 4) (.ret)))))))))))))))))))) (q68c0))))⟩
theorem Cv68:zap Tryz.f68=some q68:=by kernel_rfl
abbrev Fn69:FuncId:=69
noncomputable def r69:=RC Tryz.f69
@[simp] theorem ymk:Said (by and_intros<;>cbv:r69 0=_/\r69 1=_):=said _
@[simp] def q69:QFn:=⟨11,[(.tmp 4,9),(.tmp 5,4)],.seq (r69 0) (.seq (r69 1) (.ret))⟩
theorem Cv69:zap Tryz.f69=some q69:=by kernel_rfl
abbrev Fn71:FuncId:=71
noncomputable def rD71:=RD Tryz.f71
noncomputable def r71:=RC Tryz.f71
def q71c0:zab:=.seq (r71 25) (.ret)
@[simp] theorem yml:Said (by and_intros<;>cbv:r71 0=_/\r71 1=_/\r71 2=_/\r71 3=_/\r71 4=_/\r71 5=_/\r71 7=_/\r71 8=_/\r71 9=_/\r71 10=_/\r71 11=_/\r71 12=_/\r71 13=_/\r71 14=_/\rD71 15 7=_/\r71 16=_/\r71 17=_/\rD71 18 7=_/\r71 19=_/\r71 20=_/\r71 21=_/\r71 22=_/\r71 23=_/\r71 24=_/\r71 6=_/\r71 25=_):=said _
@[simp] theorem zp7:Said (zac q71c0.eq_1):=said _
@[simp] def q71:QFn:=⟨127,[(.tmp 4,4)],.seq (r71 0) (.seq (r71 1) (.seq (r71 2) (.seq (r71 3) (.seq (r71 4) (.seq (.seq (r71 5) (.block 0 (.seq (r71 7) (.cond (.tmp 26) (r71 8) (.seq (r71 9) (.cond (.tmp 32) (r71 10) (.seq (r71 11) (.cond (.tmp 38) (r71 12) (.seq (r71 13) (.cond (.tmp 52) (.seq (r71 14) (rD71 15 7)) (.seq (r71 16) (.cond (.tmp 69) (.seq (r71 17) (rD71 18 7)) (.seq (r71 19) (.cond (.tmp 86) (r71 20) (.seq (r71 21) (.cond (.tmp 100) (r71 22) (.seq (r71 23) (.cond (.tmp 114) (r71 24) (r71 6))))))))))))))))))) (q71c0))))))⟩
theorem Cv71:zap Tryz.f71=some q71:=by kernel_rfl
abbrev Fn72:FuncId:=72
noncomputable def rD72:=RD Tryz.f72
noncomputable def r72:=RC Tryz.f72
def q72c0:zab:=r72 9
def q72c1:zab:=.seq (r72 6) (.seq (.seq (rD72 7 7) (.cond (.tmp 29) (.seq (r72 8) (.ret)) (.skip))) (q72c0))
def q72c2:zab:=r72 3
def q72c3:zab:=.seq (.block 1 (.seq (.seq (rD72 4 7) (.cond (.tmp 19) (.seq (r72 5) (.ret)) (.skip))) (q72c1))) (q72c2)
def q72l0:zab:=.seq (.seq (r72 2) (.cond (.tmp 9) (.skip) (.exit 0))) (q72c3)
def q72c4:zab:=.seq (r72 10) (.ret)
@[simp] theorem ymm:Said (by and_intros<;>cbv:r72 0=_/\r72 1=_/\r72 2=_/\rD72 4 7=_/\r72 5=_/\r72 6=_/\rD72 7 7=_/\r72 8=_/\r72 9=_/\r72 3=_/\r72 10=_):=said _
@[simp] theorem z05:Said (And.intro (zac q72c0.eq_1) (And.intro (zac q72c1.eq_1) (And.intro (zac q72c2.eq_1) (And.intro (zac q72c3.eq_1) (And.intro (zac q72l0.eq_1) (zac q72c4.eq_1)))))):=said _
@[simp] def q72:QFn:=⟨33,[(.tmp 4,3)],.seq (r72 0) (.seq (.seq (r72 1) (.block 0 (.loop q72l0))) (q72c4))⟩
theorem Cv72:zap Tryz.f72=some q72:=by kernel_rfl
abbrev Fn73:FuncId:=73
noncomputable def rD73:=RD Tryz.f73
noncomputable def r73:=RC Tryz.f73
def q73c0:zab:=r73 12
def q73c1:zab:=.seq (r73 9) (.seq (.seq (rD73 10 7) (.cond (.tmp 38) (.seq (r73 11) (.ret)) (.skip))) (q73c0))
def q73c2:zab:=.seq (r73 6) (.seq (.seq (r73 7) (.cond (.tmp 28) (.seq (r73 8) (.ret)) (.skip))) (q73c1))
def q73c3:zab:=r73 3
def q73c4:zab:=.seq (.block 1 (.seq (.seq (rD73 4 7) (.cond (.tmp 19) (.seq (r73 5) (.ret)) (.skip))) (q73c2))) (q73c3)
def q73l0:zab:=.seq (.seq (r73 2) (.cond (.tmp 9) (.skip) (.exit 0))) (q73c4)
def q73c5:zab:=.seq (r73 13) (.ret)
@[simp] theorem ymn:Said (by and_intros<;>cbv:r73 0=_/\r73 1=_/\r73 2=_/\rD73 4 7=_/\r73 5=_/\r73 6=_/\r73 7=_/\r73 8=_/\r73 9=_/\rD73 10 7=_/\r73 11=_/\r73 12=_/\r73 3=_/\r73 13=_):=said _
@[simp] theorem zy3:Said (And.intro (zac q73c0.eq_1) (And.intro (zac q73c1.eq_1) (And.intro (zac q73c2.eq_1) (And.intro (zac q73c3.eq_1) (And.intro (zac q73c4.eq_1) (And.intro (zac q73l0.eq_1) (zac q73c5.eq_1))))))):=said _
@[simp] def q73:QFn:=⟨42,[(.tmp 4,3)],.seq (r73 0) (.seq (.seq (r73 1) (.block 0 (.loop q73l0))) (q73c5))⟩
theorem Cv73:zap Tryz.f73=some q73:=by kernel_rfl
abbrev Fn74:FuncId:=74
noncomputable def rD74:=RD Tryz.f74
noncomputable def r74:=RC Tryz.f74
def q74c0:zab:=r74 9
def q74c1:zab:=.seq (r74 6) (.seq (.seq (rD74 7 7) (.cond (.tmp 29) (.seq (r74 8) (.ret)) (.skip))) (q74c0))
def q74c2:zab:=r74 3
def q74c3:zab:=.seq (.block 1 (.seq (.seq (rD74 4 7) (.cond (.tmp 19) (.seq (r74 5) (.ret)) (.skip))) (q74c1))) (q74c2)
def q74l0:zab:=.seq (.seq (r74 2) (.cond (.tmp 9) (.skip) (.exit 0))) (q74c3)
def q74c4:zab:=.seq (r74 10) (.ret)
@[simp] theorem ymo:Said (by and_intros<;>cbv:r74 0=_/\r74 1=_/\r74 2=_/\rD74 4 7=_/\r74 5=_/\r74 6=_/\rD74 7 7=_/\r74 8=_/\r74 9=_/\r74 3=_/\r74 10=_):=said _
@[simp] theorem zvk:Said (And.intro (zac q74c0.eq_1) (And.intro (zac q74c1.eq_1) (And.intro (zac q74c2.eq_1) (And.intro (zac q74c3.eq_1) (And.intro (zac q74l0.eq_1) (zac q74c4.eq_1)))))):=said _
@[simp] def q74:QFn:=⟨33,[(.tmp 4,3)],.seq (r74 0) (.seq (.seq (r74 1) (.block 0 (.loop q74l0))) (q74c4))⟩
theorem Cv74:zap Tryz.f74=some q74:=by kernel_rfl
abbrev Fn75:FuncId:=75
noncomputable def rD75:=RD Tryz.f75
noncomputable def r75:=RC Tryz.f75
def q75c0:zab:=r75 9
def q75c1:zab:=.seq (r75 6) (.seq (.seq (rD75 7 7) (.cond (.tmp 29) (.seq (r75 8) (.ret)) (.skip))) (q75c0))
def q75c2:zab:=r75 3
def q75c3:zab:=.seq (.block 1 (.seq (.seq (rD75 4 7) (.cond (.tmp 19) (.seq (r75 5) (.ret)) (.skip))) (q75c1))) (q75c2)
def q75l0:zab:=.seq (.seq (r75 2) (.cond (.tmp 9) (.skip) (.exit 0))) (q75c3)
def q75c4:zab:=.seq (r75 10) (.ret)
@[simp] theorem ymp:Said (by and_intros<;>cbv:r75 0=_/\r75 1=_/\r75 2=_/\rD75 4 7=_/\r75 5=_/\r75 6=_/\rD75 7 7=_/\r75 8=_/\r75 9=_/\r75 3=_/\r75 10=_):=said _
@[simp] theorem zw3:Said (And.intro (zac q75c0.eq_1) (And.intro (zac q75c1.eq_1) (And.intro (zac q75c2.eq_1) (And.intro (zac q75c3.eq_1) (And.intro (zac q75l0.eq_1) (zac q75c4.eq_1)))))):=said _
@[simp] def q75:QFn:=⟨33,[(.tmp 4,3)],.seq (r75 0) (.seq (.seq (r75 1) (.block 0 (.loop q75l0))) (q75c4))⟩
theorem Cv75:zap Tryz.f75=some q75:=by kernel_rfl
abbrev Fn85:FuncId:=85
noncomputable def r85:=RC Tryz.f85
def q85c0:zab:=r85 8
def q85c1:zab:=.seq (.block 1 (.seq (r85 5) (.seq (r85 6) (.cond (.tmp 47) (.seq (r85 7) (.ret)) (.skip))))) (q85c0)
def q85l0:zab:=.seq (r85 4) (.seq (.cond (.tmp 24) (.skip) (.exit 0)) (q85c1))
def q85c2:zab:=.seq (r85 9) (.ret)
def q85c3:zab:=.seq (.seq (r85 3) (.block 0 (.loop q85l0))) (q85c2)
@[simp] theorem ymq:Said (by and_intros<;>cbv:r85 0=_/\r85 1=_/\r85 2=_/\r85 3=_/\r85 4=_/\r85 5=_/\r85 6=_/\r85 7=_/\r85 8=_/\r85 9=_):=said _
@[simp] theorem zw4:Said (And.intro (zac q85c0.eq_1) (And.intro (zac q85c1.eq_1) (And.intro (zac q85l0.eq_1) (And.intro (zac q85c2.eq_1) (zac q85c3.eq_1))))):=said _
@[simp] def q85:QFn:=⟨49,[(.tmp 2,4)],.seq (r85 0) (.seq (.seq (r85 1) (.cond (.tmp 20) (.seq (r85 2) (.ret)) (.skip))) (q85c3))⟩
theorem Cv85:zap Tryz.f85=some q85:=by kernel_rfl
abbrev Fn86:FuncId:=86
noncomputable def r86:=RC Tryz.f86
@[simp] theorem ymr:Said (by and_intros<;>cbv:r86 0=_/\r86 1=_/\r86 2=_):=said _
@[simp] def q86:QFn:=⟨11,[(.tmp 2,4)],.seq (r86 0) (.seq (r86 1) (.seq (r86 2) (.ret)))⟩
theorem Cv86:zap Tryz.f86=some q86:=by kernel_rfl
abbrev Fn87:FuncId:=87
noncomputable def r87:=RC Tryz.f87
def q87c0:zab:=r87 6
def q87c1:zab:=.seq (.block 1 (.seq (r87 3) (.seq (r87 4) (.cond (.tmp 16) (.seq (r87 5) (.ret)) (.skip))))) (q87c0)
def q87l0:zab:=.seq (r87 2) (.seq (.cond (.tmp 10) (.skip) (.exit 0)) (q87c1))
def q87c2:zab:=.seq (r87 7) (.ret)
@[simp] theorem yms:Said (by and_intros<;>cbv:r87 0=_/\r87 1=_/\r87 2=_/\r87 3=_/\r87 4=_/\r87 5=_/\r87 6=_/\r87 7=_):=said _
@[simp] theorem zy4:Said (And.intro (zac q87c0.eq_1) (And.intro (zac q87c1.eq_1) (And.intro (zac q87l0.eq_1) (zac q87c2.eq_1)))):=said _
@[simp] def q87:QFn:=⟨18,[(.tmp 4,4)],.seq (r87 0) (.seq (.seq (r87 1) (.block 0 (.loop q87l0))) (q87c2))⟩
theorem Cv87:zap Tryz.f87=some q87:=by kernel_rfl
abbrev Fn88:FuncId:=88
noncomputable def r88:=RC Tryz.f88
@[simp] theorem ymt:Said (by and_intros<;>cbv:r88 0=_/\r88 1=_):=said _
@[simp] def q88:QFn:=⟨11,[(.tmp 2,4)],.seq (r88 0) (.seq (r88 1) (.ret))⟩
theorem Cv88:zap Tryz.f88=some q88:=by kernel_rfl
abbrev Fn89:FuncId:=89
noncomputable def r89:=RC Tryz.f89
def q89c0:zab:=r89 6
def q89c1:zab:=.seq (.block 1 (.seq (r89 3) (.seq (r89 4) (.cond (.tmp 16) (.seq (r89 5) (.ret)) (.skip))))) (q89c0)
def q89l0:zab:=.seq (r89 2) (.seq (.cond (.tmp 10) (.skip) (.exit 0)) (q89c1))
def q89c2:zab:=.seq (r89 7) (.ret)
@[simp] theorem ymu:Said (by and_intros<;>cbv:r89 0=_/\r89 1=_/\r89 2=_/\r89 3=_/\r89 4=_/\r89 5=_/\r89 6=_/\r89 7=_):=said _
@[simp] theorem zw5:Said (And.intro (zac q89c0.eq_1) (And.intro (zac q89c1.eq_1) (And.intro (zac q89l0.eq_1) (zac q89c2.eq_1)))):=said _
@[simp] def q89:QFn:=⟨18,[(.tmp 4,4)],.seq (r89 0) (.seq (.seq (r89 1) (.block 0 (.loop q89l0))) (q89c2))⟩
theorem Cv89:zap Tryz.f89=some q89:=by kernel_rfl
abbrev Fn90:FuncId:=90
noncomputable def r90:=RC Tryz.f90
def q90c0:zab:=.cond (.tmp 14) (.seq (r90 9) (.ret)) (.skip)
def q90c1:zab:=.seq (r90 10) (.ret)
def q90c2:zab:=.seq (.seq (r90 3) (.block 0 (.seq (r90 4) (.cond (.tmp 9) (.seq (r90 5) (.ret)) (.seq (.seq (r90 6) (.cond (.tmp 14) (.skip) (.seq (r90 7) (.cond (.tmp 14) (.skip) (r90 8))))) (q90c0)))))) (q90c1)
@[simp] theorem ymv:Said (by and_intros<;>cbv:r90 0=_/\r90 1=_/\r90 2=_/\r90 3=_/\r90 4=_/\r90 5=_/\r90 6=_/\r90 7=_/\r90 8=_/\r90 9=_/\r90 10=_):=said _
@[simp] theorem z4y:Said (And.intro (zac q90c0.eq_1) (And.intro (zac q90c1.eq_1) (zac q90c2.eq_1))):=said _
@[simp] def q90:QFn:=⟨21,[(.tmp 2,4)],.seq (r90 0) (.seq (.seq (r90 1) (.cond (.tmp 6) (.seq (r90 2) (.ret)) (.skip))) (q90c2))⟩
theorem Cv90:zap Tryz.f90=some q90:=by kernel_rfl
abbrev Fn91:FuncId:=91
noncomputable def r91:=RC Tryz.f91
def q91c0:zab:=r91 6
def q91c1:zab:=.seq (.block 1 (.seq (r91 3) (.seq (r91 4) (.cond (.tmp 16) (.seq (r91 5) (.ret)) (.skip))))) (q91c0)
def q91l0:zab:=.seq (r91 2) (.seq (.cond (.tmp 10) (.skip) (.exit 0)) (q91c1))
def q91c2:zab:=.seq (r91 7) (.ret)
@[simp] theorem ymw:Said (by and_intros<;>cbv:r91 0=_/\r91 1=_/\r91 2=_/\r91 3=_/\r91 4=_/\r91 5=_/\r91 6=_/\r91 7=_):=said _
@[simp] theorem zt3:Said (And.intro (zac q91c0.eq_1) (And.intro (zac q91c1.eq_1) (And.intro (zac q91l0.eq_1) (zac q91c2.eq_1)))):=said _
@[simp] def q91:QFn:=⟨18,[(.tmp 4,4)],.seq (r91 0) (.seq (.seq (r91 1) (.block 0 (.loop q91l0))) (q91c2))⟩
theorem Cv91:zap Tryz.f91=some q91:=by kernel_rfl
abbrev Fn92:FuncId:=92
noncomputable def r92:=RC Tryz.f92
@[simp] theorem ymx:Said (by and_intros<;>cbv:r92 0=_/\r92 1=_):=said _
@[simp] def q92:QFn:=⟨11,[(.tmp 2,4)],.seq (r92 0) (.seq (r92 1) (.ret))⟩
theorem Cv92:zap Tryz.f92=some q92:=by kernel_rfl
abbrev Fn93:FuncId:=93
noncomputable def r93:=RC Tryz.f93
def q93c0:zab:=r93 6
def q93c1:zab:=.seq (.block 1 (.seq (r93 3) (.seq (r93 4) (.cond (.tmp 16) (.seq (r93 5) (.ret)) (.skip))))) (q93c0)
def q93l0:zab:=.seq (r93 2) (.seq (.cond (.tmp 10) (.skip) (.exit 0)) (q93c1))
def q93c2:zab:=.seq (r93 7) (.ret)
@[simp] theorem ymy:Said (by and_intros<;>cbv:r93 0=_/\r93 1=_/\r93 2=_/\r93 3=_/\r93 4=_/\r93 5=_/\r93 6=_/\r93 7=_):=said _
@[simp] theorem zvl:Said (And.intro (zac q93c0.eq_1) (And.intro (zac q93c1.eq_1) (And.intro (zac q93l0.eq_1) (zac q93c2.eq_1)))):=said _
@[simp] def q93:QFn:=⟨18,[(.tmp 4,4)],.seq (r93 0) (.seq (.seq (r93 1) (.block 0 (.loop q93l0))) (q93c2))⟩
theorem Cv93:zap Tryz.f93=some q93:=by kernel_rfl
abbrev Fn94:FuncId:=94
noncomputable def r94:=RC Tryz.f94
@[simp] theorem ymz:Said (by and_intros<;>cbv:r94 0=_/\r94 1=_):=said _
@[simp] def q94:QFn:=⟨11,[(.tmp 2,4)],.seq (r94 0) (.seq (r94 1) (.ret))⟩
theorem Cv94:zap Tryz.f94=some q94:=by kernel_rfl
abbrev Fn95:FuncId:=95
noncomputable def r95:=RC Tryz.f95
def q95c0:zab:=r95 6
def q95c1:zab:=.seq (.block 1 (.seq (r95 3) (.seq (r95 4) (.cond (.tmp 16) (.seq (r95 5) (.ret)) (.skip))))) (q95c0)
def q95l0:zab:=.seq (r95 2) (.seq (.cond (.tmp 10) (.skip) (.exit 0)) (q95c1))
def q95c2:zab:=.seq (r95 7) (.ret)
@[simp] theorem ym0:Said (by and_intros<;>cbv:r95 0=_/\r95 1=_/\r95 2=_/\r95 3=_/\r95 4=_/\r95 5=_/\r95 6=_/\r95 7=_):=said _
@[simp] theorem zw6:Said (And.intro (zac q95c0.eq_1) (And.intro (zac q95c1.eq_1) (And.intro (zac q95l0.eq_1) (zac q95c2.eq_1)))):=said _
@[simp] def q95:QFn:=⟨18,[(.tmp 4,4)],.seq (r95 0) (.seq (.seq (r95 1) (.block 0 (.loop q95l0))) (q95c2))⟩
theorem Cv95:zap Tryz.f95=some q95:=by kernel_rfl
abbrev Fn96:FuncId:=96
noncomputable def r96:=RC Tryz.f96
@[simp] theorem ym1:Said (by and_intros<;>cbv:r96 0=_/\r96 1=_):=said _
@[simp] def q96:QFn:=⟨9,[(.tmp 2,4)],.seq (r96 0) (.seq (r96 1) (.ret))⟩
theorem Cv96:zap Tryz.f96=some q96:=by kernel_rfl
abbrev Fn97:FuncId:=97
noncomputable def r97:=RC Tryz.f97
@[simp] theorem ym2:Said (by and_intros<;>cbv:r97 0=_/\r97 1=_):=said _
@[simp] def q97:QFn:=⟨5,[(.tmp 2,9)],.seq (r97 0) (.seq (r97 1) (.ret))⟩
theorem Cv97:zap Tryz.f97=some q97:=by kernel_rfl
abbrev Fn98:FuncId:=98
noncomputable def r98:=RC Tryz.f98
@[simp] theorem ym3:Said (by and_intros<;>cbv:r98 0=_/\r98 1=_):=said _
@[simp] def q98:QFn:=⟨5,[(.tmp 2,9)],.seq (r98 0) (.seq (r98 1) (.ret))⟩
theorem Cv98:zap Tryz.f98=some q98:=by kernel_rfl
abbrev Fn99:FuncId:=99
noncomputable def r99:=RC Tryz.f99
@[simp] theorem ym4:Said (by and_intros<;>cbv:r99 0=_/\r99 1=_):=said _
@[simp] def q99:QFn:=⟨5,[(.tmp 2,9)],.seq (r99 0) (.seq (r99 1) (.ret))⟩
theorem Cv99:zap Tryz.f99=some q99:=by kernel_rfl
abbrev ygk:FuncId:=100
noncomputable def r100:=RC Tryz.f100
def q100c0:zab:=r100 7
def q100c1:zab:=r100 8
def q100c2:zab:=.seq (.block 1 (.seq (r100 4) (.seq (.seq (r100 5) (.cond (.tmp 22) (.seq (r100 6) (.ret)) (.skip))) (q100c0)))) (q100c1)
def q100l0:zab:=.seq (r100 3) (.seq (.cond (.tmp 15) (.skip) (.exit 0)) (q100c2))
def q100c3:zab:=.seq (r100 9) (.ret)
@[simp] theorem ygl:Said (by and_intros<;>cbv:r100 0=_/\r100 1=_/\r100 2=_/\r100 3=_/\r100 4=_/\r100 5=_/\r100 6=_/\r100 7=_/\r100 8=_/\r100 9=_):=said _
@[simp] theorem zo3:Said (And.intro (zac q100c0.eq_1) (And.intro (zac q100c1.eq_1) (And.intro (zac q100c2.eq_1) (And.intro (zac q100l0.eq_1) (zac q100c3.eq_1))))):=said _
@[simp] def q100:QFn:=⟨30,[(.tmp 6,4)],.seq (r100 0) (.seq (r100 1) (.seq (.seq (r100 2) (.block 0 (.loop q100l0))) (q100c3)))⟩
theorem ygm:zap Tryz.f100=some q100:=by kernel_rfl
abbrev ygn:FuncId:=101
noncomputable def r101:=RC Tryz.f101
def q101c0:zab:=r101 7
def q101c1:zab:=r101 8
def q101c2:zab:=.seq (.block 1 (.seq (r101 4) (.seq (.seq (r101 5) (.cond (.tmp 22) (.seq (r101 6) (.ret)) (.skip))) (q101c0)))) (q101c1)
def q101l0:zab:=.seq (r101 3) (.seq (.cond (.tmp 15) (.skip) (.exit 0)) (q101c2))
def q101c3:zab:=.seq (r101 9) (.ret)
@[simp] theorem ygo:Said (by and_intros<;>cbv:r101 0=_/\r101 1=_/\r101 2=_/\r101 3=_/\r101 4=_/\r101 5=_/\r101 6=_/\r101 7=_/\r101 8=_/\r101 9=_):=said _
@[simp] theorem zov:Said (And.intro (zac q101c0.eq_1) (And.intro (zac q101c1.eq_1) (And.intro (zac q101c2.eq_1) (And.intro (zac q101l0.eq_1) (zac q101c3.eq_1))))):=said _
@[simp] def q101:QFn:=⟨30,[(.tmp 6,4)],.seq (r101 0) (.seq (r101 1) (.seq (.seq (r101 2) (.block 0 (.loop q101l0))) (q101c3)))⟩
theorem ygp:zap Tryz.f101=some q101:=by kernel_rfl
abbrev ygq:FuncId:=102
noncomputable def r102:=RC Tryz.f102
@[simp] theorem ygr:Said (by and_intros<;>cbv:r102 0=_/\r102 1=_):=said _
@[simp] def q102:QFn:=⟨5,[(.tmp 2,9)],.seq (r102 0) (.seq (r102 1) (.ret))⟩
theorem ygs:zap Tryz.f102=some q102:=by kernel_rfl
abbrev ygt:FuncId:=103
noncomputable def r103:=RC Tryz.f103
def q103c0:zab:=r103 7
def q103c1:zab:=r103 8
def q103c2:zab:=.seq (.block 1 (.seq (r103 4) (.seq (.seq (r103 5) (.cond (.tmp 22) (.seq (r103 6) (.ret)) (.skip))) (q103c0)))) (q103c1)
def q103l0:zab:=.seq (r103 3) (.seq (.cond (.tmp 15) (.skip) (.exit 0)) (q103c2))
def q103c3:zab:=.seq (r103 9) (.ret)
@[simp] theorem ygu:Said (by and_intros<;>cbv:r103 0=_/\r103 1=_/\r103 2=_/\r103 3=_/\r103 4=_/\r103 5=_/\r103 6=_/\r103 7=_/\r103 8=_/\r103 9=_):=said _
@[simp] theorem zmv:Said (And.intro (zac q103c0.eq_1) (And.intro (zac q103c1.eq_1) (And.intro (zac q103c2.eq_1) (And.intro (zac q103l0.eq_1) (zac q103c3.eq_1))))):=said _
@[simp] def q103:QFn:=⟨30,[(.tmp 6,4)],.seq (r103 0) (.seq (r103 1) (.seq (.seq (r103 2) (.block 0 (.loop q103l0))) (q103c3)))⟩
theorem ygv:zap Tryz.f103=some q103:=by kernel_rfl
abbrev ygw:FuncId:=104
noncomputable def r104:=RC Tryz.f104
def q104c0:zab:=r104 7
def q104c1:zab:=r104 8
def q104c2:zab:=.seq (.block 1 (.seq (r104 4) (.seq (.seq (r104 5) (.cond (.tmp 22) (.seq (r104 6) (.ret)) (.skip))) (q104c0)))) (q104c1)
def q104l0:zab:=.seq (r104 3) (.seq (.cond (.tmp 15) (.skip) (.exit 0)) (q104c2))
def q104c3:zab:=.seq (r104 9) (.ret)
@[simp] theorem ygx:Said (by and_intros<;>cbv:r104 0=_/\r104 1=_/\r104 2=_/\r104 3=_/\r104 4=_/\r104 5=_/\r104 6=_/\r104 7=_/\r104 8=_/\r104 9=_):=said _
@[simp] theorem zog:Said (And.intro (zac q104c0.eq_1) (And.intro (zac q104c1.eq_1) (And.intro (zac q104c2.eq_1) (And.intro (zac q104l0.eq_1) (zac q104c3.eq_1))))):=said _
@[simp] def q104:QFn:=⟨30,[(.tmp 6,4)],.seq (r104 0) (.seq (r104 1) (.seq (.seq (r104 2) (.block 0 (.loop q104l0))) (q104c3)))⟩
theorem ygy:zap Tryz.f104=some q104:=by kernel_rfl
abbrev ygz:FuncId:=105
noncomputable def r105:=RC Tryz.f105
@[simp] theorem yg0:Said (by and_intros<;>cbv:r105 0=_/\r105 1=_):=said _
@[simp] def q105:QFn:=⟨13,[(.tmp 2,23)],.seq (r105 0) (.seq (r105 1) (.ret))⟩
theorem yg1:zap Tryz.f105=some q105:=by kernel_rfl
abbrev yef:FuncId:=106
noncomputable def r106:=RC Tryz.f106
def q106c0:zab:=.seq (r106 8) (.ret)
def q106c1:zab:=.seq (r106 4) (.seq (r106 5) (.seq (.seq (r106 6) (.cond (.tmp 31) (.seq (r106 7) (.ret)) (.skip))) (q106c0)))
@[simp] theorem yg2:Said (by and_intros<;>cbv:r106 0=_/\r106 1=_/\r106 2=_/\r106 3=_/\r106 4=_/\r106 5=_/\r106 6=_/\r106 7=_/\r106 8=_):=said _
@[simp] theorem z4z:Said (And.intro (zac q106c0.eq_1) (zac q106c1.eq_1)):=said _
@[simp] def q106:QFn:=⟨35,[(.tmp 4,9),(.tmp 5,3)],.seq (r106 0) (.seq (r106 1) (.seq (.seq (r106 2) (.cond (.tmp 22) (.seq (r106 3) (.ret)) (.skip))) (q106c1)))⟩
theorem yg3:zap Tryz.f106=some q106:=by kernel_rfl
abbrev yeg:FuncId:=107
noncomputable def r107:=RC Tryz.f107
def q107c0:zab:=r107 3
def q107c1:zab:=.seq (.block 1 (.seq (r107 4) (.cond (.tmp 14) (.seq (r107 5) (.ret)) (.skip)))) (q107c0)
def q107l0:zab:=.seq (.seq (r107 2) (.cond (.tmp 7) (.skip) (.exit 0))) (q107c1)
def q107c2:zab:=.seq (r107 6) (.ret)
@[simp] theorem yg4:Said (by and_intros<;>cbv:r107 0=_/\r107 1=_/\r107 2=_/\r107 4=_/\r107 5=_/\r107 3=_/\r107 6=_):=said _
@[simp] theorem z40:Said (And.intro (zac q107c0.eq_1) (And.intro (zac q107c1.eq_1) (And.intro (zac q107l0.eq_1) (zac q107c2.eq_1)))):=said _
@[simp] def q107:QFn:=⟨26,[(.tmp 2,4)],.seq (r107 0) (.seq (.seq (r107 1) (.block 0 (.loop q107l0))) (q107c2))⟩
theorem yg5:zap Tryz.f107=some q107:=by kernel_rfl
abbrev yeh:FuncId:=108
noncomputable def r108:=RC Tryz.f108
def q108c0:zab:=r108 3
def q108c1:zab:=.seq (.block 1 (.seq (r108 4) (.cond (.tmp 32) (.seq (r108 5) (.ret)) (.skip)))) (q108c0)
def q108l0:zab:=.seq (.seq (r108 2) (.cond (.tmp 7) (.skip) (.exit 0))) (q108c1)
def q108c2:zab:=.seq (r108 6) (.ret)
@[simp] theorem yg6:Said (by and_intros<;>cbv:r108 0=_/\r108 1=_/\r108 2=_/\r108 4=_/\r108 5=_/\r108 3=_/\r108 6=_):=said _
@[simp] theorem z7b:Said (And.intro (zac q108c0.eq_1) (And.intro (zac q108c1.eq_1) (And.intro (zac q108l0.eq_1) (zac q108c2.eq_1)))):=said _
@[simp] def q108:QFn:=⟨36,[(.tmp 2,4)],.seq (r108 0) (.seq (.seq (r108 1) (.block 0 (.loop q108l0))) (q108c2))⟩
theorem yg7:zap Tryz.f108=some q108:=by kernel_rfl
abbrev yei:FuncId:=109
noncomputable def r109:=RC Tryz.f109
def q109c0:zab:=r109 3
def q109c1:zab:=.seq (.block 1 (.seq (r109 4) (.seq (r109 5) (.cond (.tmp 38) (.seq (r109 6) (.ret)) (.skip))))) (q109c0)
def q109l0:zab:=.seq (.seq (r109 2) (.cond (.tmp 8) (.skip) (.exit 0))) (q109c1)
def q109c2:zab:=.seq (r109 7) (.ret)
@[simp] theorem yg8:Said (by and_intros<;>cbv:r109 0=_/\r109 1=_/\r109 2=_/\r109 4=_/\r109 5=_/\r109 6=_/\r109 3=_/\r109 7=_):=said _
@[simp] theorem z41:Said (And.intro (zac q109c0.eq_1) (And.intro (zac q109c1.eq_1) (And.intro (zac q109l0.eq_1) (zac q109c2.eq_1)))):=said _
@[simp] def q109:QFn:=⟨42,[(.tmp 2,4)],.seq (r109 0) (.seq (.seq (r109 1) (.block 0 (.loop q109l0))) (q109c2))⟩
theorem yg9:zap Tryz.f109=some q109:=by kernel_rfl
abbrev yej:FuncId:=110
noncomputable def r110:=RC Tryz.f110
def q110c0:zab:=r110 4
def q110c1:zab:=.seq (.block 1 (.seq (r110 5) (.cond (.tmp 21) (.seq (r110 6) (.ret)) (.skip)))) (q110c0)
def q110l0:zab:=.seq (.seq (r110 3) (.cond (.tmp 13) (.skip) (.exit 0))) (q110c1)
def q110c2:zab:=.seq (r110 7) (.ret)
@[simp] theorem yha:Said (by and_intros<;>cbv:r110 0=_/\r110 1=_/\r110 2=_/\r110 3=_/\r110 5=_/\r110 6=_/\r110 4=_/\r110 7=_):=said _
@[simp] theorem z42:Said (And.intro (zac q110c0.eq_1) (And.intro (zac q110c1.eq_1) (And.intro (zac q110l0.eq_1) (zac q110c2.eq_1)))):=said _
@[simp] def q110:QFn:=⟨30,[(.tmp 2,4)],.seq (r110 0) (.seq (r110 1) (.seq (.seq (r110 2) (.block 0 (.loop q110l0))) (q110c2)))⟩
theorem yhb:zap Tryz.f110=some q110:=by kernel_rfl
abbrev yek:FuncId:=111
noncomputable def r111:=RC Tryz.f111
def q111c0:zab:=r111 3
def q111c1:zab:=.seq (.block 1 (.seq (r111 4) (.cond (.tmp 15) (.seq (r111 5) (.ret)) (.skip)))) (q111c0)
def q111l0:zab:=.seq (.seq (r111 2) (.cond (.tmp 7) (.skip) (.exit 0))) (q111c1)
def q111c2:zab:=.seq (r111 6) (.ret)
@[simp] theorem yhc:Said (by and_intros<;>cbv:r111 0=_/\r111 1=_/\r111 2=_/\r111 4=_/\r111 5=_/\r111 3=_/\r111 6=_):=said _
@[simp] theorem z15:Said (And.intro (zac q111c0.eq_1) (And.intro (zac q111c1.eq_1) (And.intro (zac q111l0.eq_1) (zac q111c2.eq_1)))):=said _
@[simp] def q111:QFn:=⟨19,[(.tmp 2,4)],.seq (r111 0) (.seq (.seq (r111 1) (.block 0 (.loop q111l0))) (q111c2))⟩
theorem yhd:zap Tryz.f111=some q111:=by kernel_rfl
abbrev yhe:FuncId:=112
noncomputable def r112:=RC Tryz.f112
@[simp] theorem yhf:Said (by and_intros<;>cbv:r112 0=_/\r112 1=_/\r112 2=_):=said _
@[simp] def q112:QFn:=⟨11,[(.tmp 2,4)],.seq (r112 0) (.seq (r112 1) (.seq (r112 2) (.ret)))⟩
theorem yhg:zap Tryz.f112=some q112:=by kernel_rfl
abbrev yhh:FuncId:=113
noncomputable def r113:=RC Tryz.f113
def q113c0:zab:=r113 3
def q113c1:zab:=.seq (.block 1 (.seq (r113 4) (.cond (.tmp 25) (.seq (r113 5) (.ret)) (.skip)))) (q113c0)
def q113l0:zab:=.seq (.seq (r113 2) (.cond (.tmp 7) (.skip) (.exit 0))) (q113c1)
def q113c2:zab:=.seq (r113 6) (.ret)
@[simp] theorem yhi:Said (by and_intros<;>cbv:r113 0=_/\r113 1=_/\r113 2=_/\r113 4=_/\r113 5=_/\r113 3=_/\r113 6=_):=said _
@[simp] theorem z43:Said (And.intro (zac q113c0.eq_1) (And.intro (zac q113c1.eq_1) (And.intro (zac q113l0.eq_1) (zac q113c2.eq_1)))):=said _
@[simp] def q113:QFn:=⟨29,[(.tmp 2,4)],.seq (r113 0) (.seq (.seq (r113 1) (.block 0 (.loop q113l0))) (q113c2))⟩
theorem yhj:zap Tryz.f113=some q113:=by kernel_rfl
abbrev yhk:FuncId:=114
noncomputable def r114:=RC Tryz.f114
def q114c0:zab:=r114 3
def q114c1:zab:=.seq (.block 1 (.seq (r114 4) (.cond (.tmp 15) (.seq (r114 5) (.ret)) (.skip)))) (q114c0)
def q114l0:zab:=.seq (.seq (r114 2) (.cond (.tmp 7) (.skip) (.exit 0))) (q114c1)
def q114c2:zab:=.seq (r114 6) (.ret)
@[simp] theorem yhl:Said (by and_intros<;>cbv:r114 0=_/\r114 1=_/\r114 2=_/\r114 4=_/\r114 5=_/\r114 3=_/\r114 6=_):=said _
@[simp] theorem z16:Said (And.intro (zac q114c0.eq_1) (And.intro (zac q114c1.eq_1) (And.intro (zac q114l0.eq_1) (zac q114c2.eq_1)))):=said _
@[simp] def q114:QFn:=⟨19,[(.tmp 2,4)],.seq (r114 0) (.seq (.seq (r114 1) (.block 0 (.loop q114l0))) (q114c2))⟩
theorem yhm:zap Tryz.f114=some q114:=by kernel_rfl
abbrev yhn:FuncId:=115
noncomputable def yel:=RD Tryz.f115
noncomputable def r115:=RC Tryz.f115
def q115c0:zab:=r115 6
def q115c1:zab:=.seq (.block 3 (.seq (yel 7 8) (.cond (.tmp 24) (.seq (r115 8) (.ret)) (.skip)))) (q115c0)
def q115l0:zab:=.seq (.seq (r115 5) (.cond (.tmp 13) (.skip) (.exit 2))) (q115c1)
def q115c2:zab:=r115 3
def q115c3:zab:=.seq (.block 1 (.seq (r115 4) (.block 2 (.loop q115l0)))) (q115c2)
def q115l1:zab:=.seq (.seq (r115 2) (.cond (.tmp 8) (.skip) (.exit 0))) (q115c3)
def q115c4:zab:=.seq (r115 9) (.ret)
@[simp] theorem yho:Said (by and_intros<;>cbv:r115 0=_/\r115 1=_/\r115 2=_/\r115 4=_/\r115 5=_/\yel 7 8=_/\r115 8=_/\r115 6=_/\r115 3=_/\r115 9=_):=said _
@[simp] theorem z17:Said (And.intro (zac q115c0.eq_1) (And.intro (zac q115c1.eq_1) (And.intro (zac q115l0.eq_1) (And.intro (zac q115c2.eq_1) (And.intro (zac q115c3.eq_1) (And.intro (zac q115l1.eq_1) (zac q115c4.eq_1))))))):=said _
@[simp] def q115:QFn:=⟨25,[(.tmp 2,4)],.seq (r115 0) (.seq (.seq (r115 1) (.block 0 (.loop q115l1))) (q115c4))⟩
theorem yhp:zap Tryz.f115=some q115:=by kernel_rfl
abbrev yhq:FuncId:=116
noncomputable def r116:=RC Tryz.f116
noncomputable def yem:=RP Tryz.f116
def q116c0:zab:=r116 3
def q116c1:zab:=.seq (.block 1 (.seq (r116 4) (.cond (.tmp 15) (.seq (yem 5 12 [0,1,2,3,4,7,8,9,5,6,10,11,12,13]) (.ret)) (.skip)))) (q116c0)
def q116l0:zab:=.seq (.seq (r116 2) (.cond (.tmp 9) (.skip) (.exit 0))) (q116c1)
def q116c2:zab:=.seq (r116 6) (.ret)
@[simp] theorem yhr:Said (by and_intros<;>cbv:r116 0=_/\r116 1=_/\r116 2=_/\r116 4=_/\yem 5 12 [0,1,2,3,4,7,8,9,5,6,10,11,12,13]=_/\r116 3=_/\r116 6=_):=said _
@[simp] theorem z44:Said (And.intro (zac q116c0.eq_1) (And.intro (zac q116c1.eq_1) (And.intro (zac q116l0.eq_1) (zac q116c2.eq_1)))):=said _
@[simp] def q116:QFn:=⟨27,[(.tmp 2,9),(.tmp 3,9),(.tmp 4,4)],.seq (r116 0) (.seq (.seq (r116 1) (.block 0 (.loop q116l0))) (q116c2))⟩
theorem yhs:zap Tryz.f116=some q116:=by kernel_rfl
abbrev yht:FuncId:=117
noncomputable def r117:=RC Tryz.f117
def q117c0:zab:=r117 3
def q117c1:zab:=.seq (.block 1 (.seq (r117 4) (.cond (.tmp 18) (.seq (r117 5) (.ret)) (.skip)))) (q117c0)
def q117l0:zab:=.seq (.seq (r117 2) (.cond (.tmp 9) (.skip) (.exit 0))) (q117c1)
def q117c2:zab:=.seq (r117 6) (.ret)
@[simp] theorem yhu:Said (by and_intros<;>cbv:r117 0=_/\r117 1=_/\r117 2=_/\r117 4=_/\r117 5=_/\r117 3=_/\r117 6=_):=said _
@[simp] theorem z7c:Said (And.intro (zac q117c0.eq_1) (And.intro (zac q117c1.eq_1) (And.intro (zac q117l0.eq_1) (zac q117c2.eq_1)))):=said _
@[simp] def q117:QFn:=⟨20,[(.tmp 4,3)],.seq (r117 0) (.seq (.seq (r117 1) (.block 0 (.loop q117l0))) (q117c2))⟩
theorem yhv:zap Tryz.f117=some q117:=by kernel_rfl
abbrev yhw:FuncId:=126
noncomputable def r126:=RC Tryz.f126
def q126c0:zab:=.seq (r126 5) (.ret)
def q126c1:zab:=.seq (.seq (r126 3) (.cond (.tmp 14) (.seq (r126 4) (.ret)) (.skip))) (q126c0)
@[simp] theorem yhx:Said (by and_intros<;>cbv:r126 0=_/\r126 1=_/\r126 2=_/\r126 3=_/\r126 4=_/\r126 5=_):=said _
@[simp] theorem z7d:Said (And.intro (zac q126c0.eq_1) (zac q126c1.eq_1)):=said _
@[simp] def q126:QFn:=⟨15,[(.tmp 4,4)],.seq (r126 0) (.seq (.seq (r126 1) (.cond (.tmp 9) (.seq (r126 2) (.ret)) (.skip))) (q126c1))⟩
theorem yhy:zap Tryz.f126=some q126:=by kernel_rfl
abbrev yhz:FuncId:=127
noncomputable def r127:=RC Tryz.f127
def q127c0:zab:=.seq (r127 7) (.ret)
def q127c1:zab:=.seq (.seq (r127 5) (.cond (.tmp 19) (.seq (r127 6) (.ret)) (.skip))) (q127c0)
def q127c2:zab:=.seq (.seq (r127 3) (.cond (.tmp 14) (.seq (r127 4) (.ret)) (.skip))) (q127c1)
@[simp] theorem yh0:Said (by and_intros<;>cbv:r127 0=_/\r127 1=_/\r127 2=_/\r127 3=_/\r127 4=_/\r127 5=_/\r127 6=_/\r127 7=_):=said _
@[simp] theorem z45:Said (And.intro (zac q127c0.eq_1) (And.intro (zac q127c1.eq_1) (zac q127c2.eq_1))):=said _
@[simp] def q127:QFn:=⟨20,[(.tmp 4,4)],.seq (r127 0) (.seq (.seq (r127 1) (.cond (.tmp 9) (.seq (r127 2) (.ret)) (.skip))) (q127c2))⟩
theorem yh1:zap Tryz.f127=some q127:=by kernel_rfl
abbrev yh2:FuncId:=128
noncomputable def r128:=RC Tryz.f128
def q128c0:zab:=.seq (r128 5) (.ret)
def q128c1:zab:=.seq (.seq (r128 3) (.cond (.tmp 14) (.seq (r128 4) (.ret)) (.skip))) (q128c0)
@[simp] theorem yh3:Said (by and_intros<;>cbv:r128 0=_/\r128 1=_/\r128 2=_/\r128 3=_/\r128 4=_/\r128 5=_):=said _
@[simp] theorem z06:Said (And.intro (zac q128c0.eq_1) (zac q128c1.eq_1)):=said _
@[simp] def q128:QFn:=⟨15,[(.tmp 4,4)],.seq (r128 0) (.seq (.seq (r128 1) (.cond (.tmp 9) (.seq (r128 2) (.ret)) (.skip))) (q128c1))⟩
theorem yh4:zap Tryz.f128=some q128:=by kernel_rfl
abbrev yh5:FuncId:=129
noncomputable def r129:=RC Tryz.f129
def q129c0:zab:=.seq (r129 5) (.ret)
def q129c1:zab:=.seq (.seq (r129 3) (.cond (.tmp 14) (.seq (r129 4) (.ret)) (.skip))) (q129c0)
@[simp] theorem yh6:Said (by and_intros<;>cbv:r129 0=_/\r129 1=_/\r129 2=_/\r129 3=_/\r129 4=_/\r129 5=_):=said _
@[simp] theorem z18:Said (And.intro (zac q129c0.eq_1) (zac q129c1.eq_1)):=said _
@[simp] def q129:QFn:=⟨15,[(.tmp 4,4)],.seq (r129 0) (.seq (.seq (r129 1) (.cond (.tmp 9) (.seq (r129 2) (.ret)) (.skip))) (q129c1))⟩
theorem yh7:zap Tryz.f129=some q129:=by kernel_rfl
abbrev yh8:FuncId:=130
noncomputable def yen:=RD Tryz.f130
noncomputable def r130:=RC Tryz.f130
@[simp] theorem yh9:Said (by and_intros<;>cbv:r130 0=_/\yen 1 8=_):=said _
@[simp] def q130:QFn:=⟨12,[(.tmp 2,9)],.seq (r130 0) (.seq (yen 1 8) (.ret))⟩
theorem yia:zap Tryz.f130=some q130:=by kernel_rfl
abbrev yib:FuncId:=133
noncomputable def yeo:=RD Tryz.f133
noncomputable def r133:=RC Tryz.f133
def q133c0:zab:=.seq (yeo 4 7) (.ret)
@[simp] theorem yic:Said (by and_intros<;>cbv:r133 0=_/\r133 1=_/\r133 2=_/\r133 3=_/\yeo 4 7=_):=said _
@[simp] theorem z7e:Said (zac q133c0.eq_1):=said _
@[simp] def q133:QFn:=⟨17,[(.tmp 2,9),(.tmp 3,9)],.seq (r133 0) (.seq (r133 1) (.seq (.seq (r133 2) (.cond (.tmp 9) (.seq (r133 3) (.ret)) (.skip))) (q133c0)))⟩
theorem yid:zap Tryz.f133=some q133:=by kernel_rfl
abbrev yie:FuncId:=134
noncomputable def yep:=RD Tryz.f134
noncomputable def r134:=RC Tryz.f134
def q134c0:zab:=.block 1 (r134 3)
def q134l0:zab:=.seq (.seq (r134 2) (.cond (.tmp 30) (.skip) (.exit 0))) (q134c0)
def q134c1:zab:=r134 8
def q134c2:zab:=.seq (.block 3 (.seq (r134 9) (.seq (r134 10) (.cond (.tmp 58) (.seq (r134 11) (r134 12)) (.skip))))) (q134c1)
def q134l1:zab:=.seq (.seq (r134 7) (.cond (.tmp 41) (.skip) (.exit 2))) (q134c2)
def q134c3:zab:=.seq (yep 13 10) (.ret)
def q134c4:zab:=.seq (r134 4) (.seq (r134 5) (.seq (.seq (r134 6) (.block 2 (.loop q134l1))) (q134c3)))
@[simp] theorem yif:Said (by and_intros<;>cbv:r134 0=_/\r134 1=_/\r134 2=_/\r134 3=_/\r134 4=_/\r134 5=_/\r134 6=_/\r134 7=_/\r134 9=_/\r134 10=_/\r134 11=_/\r134 12=_/\r134 8=_/\yep 13 10=_):=said _
@[simp] theorem zre:Said (zac q134c4.eq_1):=said _
@[simp] theorem z7f:Said (And.intro (zac q134c0.eq_1) (And.intro (zac q134l0.eq_1) (And.intro (zac q134c1.eq_1) (And.intro (zac q134c2.eq_1) (And.intro (zac q134l1.eq_1) (zac q134c3.eq_1)))))):=said _
@[simp] def q134:QFn:=⟨75,[(.cell 2 94,94),(.tmp 3,4)],.seq (r134 0) (.seq (r134 1) (.seq (.block 0 (.loop q134l0)) (q134c4)))⟩
theorem yig:zap Tryz.f134=some q134:=by kernel_rfl
abbrev yih:FuncId:=135
noncomputable def r135:=RC Tryz.f135
def q135c0:zab:=.seq (r135 3) (.ret)
@[simp] theorem yii:Said (by and_intros<;>cbv:r135 0=_/\r135 1=_/\r135 2=_/\r135 3=_):=said _
@[simp] theorem zi3:Said (zac q135c0.eq_1):=said _
@[simp] def q135:QFn:=⟨18,[(.tmp 4,9),(.tmp 5,4)],.seq (r135 0) (.seq (.seq (r135 1) (.cond (.tmp 9) (.seq (r135 2) (.ret)) (.skip))) (q135c0))⟩
theorem yij:zap Tryz.f135=some q135:=by kernel_rfl
abbrev yik:FuncId:=137
abbrev yil:FuncId:=138
noncomputable def z07:=RD Tryz.f138
noncomputable def r138:=RC Tryz.f138
def q138c0:zab:=.seq (r138 15) (.ret)
def q138c1:zab:=.seq (.seq (r138 13) (.cond (.tmp 46) (.seq (r138 14) (.ret)) (.skip))) (q138c0)
@[simp] theorem yim:Said (by and_intros<;>cbv:r138 0=_/\r138 1=_/\r138 2=_/\r138 3=_/\r138 4=_/\r138 5=_/\r138 7=_/\z07 8 2=_/\r138 9=_/\z07 10 2=_/\r138 11=_/\z07 12 2=_/\r138 6=_/\r138 13=_/\r138 14=_/\r138 15=_):=said _
@[simp] theorem z19:Said (And.intro (zac q138c0.eq_1) (zac q138c1.eq_1)):=said _
@[simp] def q138:QFn:=⟨49,[(.cell 2 94,94),(.tmp 3,4)],.seq (r138 0) (.seq (r138 1) (.seq (.seq (r138 2) (.seq (r138 3) (.cond (.tmp 12) (.seq (r138 4) (.seq (r138 5) (.block 0 (.seq (r138 7) (.cond (.tmp 21) (z07 8 2) (.seq (r138 9) (.cond (.tmp 28) (z07 10 2) (.seq (r138 11) (.cond (.tmp 36) (z07 12 2) (.seq (r138 6) (.ret))))))))))) (.skip)))) (q138c1)))⟩
theorem yin:zap Tryz.f138=some q138:=by kernel_rfl
abbrev yio:FuncId:=146
noncomputable def r146:=RC Tryz.f146
def q146c0:zab:=r146 7
def q146c1:zab:=.seq (r146 8) (.ret)
@[simp] theorem yip:Said (by and_intros<;>cbv:r146 0=_/\r146 1=_/\r146 2=_/\r146 3=_/\r146 4=_/\r146 5=_/\r146 6=_/\r146 7=_/\r146 8=_):=said _
@[simp] theorem zvm:Said (And.intro (zac q146c0.eq_1) (zac q146c1.eq_1)):=said _
@[simp] def q146:QFn:=⟨28,[(.cell 2 167,167),(.cell 3 4,4)],.seq (r146 0) (.seq (r146 1) (.seq (.seq (r146 2) (.block 0 (.range 9 [10] (r146 3) (.block 1 (.seq (r146 4) (.seq (.seq (r146 5) (.cond (.tmp 22) (.seq (r146 6) (.ret)) (.skip))) (q146c0))))))) (q146c1)))⟩
theorem yiq:zap Tryz.f146=some q146:=by kernel_rfl
abbrev yir:FuncId:=147
noncomputable def r147:=RC Tryz.f147
@[simp] theorem yis:Said (by and_intros<;>cbv:r147 0=_/\r147 1=_):=said _
@[simp] def q147:QFn:=⟨18,[(.tmp 2,4)],.seq (r147 0) (.seq (r147 1) (.ret))⟩
theorem yit:zap Tryz.f147=some q147:=by kernel_rfl
abbrev yiu:FuncId:=148
noncomputable def r148:=RC Tryz.f148
def q148c0:zab:=r148 8
def q148c1:zab:=.seq (.block 1 (.seq (r148 5) (.seq (r148 6) (.cond (.tmp 33) (.seq (r148 7) (.ret)) (.skip))))) (q148c0)
def q148l0:zab:=.seq (r148 4) (.seq (.cond (.tmp 10) (.skip) (.exit 0)) (q148c1))
def q148c2:zab:=.seq (r148 9) (.ret)
def q148c3:zab:=.seq (.seq (r148 3) (.block 0 (.loop q148l0))) (q148c2)
@[simp] theorem yiv:Said (by and_intros<;>cbv:r148 0=_/\r148 1=_/\r148 2=_/\r148 3=_/\r148 4=_/\r148 5=_/\r148 6=_/\r148 7=_/\r148 8=_/\r148 9=_):=said _
@[simp] theorem z7g:Said (And.intro (zac q148c0.eq_1) (And.intro (zac q148c1.eq_1) (And.intro (zac q148l0.eq_1) (And.intro (zac q148c2.eq_1) (zac q148c3.eq_1))))):=said _
@[simp] def q148:QFn:=⟨35,[(.tmp 2,4)],.seq (r148 0) (.seq (.seq (r148 1) (.cond (.tmp 6) (.seq (r148 2) (.ret)) (.skip))) (q148c3))⟩
theorem yiw:zap Tryz.f148=some q148:=by kernel_rfl
abbrev yix:FuncId:=149
noncomputable def r149:=RC Tryz.f149
@[simp] theorem yiy:Said (by and_intros<;>cbv:r149 0=_/\r149 1=_/\r149 2=_):=said _
@[simp] def q149:QFn:=⟨11,[(.tmp 2,4)],.seq (r149 0) (.seq (r149 1) (.seq (r149 2) (.ret)))⟩
theorem yiz:zap Tryz.f149=some q149:=by kernel_rfl
abbrev yi0:FuncId:=150
noncomputable def r150:=RC Tryz.f150
def q150c0:zab:=r150 8
def q150c1:zab:=.seq (.block 1 (.seq (r150 5) (.seq (r150 6) (.cond (.tmp 16) (.seq (r150 7) (.ret)) (.skip))))) (q150c0)
def q150l0:zab:=.seq (r150 4) (.seq (.cond (.tmp 10) (.skip) (.exit 0)) (q150c1))
def q150c2:zab:=.seq (r150 9) (.ret)
def q150c3:zab:=.seq (.seq (r150 3) (.block 0 (.loop q150l0))) (q150c2)
@[simp] theorem yi1:Said (by and_intros<;>cbv:r150 0=_/\r150 1=_/\r150 2=_/\r150 3=_/\r150 4=_/\r150 5=_/\r150 6=_/\r150 7=_/\r150 8=_/\r150 9=_):=said _
@[simp] theorem zy5:Said (And.intro (zac q150c0.eq_1) (And.intro (zac q150c1.eq_1) (And.intro (zac q150l0.eq_1) (And.intro (zac q150c2.eq_1) (zac q150c3.eq_1))))):=said _
@[simp] def q150:QFn:=⟨18,[(.tmp 2,4)],.seq (r150 0) (.seq (.seq (r150 1) (.cond (.tmp 6) (.seq (r150 2) (.ret)) (.skip))) (q150c3))⟩
theorem yi2:zap Tryz.f150=some q150:=by kernel_rfl
abbrev z8l:FuncId:=151
noncomputable def r151:=RC Tryz.f151
def q151c0:zab:=.seq (r151 3) (.ret)
@[simp] theorem yi3:Said (by and_intros<;>cbv:r151 0=_/\r151 1=_/\r151 2=_/\r151 3=_):=said _
@[simp] theorem zjw:Said (zac q151c0.eq_1):=said _
@[simp] def q151:QFn:=⟨8,[(.tmp 2,27)],.seq (r151 0) (.seq (.seq (r151 1) (.cond (.tmp 4) (.seq (r151 2) (.ret)) (.skip))) (q151c0))⟩
theorem yb3:zap Tryz.f151=some q151:=by kernel_rfl
abbrev yi4:FuncId:=152
noncomputable def r152:=RC Tryz.f152
@[simp] theorem yi5:Said (by and_intros<;>cbv:r152 0=_/\r152 1=_):=said _
@[simp] def q152:QFn:=⟨9,[(.tmp 4,4)],.seq (r152 0) (.seq (r152 1) (.ret))⟩
theorem yi6:zap Tryz.f152=some q152:=by kernel_rfl
abbrev yi7:FuncId:=153
noncomputable def r153:=RC Tryz.f153
@[simp] theorem yi8:Said (by and_intros<;>cbv:r153 0=_/\r153 1=_):=said _
@[simp] def q153:QFn:=⟨6,[(.tmp 2,4)],.seq (r153 0) (.seq (r153 1) (.ret))⟩
theorem yi9:zap Tryz.f153=some q153:=by kernel_rfl
abbrev yja:FuncId:=154
noncomputable def r154:=RC Tryz.f154
@[simp] theorem yjb:Said (by and_intros<;>cbv:r154 0=_/\r154 1=_):=said _
@[simp] def q154:QFn:=⟨9,[(.tmp 4,4)],.seq (r154 0) (.seq (r154 1) (.ret))⟩
theorem yjc:zap Tryz.f154=some q154:=by kernel_rfl
abbrev yjd:FuncId:=155
noncomputable def r155:=RC Tryz.f155
def q155c0:zab:=r155 13
def q155c1:zab:=.seq (r155 10) (.seq (.seq (r155 11) (.cond (.tmp 47) (.seq (r155 12) (.ret)) (.skip))) (q155c0))
def q155c2:zab:=.seq (r155 7) (.seq (.seq (r155 8) (.cond (.tmp 36) (.seq (r155 9) (.ret)) (.skip))) (q155c1))
def q155c3:zab:=.seq (r155 4) (.seq (.seq (r155 5) (.cond (.tmp 26) (.seq (r155 6) (.ret)) (.skip))) (q155c2))
def q155l0:zab:=.block 1 (.seq (r155 2) (.seq (.seq (r155 3) (.cond (.tmp 16) (.exit 0) (.skip))) (q155c3)))
def q155c4:zab:=.seq (r155 17) (.ret)
def q155c5:zab:=.seq (r155 14) (.seq (.seq (r155 15) (.cond (.tmp 56) (.seq (r155 16) (.ret)) (.skip))) (q155c4))
@[simp] theorem yje:Said (by and_intros<;>cbv:r155 0=_/\r155 1=_/\r155 2=_/\r155 3=_/\r155 4=_/\r155 5=_/\r155 6=_/\r155 7=_/\r155 8=_/\r155 9=_/\r155 10=_/\r155 11=_/\r155 12=_/\r155 13=_/\r155 14=_/\r155 15=_/\r155 16=_/\r155 17=_):=said _
@[simp] theorem zp8:Said (And.intro (zac q155c0.eq_1) (And.intro (zac q155c1.eq_1) (And.intro (zac q155c2.eq_1) (And.intro (zac q155c3.eq_1) (And.intro (zac q155l0.eq_1) (And.intro (zac q155c4.eq_1) (zac q155c5.eq_1))))))):=said _
@[simp] def q155:QFn:=⟨60,[(.tmp 4,9),(.tmp 5,88)],.seq (r155 0) (.seq (r155 1) (.seq (.block 0 (.loop q155l0)) (q155c5)))⟩
theorem yjf:zap Tryz.f155=some q155:=by kernel_rfl
abbrev yjg:FuncId:=157
noncomputable def r157:=RC Tryz.f157
@[simp] theorem yjh:Said (by and_intros<;>cbv:r157 0=_/\r157 1=_):=said _
@[simp] def q157:QFn:=⟨29,[(.tmp 2,4)],.seq (r157 0) (.seq (r157 1) (.ret))⟩
theorem yji:zap Tryz.f157=some q157:=by kernel_rfl
abbrev yjj:FuncId:=158
noncomputable def r158:=RC Tryz.f158
@[simp] theorem yjk:Said (by and_intros<;>cbv:r158 0=_/\r158 1=_):=said _
@[simp] def q158:QFn:=⟨15,[(.tmp 6,4)],.seq (r158 0) (.seq (r158 1) (.ret))⟩
theorem yjl:zap Tryz.f158=some q158:=by kernel_rfl
abbrev yjm:FuncId:=159
noncomputable def r159:=RC Tryz.f159
def q159c0:zab:=r159 8
def q159c1:zab:=r159 3
def q159c2:zab:=.seq (.block 1 (.block 2 (.seq (r159 4) (.cond (.tmp 11) (.seq (r159 5) (.seq (.seq (r159 6) (.cond (.tmp 21) (.seq (r159 7) (.ret)) (.skip))) (q159c0))) (.seq (r159 9) (.cond (.tmp 26) (.exit 1) (.seq (r159 10) (.cond (.tmp 37) (.seq (r159 11) (.ret)) (.skip))))))))) (q159c1)
def q159l0:zab:=.seq (.seq (r159 2) (.cond (.tmp 8) (.skip) (.exit 0))) (q159c2)
def q159c3:zab:=.seq (r159 12) (.ret)
@[simp] theorem yjn:Said (by and_intros<;>cbv:r159 0=_/\r159 1=_/\r159 2=_/\r159 4=_/\r159 5=_/\r159 6=_/\r159 7=_/\r159 8=_/\r159 9=_/\r159 10=_/\r159 11=_/\r159 3=_/\r159 12=_):=said _
@[simp] theorem zy6:Said (And.intro (zac q159c0.eq_1) (And.intro (zac q159c1.eq_1) (And.intro (zac q159c2.eq_1) (And.intro (zac q159l0.eq_1) (zac q159c3.eq_1))))):=said _
@[simp] def q159:QFn:=⟨45,[(.tmp 2,4)],.seq (r159 0) (.seq (.seq (r159 1) (.block 0 (.loop q159l0))) (q159c3))⟩
theorem yjo:zap Tryz.f159=some q159:=by kernel_rfl
abbrev yjp:FuncId:=160
noncomputable def r160:=RC Tryz.f160
def q160c0:zab:=r160 9
def q160c1:zab:=r160 5
def q160c2:zab:=.seq (.block 1 (.seq (r160 6) (.seq (.seq (r160 7) (.cond (.tmp 27) (.seq (r160 8) (.ret)) (.skip))) (q160c0)))) (q160c1)
def q160l0:zab:=.seq (.seq (r160 4) (.cond (.tmp 17) (.skip) (.exit 0))) (q160c2)
def q160c3:zab:=.seq (r160 10) (.ret)
@[simp] theorem yjq:Said (by and_intros<;>cbv:r160 0=_/\r160 1=_/\r160 2=_/\r160 3=_/\r160 4=_/\r160 6=_/\r160 7=_/\r160 8=_/\r160 9=_/\r160 5=_/\r160 10=_):=said _
@[simp] theorem z2a:Said (And.intro (zac q160c0.eq_1) (And.intro (zac q160c1.eq_1) (And.intro (zac q160c2.eq_1) (And.intro (zac q160l0.eq_1) (zac q160c3.eq_1))))):=said _
@[simp] def q160:QFn:=⟨37,[(.tmp 2,166),(.tmp 3,4)],.seq (r160 0) (.seq (r160 1) (.seq (r160 2) (.seq (.seq (r160 3) (.block 0 (.loop q160l0))) (q160c3))))⟩
theorem yjr:zap Tryz.f160=some q160:=by kernel_rfl
abbrev yjs:FuncId:=161
noncomputable def r161:=RC Tryz.f161
@[simp] theorem yjt:Said (by and_intros<;>cbv:r161 0=_/\r161 1=_):=said _
@[simp] def q161:QFn:=⟨26,[(.tmp 2,4)],.seq (r161 0) (.seq (r161 1) (.ret))⟩
theorem yju:zap Tryz.f161=some q161:=by kernel_rfl
abbrev yjv:FuncId:=162
noncomputable def r162:=RC Tryz.f162
def q162c0:zab:=.seq (r162 8) (.ret)
@[simp] theorem yjw:Said (by and_intros<;>cbv:r162 0=_/\r162 1=_/\r162 2=_/\r162 3=_/\r162 4=_/\r162 5=_/\r162 6=_/\r162 7=_/\r162 8=_):=said _
@[simp] theorem z47:Said (zac q162c0.eq_1):=said _
@[simp] def q162:QFn:=⟨10,[(.tmp 2,9)],.seq (r162 0) (.seq (.seq (r162 1) (.block 0 (.seq (r162 2) (.cond (.tmp 4) (.seq (r162 3) (.ret)) (.seq (r162 4) (.cond (.tmp 6) (.seq (r162 5) (.ret)) (.seq (r162 6) (.cond (.tmp 8) (.seq (r162 7) (.ret)) (.skip))))))))) (q162c0))⟩
theorem yjx:zap Tryz.f162=some q162:=by kernel_rfl
abbrev yeq:FuncId:=165
noncomputable def r165:=RC Tryz.f165
@[simp] theorem yjy:Said (by and_intros<;>cbv:r165 0=_/\r165 1=_):=said _
@[simp] def q165:QFn:=⟨21,[(.tmp 4,4)],.seq (r165 0) (.seq (r165 1) (.ret))⟩
theorem yer:zap Tryz.f165=some q165:=by kernel_rfl
abbrev yjz:FuncId:=171
noncomputable def r171:=RC Tryz.f171
@[simp] theorem yj0:Said (by and_intros<;>cbv:r171 0=_/\r171 1=_):=said _
@[simp] def q171:QFn:=⟨8,[(.tmp 4,4)],.seq (r171 0) (.seq (r171 1) (.ret))⟩
theorem yj1:zap Tryz.f171=some q171:=by kernel_rfl
abbrev yj2:FuncId:=174
noncomputable def r174:=RC Tryz.f174
def q174c0:zab:=r174 9
def q174c1:zab:=r174 10
def q174c2:zab:=.seq (.block 1 (.seq (r174 6) (.seq (.seq (r174 7) (.cond (.tmp 39) (.seq (r174 8) (.ret)) (.skip))) (q174c0)))) (q174c1)
def q174l0:zab:=.seq (r174 5) (.seq (.cond (.tmp 28) (.skip) (.exit 0)) (q174c2))
def q174c3:zab:=.seq (r174 13) (.ret)
def q174c4:zab:=.seq (.seq (r174 11) (.cond (.tmp 51) (.seq (r174 12) (.ret)) (.skip))) (q174c3)
def q174c5:zab:=.seq (r174 3) (.seq (.seq (r174 4) (.block 0 (.loop q174l0))) (q174c4))
@[simp] theorem yj3:Said (by and_intros<;>cbv:r174 0=_/\r174 1=_/\r174 2=_/\r174 3=_/\r174 4=_/\r174 5=_/\r174 6=_/\r174 7=_/\r174 8=_/\r174 9=_/\r174 10=_/\r174 11=_/\r174 12=_/\r174 13=_):=said _
@[simp] theorem z48:Said (And.intro (zac q174c0.eq_1) (And.intro (zac q174c1.eq_1) (And.intro (zac q174c2.eq_1) (And.intro (zac q174l0.eq_1) (And.intro (zac q174c3.eq_1) (And.intro (zac q174c4.eq_1) (zac q174c5.eq_1))))))):=said _
@[simp] def q174:QFn:=⟨53,[(.tmp 4,3),(.tmp 5,4)],.seq (r174 0) (.seq (.seq (r174 1) (.cond (.tmp 24) (.seq (r174 2) (.ret)) (.skip))) (q174c5))⟩
theorem yj4:zap Tryz.f174=some q174:=by kernel_rfl
abbrev yj5:FuncId:=175
noncomputable def r175:=RC Tryz.f175
def q175c0:zab:=r175 6
def q175c1:zab:=.seq (.block 1 (.seq (r175 3) (.seq (r175 4) (.cond (.tmp 13) (.seq (r175 5) (.ret)) (.skip))))) (q175c0)
def q175l0:zab:=.seq (r175 2) (.seq (.cond (.tmp 7) (.skip) (.exit 0)) (q175c1))
def q175c2:zab:=.seq (r175 7) (.ret)
@[simp] theorem yj6:Said (by and_intros<;>cbv:r175 0=_/\r175 1=_/\r175 2=_/\r175 3=_/\r175 4=_/\r175 5=_/\r175 6=_/\r175 7=_):=said _
@[simp] theorem zy7:Said (And.intro (zac q175c0.eq_1) (And.intro (zac q175c1.eq_1) (And.intro (zac q175l0.eq_1) (zac q175c2.eq_1)))):=said _
@[simp] def q175:QFn:=⟨17,[(.tmp 2,4)],.seq (r175 0) (.seq (.seq (r175 1) (.block 0 (.loop q175l0))) (q175c2))⟩
theorem yj7:zap Tryz.f175=some q175:=by kernel_rfl
abbrev yj8:FuncId:=176
noncomputable def r176:=RC Tryz.f176
def q176c0:zab:=.seq (r176 9) (r176 10)
def q176c1:zab:=.seq (r176 11) (.ret)
def q176c2:zab:=.seq (r176 3) (.seq (.seq (r176 4) (.block 0 (.range 13 [14] (r176 5) (.block 1 (.seq (r176 6) (.seq (.seq (r176 7) (.cond (.tmp 26) (.seq (r176 8) (.ret)) (.skip))) (q176c0))))))) (q176c1))
@[simp] theorem yj9:Said (by and_intros<;>cbv:r176 0=_/\r176 1=_/\r176 2=_/\r176 3=_/\r176 4=_/\r176 5=_/\r176 6=_/\r176 7=_/\r176 8=_/\r176 9=_/\r176 10=_/\r176 11=_):=said _
@[simp] theorem zy8:Said (And.intro (zac q176c0.eq_1) (And.intro (zac q176c1.eq_1) (zac q176c2.eq_1))):=said _
@[simp] def q176:QFn:=⟨36,[(.cell 2 188,188),(.cell 3 4,4)],.seq (r176 0) (.seq (.seq (r176 1) (.cond (.tmp 11) (.seq (r176 2) (.ret)) (.skip))) (q176c2))⟩
theorem yka:zap Tryz.f176=some q176:=by kernel_rfl
abbrev ykb:FuncId:=177
noncomputable def r177:=RC Tryz.f177
@[simp] theorem ykc:Said (by and_intros<;>cbv:r177 0=_/\r177 1=_):=said _
@[simp] def q177:QFn:=⟨9,[(.tmp 2,4)],.seq (r177 0) (.seq (r177 1) (.ret))⟩
theorem ykd:zap Tryz.f177=some q177:=by kernel_rfl
abbrev yke:FuncId:=178
noncomputable def r178:=RC Tryz.f178
def q178c0:zab:=r178 6
def q178c1:zab:=.seq (.block 1 (.seq (r178 3) (.seq (r178 4) (.cond (.tmp 16) (.seq (r178 5) (.ret)) (.skip))))) (q178c0)
def q178l0:zab:=.seq (r178 2) (.seq (.cond (.tmp 9) (.skip) (.exit 0)) (q178c1))
def q178c2:zab:=.seq (r178 7) (.ret)
@[simp] theorem ykf:Said (by and_intros<;>cbv:r178 0=_/\r178 1=_/\r178 2=_/\r178 3=_/\r178 4=_/\r178 5=_/\r178 6=_/\r178 7=_):=said _
@[simp] theorem zjx:Said (And.intro (zac q178c0.eq_1) (And.intro (zac q178c1.eq_1) (And.intro (zac q178l0.eq_1) (zac q178c2.eq_1)))):=said _
@[simp] def q178:QFn:=⟨19,[(.tmp 4,3)],.seq (r178 0) (.seq (.seq (r178 1) (.block 0 (.loop q178l0))) (q178c2))⟩
theorem ykg:zap Tryz.f178=some q178:=by kernel_rfl
abbrev yes:FuncId:=179
noncomputable def r179:=RC Tryz.f179
def q179c0:zab:=r179 6
def q179c1:zab:=.seq (.block 1 (.seq (r179 3) (.seq (r179 4) (.cond (.tmp 16) (.seq (r179 5) (.ret)) (.skip))))) (q179c0)
def q179l0:zab:=.seq (r179 2) (.seq (.cond (.tmp 9) (.skip) (.exit 0)) (q179c1))
def q179c2:zab:=.seq (r179 7) (.ret)
@[simp] theorem ykh:Said (by and_intros<;>cbv:r179 0=_/\r179 1=_/\r179 2=_/\r179 3=_/\r179 4=_/\r179 5=_/\r179 6=_/\r179 7=_):=said _
@[simp] theorem zi4:Said (And.intro (zac q179c0.eq_1) (And.intro (zac q179c1.eq_1) (And.intro (zac q179l0.eq_1) (zac q179c2.eq_1)))):=said _
@[simp] def q179:QFn:=⟨19,[(.tmp 4,3)],.seq (r179 0) (.seq (.seq (r179 1) (.block 0 (.loop q179l0))) (q179c2))⟩
theorem yet:zap Tryz.f179=some q179:=by kernel_rfl
abbrev yki:FuncId:=180
noncomputable def r180:=RC Tryz.f180
def q180c0:zab:=.seq (r180 4) (.ret)
@[simp] theorem ykj:Said (by and_intros<;>cbv:r180 0=_/\r180 1=_/\r180 2=_/\r180 3=_/\r180 4=_):=said _
@[simp] theorem zy9:Said (zac q180c0.eq_1):=said _
@[simp] def q180:QFn:=⟨24,[(.tmp 2,9),(.tmp 3,9),(.tmp 4,4)],.seq (r180 0) (.seq (r180 1) (.seq (.seq (r180 2) (.cond (.tmp 21) (.seq (r180 3) (.ret)) (.skip))) (q180c0)))⟩
theorem ykk:zap Tryz.f180=some q180:=by kernel_rfl
abbrev ykl:FuncId:=181
noncomputable def z08:=RD Tryz.f181
noncomputable def r181:=RC Tryz.f181
def q181c0:zab:=.seq (z08 6 7) (.seq (r181 7) (.seq (z08 8 11) (.seq (r181 9) (.ret))))
def q181c1:zab:=.seq (.seq (z08 4 5) (.cond (.tmp 24) (.seq (r181 5) (.ret)) (.skip))) (q181c0)
@[simp] theorem ykm:Said (by and_intros<;>cbv:r181 0=_/\r181 1=_/\r181 2=_/\r181 3=_/\z08 4 5=_/\r181 5=_/\z08 6 7=_/\r181 7=_/\z08 8 11=_/\r181 9=_):=said _
@[simp] theorem zow:Said (And.intro (zac q181c0.eq_1) (zac q181c1.eq_1)):=said _
@[simp] def q181:QFn:=⟨66,[(.tmp 4,9),(.tmp 5,88)],.seq (r181 0) (.seq (r181 1) (.seq (.seq (r181 2) (.cond (.tmp 16) (.seq (r181 3) (.ret)) (.skip))) (q181c1)))⟩
theorem ykn:zap Tryz.f181=some q181:=by kernel_rfl
abbrev yko:FuncId:=183
noncomputable def r183:=RC Tryz.f183
def q183c0:zab:=.block 1 (r183 6)
def q183l0:zab:=.seq (.seq (r183 5) (.cond (.tmp 23) (.skip) (.exit 0))) (q183c0)
def q183c1:zab:=.seq (r183 9) (.ret)
def q183c2:zab:=.seq (.seq (r183 7) (.cond (.tmp 40) (.seq (r183 8) (.ret)) (.skip))) (q183c1)
def q183c3:zab:=.seq (r183 4) (.seq (.block 0 (.loop q183l0)) (q183c2))
@[simp] theorem ykp:Said (by and_intros<;>cbv:r183 0=_/\r183 1=_/\r183 2=_/\r183 3=_/\r183 4=_/\r183 5=_/\r183 6=_/\r183 7=_/\r183 8=_/\r183 9=_):=said _
@[simp] theorem zw7:Said (zac q183c3.eq_1):=said _
@[simp] theorem z2b:Said (And.intro (zac q183c0.eq_1) (And.intro (zac q183l0.eq_1) (And.intro (zac q183c1.eq_1) (zac q183c2.eq_1)))):=said _
@[simp] def q183:QFn:=⟨43,[(.tmp 2,3)],.seq (r183 0) (.seq (r183 1) (.seq (.seq (r183 2) (.cond (.tmp 12) (r183 3) (.skip))) (q183c3)))⟩
theorem ykq:zap Tryz.f183=some q183:=by kernel_rfl
abbrev ykr:FuncId:=184
noncomputable def r184:=RC Tryz.f184
def q184c0:zab:=r184 7
def q184c1:zab:=r184 4
def q184c2:zab:=.seq (.block 1 (.seq (.seq (r184 5) (.cond (.tmp 24) (.seq (r184 6) (.ret)) (.skip))) (q184c0))) (q184c1)
def q184l0:zab:=.seq (.seq (r184 3) (.cond (.tmp 8) (.skip) (.exit 0))) (q184c2)
def q184c3:zab:=.seq (r184 10) (.ret)
def q184c4:zab:=.seq (.seq (r184 8) (.cond (.tmp 45) (.seq (r184 9) (.ret)) (.skip))) (q184c3)
@[simp] theorem yks:Said (by and_intros<;>cbv:r184 0=_/\r184 1=_/\r184 2=_/\r184 3=_/\r184 5=_/\r184 6=_/\r184 7=_/\r184 4=_/\r184 8=_/\r184 9=_/\r184 10=_):=said _
@[simp] theorem z7h:Said (And.intro (zac q184c0.eq_1) (And.intro (zac q184c1.eq_1) (And.intro (zac q184c2.eq_1) (And.intro (zac q184l0.eq_1) (And.intro (zac q184c3.eq_1) (zac q184c4.eq_1)))))):=said _
@[simp] def q184:QFn:=⟨47,[(.tmp 2,3)],.seq (r184 0) (.seq (r184 1) (.seq (.seq (r184 2) (.block 0 (.loop q184l0))) (q184c4)))⟩
theorem ykt:zap Tryz.f184=some q184:=by kernel_rfl
abbrev yb4:FuncId:=192
noncomputable def r192:=RC Tryz.f192
@[simp] theorem yku:Said (by and_intros<;>cbv:r192 0=_/\r192 1=_):=said _
@[simp] def q192:QFn:=⟨18,[(.tmp 4,4)],.seq (r192 0) (.seq (r192 1) (.ret))⟩
theorem yb5:zap Tryz.f192=some q192:=by kernel_rfl
abbrev ykv:FuncId:=195
noncomputable def r195:=RC Tryz.f195
@[simp] theorem ykw:Said (by and_intros<;>cbv:r195 0=_/\r195 1=_):=said _
@[simp] def q195:QFn:=⟨29,[(.tmp 2,4)],.seq (r195 0) (.seq (r195 1) (.ret))⟩
theorem ykx:zap Tryz.f195=some q195:=by kernel_rfl
abbrev yky:FuncId:=196
noncomputable def r196:=RC Tryz.f196
def q196c0:zab:=r196 18
def q196c1:zab:=.seq (r196 15) (.seq (.seq (r196 16) (.cond (.tmp 39) (.seq (r196 17) (.ret)) (.skip))) (q196c0))
def q196c2:zab:=.seq (r196 21) (r196 22)
def q196c3:zab:=.block 1 (.seq (r196 3) (.seq (r196 4) (.seq (r196 5) (.seq (.block 2 (.seq (r196 7) (.cond (.tmp 16) (r196 8) (.seq (r196 9) (.cond (.tmp 20) (r196 10) (.seq (r196 11) (.cond (.tmp 24) (.seq (r196 12) (.seq (.seq (r196 13) (.cond (.tmp 30) (.seq (r196 14) (.ret)) (.skip))) (q196c1))) (.seq (r196 19) (.cond (.tmp 43) (r196 20) (.seq (r196 6) (.ret))))))))))) (q196c2)))))
def q196l0:zab:=.seq (.seq (r196 2) (.cond (.tmp 12) (.skip) (.exit 0))) (q196c3)
def q196c4:zab:=.seq (r196 23) (.ret)
@[simp] theorem ykz:Said (by and_intros<;>cbv:r196 0=_/\r196 1=_/\r196 2=_/\r196 3=_/\r196 4=_/\r196 5=_/\r196 7=_/\r196 8=_/\r196 9=_/\r196 10=_/\r196 11=_/\r196 12=_/\r196 13=_/\r196 14=_/\r196 15=_/\r196 16=_/\r196 17=_/\r196 18=_/\r196 19=_/\r196 20=_/\r196 6=_/\r196 21=_/\r196 22=_/\r196 23=_):=said _
@[simp] theorem zza:Said (And.intro (zac q196c0.eq_1) (And.intro (zac q196c1.eq_1) (And.intro (zac q196c2.eq_1) (And.intro (zac q196c3.eq_1) (And.intro (zac q196l0.eq_1) (zac q196c4.eq_1)))))):=said _
@[simp] def q196:QFn:=⟨59,[(.tmp 2,211),(.tmp 3,4)],.seq (r196 0) (.seq (r196 1) (.seq (.block 0 (.loop q196l0)) (q196c4)))⟩
theorem yk0:zap Tryz.f196=some q196:=by kernel_rfl
abbrev yk1:FuncId:=199
noncomputable def r199:=RC Tryz.f199
@[simp] theorem yk2:Said (by and_intros<;>cbv:r199 0=_/\r199 1=_):=said _
@[simp] def q199:QFn:=⟨8,[(.tmp 4,9)],.seq (r199 0) (.seq (r199 1) (.ret))⟩
theorem yk3:zap Tryz.f199=some q199:=by kernel_rfl
abbrev yk4:FuncId:=200
noncomputable def r200:=RC Tryz.f200
@[simp] theorem yk5:Said (by and_intros<;>cbv:r200 0=_/\r200 1=_):=said _
@[simp] def q200:QFn:=⟨8,[(.tmp 3,4)],.seq (r200 0) (.seq (r200 1) (.ret))⟩
theorem yk6:zap Tryz.f200=some q200:=by kernel_rfl
abbrev yk7:FuncId:=215
noncomputable def r215:=RC Tryz.f215
def q215c0:zab:=.seq (r215 4) (.seq (r215 5) (.ret))
@[simp] theorem yk8:Said (by and_intros<;>cbv:r215 0=_/\r215 1=_/\r215 2=_/\r215 3=_/\r215 4=_/\r215 5=_):=said _
@[simp] theorem zzb:Said (zac q215c0.eq_1):=said _
@[simp] def q215:QFn:=⟨19,[(.cell 2 241,241),(.tmp 3,4)],.seq (r215 0) (.seq (r215 1) (.seq (.seq (r215 2) (.cond (.tmp 14) (.seq (r215 3) (.ret)) (.skip))) (q215c0)))⟩
theorem yk9:zap Tryz.f215=some q215:=by kernel_rfl
abbrev yla:FuncId:=217
noncomputable def r217:=RC Tryz.f217
def yeu:zab:=.seq (r217 3) (.ret)
@[simp] theorem ylb:Said (by and_intros<;>cbv:r217 0=_/\r217 1=_/\r217 2=_/\r217 3=_):=said _
@[simp] def q217:QFn:=⟨13,[(.tmp 4,9)],.seq (r217 0) (.seq (.seq (r217 1) (.cond (.tmp 7) (.seq (r217 2) (.ret)) (.skip))) (yeu))⟩
theorem ylc:zap Tryz.f217=some q217:=by kernel_rfl
abbrev yld:FuncId:=223
noncomputable def r223:=RC Tryz.f223
@[simp] theorem yle:Said (by and_intros<;>cbv:r223 0=_/\r223 1=_):=said _
@[simp] def q223:QFn:=⟨11,[(.tmp 4,9),(.tmp 5,4)],.seq (r223 0) (.seq (r223 1) (.ret))⟩
theorem ylf:zap Tryz.f223=some q223:=by kernel_rfl
abbrev ylg:FuncId:=225
noncomputable def r225:=RC Tryz.f225
def q225c0:zab:=.seq (r225 3) (.ret)
@[simp] theorem ylh:Said (by and_intros<;>cbv:r225 0=_/\r225 1=_/\r225 2=_/\r225 3=_):=said _
@[simp] theorem zi5:Said (zac q225c0.eq_1):=said _
@[simp] def q225:QFn:=⟨15,[(.tmp 4,9),(.tmp 5,4)],.seq (r225 0) (.seq (.seq (r225 1) (.cond (.tmp 9) (.seq (r225 2) (.ret)) (.skip))) (q225c0))⟩
theorem yli:zap Tryz.f225=some q225:=by kernel_rfl
end
end Go.Qz
