import Derived.Test.YtddfkpkieamlpaaGreatDoorProg
import Derived.Test.YtddfkpkieamlpaaGreatDoorQo0
import Derived.KernelRfl
namespace Go.Qz
open Go.Proofs
@[simp] theorem tyA0:(λP:Program=>zbj P 3=some 1/\zbi P 3=false/\zhm P 3=some [.ro (.int .i64 0)]/\zbj P 4=some 1/\zbi P 4=false/\zhm P 4=some [.ro (.bool false)]/\zbj P 5=some 1/\zbi P 5=false/\zbj P 9=some 1/\zbi P 9=false/\zbj P 22=some 1/\zbi P 22=false/\zOf P 22=some 3/\zbj P 23=some 1/\zbi P 23=false/\zOf P 23=some 4/\zbj P 25=some 4/\zbi P 25=true/\fieldAt P 25 0=some (0,9)/\fieldAt P 25 1=some (1,9)/\fieldAt P 25 2=some (2,22)/\fieldAt P 25 3=some (3,23)/\zbj P 28=some 1/\zbi P 28=false/\zOf P 28=some 3/\zij P 80=some 3/\zbj P 29=some 1/\zbi P 29=false/\zOf P 29=some 4/\zij P 104=some 4/\zbj P 31=some 4/\zbi P 31=true/\fieldAt P 31 0=some (0,9)/\fieldAt P 31 1=some (1,9)/\fieldAt P 31 2=some (2,28)/\fieldAt P 31 3=some (3,29)/\zhm P 31=some [.ro (.str ⟨#[]⟩),.ro (.str ⟨#[]⟩),.own (.sl 3 []),.own (.sl 4 [])]/\zbj P 39=some 1/\zbi P 39=false/\zyo P 39=some 5/\zOf P 39=some 1/\zij P 5=some 1/\zOf P 45=some 1/\zij P 9=some 1/\zbj P 80=some 3/\zbi P 80=true/\fieldAt P 80 0=some (0,9)/\fieldAt P 80 1=some (1,3)/\fieldAt P 80 2=some (2,9)/\zhm P 80=some [.ro (.str ⟨#[]⟩),.ro (.int .i64 0),.ro (.str ⟨#[]⟩)]/\zOf P 93=some 1/\zij P 3=some 1/\zbj P 99=some 3/\zbi P 99=true/\fieldAt P 99 0=some (0,9)/\fieldAt P 99 1=some (1,3)/\fieldAt P 99 2=some (2,9)/\zbj P 102=some 4/\zbi P 102=true/\fieldAt P 102 0=some (0,9)) Tryz.prog:=by
  dsimp only
  and_intros<;>kernel_rfl
@[simp] theorem tyA1:(λP:Program=>fieldAt P 102 1=some (1,3)/\fieldAt P 102 2=some (2,3)/\fieldAt P 102 3=some (3,9)/\zbj P 104=some 4/\zbi P 104=true/\fieldAt P 104 0=some (0,9)/\fieldAt P 104 1=some (1,3)/\fieldAt P 104 2=some (2,3)/\fieldAt P 104 3=some (3,9)/\zim P 104=true/\zhm P 104=some [.ro (.str ⟨#[]⟩),.ro (.int .i64 0),.ro (.int .i64 0),.ro (.str ⟨#[]⟩)]/\zuv P 108=some 5/\fieldAt P 108 1=some (1,39)/\zhm P 108=some [.ro (.nilp),.own (.sl 1 [])]/\zbj P 115=some 1/\zbi P 115=false/\zhm P 115=some [.ro (.int .u32 0)]/\zbj P 116=some 8/\zbi P 116=true/\zim P 116=true/\zhm P 116=some [.ro (.int .u32 0),.ro (.int .u32 0),.ro (.int .u32 0),.ro (.int .u32 0),.ro (.int .u32 0),.ro (.int .u32 0),.ro (.int .u32 0),.ro (.int .u32 0)]/\zOf P 119=some 1/\zij P 115=some 1/\zbj P 138=some 1/\zbi P 138=false/\zOf P 138=some 1/\zhm P 138=some [.own (.sl 1 [])]/\zhm P 156=some [.ro (.int .u32 0),.ro (.int .u32 0),.ro (.int .u32 0),.ro (.int .u32 0),.ro (.int .u32 0),.ro (.int .u32 0),.ro (.int .u32 0),.ro (.int .u32 0),.ro (.int .u32 0),.ro (.int .u32 0),.ro (.int .u32 0),.ro (.int .u32 0),.ro (.int .u32 0),.ro (.int .u32 0),.ro (.int .u32 0),.ro (.int .u32 0),.ro (.int .u32 0),.ro (.int .u32 0),.ro (.int .u32 0),.ro (.int .u32 0),.ro (.int .u32 0),.ro (.int .u32 0),.ro (.int .u32 0),.ro (.int .u32 0),.ro (.int .u32 0),.ro (.int .u32 0),.ro (.int .u32 0),.ro (.int .u32 0),.ro (.int .u32 0),.ro (.int .u32 0),.ro (.int .u32 0),.ro (.int .u32 0),.ro (.int .u32 0),.ro (.int .u32 0),.ro (.int .u32 0),.ro (.int .u32 0),.ro (.int .u32 0),.ro (.int .u32 0),.ro (.int .u32 0),.ro (.int .u32 0),.ro (.int .u32 0),.ro (.int .u32 0),.ro (.int .u32 0),.ro (.int .u32 0),.ro (.int .u32 0),.ro (.int .u32 0),.ro (.int .u32 0),.ro (.int .u32 0),.ro (.int .u32 0),.ro (.int .u32 0),.ro (.int .u32 0),.ro (.int .u32 0),.ro (.int .u32 0),.ro (.int .u32 0),.ro (.int .u32 0),.ro (.int .u32 0),.ro (.int .u32 0),.ro (.int .u32 0),.ro (.int .u32 0),.ro (.int .u32 0),.ro (.int .u32 0),.ro (.int .u32 0),.ro (.int .u32 0),.ro (.int .u32 0)]) Tryz.prog:=by
  dsimp only
  and_intros<;>kernel_rfl
attribute [simp] Tryz.underlying10 Tryz.underlying101 Tryz.underlying102 Tryz.underlying104 Tryz.underlying106 Tryz.underlying107 Tryz.underlying108 Tryz.underlying109 Tryz.underlying11 Tryz.underlying110 Tryz.underlying115 Tryz.underlying116 Tryz.underlying117 Tryz.underlying119 Tryz.underlying12 Tryz.underlying13 Tryz.underlying136 Tryz.underlying137 Tryz.underlying138 Tryz.underlying14 Tryz.underlying15 Tryz.underlying153 Tryz.underlying155 Tryz.underlying156 Tryz.underlying157 Tryz.underlying16 Tryz.underlying17 Tryz.underlying176 Tryz.underlying18 Tryz.underlying183 Tryz.underlying184 Tryz.underlying19 Tryz.underlying2 Tryz.underlying20 Tryz.underlying201 Tryz.underlying203 Tryz.underlying208 Tryz.underlying209 Tryz.underlying21 Tryz.underlying210 Tryz.underlying211 Tryz.underlying215 Tryz.underlying216 Tryz.underlying219 Tryz.underlying22 Tryz.underlying220 Tryz.underlying221 Tryz.underlying222 Tryz.underlying223 Tryz.underlying224 Tryz.underlying225 Tryz.underlying227 Tryz.underlying228 Tryz.underlying23 Tryz.underlying230 Tryz.underlying231 Tryz.underlying232 Tryz.underlying233 Tryz.underlying24 Tryz.underlying25 Tryz.underlying28 Tryz.underlying29 Tryz.underlying3 Tryz.underlying30 Tryz.underlying31 Tryz.underlying39 Tryz.underlying4 Tryz.underlying44 Tryz.underlying45 Tryz.underlying5 Tryz.underlying50 Tryz.underlying6 Tryz.underlying7 Tryz.underlying76 Tryz.underlying79 Tryz.underlying8 Tryz.underlying80 Tryz.underlying9 Tryz.underlying90 Tryz.underlying93 Tryz.underlying94 Tryz.underlying95 Tryz.underlying99
end Go.Qz
namespace Go.Qz
open Go.Proofs
noncomputable section
abbrev Fn3:FuncId:=3
noncomputable def rD3:=RD Tryz.f3
noncomputable def r3:=RC Tryz.f3
def q3c0:zaa:=.seq (r3 12) (.ret)
def q3c1:zaa:=.seq (.seq (rD3 10 3) (.cond (.tmp 26) (.seq (r3 11) (.ret)) (.skip))) (q3c0)
def q3c2:zaa:=.seq (r3 5) (.seq (r3 6) (.seq (r3 7) (.seq (.seq (r3 8) (.cond (.tmp 21) (.seq (r3 9) (.ret)) (.skip))) (q3c1))))
@[simp] theorem ye6:Said (by and_intros<;>cbv:r3 0=_/\r3 1=_/\r3 2=_/\r3 3=_/\r3 4=_/\r3 5=_/\r3 6=_/\r3 7=_/\r3 8=_/\r3 9=_/\rD3 10 3=_/\r3 11=_/\r3 12=_):=said _
@[simp] theorem zph:Said (And.intro (zac q3c0.eq_1) (And.intro (zac q3c1.eq_1) (zac q3c2.eq_1))):=said _
@[simp] def q3:QFn:=⟨27,[(.tmp 2,4)],.seq (r3 0) (.seq (r3 1) (.seq (r3 2) (.seq (.seq (r3 3) (.cond (.tmp 11) (.seq (r3 4) (.ret)) (.skip))) (q3c2))))⟩
theorem Cv3:zao Tryz.f3=some q3:=by kernel_rfl
abbrev Fn7:FuncId:=7
noncomputable def r7:=RC Tryz.f7
def q7c0:zaa:=.seq (r7 13) (.ret)
def q7c1:zaa:=.seq (r7 10) (.seq (.seq (r7 11) (.cond (.tmp 30) (.seq (r7 12) (.ret)) (.skip))) (q7c0))
def q7c2:zaa:=.seq (r7 7) (.seq (.seq (r7 8) (.cond (.tmp 24) (.seq (r7 9) (.ret)) (.skip))) (q7c1))
def q7c3:zaa:=.seq (r7 4) (.seq (.seq (r7 5) (.cond (.tmp 18) (.seq (r7 6) (.ret)) (.skip))) (q7c2))
@[simp] theorem ye7:Said (by and_intros<;>cbv:r7 0=_/\r7 1=_/\r7 2=_/\r7 3=_/\r7 4=_/\r7 5=_/\r7 6=_/\r7 7=_/\r7 8=_/\r7 9=_/\r7 10=_/\r7 11=_/\r7 12=_/\r7 13=_):=said _
@[simp] theorem z0q:Said (And.intro (zac q7c0.eq_1) (And.intro (zac q7c1.eq_1) (And.intro (zac q7c2.eq_1) (zac q7c3.eq_1)))):=said _
@[simp] def q7:QFn:=⟨32,[(.tmp 4,3)],.seq (r7 0) (.seq (r7 1) (.seq (.seq (r7 2) (.cond (.tmp 11) (.seq (r7 3) (.ret)) (.skip))) (q7c3)))⟩
theorem Cv7:zao Tryz.f7=some q7:=by kernel_rfl
abbrev Fn8:FuncId:=8
noncomputable def r8:=RC Tryz.f8
def q8c0:zaa:=.seq (r8 3) (.ret)
@[simp] theorem ye8:Said (by and_intros<;>cbv:r8 0=_/\r8 1=_/\r8 2=_/\r8 3=_):=said _
@[simp] theorem zx6:Said (zac q8c0.eq_1):=said _
@[simp] def q8:QFn:=⟨8,[(.tmp 2,9)],.seq (r8 0) (.seq (.seq (r8 1) (.cond (.tmp 5) (.seq (r8 2) (.ret)) (.skip))) (q8c0))⟩
theorem Cv8:zao Tryz.f8=some q8:=by kernel_rfl
abbrev Fn9:FuncId:=9
noncomputable def r9:=RC Tryz.f9
@[simp] theorem ye9:Said (by and_intros<;>cbv:r9 0=_/\r9 1=_/\r9 2=_/\r9 3=_/\r9 4=_/\r9 5=_/\r9 6=_):=said _
@[simp] def q9:QFn:=⟨19,[(.cell 2 31,31)],.seq (r9 0) (.seq (r9 1) (.seq (r9 2) (.seq (r9 3) (.seq (r9 4) (.seq (r9 5) (.seq (r9 6) (.ret)))))))⟩
theorem Cv9:zao Tryz.f9=some q9:=by kernel_rfl
abbrev Fn10:FuncId:=10
noncomputable def r10:=RC Tryz.f10
def q10c0:zaa:=.seq (r10 3) (.seq (r10 4) (.ret))
@[simp] theorem ydw:Said (by and_intros<;>cbv:r10 0=_/\r10 1=_/\r10 2=_/\r10 3=_/\r10 4=_):=said _
@[simp] theorem zx7:Said (zac q10c0.eq_1):=said _
@[simp] def q10:QFn:=⟨15,[(.tmp 2,9)],.seq (r10 0) (.seq (.seq (r10 1) (.cond (.tmp 6) (.seq (r10 2) (.ret)) (.skip))) (q10c0))⟩
theorem Cv10:zao Tryz.f10=some q10:=by kernel_rfl
abbrev Fn11:FuncId:=11
noncomputable def r11:=RC Tryz.f11
def q11c0:zaa:=.seq (r11 9) (.ret)
def q11c1:zaa:=.seq (.seq (r11 7) (.cond (.tmp 26) (.seq (r11 8) (.ret)) (.skip))) (q11c0)
def q11c2:zaa:=.seq (.seq (r11 5) (.cond (.tmp 20) (.seq (r11 6) (.ret)) (.skip))) (q11c1)
def q11c3:zaa:=.seq (.seq (r11 3) (.cond (.tmp 14) (.seq (r11 4) (.ret)) (.skip))) (q11c2)
@[simp] theorem ydx:Said (by and_intros<;>cbv:r11 0=_/\r11 1=_/\r11 2=_/\r11 3=_/\r11 4=_/\r11 5=_/\r11 6=_/\r11 7=_/\r11 8=_/\r11 9=_):=said _
@[simp] theorem z0r:Said (And.intro (zac q11c0.eq_1) (And.intro (zac q11c1.eq_1) (And.intro (zac q11c2.eq_1) (zac q11c3.eq_1)))):=said _
@[simp] def q11:QFn:=⟨27,[(.tmp 4,4)],.seq (r11 0) (.seq (.seq (r11 1) (.cond (.tmp 9) (.seq (r11 2) (.ret)) (.skip))) (q11c3))⟩
theorem Cv11:zao Tryz.f11=some q11:=by kernel_rfl
abbrev Fn17:FuncId:=17
noncomputable def r17:=RC Tryz.f17
def q17c0:zaa:=.seq (r17 3) (.ret)
@[simp] theorem ydy:Said (by and_intros<;>cbv:r17 0=_/\r17 1=_/\r17 2=_/\r17 3=_):=said _
@[simp] theorem z0s:Said (zac q17c0.eq_1):=said _
@[simp] def q17:QFn:=⟨36,[(.tmp 2,4)],.seq (r17 0) (.seq (.seq (r17 1) (.cond (.tmp 18) (.seq (r17 2) (.ret)) (.skip))) (q17c0))⟩
theorem Cv17:zao Tryz.f17=some q17:=by kernel_rfl
abbrev Fn18:FuncId:=18
noncomputable def r18:=RC Tryz.f18
@[simp] theorem ydz:Said (by and_intros<;>cbv:r18 0=_/\r18 1=_):=said _
@[simp] def q18:QFn:=⟨23,[(.tmp 2,4)],.seq (r18 0) (.seq (r18 1) (.ret))⟩
theorem Cv18:zao Tryz.f18=some q18:=by kernel_rfl
abbrev Fn32:FuncId:=32
noncomputable def r32:=RC Tryz.f32
def q32c0:zaa:=r32 6
def q32c1:zaa:=.seq (.block 1 (.seq (r32 7) (.seq (r32 8) (.cond (.tmp 25) (.seq (r32 9) (.ret)) (.skip))))) (q32c0)
def q32l0:zaa:=.seq (.seq (r32 5) (.cond (.tmp 15) (.skip) (.exit 0))) (q32c1)
def q32c2:zaa:=.seq (r32 10) (.ret)
def q32c3:zaa:=.seq (.seq (r32 4) (.block 0 (.loop q32l0))) (q32c2)
@[simp] theorem yd0:Said (by and_intros<;>cbv:r32 0=_/\r32 1=_/\r32 2=_/\r32 3=_/\r32 4=_/\r32 5=_/\r32 7=_/\r32 8=_/\r32 9=_/\r32 6=_/\r32 10=_):=said _
@[simp] theorem zx8:Said (And.intro (zac q32c0.eq_1) (And.intro (zac q32c1.eq_1) (And.intro (zac q32l0.eq_1) (And.intro (zac q32c2.eq_1) (zac q32c3.eq_1))))):=said _
@[simp] def q32:QFn:=⟨27,[(.tmp 4,3)],.seq (r32 0) (.seq (r32 1) (.seq (.seq (r32 2) (.cond (.tmp 11) (.seq (r32 3) (.ret)) (.skip))) (q32c3)))⟩
theorem Cv32:zao Tryz.f32=some q32:=by kernel_rfl
abbrev Fn33:FuncId:=33
noncomputable def r33:=RC Tryz.f33
def q33c0:zaa:=r33 6
def q33c1:zaa:=.seq (.block 1 (.seq (r33 7) (.seq (r33 8) (.cond (.tmp 25) (.seq (r33 9) (.ret)) (.skip))))) (q33c0)
def q33l0:zaa:=.seq (.seq (r33 5) (.cond (.tmp 15) (.skip) (.exit 0))) (q33c1)
def q33c2:zaa:=.seq (r33 10) (.ret)
def q33c3:zaa:=.seq (.seq (r33 4) (.block 0 (.loop q33l0))) (q33c2)
@[simp] theorem yd1:Said (by and_intros<;>cbv:r33 0=_/\r33 1=_/\r33 2=_/\r33 3=_/\r33 4=_/\r33 5=_/\r33 7=_/\r33 8=_/\r33 9=_/\r33 6=_/\r33 10=_):=said _
@[simp] theorem zw6:Said (And.intro (zac q33c0.eq_1) (And.intro (zac q33c1.eq_1) (And.intro (zac q33l0.eq_1) (And.intro (zac q33c2.eq_1) (zac q33c3.eq_1))))):=said _
@[simp] def q33:QFn:=⟨27,[(.tmp 4,3)],.seq (r33 0) (.seq (r33 1) (.seq (.seq (r33 2) (.cond (.tmp 11) (.seq (r33 3) (.ret)) (.skip))) (q33c3)))⟩
theorem Cv33:zao Tryz.f33=some q33:=by kernel_rfl
abbrev Fn34:FuncId:=34
noncomputable def r34:=RC Tryz.f34
@[simp] theorem yd2:Said (by and_intros<;>cbv:r34 0=_/\r34 1=_/\r34 2=_):=said _
@[simp] def q34:QFn:=⟨12,[(.tmp 2,9)],.seq (r34 0) (.seq (r34 1) (.seq (r34 2) (.ret)))⟩
theorem Cv34:zao Tryz.f34=some q34:=by kernel_rfl
abbrev Fn35:FuncId:=35
noncomputable def r35:=RC Tryz.f35
def q35c0:zaa:=r35 4
def q35c1:zaa:=.seq (.block 1 (r35 5)) (q35c0)
def q35l0:zaa:=.seq (.seq (r35 3) (.cond (.tmp 11) (.skip) (.exit 0))) (q35c1)
def q35c2:zaa:=.seq (r35 6) (.ret)
@[simp] theorem yd3:Said (by and_intros<;>cbv:r35 0=_/\r35 1=_/\r35 2=_/\r35 3=_/\r35 5=_/\r35 4=_/\r35 6=_):=said _
@[simp] theorem zx9:Said (And.intro (zac q35c0.eq_1) (And.intro (zac q35c1.eq_1) (And.intro (zac q35l0.eq_1) (zac q35c2.eq_1)))):=said _
@[simp] def q35:QFn:=⟨23,[(.tmp 2,28)],.seq (r35 0) (.seq (r35 1) (.seq (.seq (r35 2) (.block 0 (.loop q35l0))) (q35c2)))⟩
theorem Cv35:zao Tryz.f35=some q35:=by kernel_rfl
abbrev Fn36:FuncId:=36
noncomputable def r36:=RC Tryz.f36
def q36c0:zaa:=r36 4
def q36c1:zaa:=.seq (.block 1 (r36 5)) (q36c0)
def q36l0:zaa:=.seq (.seq (r36 3) (.cond (.tmp 11) (.skip) (.exit 0))) (q36c1)
def q36c2:zaa:=.seq (r36 6) (.ret)
@[simp] theorem yd4:Said (by and_intros<;>cbv:r36 0=_/\r36 1=_/\r36 2=_/\r36 3=_/\r36 5=_/\r36 4=_/\r36 6=_):=said _
@[simp] theorem zw7:Said (And.intro (zac q36c0.eq_1) (And.intro (zac q36c1.eq_1) (And.intro (zac q36l0.eq_1) (zac q36c2.eq_1)))):=said _
@[simp] def q36:QFn:=⟨23,[(.tmp 2,29)],.seq (r36 0) (.seq (r36 1) (.seq (.seq (r36 2) (.block 0 (.loop q36l0))) (q36c2)))⟩
theorem Cv36:zao Tryz.f36=some q36:=by kernel_rfl
abbrev Fn37:FuncId:=37
noncomputable def r37:=RC Tryz.f37
def q37c0:zaa:=r37 7
def q37c1:zaa:=.seq (.block 1 (.seq (r37 5) (r37 6))) (q37c0)
def q37l0:zaa:=.seq (r37 4) (.seq (.cond (.tmp 19) (.skip) (.exit 0)) (q37c1))
def q37c2:zaa:=.seq (r37 8) (.seq (r37 9) (.ret))
@[simp] theorem yd5:Said (by and_intros<;>cbv:r37 0=_/\r37 1=_/\r37 2=_/\r37 3=_/\r37 4=_/\r37 5=_/\r37 6=_/\r37 7=_/\r37 8=_/\r37 9=_):=said _
@[simp] theorem zw8:Said (And.intro (zac q37c0.eq_1) (And.intro (zac q37c1.eq_1) (And.intro (zac q37l0.eq_1) (zac q37c2.eq_1)))):=said _
@[simp] def q37:QFn:=⟨34,[(.tmp 2,9)],.seq (r37 0) (.seq (r37 1) (.seq (r37 2) (.seq (.seq (r37 3) (.block 0 (.loop q37l0))) (q37c2))))⟩
theorem Cv37:zao Tryz.f37=some q37:=by kernel_rfl
abbrev Fn38:FuncId:=38
noncomputable def rD38:=RD Tryz.f38
noncomputable def r38:=RC Tryz.f38
def q38c0:zaa:=.block 1 (r38 4)
def q38l0:zaa:=.seq (.seq (r38 3) (.cond (.tmp 20) (.skip) (.exit 0))) (q38c0)
def q38c1:zaa:=r38 8
def q38c2:zaa:=.seq (.block 3 (r38 9)) (q38c1)
def q38l1:zaa:=.seq (.seq (r38 7) (.cond (.tmp 29) (.skip) (.exit 2))) (q38c2)
def q38c3:zaa:=r38 12
def q38c4:zaa:=.seq (.block 5 (rD38 13 6)) (q38c3)
def q38l2:zaa:=.seq (.seq (r38 11) (.cond (.tmp 42) (.skip) (.exit 4))) (q38c4)
def q38c5:zaa:=r38 20
def q38c6:zaa:=.seq (.block 9 (r38 21)) (q38c5)
def q38l3:zaa:=.seq (.seq (r38 19) (.cond (.tmp 59) (.skip) (.exit 8))) (q38c6)
def q38c7:zaa:=r38 22
def q38c8:zaa:=.seq (.block 7 (.seq (r38 17) (.seq (r38 18) (.block 8 (.loop q38l3))))) (q38c7)
def q38l4:zaa:=.seq (r38 16) (.seq (.cond (.tmp 55) (.skip) (.exit 6)) (q38c8))
def q38c9:zaa:=.seq (r38 23) (.ret)
def q38c10:zaa:=.seq (r38 14) (.seq (.seq (r38 15) (.block 6 (.loop q38l4))) (q38c9))
def q38c11:zaa:=.seq (.seq (r38 10) (.block 4 (.loop q38l2))) (q38c10)
def q38c12:zaa:=.seq (r38 5) (.seq (.seq (r38 6) (.block 2 (.loop q38l1))) (q38c11))
@[simp] theorem yd6:Said (by and_intros<;>cbv:r38 0=_/\r38 1=_/\r38 2=_/\r38 3=_/\r38 4=_/\r38 5=_/\r38 6=_/\r38 7=_/\r38 9=_/\r38 8=_/\r38 10=_/\r38 11=_/\rD38 13 6=_/\r38 12=_/\r38 14=_/\r38 15=_/\r38 16=_/\r38 17=_/\r38 18=_/\r38 19=_/\r38 21=_/\r38 20=_/\r38 22=_/\r38 23=_):=said _
@[simp] theorem z7z:Said (zac q38c9.eq_1):=said _
@[simp] theorem ztt:Said (zac q38c10.eq_1):=said _
@[simp] theorem z0t:Said (zac q38c11.eq_1):=said _
@[simp] theorem z0u:Said (zac q38c12.eq_1):=said _
@[simp] theorem z41:Said (And.intro (zac q38c0.eq_1) (And.intro (zac q38l0.eq_1) (And.intro (zac q38c1.eq_1) (And.intro (zac q38c2.eq_1) (And.intro (zac q38l1.eq_1) (And.intro (zac q38c3.eq_1) (And.intro (zac q38c4.eq_1) (And.intro (zac q38l2.eq_1) (And.intro (zac q38c5.eq_1) (And.intro (zac q38c6.eq_1) (And.intro (zac q38l3.eq_1) (And.intro (zac q38c7.eq_1) (And.intro (zac q38c8.eq_1) (zac q38l4.eq_1)))))))))))))):=said _
@[simp] def q38:QFn:=⟨70,[(.tmp 2,9)],.seq (r38 0) (.seq (r38 1) (.seq (r38 2) (.seq (.block 0 (.loop q38l0)) (q38c12))))⟩
theorem Cv38:zao Tryz.f38=some q38:=by kernel_rfl
abbrev Fn39:FuncId:=39
noncomputable def rD39:=RD Tryz.f39
noncomputable def r39:=RC Tryz.f39
def q39c0:zaa:=r39 5
def q39c1:zaa:=.seq (.block 1 (.seq (rD39 6 8) (.cond (.tmp 26) (.seq (r39 7) (.ret)) (.skip)))) (q39c0)
def q39l0:zaa:=.seq (.seq (r39 4) (.cond (.tmp 14) (.skip) (.exit 0))) (q39c1)
def q39c2:zaa:=.seq (r39 8) (.ret)
def q39c3:zaa:=.seq (.seq (r39 3) (.block 0 (.loop q39l0))) (q39c2)
@[simp] theorem yd7:Said (by and_intros<;>cbv:r39 0=_/\r39 1=_/\r39 2=_/\r39 3=_/\r39 4=_/\rD39 6 8=_/\r39 7=_/\r39 5=_/\r39 8=_):=said _
@[simp] theorem zya:Said (And.intro (zac q39c0.eq_1) (And.intro (zac q39c1.eq_1) (And.intro (zac q39l0.eq_1) (And.intro (zac q39c2.eq_1) (zac q39c3.eq_1))))):=said _
@[simp] def q39:QFn:=⟨27,[(.tmp 4,4)],.seq (r39 0) (.seq (.seq (r39 1) (.cond (.tmp 10) (.seq (r39 2) (.ret)) (.skip))) (q39c3))⟩
theorem Cv39:zao Tryz.f39=some q39:=by kernel_rfl
abbrev Fn40:FuncId:=40
noncomputable def rD40:=RD Tryz.f40
noncomputable def r40:=RC Tryz.f40
def q40c0:zaa:=r40 5
def q40c1:zaa:=.seq (.block 1 (.seq (rD40 6 8) (.cond (.tmp 26) (.seq (r40 7) (.ret)) (.skip)))) (q40c0)
def q40l0:zaa:=.seq (.seq (r40 4) (.cond (.tmp 14) (.skip) (.exit 0))) (q40c1)
def q40c2:zaa:=.seq (r40 8) (.ret)
def q40c3:zaa:=.seq (.seq (r40 3) (.block 0 (.loop q40l0))) (q40c2)
@[simp] theorem yd8:Said (by and_intros<;>cbv:r40 0=_/\r40 1=_/\r40 2=_/\r40 3=_/\r40 4=_/\rD40 6 8=_/\r40 7=_/\r40 5=_/\r40 8=_):=said _
@[simp] theorem zw9:Said (And.intro (zac q40c0.eq_1) (And.intro (zac q40c1.eq_1) (And.intro (zac q40l0.eq_1) (And.intro (zac q40c2.eq_1) (zac q40c3.eq_1))))):=said _
@[simp] def q40:QFn:=⟨27,[(.tmp 4,4)],.seq (r40 0) (.seq (.seq (r40 1) (.cond (.tmp 10) (.seq (r40 2) (.ret)) (.skip))) (q40c3))⟩
theorem Cv40:zao Tryz.f40=some q40:=by kernel_rfl
abbrev Fn53:FuncId:=53
noncomputable def r53:=RC Tryz.f53
def q53c0:zaa:=r53 8
def q53c1:zaa:=.seq (.block 1 (.seq (r53 5) (.seq (r53 6) (.cond (.tmp 47) (.seq (r53 7) (.ret)) (.skip))))) (q53c0)
def q53l0:zaa:=.seq (r53 4) (.seq (.cond (.tmp 24) (.skip) (.exit 0)) (q53c1))
def q53c2:zaa:=.seq (r53 9) (.ret)
def q53c3:zaa:=.seq (.seq (r53 3) (.block 0 (.loop q53l0))) (q53c2)
@[simp] theorem yd9:Said (by and_intros<;>cbv:r53 0=_/\r53 1=_/\r53 2=_/\r53 3=_/\r53 4=_/\r53 5=_/\r53 6=_/\r53 7=_/\r53 8=_/\r53 9=_):=said _
@[simp] theorem ztu:Said (And.intro (zac q53c0.eq_1) (And.intro (zac q53c1.eq_1) (And.intro (zac q53l0.eq_1) (And.intro (zac q53c2.eq_1) (zac q53c3.eq_1))))):=said _
@[simp] def q53:QFn:=⟨49,[(.tmp 2,4)],.seq (r53 0) (.seq (.seq (r53 1) (.cond (.tmp 20) (.seq (r53 2) (.ret)) (.skip))) (q53c3))⟩
theorem Cv53:zao Tryz.f53=some q53:=by kernel_rfl
abbrev Fn54:FuncId:=54
noncomputable def r54:=RC Tryz.f54
@[simp] theorem yea:Said (by and_intros<;>cbv:r54 0=_/\r54 1=_/\r54 2=_):=said _
@[simp] def q54:QFn:=⟨11,[(.tmp 2,4)],.seq (r54 0) (.seq (r54 1) (.seq (r54 2) (.ret)))⟩
theorem Cv54:zao Tryz.f54=some q54:=by kernel_rfl
abbrev Fn55:FuncId:=55
noncomputable def r55:=RC Tryz.f55
def q55c0:zaa:=r55 6
def q55c1:zaa:=.seq (.block 1 (.seq (r55 3) (.seq (r55 4) (.cond (.tmp 16) (.seq (r55 5) (.ret)) (.skip))))) (q55c0)
def q55l0:zaa:=.seq (r55 2) (.seq (.cond (.tmp 10) (.skip) (.exit 0)) (q55c1))
def q55c2:zaa:=.seq (r55 7) (.ret)
@[simp] theorem yeb:Said (by and_intros<;>cbv:r55 0=_/\r55 1=_/\r55 2=_/\r55 3=_/\r55 4=_/\r55 5=_/\r55 6=_/\r55 7=_):=said _
@[simp] theorem ztv:Said (And.intro (zac q55c0.eq_1) (And.intro (zac q55c1.eq_1) (And.intro (zac q55l0.eq_1) (zac q55c2.eq_1)))):=said _
@[simp] def q55:QFn:=⟨18,[(.tmp 4,4)],.seq (r55 0) (.seq (.seq (r55 1) (.block 0 (.loop q55l0))) (q55c2))⟩
theorem Cv55:zao Tryz.f55=some q55:=by kernel_rfl
abbrev Fn56:FuncId:=56
noncomputable def r56:=RC Tryz.f56
def q56c0:zaa:=.cond (.tmp 14) (.seq (r56 9) (.ret)) (.skip)
def q56c1:zaa:=.seq (r56 10) (.ret)
def q56c2:zaa:=.seq (.seq (r56 3) (.block 0 (.seq (r56 4) (.cond (.tmp 9) (.seq (r56 5) (.ret)) (.seq (.seq (r56 6) (.cond (.tmp 14) (.skip) (.seq (r56 7) (.cond (.tmp 14) (.skip) (r56 8))))) (q56c0)))))) (q56c1)
@[simp] theorem yec:Said (by and_intros<;>cbv:r56 0=_/\r56 1=_/\r56 2=_/\r56 3=_/\r56 4=_/\r56 5=_/\r56 6=_/\r56 7=_/\r56 8=_/\r56 9=_/\r56 10=_):=said _
@[simp] theorem z0v:Said (And.intro (zac q56c0.eq_1) (And.intro (zac q56c1.eq_1) (zac q56c2.eq_1))):=said _
@[simp] def q56:QFn:=⟨21,[(.tmp 2,4)],.seq (r56 0) (.seq (.seq (r56 1) (.cond (.tmp 6) (.seq (r56 2) (.ret)) (.skip))) (q56c2))⟩
theorem Cv56:zao Tryz.f56=some q56:=by kernel_rfl
abbrev Fn57:FuncId:=57
noncomputable def r57:=RC Tryz.f57
def q57c0:zaa:=r57 7
def q57c1:zaa:=r57 8
def q57c2:zaa:=.seq (.block 1 (.seq (r57 4) (.seq (.seq (r57 5) (.cond (.tmp 22) (.seq (r57 6) (.ret)) (.skip))) (q57c0)))) (q57c1)
def q57l0:zaa:=.seq (r57 3) (.seq (.cond (.tmp 15) (.skip) (.exit 0)) (q57c2))
def q57c3:zaa:=.seq (r57 9) (.ret)
@[simp] theorem yed:Said (by and_intros<;>cbv:r57 0=_/\r57 1=_/\r57 2=_/\r57 3=_/\r57 4=_/\r57 5=_/\r57 6=_/\r57 7=_/\r57 8=_/\r57 9=_):=said _
@[simp] theorem zm1:Said (And.intro (zac q57c0.eq_1) (And.intro (zac q57c1.eq_1) (And.intro (zac q57c2.eq_1) (And.intro (zac q57l0.eq_1) (zac q57c3.eq_1))))):=said _
@[simp] def q57:QFn:=⟨30,[(.tmp 6,4)],.seq (r57 0) (.seq (r57 1) (.seq (.seq (r57 2) (.block 0 (.loop q57l0))) (q57c3)))⟩
theorem Cv57:zao Tryz.f57=some q57:=by kernel_rfl
abbrev Fn58:FuncId:=58
noncomputable def r58:=RC Tryz.f58
@[simp] theorem yee:Said (by and_intros<;>cbv:r58 0=_/\r58 1=_):=said _
@[simp] def q58:QFn:=⟨5,[(.tmp 2,9)],.seq (r58 0) (.seq (r58 1) (.ret))⟩
theorem Cv58:zao Tryz.f58=some q58:=by kernel_rfl
abbrev Fn59:FuncId:=59
noncomputable def rD59:=RD Tryz.f59
noncomputable def r59:=RC Tryz.f59
def q59c0:zaa:=r59 8
def q59c1:zaa:=.seq (.block 1 (.seq (r59 5) (.seq (rD59 6 24) (.cond (.tmp 41) (.seq (r59 7) (.ret)) (.skip))))) (q59c0)
def q59l0:zaa:=.seq (r59 4) (.seq (.cond (.tmp 11) (.skip) (.exit 0)) (q59c1))
def q59c2:zaa:=.seq (r59 9) (.ret)
def q59c3:zaa:=.seq (.seq (r59 3) (.block 0 (.loop q59l0))) (q59c2)
@[simp] theorem yef:Said (by and_intros<;>cbv:r59 0=_/\r59 1=_/\r59 2=_/\r59 3=_/\r59 4=_/\r59 5=_/\rD59 6 24=_/\r59 7=_/\r59 8=_/\r59 9=_):=said _
@[simp] theorem z0w:Said (And.intro (zac q59c0.eq_1) (And.intro (zac q59c1.eq_1) (And.intro (zac q59l0.eq_1) (And.intro (zac q59c2.eq_1) (zac q59c3.eq_1))))):=said _
@[simp] def q59:QFn:=⟨43,[(.tmp 2,4)],.seq (r59 0) (.seq (.seq (r59 1) (.cond (.tmp 7) (.seq (r59 2) (.ret)) (.skip))) (q59c3))⟩
theorem Cv59:zao Tryz.f59=some q59:=by kernel_rfl
abbrev Fn60:FuncId:=60
noncomputable def r60:=RC Tryz.f60
def q60c0:zaa:=r60 3
def q60c1:zaa:=.seq (.block 1 (.seq (r60 4) (.seq (r60 5) (.cond (.tmp 38) (.seq (r60 6) (.ret)) (.skip))))) (q60c0)
def q60l0:zaa:=.seq (.seq (r60 2) (.cond (.tmp 8) (.skip) (.exit 0))) (q60c1)
def q60c2:zaa:=.seq (r60 7) (.ret)
@[simp] theorem yeg:Said (by and_intros<;>cbv:r60 0=_/\r60 1=_/\r60 2=_/\r60 4=_/\r60 5=_/\r60 6=_/\r60 3=_/\r60 7=_):=said _
@[simp] theorem z0x:Said (And.intro (zac q60c0.eq_1) (And.intro (zac q60c1.eq_1) (And.intro (zac q60l0.eq_1) (zac q60c2.eq_1)))):=said _
@[simp] def q60:QFn:=⟨42,[(.tmp 2,4)],.seq (r60 0) (.seq (.seq (r60 1) (.block 0 (.loop q60l0))) (q60c2))⟩
theorem Cv60:zao Tryz.f60=some q60:=by kernel_rfl
abbrev Fn61:FuncId:=61
noncomputable def r61:=RC Tryz.f61
@[simp] theorem yeh:Said (by and_intros<;>cbv:r61 0=_/\r61 1=_/\r61 2=_):=said _
@[simp] def q61:QFn:=⟨11,[(.tmp 2,4)],.seq (r61 0) (.seq (r61 1) (.seq (r61 2) (.ret)))⟩
theorem Cv61:zao Tryz.f61=some q61:=by kernel_rfl
abbrev Fn62:FuncId:=62
noncomputable def r62:=RC Tryz.f62
def q62c0:zaa:=r62 4
def q62c1:zaa:=.seq (.block 1 (r62 5)) (q62c0)
def q62l0:zaa:=.seq (.seq (r62 3) (.cond (.tmp 12) (.skip) (.exit 0))) (q62c1)
def q62c2:zaa:=.seq (r62 6) (.ret)
@[simp] theorem yei:Said (by and_intros<;>cbv:r62 0=_/\r62 1=_/\r62 2=_/\r62 3=_/\r62 5=_/\r62 4=_/\r62 6=_):=said _
@[simp] theorem zyb:Said (And.intro (zac q62c0.eq_1) (And.intro (zac q62c1.eq_1) (And.intro (zac q62l0.eq_1) (zac q62c2.eq_1)))):=said _
@[simp] def q62:QFn:=⟨30,[(.tmp 4,4)],.seq (r62 0) (.seq (r62 1) (.seq (.seq (r62 2) (.block 0 (.loop q62l0))) (q62c2)))⟩
theorem Cv62:zao Tryz.f62=some q62:=by kernel_rfl
abbrev Fn63:FuncId:=63
noncomputable def rD63:=RD Tryz.f63
noncomputable def r63:=RC Tryz.f63
def q63c0:zaa:=r63 3
def q63c1:zaa:=.seq (.block 1 (.seq (rD63 4 21) (.cond (.tmp 34) (.seq (r63 5) (.ret)) (.skip)))) (q63c0)
def q63l0:zaa:=.seq (.seq (r63 2) (.cond (.tmp 8) (.skip) (.exit 0))) (q63c1)
def q63c2:zaa:=r63 8
def q63c3:zaa:=.seq (.block 3 (.seq (r63 9) (.cond (.tmp 49) (.seq (r63 10) (.ret)) (.skip)))) (q63c2)
def q63l1:zaa:=.seq (.seq (r63 7) (.cond (.tmp 38) (.skip) (.exit 2))) (q63c3)
def q63c4:zaa:=.seq (r63 11) (.ret)
def q63c5:zaa:=.seq (.seq (r63 6) (.block 2 (.loop q63l1))) (q63c4)
@[simp] theorem yej:Said (by and_intros<;>cbv:r63 0=_/\r63 1=_/\r63 2=_/\rD63 4 21=_/\r63 5=_/\r63 3=_/\r63 6=_/\r63 7=_/\r63 9=_/\r63 10=_/\r63 8=_/\r63 11=_):=said _
@[simp] theorem z0y:Said (And.intro (zac q63c0.eq_1) (And.intro (zac q63c1.eq_1) (And.intro (zac q63l0.eq_1) (And.intro (zac q63c2.eq_1) (And.intro (zac q63c3.eq_1) (And.intro (zac q63l1.eq_1) (And.intro (zac q63c4.eq_1) (zac q63c5.eq_1)))))))):=said _
@[simp] def q63:QFn:=⟨53,[(.tmp 2,4)],.seq (r63 0) (.seq (.seq (r63 1) (.block 0 (.loop q63l0))) (q63c5))⟩
theorem Cv63:zao Tryz.f63=some q63:=by kernel_rfl
abbrev Fn73:FuncId:=73
noncomputable def r73:=RC Tryz.f73
def q73c0:zaa:=.seq (r73 7) (.ret)
def q73c1:zaa:=.seq (r73 4) (.seq (.seq (r73 5) (.cond (.tmp 18) (.seq (r73 6) (.ret)) (.skip))) (q73c0))
@[simp] theorem yek:Said (by and_intros<;>cbv:r73 0=_/\r73 1=_/\r73 2=_/\r73 3=_/\r73 4=_/\r73 5=_/\r73 6=_/\r73 7=_):=said _
@[simp] theorem z0z:Said (And.intro (zac q73c0.eq_1) (zac q73c1.eq_1)):=said _
@[simp] def q73:QFn:=⟨20,[(.tmp 4,3)],.seq (r73 0) (.seq (r73 1) (.seq (.seq (r73 2) (.cond (.tmp 11) (.seq (r73 3) (.ret)) (.skip))) (q73c1)))⟩
theorem Cv73:zao Tryz.f73=some q73:=by kernel_rfl
abbrev Fn74:FuncId:=74
noncomputable def r74:=RC Tryz.f74
def q74c0:zaa:=.seq (r74 7) (.ret)
def q74c1:zaa:=.seq (r74 4) (.seq (.seq (r74 5) (.cond (.tmp 18) (.seq (r74 6) (.ret)) (.skip))) (q74c0))
@[simp] theorem yel:Said (by and_intros<;>cbv:r74 0=_/\r74 1=_/\r74 2=_/\r74 3=_/\r74 4=_/\r74 5=_/\r74 6=_/\r74 7=_):=said _
@[simp] theorem zyc:Said (And.intro (zac q74c0.eq_1) (zac q74c1.eq_1)):=said _
@[simp] def q74:QFn:=⟨20,[(.tmp 4,3)],.seq (r74 0) (.seq (r74 1) (.seq (.seq (r74 2) (.cond (.tmp 11) (.seq (r74 3) (.ret)) (.skip))) (q74c1)))⟩
theorem Cv74:zao Tryz.f74=some q74:=by kernel_rfl
abbrev Fn75:FuncId:=75
noncomputable def r75:=RC Tryz.f75
def q75c0:zaa:=r75 4
def q75c1:zaa:=.seq (.block 1 (r75 5)) (q75c0)
def q75l0:zaa:=.seq (.seq (r75 3) (.cond (.tmp 17) (.skip) (.exit 0))) (q75c1)
def q75c2:zaa:=.seq (r75 6) (.ret)
@[simp] theorem yem:Said (by and_intros<;>cbv:r75 0=_/\r75 1=_/\r75 2=_/\r75 3=_/\r75 5=_/\r75 4=_/\r75 6=_):=said _
@[simp] theorem z00:Said (And.intro (zac q75c0.eq_1) (And.intro (zac q75c1.eq_1) (And.intro (zac q75l0.eq_1) (zac q75c2.eq_1)))):=said _
@[simp] def q75:QFn:=⟨36,[(.tmp 2,9)],.seq (r75 0) (.seq (r75 1) (.seq (.seq (r75 2) (.block 0 (.loop q75l0))) (q75c2)))⟩
theorem Cv75:zao Tryz.f75=some q75:=by kernel_rfl
abbrev Fn76:FuncId:=76
noncomputable def r76:=RC Tryz.f76
@[simp] theorem yen:Said (by and_intros<;>cbv:r76 0=_/\r76 1=_):=said _
@[simp] def q76:QFn:=⟨7,[(.tmp 2,9)],.seq (r76 0) (.seq (r76 1) (.ret))⟩
theorem Cv76:zao Tryz.f76=some q76:=by kernel_rfl
abbrev Fn77:FuncId:=77
noncomputable def r77:=RC Tryz.f77
@[simp] theorem yeo:Said (by and_intros<;>cbv:r77 0=_/\r77 1=_/\r77 2=_/\r77 3=_/\r77 4=_/\r77 5=_):=said _
@[simp] def q77:QFn:=⟨14,[(.cell 2 80,80)],.seq (r77 0) (.seq (r77 1) (.seq (r77 2) (.seq (r77 3) (.seq (r77 4) (.seq (r77 5) (.ret))))))⟩
theorem Cv77:zao Tryz.f77=some q77:=by kernel_rfl
abbrev Fn78:FuncId:=78
noncomputable def r78:=RC Tryz.f78
@[simp] theorem yep:Said (by and_intros<;>cbv:r78 0=_/\r78 1=_/\r78 2=_/\r78 3=_/\r78 4=_/\r78 5=_/\r78 6=_):=said _
@[simp] def q78:QFn:=⟨17,[(.cell 2 104,104)],.seq (r78 0) (.seq (r78 1) (.seq (r78 2) (.seq (r78 3) (.seq (r78 4) (.seq (r78 5) (.seq (r78 6) (.ret)))))))⟩
theorem Cv78:zao Tryz.f78=some q78:=by kernel_rfl
noncomputable def r79:=RC Tryz.f79
@[simp] theorem yeq:Said (by and_intros<;>cbv:r79 0=_/\r79 1=_/\r79 2=_/\r79 3=_):=said _
@[simp] def q79:QFn:=⟨19,[(.tmp 4,3),(.tmp 5,110)],.seq (r79 0) (.seq (r79 1) (.seq (r79 2) (.seq (r79 3) (.ret))))⟩
theorem Cv79:zao Tryz.f79=some q79:=by kernel_rfl
abbrev Fn80:FuncId:=80
noncomputable def r80:=RC Tryz.f80
def q80c0:zaa:=.seq (r80 10) (.ret)
def q80c1:zaa:=.seq (.seq (r80 3) (.block 0 (.seq (r80 4) (.cond (.tmp 8) (.seq (r80 5) (.ret)) (.seq (r80 6) (.cond (.tmp 16) (.seq (r80 7) (.ret)) (.seq (r80 8) (.cond (.tmp 24) (.seq (r80 9) (.ret)) (.skip))))))))) (q80c0)
@[simp] theorem yer:Said (by and_intros<;>cbv:r80 0=_/\r80 1=_/\r80 2=_/\r80 3=_/\r80 4=_/\r80 5=_/\r80 6=_/\r80 7=_/\r80 8=_/\r80 9=_/\r80 10=_):=said _
@[simp] theorem zyd:Said (And.intro (zac q80c0.eq_1) (zac q80c1.eq_1)):=said _
@[simp] def q80:QFn:=⟨34,[(.tmp 2,9)],.seq (r80 0) (.seq (.seq (r80 1) (.cond (.tmp 5) (.seq (r80 2) (.ret)) (.skip))) (q80c1))⟩
theorem Cv80:zao Tryz.f80=some q80:=by kernel_rfl
abbrev Fn81:FuncId:=81
noncomputable def rD81:=RD Tryz.f81
noncomputable def r81:=RC Tryz.f81
def q81c0:zaa:=r81 16
def q81c1:zaa:=.seq (.block 1 (.seq (r81 6) (.seq (r81 7) (.seq (r81 8) (.block 2 (.seq (r81 9) (.cond (.tmp 21) (r81 10) (.seq (r81 11) (.cond (.tmp 31) (.seq (rD81 12 11) (r81 13)) (.seq (r81 14) (.cond (.tmp 51) (r81 15) (.skip)))))))))))) (q81c0)
def q81l0:zaa:=.seq (r81 5) (.seq (.cond (.tmp 13) (.skip) (.exit 0)) (q81c1))
def q81c2:zaa:=.seq (r81 17) (.ret)
def q81c3:zaa:=.seq (r81 3) (.seq (.seq (r81 4) (.block 0 (.loop q81l0))) (q81c2))
@[simp] theorem yes:Said (by and_intros<;>cbv:r81 0=_/\r81 1=_/\r81 2=_/\r81 3=_/\r81 4=_/\r81 5=_/\r81 6=_/\r81 7=_/\r81 8=_/\r81 9=_/\r81 10=_/\r81 11=_/\rD81 12 11=_/\r81 13=_/\r81 14=_/\r81 15=_/\r81 16=_/\r81 17=_):=said _
@[simp] theorem zxa:Said (And.intro (zac q81c0.eq_1) (And.intro (zac q81c1.eq_1) (And.intro (zac q81l0.eq_1) (And.intro (zac q81c2.eq_1) (zac q81c3.eq_1))))):=said _
@[simp] def q81:QFn:=⟨64,[(.tmp 2,9)],.seq (r81 0) (.seq (.seq (r81 1) (.cond (.tmp 9) (.seq (r81 2) (.ret)) (.skip))) (q81c3))⟩
theorem Cv81:zao Tryz.f81=some q81:=by kernel_rfl
abbrev Fn83:FuncId:=83
noncomputable def rD83:=RD Tryz.f83
noncomputable def r83:=RC Tryz.f83
def q83c0:zaa:=r83 9
def q83c1:zaa:=.seq (.block 3 (.seq (r83 7) (r83 8))) (q83c0)
def q83l0:zaa:=.seq (r83 6) (.seq (.cond (.tmp 39) (.skip) (.exit 2)) (q83c1))
def q83c2:zaa:=r83 10
def q83c3:zaa:=.seq (.block 1 (.seq (r83 4) (.seq (r83 5) (.block 2 (.loop q83l0))))) (q83c2)
def q83l1:zaa:=.seq (r83 3) (.seq (.cond (.tmp 28) (.skip) (.exit 0)) (q83c3))
def q83c4:zaa:=r83 13
def q83c5:zaa:=.seq (.block 5 (.seq (rD83 14 16) (.seq (rD83 15 16) (rD83 16 13)))) (q83c4)
def q83l2:zaa:=.seq (.seq (r83 12) (.cond (.tmp 54) (.skip) (.exit 4))) (q83c5)
def q83c6:zaa:=r83 27
def q83c7:zaa:=.seq (.block 7 (.seq (r83 21) (.seq (r83 22) (.seq (rD83 23 19) (.seq (r83 24) (.seq (r83 25) (r83 26))))))) (q83c6)
def q83l3:zaa:=.seq (r83 20) (.seq (.cond (.tmp 123) (.skip) (.exit 6)) (q83c7))
def q83c8:zaa:=r83 32
def q83c9:zaa:=.seq (.block 9 (.seq (r83 30) (r83 31))) (q83c8)
def q83l4:zaa:=.seq (r83 29) (.seq (.cond (.tmp 197) (.skip) (.exit 8)) (q83c9))
def q83c10:zaa:=.seq (r83 33) (.ret)
def q83c11:zaa:=.seq (.seq (r83 28) (.block 8 (.loop q83l4))) (q83c10)
def q83c12:zaa:=.seq (rD83 17 11) (.seq (rD83 18 11) (.seq (.seq (r83 19) (.block 6 (.loop q83l3))) (q83c11)))
def q83c13:zaa:=.seq (.seq (r83 11) (.block 4 (.loop q83l2))) (q83c12)
@[simp] theorem yet:Said (by and_intros<;>cbv:r83 0=_/\r83 1=_/\r83 2=_/\r83 3=_/\r83 4=_/\r83 5=_/\r83 6=_/\r83 7=_/\r83 8=_/\r83 9=_/\r83 10=_/\r83 11=_/\r83 12=_/\rD83 14 16=_/\rD83 15 16=_/\rD83 16 13=_/\r83 13=_/\rD83 17 11=_/\rD83 18 11=_/\r83 19=_/\r83 20=_/\r83 21=_/\r83 22=_/\rD83 23 19=_/\r83 24=_/\r83 25=_/\r83 26=_/\r83 27=_/\r83 28=_/\r83 29=_/\r83 30=_/\r83 31=_/\r83 32=_/\r83 33=_):=said _
@[simp] theorem z01:Said (zac q83c11.eq_1):=said _
@[simp] theorem z02:Said (zac q83c12.eq_1):=said _
@[simp] theorem z03:Said (zac q83c13.eq_1):=said _
@[simp] theorem zxb:Said (And.intro (zac q83c0.eq_1) (And.intro (zac q83c1.eq_1) (And.intro (zac q83l0.eq_1) (And.intro (zac q83c2.eq_1) (And.intro (zac q83c3.eq_1) (And.intro (zac q83l1.eq_1) (And.intro (zac q83c4.eq_1) (And.intro (zac q83c5.eq_1) (And.intro (zac q83l2.eq_1) (And.intro (zac q83c6.eq_1) (And.intro (zac q83c7.eq_1) (And.intro (zac q83l3.eq_1) (And.intro (zac q83c8.eq_1) (And.intro (zac q83c9.eq_1) (And.intro (zac q83l4.eq_1) (zac q83c10.eq_1)))))))))))))))):=said _
@[simp] def q83:QFn:=⟨208,[(.cell 4 116,116)],.seq (r83 0) (.seq (r83 1) (.seq (.seq (r83 2) (.block 0 (.loop q83l1))) (q83c13)))⟩
theorem Cv83:zao Tryz.f83=some q83:=by kernel_rfl
abbrev Fn84:FuncId:=84
noncomputable def r84:=RC Tryz.f84
@[simp] theorem yeu:Said (by and_intros<;>cbv:r84 0=_/\r84 1=_/\r84 2=_/\r84 3=_):=said _
@[simp] def q84:QFn:=⟨17,[(.tmp 4,110)],.seq (r84 0) (.seq (r84 1) (.seq (r84 2) (.seq (r84 3) (.ret))))⟩
theorem Cv84:zao Tryz.f84=some q84:=by kernel_rfl
abbrev Fn85:FuncId:=85
noncomputable def r85:=RC Tryz.f85
def q85c0:zaa:=.seq (r85 7) (.ret)
def q85c1:zaa:=.seq (.seq (r85 5) (.cond (.tmp 19) (.seq (r85 6) (.ret)) (.skip))) (q85c0)
def q85c2:zaa:=.seq (.seq (r85 3) (.cond (.tmp 14) (.seq (r85 4) (.ret)) (.skip))) (q85c1)
@[simp] theorem yev:Said (by and_intros<;>cbv:r85 0=_/\r85 1=_/\r85 2=_/\r85 3=_/\r85 4=_/\r85 5=_/\r85 6=_/\r85 7=_):=said _
@[simp] theorem z04:Said (And.intro (zac q85c0.eq_1) (And.intro (zac q85c1.eq_1) (zac q85c2.eq_1))):=said _
@[simp] def q85:QFn:=⟨20,[(.tmp 4,4)],.seq (r85 0) (.seq (.seq (r85 1) (.cond (.tmp 9) (.seq (r85 2) (.ret)) (.skip))) (q85c2))⟩
theorem Cv85:zao Tryz.f85=some q85:=by kernel_rfl
abbrev Fn86:FuncId:=86
noncomputable def r86:=RC Tryz.f86
def q86c0:zaa:=.seq (r86 9) (.ret)
def q86c1:zaa:=.seq (.seq (r86 7) (.cond (.tmp 24) (.seq (r86 8) (.ret)) (.skip))) (q86c0)
def q86c2:zaa:=.seq (.seq (r86 5) (.cond (.tmp 19) (.seq (r86 6) (.ret)) (.skip))) (q86c1)
def q86c3:zaa:=.seq (.seq (r86 3) (.cond (.tmp 14) (.seq (r86 4) (.ret)) (.skip))) (q86c2)
@[simp] theorem yew:Said (by and_intros<;>cbv:r86 0=_/\r86 1=_/\r86 2=_/\r86 3=_/\r86 4=_/\r86 5=_/\r86 6=_/\r86 7=_/\r86 8=_/\r86 9=_):=said _
@[simp] theorem zye:Said (And.intro (zac q86c0.eq_1) (And.intro (zac q86c1.eq_1) (And.intro (zac q86c2.eq_1) (zac q86c3.eq_1)))):=said _
@[simp] def q86:QFn:=⟨25,[(.tmp 4,4)],.seq (r86 0) (.seq (.seq (r86 1) (.cond (.tmp 9) (.seq (r86 2) (.ret)) (.skip))) (q86c3))⟩
theorem Cv86:zao Tryz.f86=some q86:=by kernel_rfl
abbrev Fn87:FuncId:=87
noncomputable def r87:=RC Tryz.f87
def q87c0:zaa:=r87 5
def q87c1:zaa:=.seq (.block 1 (.seq (r87 6) (.cond (.tmp 27) (.seq (r87 7) (r87 8)) (.skip)))) (q87c0)
def q87l0:zaa:=.seq (.seq (r87 4) (.cond (.tmp 20) (.skip) (.exit 0))) (q87c1)
def q87c2:zaa:=.seq (r87 9) (.ret)
@[simp] theorem yex:Said (by and_intros<;>cbv:r87 0=_/\r87 1=_/\r87 2=_/\r87 3=_/\r87 4=_/\r87 6=_/\r87 7=_/\r87 8=_/\r87 5=_/\r87 9=_):=said _
@[simp] theorem z2i:Said (And.intro (zac q87c0.eq_1) (And.intro (zac q87c1.eq_1) (And.intro (zac q87l0.eq_1) (zac q87c2.eq_1)))):=said _
@[simp] def q87:QFn:=⟨43,[(.tmp 6,45)],.seq (r87 0) (.seq (r87 1) (.seq (r87 2) (.seq (.seq (r87 3) (.block 0 (.loop q87l0))) (q87c2))))⟩
theorem Cv87:zao Tryz.f87=some q87:=by kernel_rfl
abbrev Fn90:FuncId:=90
noncomputable def r90:=RC Tryz.f90
def q90c0:zaa:=r90 4
def q90c1:zaa:=.seq (.block 1 (r90 5)) (q90c0)
def q90l0:zaa:=.seq (.seq (r90 3) (.cond (.tmp 8) (.skip) (.exit 0))) (q90c1)
def q90c2:zaa:=.seq (r90 6) (.ret)
@[simp] theorem yey:Said (by and_intros<;>cbv:r90 0=_/\r90 1=_/\r90 2=_/\r90 3=_/\r90 5=_/\r90 4=_/\r90 6=_):=said _
@[simp] theorem zyf:Said (And.intro (zac q90c0.eq_1) (And.intro (zac q90c1.eq_1) (And.intro (zac q90l0.eq_1) (zac q90c2.eq_1)))):=said _
@[simp] def q90:QFn:=⟨19,[(.tmp 2,9)],.seq (r90 0) (.seq (r90 1) (.seq (.seq (r90 2) (.block 0 (.loop q90l0))) (q90c2)))⟩
theorem Cv90:zao Tryz.f90=some q90:=by kernel_rfl
abbrev z9t:FuncId:=102
noncomputable def r102:=RC Tryz.f102
def q102c0:zaa:=r102 7
def q102c1:zaa:=.seq (r102 8) (.ret)
@[simp] theorem z9u:Said (by and_intros<;>cbv:r102 0=_/\r102 1=_/\r102 2=_/\r102 3=_/\r102 4=_/\r102 5=_/\r102 6=_/\r102 7=_/\r102 8=_):=said _
@[simp] theorem zsh:Said (And.intro (zac q102c0.eq_1) (zac q102c1.eq_1)):=said _
@[simp] def q102:QFn:=⟨28,[(.cell 2 138,138),(.cell 3 4,4)],.seq (r102 0) (.seq (r102 1) (.seq (.seq (r102 2) (.block 0 (.range 9 [10] (r102 3) (.block 1 (.seq (r102 4) (.seq (.seq (r102 5) (.cond (.tmp 22) (.seq (r102 6) (.ret)) (.skip))) (q102c0))))))) (q102c1)))⟩
theorem z9v:zao Tryz.f102=some q102:=by kernel_rfl
abbrev z9w:FuncId:=103
noncomputable def r103:=RC Tryz.f103
def q103c0:zaa:=.seq (r103 3) (.ret)
@[simp] theorem z9x:Said (by and_intros<;>cbv:r103 0=_/\r103 1=_/\r103 2=_/\r103 3=_):=said _
@[simp] theorem zig:Said (zac q103c0.eq_1):=said _
@[simp] def q103:QFn:=⟨8,[(.tmp 2,45)],.seq (r103 0) (.seq (.seq (r103 1) (.cond (.tmp 4) (.seq (r103 2) (.ret)) (.skip))) (q103c0))⟩
theorem z9y:zao Tryz.f103=some q103:=by kernel_rfl
abbrev z9z:FuncId:=104
noncomputable def r104:=RC Tryz.f104
@[simp] theorem z90:Said (by and_intros<;>cbv:r104 0=_/\r104 1=_):=said _
@[simp] def q104:QFn:=⟨9,[(.tmp 4,4)],.seq (r104 0) (.seq (r104 1) (.ret))⟩
theorem z91:zao Tryz.f104=some q104:=by kernel_rfl
abbrev z92:FuncId:=105
noncomputable def r105:=RC Tryz.f105
def q105c0:zaa:=.seq (r105 10) (.ret)
def q105c1:zaa:=.seq (.seq (r105 3) (.block 0 (.seq (r105 4) (.cond (.tmp 19) (.seq (r105 5) (.ret)) (.seq (r105 6) (.cond (.tmp 24) (.seq (r105 7) (.ret)) (.seq (r105 8) (.cond (.tmp 29) (.seq (r105 9) (.ret)) (.skip))))))))) (q105c0)
@[simp] theorem z93:Said (by and_intros<;>cbv:r105 0=_/\r105 1=_/\r105 2=_/\r105 3=_/\r105 4=_/\r105 5=_/\r105 6=_/\r105 7=_/\r105 8=_/\r105 9=_/\r105 10=_):=said _
@[simp] theorem zyg:Said (And.intro (zac q105c0.eq_1) (zac q105c1.eq_1)):=said _
@[simp] def q105:QFn:=⟨39,[(.tmp 2,4)],.seq (r105 0) (.seq (.seq (r105 1) (.cond (.tmp 16) (.seq (r105 2) (.ret)) (.skip))) (q105c1))⟩
theorem z94:zao Tryz.f105=some q105:=by kernel_rfl
abbrev z95:FuncId:=106
noncomputable def r106:=RC Tryz.f106
def q106c0:zaa:=.seq (r106 4) (.seq (r106 5) (.ret))
@[simp] theorem z96:Said (by and_intros<;>cbv:r106 0=_/\r106 1=_/\r106 2=_/\r106 3=_/\r106 4=_/\r106 5=_):=said _
@[simp] theorem zsi:Said (zac q106c0.eq_1):=said _
@[simp] def q106:QFn:=⟨27,[(.tmp 4,4)],.seq (r106 0) (.seq (r106 1) (.seq (.seq (r106 2) (.cond (.tmp 11) (.seq (r106 3) (.ret)) (.skip))) (q106c0)))⟩
theorem z97:zao Tryz.f106=some q106:=by kernel_rfl
abbrev z98:FuncId:=107
noncomputable def r107:=RC Tryz.f107
@[simp] theorem z99:Said (by and_intros<;>cbv:r107 0=_/\r107 1=_):=said _
@[simp] def q107:QFn:=⟨15,[(.tmp 6,4)],.seq (r107 0) (.seq (r107 1) (.ret))⟩
theorem yaa:zao Tryz.f107=some q107:=by kernel_rfl
abbrev yab:FuncId:=108
noncomputable def r108:=RC Tryz.f108
def q108c0:zaa:=r108 9
def q108c1:zaa:=r108 5
def q108c2:zaa:=.seq (.block 1 (.seq (r108 6) (.seq (.seq (r108 7) (.cond (.tmp 27) (.seq (r108 8) (.ret)) (.skip))) (q108c0)))) (q108c1)
def q108l0:zaa:=.seq (.seq (r108 4) (.cond (.tmp 17) (.skip) (.exit 0))) (q108c2)
def q108c3:zaa:=.seq (r108 10) (.ret)
@[simp] theorem yac:Said (by and_intros<;>cbv:r108 0=_/\r108 1=_/\r108 2=_/\r108 3=_/\r108 4=_/\r108 6=_/\r108 7=_/\r108 8=_/\r108 9=_/\r108 5=_/\r108 10=_):=said _
@[simp] theorem zyh:Said (And.intro (zac q108c0.eq_1) (And.intro (zac q108c1.eq_1) (And.intro (zac q108c2.eq_1) (And.intro (zac q108l0.eq_1) (zac q108c3.eq_1))))):=said _
@[simp] def q108:QFn:=⟨37,[(.tmp 2,93),(.tmp 3,4)],.seq (r108 0) (.seq (r108 1) (.seq (r108 2) (.seq (.seq (r108 3) (.block 0 (.loop q108l0))) (q108c3))))⟩
theorem yad:zao Tryz.f108=some q108:=by kernel_rfl
abbrev yae:FuncId:=109
noncomputable def r109:=RC Tryz.f109
def q109c0:zaa:=r109 3
def q109c1:zaa:=.seq (.block 1 (.seq (r109 4) (.cond (.tmp 15) (.seq (r109 5) (.ret)) (.skip)))) (q109c0)
def q109l0:zaa:=.seq (.seq (r109 2) (.cond (.tmp 7) (.skip) (.exit 0))) (q109c1)
def q109c2:zaa:=.seq (r109 6) (.ret)
@[simp] theorem yaf:Said (by and_intros<;>cbv:r109 0=_/\r109 1=_/\r109 2=_/\r109 4=_/\r109 5=_/\r109 3=_/\r109 6=_):=said _
@[simp] theorem zyi:Said (And.intro (zac q109c0.eq_1) (And.intro (zac q109c1.eq_1) (And.intro (zac q109l0.eq_1) (zac q109c2.eq_1)))):=said _
@[simp] def q109:QFn:=⟨19,[(.tmp 2,4)],.seq (r109 0) (.seq (.seq (r109 1) (.block 0 (.loop q109l0))) (q109c2))⟩
theorem yag:zao Tryz.f109=some q109:=by kernel_rfl
abbrev yah:FuncId:=110
noncomputable def z71:=RD Tryz.f110
noncomputable def r110:=RC Tryz.f110
def q110c0:zaa:=r110 6
def q110c1:zaa:=.seq (.block 3 (.seq (z71 7 8) (.cond (.tmp 24) (.seq (r110 8) (.ret)) (.skip)))) (q110c0)
def q110l0:zaa:=.seq (.seq (r110 5) (.cond (.tmp 13) (.skip) (.exit 2))) (q110c1)
def q110c2:zaa:=r110 3
def q110c3:zaa:=.seq (.block 1 (.seq (r110 4) (.block 2 (.loop q110l0)))) (q110c2)
def q110l1:zaa:=.seq (.seq (r110 2) (.cond (.tmp 8) (.skip) (.exit 0))) (q110c3)
def q110c4:zaa:=.seq (r110 9) (.ret)
@[simp] theorem yai:Said (by and_intros<;>cbv:r110 0=_/\r110 1=_/\r110 2=_/\r110 4=_/\r110 5=_/\z71 7 8=_/\r110 8=_/\r110 6=_/\r110 3=_/\r110 9=_):=said _
@[simp] theorem zyj:Said (And.intro (zac q110c0.eq_1) (And.intro (zac q110c1.eq_1) (And.intro (zac q110l0.eq_1) (And.intro (zac q110c2.eq_1) (And.intro (zac q110c3.eq_1) (And.intro (zac q110l1.eq_1) (zac q110c4.eq_1))))))):=said _
@[simp] def q110:QFn:=⟨25,[(.tmp 2,4)],.seq (r110 0) (.seq (.seq (r110 1) (.block 0 (.loop q110l1))) (q110c4))⟩
theorem yaj:zao Tryz.f110=some q110:=by kernel_rfl
abbrev yak:FuncId:=111
noncomputable def r111:=RC Tryz.f111
def q111c0:zaa:=.seq (r111 8) (.ret)
def q111c1:zaa:=.seq (.seq (r111 3) (.block 0 (.seq (r111 4) (.cond (.tmp 9) (.seq (r111 5) (.ret)) (.seq (r111 6) (.cond (.tmp 19) (.seq (r111 7) (.ret)) (.skip))))))) (q111c0)
@[simp] theorem yal:Said (by and_intros<;>cbv:r111 0=_/\r111 1=_/\r111 2=_/\r111 3=_/\r111 4=_/\r111 5=_/\r111 6=_/\r111 7=_/\r111 8=_):=said _
@[simp] theorem zyk:Said (And.intro (zac q111c0.eq_1) (zac q111c1.eq_1)):=said _
@[simp] def q111:QFn:=⟨42,[(.tmp 2,4)],.seq (r111 0) (.seq (.seq (r111 1) (.cond (.tmp 6) (.seq (r111 2) (.ret)) (.skip))) (q111c1))⟩
theorem yam:zao Tryz.f111=some q111:=by kernel_rfl
abbrev yan:FuncId:=112
noncomputable def r112:=RC Tryz.f112
@[simp] theorem yao:Said (by and_intros<;>cbv:r112 0=_/\r112 1=_/\r112 2=_):=said _
@[simp] def q112:QFn:=⟨26,[(.tmp 4,4)],.seq (r112 0) (.seq (r112 1) (.seq (r112 2) (.ret)))⟩
theorem yap:zao Tryz.f112=some q112:=by kernel_rfl
abbrev yaq:FuncId:=113
noncomputable def r113:=RC Tryz.f113
def q113c0:zaa:=r113 3
def q113c1:zaa:=.seq (.block 1 (.seq (r113 4) (.cond (.tmp 14) (.seq (r113 5) (.ret)) (.skip)))) (q113c0)
def q113l0:zaa:=.seq (.seq (r113 2) (.cond (.tmp 8) (.skip) (.exit 0))) (q113c1)
def q113c2:zaa:=.seq (r113 6) (.ret)
@[simp] theorem yar:Said (by and_intros<;>cbv:r113 0=_/\r113 1=_/\r113 2=_/\r113 4=_/\r113 5=_/\r113 3=_/\r113 6=_):=said _
@[simp] theorem z3q:Said (And.intro (zac q113c0.eq_1) (And.intro (zac q113c1.eq_1) (And.intro (zac q113l0.eq_1) (zac q113c2.eq_1)))):=said _
@[simp] def q113:QFn:=⟨18,[(.tmp 2,9)],.seq (r113 0) (.seq (.seq (r113 1) (.block 0 (.loop q113l0))) (q113c2))⟩
theorem yas:zao Tryz.f113=some q113:=by kernel_rfl
abbrev yat:FuncId:=122
noncomputable def z73:=RD Tryz.f122
noncomputable def r122:=RC Tryz.f122
@[simp] theorem yau:Said (by and_intros<;>cbv:r122 0=_/\z73 1 8=_):=said _
@[simp] def q122:QFn:=⟨12,[(.tmp 2,9)],.seq (r122 0) (.seq (z73 1 8) (.ret))⟩
theorem yav:zao Tryz.f122=some q122:=by kernel_rfl
abbrev yaw:FuncId:=123
noncomputable def z74:=RD Tryz.f123
noncomputable def r123:=RC Tryz.f123
def q123c0:zaa:=r123 5
def q123c1:zaa:=.seq (.block 1 (z74 6 13)) (q123c0)
def q123l0:zaa:=.seq (.seq (r123 4) (.cond (.tmp 10) (.skip) (.exit 0))) (q123c1)
def q123c2:zaa:=.seq (r123 7) (.ret)
@[simp] theorem yax:Said (by and_intros<;>cbv:r123 0=_/\r123 1=_/\r123 2=_/\r123 3=_/\r123 4=_/\z74 6 13=_/\r123 5=_/\r123 7=_):=said _
@[simp] theorem zvh:Said (And.intro (zac q123c0.eq_1) (And.intro (zac q123c1.eq_1) (And.intro (zac q123l0.eq_1) (zac q123c2.eq_1)))):=said _
@[simp] def q123:QFn:=⟨30,[(.tmp 2,9)],.seq (r123 0) (.seq (r123 1) (.seq (r123 2) (.seq (.seq (r123 3) (.block 0 (.loop q123l0))) (q123c2))))⟩
theorem yay:zao Tryz.f123=some q123:=by kernel_rfl
abbrev yaz:FuncId:=124
noncomputable def z75:=RD Tryz.f124
noncomputable def r124:=RC Tryz.f124
def q124c0:zaa:=r124 5
def q124c1:zaa:=.seq (.block 1 (r124 6)) (q124c0)
def q124l0:zaa:=.seq (.seq (r124 4) (.cond (.tmp 14) (.skip) (.exit 0))) (q124c1)
def q124c2:zaa:=r124 10
def q124c3:zaa:=.seq (.block 3 (z75 11 24)) (q124c2)
def q124l1:zaa:=.seq (.seq (r124 9) (.cond (.tmp 26) (.skip) (.exit 2))) (q124c3)
def q124c4:zaa:=.seq (r124 12) (.ret)
def q124c5:zaa:=.seq (r124 7) (.seq (.seq (r124 8) (.block 2 (.loop q124l1))) (q124c4))
@[simp] theorem ya0:Said (by and_intros<;>cbv:r124 0=_/\r124 1=_/\r124 2=_/\r124 3=_/\r124 4=_/\r124 6=_/\r124 5=_/\r124 7=_/\r124 8=_/\r124 9=_/\z75 11 24=_/\r124 10=_/\r124 12=_):=said _
@[simp] theorem ztw:Said (zac q124c5.eq_1):=said _
@[simp] theorem z2j:Said (And.intro (zac q124c0.eq_1) (And.intro (zac q124c1.eq_1) (And.intro (zac q124l0.eq_1) (And.intro (zac q124c2.eq_1) (And.intro (zac q124c3.eq_1) (And.intro (zac q124l1.eq_1) (zac q124c4.eq_1))))))):=said _
@[simp] def q124:QFn:=⟨57,[(.tmp 2,9)],.seq (r124 0) (.seq (r124 1) (.seq (r124 2) (.seq (.seq (r124 3) (.block 0 (.loop q124l0))) (q124c5))))⟩
theorem ya1:zao Tryz.f124=some q124:=by kernel_rfl
abbrev ya2:FuncId:=127
noncomputable def r127:=RC Tryz.f127
@[simp] theorem ya3:Said (by and_intros<;>cbv:r127 0=_/\r127 1=_):=said _
@[simp] def q127:QFn:=⟨9,[(.tmp 4,115)],.seq (r127 0) (.seq (r127 1) (.ret))⟩
theorem ya4:zao Tryz.f127=some q127:=by kernel_rfl
abbrev ya5:FuncId:=128
noncomputable def r128:=RC Tryz.f128
def q128c0:zaa:=.seq (r128 8) (.ret)
@[simp] theorem ya6:Said (by and_intros<;>cbv:r128 0=_/\r128 1=_/\r128 2=_/\r128 3=_/\r128 4=_/\r128 5=_/\r128 6=_/\r128 7=_/\r128 8=_):=said _
@[simp] theorem z05:Said (zac q128c0.eq_1):=said _
@[simp] def q128:QFn:=⟨10,[(.tmp 2,9)],.seq (r128 0) (.seq (.seq (r128 1) (.block 0 (.seq (r128 2) (.cond (.tmp 4) (.seq (r128 3) (.ret)) (.seq (r128 4) (.cond (.tmp 6) (.seq (r128 5) (.ret)) (.seq (r128 6) (.cond (.tmp 8) (.seq (r128 7) (.ret)) (.skip))))))))) (q128c0))⟩
theorem ya7:zao Tryz.f128=some q128:=by kernel_rfl
abbrev ya8:FuncId:=129
noncomputable def r129:=RC Tryz.f129
@[simp] theorem ya9:Said (by and_intros<;>cbv:r129 0=_/\r129 1=_):=said _
@[simp] def q129:QFn:=⟨26,[(.tmp 2,4)],.seq (r129 0) (.seq (r129 1) (.ret))⟩
theorem yba:zao Tryz.f129=some q129:=by kernel_rfl
abbrev ybb:FuncId:=130
noncomputable def r130:=RC Tryz.f130
def q130c0:zaa:=r130 7
def q130c1:zaa:=r130 4
def q130c2:zaa:=.seq (.block 1 (.seq (.seq (r130 5) (.cond (.tmp 24) (.seq (r130 6) (.ret)) (.skip))) (q130c0))) (q130c1)
def q130l0:zaa:=.seq (.seq (r130 3) (.cond (.tmp 8) (.skip) (.exit 0))) (q130c2)
def q130c3:zaa:=.seq (r130 10) (.ret)
def q130c4:zaa:=.seq (.seq (r130 8) (.cond (.tmp 45) (.seq (r130 9) (.ret)) (.skip))) (q130c3)
@[simp] theorem ybc:Said (by and_intros<;>cbv:r130 0=_/\r130 1=_/\r130 2=_/\r130 3=_/\r130 5=_/\r130 6=_/\r130 7=_/\r130 4=_/\r130 8=_/\r130 9=_/\r130 10=_):=said _
@[simp] theorem z2k:Said (And.intro (zac q130c0.eq_1) (And.intro (zac q130c1.eq_1) (And.intro (zac q130c2.eq_1) (And.intro (zac q130l0.eq_1) (And.intro (zac q130c3.eq_1) (zac q130c4.eq_1)))))):=said _
@[simp] def q130:QFn:=⟨47,[(.tmp 2,3)],.seq (r130 0) (.seq (r130 1) (.seq (.seq (r130 2) (.block 0 (.loop q130l0))) (q130c4)))⟩
theorem ybd:zao Tryz.f130=some q130:=by kernel_rfl
abbrev ybe:FuncId:=131
noncomputable def z3r:=RD Tryz.f131
noncomputable def r131:=RC Tryz.f131
def q131c0:zaa:=.seq (z3r 6 17) (.ret)
@[simp] theorem ybf:Said (by and_intros<;>cbv:r131 0=_/\r131 1=_/\r131 2=_/\z3r 3 7=_/\r131 4=_/\r131 5=_/\z3r 6 17=_):=said _
@[simp] theorem z06:Said (zac q131c0.eq_1):=said _
@[simp] def q131:QFn:=⟨45,[(.tmp 2,9)],.seq (r131 0) (.seq (.seq (r131 1) (.block 0 (.seq (r131 2) (.cond (.tmp 5) (.seq (z3r 3 7) (.ret)) (.seq (r131 4) (.cond (.tmp 16) (.seq (r131 5) (.ret)) (.skip))))))) (q131c0))⟩
theorem ybg:zao Tryz.f131=some q131:=by kernel_rfl
abbrev ybh:FuncId:=140
noncomputable def r140:=RC Tryz.f140
def q140c0:zaa:=r140 9
def q140c1:zaa:=r140 10
def q140c2:zaa:=.seq (.block 1 (.seq (r140 6) (.seq (.seq (r140 7) (.cond (.tmp 39) (.seq (r140 8) (.ret)) (.skip))) (q140c0)))) (q140c1)
def q140l0:zaa:=.seq (r140 5) (.seq (.cond (.tmp 28) (.skip) (.exit 0)) (q140c2))
def q140c3:zaa:=.seq (r140 13) (.ret)
def q140c4:zaa:=.seq (.seq (r140 11) (.cond (.tmp 51) (.seq (r140 12) (.ret)) (.skip))) (q140c3)
def q140c5:zaa:=.seq (r140 3) (.seq (.seq (r140 4) (.block 0 (.loop q140l0))) (q140c4))
@[simp] theorem ybi:Said (by and_intros<;>cbv:r140 0=_/\r140 1=_/\r140 2=_/\r140 3=_/\r140 4=_/\r140 5=_/\r140 6=_/\r140 7=_/\r140 8=_/\r140 9=_/\r140 10=_/\r140 11=_/\r140 12=_/\r140 13=_):=said _
@[simp] theorem z07:Said (And.intro (zac q140c0.eq_1) (And.intro (zac q140c1.eq_1) (And.intro (zac q140c2.eq_1) (And.intro (zac q140l0.eq_1) (And.intro (zac q140c3.eq_1) (And.intro (zac q140c4.eq_1) (zac q140c5.eq_1))))))):=said _
@[simp] def q140:QFn:=⟨53,[(.tmp 4,3),(.tmp 5,4)],.seq (r140 0) (.seq (.seq (r140 1) (.cond (.tmp 24) (.seq (r140 2) (.ret)) (.skip))) (q140c5))⟩
theorem ybj:zao Tryz.f140=some q140:=by kernel_rfl
abbrev ybk:FuncId:=144
noncomputable def r144:=RC Tryz.f144
def q144c0:zaa:=r144 6
def q144c1:zaa:=.seq (.block 1 (.seq (r144 3) (.seq (r144 4) (.cond (.tmp 16) (.seq (r144 5) (.ret)) (.skip))))) (q144c0)
def q144l0:zaa:=.seq (r144 2) (.seq (.cond (.tmp 9) (.skip) (.exit 0)) (q144c1))
def q144c2:zaa:=.seq (r144 7) (.ret)
@[simp] theorem ybl:Said (by and_intros<;>cbv:r144 0=_/\r144 1=_/\r144 2=_/\r144 3=_/\r144 4=_/\r144 5=_/\r144 6=_/\r144 7=_):=said _
@[simp] theorem zih:Said (And.intro (zac q144c0.eq_1) (And.intro (zac q144c1.eq_1) (And.intro (zac q144l0.eq_1) (zac q144c2.eq_1)))):=said _
@[simp] def q144:QFn:=⟨19,[(.tmp 4,3)],.seq (r144 0) (.seq (.seq (r144 1) (.block 0 (.loop q144l0))) (q144c2))⟩
theorem ybm:zao Tryz.f144=some q144:=by kernel_rfl
abbrev ybn:FuncId:=145
noncomputable def r145:=RC Tryz.f145
def q145c0:zaa:=.seq (r145 7) (.ret)
@[simp] theorem ybo:Said (by and_intros<;>cbv:r145 0=_/\r145 1=_/\r145 2=_/\r145 3=_/\r145 4=_/\r145 5=_/\r145 6=_/\r145 7=_):=said _
@[simp] theorem z08:Said (zac q145c0.eq_1):=said _
@[simp] def q145:QFn:=⟨17,[(.cell 2 4,4)],.seq (r145 0) (.seq (r145 1) (.seq (.seq (r145 2) (.block 0 (.range 6 [7] (r145 3) (.block 1 (.seq (r145 4) (.seq (r145 5) (.cond (.tmp 16) (.seq (r145 6) (.ret)) (.skip)))))))) (q145c0)))⟩
theorem ybp:zao Tryz.f145=some q145:=by kernel_rfl
abbrev ybq:FuncId:=146
noncomputable def r146:=RC Tryz.f146
def q146c0:zaa:=r146 8
def q146c1:zaa:=.seq (.block 1 (.seq (r146 5) (.seq (r146 6) (.cond (.tmp 22) (.seq (r146 7) (.ret)) (.skip))))) (q146c0)
def q146l0:zaa:=.seq (r146 4) (.seq (.cond (.tmp 10) (.skip) (.exit 0)) (q146c1))
def q146c2:zaa:=.seq (r146 9) (.ret)
def q146c3:zaa:=.seq (.seq (r146 3) (.block 0 (.loop q146l0))) (q146c2)
@[simp] theorem ybr:Said (by and_intros<;>cbv:r146 0=_/\r146 1=_/\r146 2=_/\r146 3=_/\r146 4=_/\r146 5=_/\r146 6=_/\r146 7=_/\r146 8=_/\r146 9=_):=said _
@[simp] theorem zxc:Said (And.intro (zac q146c0.eq_1) (And.intro (zac q146c1.eq_1) (And.intro (zac q146l0.eq_1) (And.intro (zac q146c2.eq_1) (zac q146c3.eq_1))))):=said _
@[simp] def q146:QFn:=⟨24,[(.tmp 2,4)],.seq (r146 0) (.seq (.seq (r146 1) (.cond (.tmp 6) (.seq (r146 2) (.ret)) (.skip))) (q146c3))⟩
theorem ybs:zao Tryz.f146=some q146:=by kernel_rfl
abbrev ybt:FuncId:=147
noncomputable def r147:=RC Tryz.f147
def q147c0:zaa:=.seq (r147 3) (.ret)
@[simp] theorem ybu:Said (by and_intros<;>cbv:r147 0=_/\r147 1=_/\r147 2=_/\r147 3=_):=said _
@[simp] theorem z09:Said (zac q147c0.eq_1):=said _
@[simp] def q147:QFn:=⟨11,[(.tmp 2,9)],.seq (r147 0) (.seq (.seq (r147 1) (.cond (.tmp 5) (.seq (r147 2) (.ret)) (.skip))) (q147c0))⟩
theorem ybv:zao Tryz.f147=some q147:=by kernel_rfl
abbrev ybw:FuncId:=148
noncomputable def r148:=RC Tryz.f148
@[simp] theorem ybx:Said (by and_intros<;>cbv:r148 0=_/\r148 1=_):=said _
@[simp] def q148:QFn:=⟨12,[(.tmp 4,3),(.tmp 5,4)],.seq (r148 0) (.seq (r148 1) (.ret))⟩
theorem yby:zao Tryz.f148=some q148:=by kernel_rfl
abbrev ybz:FuncId:=149
noncomputable def r149:=RC Tryz.f149
def q149c0:zaa:=r149 4
def q149c1:zaa:=.seq (.block 1 (.seq (r149 5) (.cond (.tmp 21) (.seq (r149 6) (.ret)) (.skip)))) (q149c0)
def q149l0:zaa:=.seq (.seq (r149 3) (.cond (.tmp 13) (.skip) (.exit 0))) (q149c1)
def q149c2:zaa:=.seq (r149 7) (.ret)
@[simp] theorem yb0:Said (by and_intros<;>cbv:r149 0=_/\r149 1=_/\r149 2=_/\r149 3=_/\r149 5=_/\r149 6=_/\r149 4=_/\r149 7=_):=said _
@[simp] theorem z1a:Said (And.intro (zac q149c0.eq_1) (And.intro (zac q149c1.eq_1) (And.intro (zac q149l0.eq_1) (zac q149c2.eq_1)))):=said _
@[simp] def q149:QFn:=⟨25,[(.tmp 2,4)],.seq (r149 0) (.seq (r149 1) (.seq (.seq (r149 2) (.block 0 (.loop q149l0))) (q149c2)))⟩
theorem yb1:zao Tryz.f149=some q149:=by kernel_rfl
abbrev yb2:FuncId:=150
noncomputable def r150:=RC Tryz.f150
def q150c0:zaa:=r150 3
def q150c1:zaa:=.seq (.block 1 (.seq (r150 4) (.cond (.tmp 21) (.seq (r150 5) (.ret)) (.skip)))) (q150c0)
def q150l0:zaa:=.seq (.seq (r150 2) (.cond (.tmp 7) (.skip) (.exit 0))) (q150c1)
def q150c2:zaa:=.seq (r150 6) (.ret)
@[simp] theorem yb3:Said (by and_intros<;>cbv:r150 0=_/\r150 1=_/\r150 2=_/\r150 4=_/\r150 5=_/\r150 3=_/\r150 6=_):=said _
@[simp] theorem z1b:Said (And.intro (zac q150c0.eq_1) (And.intro (zac q150c1.eq_1) (And.intro (zac q150l0.eq_1) (zac q150c2.eq_1)))):=said _
@[simp] def q150:QFn:=⟨25,[(.tmp 2,4)],.seq (r150 0) (.seq (.seq (r150 1) (.block 0 (.loop q150l0))) (q150c2))⟩
theorem yb4:zao Tryz.f150=some q150:=by kernel_rfl
abbrev yb5:FuncId:=151
noncomputable def z76:=RD Tryz.f151
noncomputable def r151:=RC Tryz.f151
def q151c0:zaa:=.block 1 (r151 3)
def q151l0:zaa:=.seq (.seq (r151 2) (.cond (.tmp 19) (.skip) (.exit 0))) (q151c0)
def q151c1:zaa:=.seq (z76 4 15) (.ret)
@[simp] theorem yb6:Said (by and_intros<;>cbv:r151 0=_/\r151 1=_/\r151 2=_/\r151 3=_/\z76 4 15=_):=said _
@[simp] theorem z3s:Said (And.intro (zac q151c0.eq_1) (And.intro (zac q151l0.eq_1) (zac q151c1.eq_1))):=said _
@[simp] def q151:QFn:=⟨36,[(.tmp 4,3),(.tmp 5,4)],.seq (r151 0) (.seq (r151 1) (.seq (.block 0 (.loop q151l0)) (q151c1)))⟩
theorem yb7:zao Tryz.f151=some q151:=by kernel_rfl
abbrev z77:FuncId:=156
noncomputable def z78:=RD Tryz.f156
noncomputable def r156:=RC Tryz.f156
def q156c0:zaa:=.seq (z78 7 9) (.ret)
def q156c1:zaa:=.seq (.seq (r156 5) (.cond (.tmp 12) (.seq (r156 6) (.ret)) (.skip))) (q156c0)
def q156c2:zaa:=.seq (.seq (r156 3) (.cond (.tmp 6) (.seq (r156 4) (.ret)) (.skip))) (q156c1)
@[simp] theorem yb8:Said (by and_intros<;>cbv:r156 0=_/\r156 1=_/\r156 2=_/\r156 3=_/\r156 4=_/\r156 5=_/\r156 6=_/\z78 7 9=_):=said _
@[simp] theorem z2l:Said (And.intro (zac q156c0.eq_1) (And.intro (zac q156c1.eq_1) (zac q156c2.eq_1))):=said _
@[simp] def q156:QFn:=⟨28,[(.tmp 2,9)],.seq (r156 0) (.seq (.seq (r156 1) (.cond (.tmp 4) (.seq (r156 2) (.ret)) (.skip))) (q156c2))⟩
theorem yb9:zao Tryz.f156=some q156:=by kernel_rfl
abbrev yca:FuncId:=159
noncomputable def r159:=RC Tryz.f159
def q159c0:zaa:=.block 1 (r159 3)
def q159l0:zaa:=.seq (.seq (r159 2) (.cond (.tmp 13) (.skip) (.exit 0))) (q159c0)
def q159c1:zaa:=r159 7
def q159c2:zaa:=.seq (.block 3 (r159 8)) (q159c1)
def q159l1:zaa:=.seq (.seq (r159 6) (.cond (.tmp 21) (.skip) (.exit 2))) (q159c2)
def q159c3:zaa:=.seq (r159 9) (.ret)
def q159c4:zaa:=.seq (r159 4) (.seq (.seq (r159 5) (.block 2 (.loop q159l1))) (q159c3))
@[simp] theorem ycb:Said (by and_intros<;>cbv:r159 0=_/\r159 1=_/\r159 2=_/\r159 3=_/\r159 4=_/\r159 5=_/\r159 6=_/\r159 8=_/\r159 7=_/\r159 9=_):=said _
@[simp] theorem z1c:Said (zac q159c4.eq_1):=said _
@[simp] theorem zxd:Said (And.intro (zac q159c0.eq_1) (And.intro (zac q159l0.eq_1) (And.intro (zac q159c1.eq_1) (And.intro (zac q159c2.eq_1) (And.intro (zac q159l1.eq_1) (zac q159c3.eq_1)))))):=said _
@[simp] def q159:QFn:=⟨33,[(.tmp 2,39)],.seq (r159 0) (.seq (r159 1) (.seq (.block 0 (.loop q159l0)) (q159c4)))⟩
theorem ycc:zao Tryz.f159=some q159:=by kernel_rfl
abbrev ycd:FuncId:=160
noncomputable def zkr:=RD Tryz.f160
noncomputable def r160:=RC Tryz.f160
def q160c0:zaa:=r160 14
def q160c1:zaa:=.seq (.block 3 (r160 15)) (q160c0)
def q160l0:zaa:=.seq (.seq (r160 13) (.cond (.tmp 112) (.skip) (.exit 2))) (q160c1)
def q160c2:zaa:=.seq (r160 16) (r160 17)
def q160c3:zaa:=r160 6
def q160c4:zaa:=.seq (.block 1 (.seq (zkr 7 13) (.seq (zkr 8 15) (.seq (zkr 9 16) (.seq (zkr 10 13) (.seq (zkr 11 22) (.seq (.seq (r160 12) (.block 2 (.loop q160l0))) (q160c2)))))))) (q160c3)
def q160l1:zaa:=.seq (.seq (r160 5) (.cond (.tmp 24) (.skip) (.exit 0))) (q160c4)
def q160c5:zaa:=r160 21
def q160c6:zaa:=.seq (.block 5 (zkr 22 9)) (q160c5)
def q160l2:zaa:=.seq (.seq (r160 20) (.cond (.tmp 139) (.skip) (.exit 4))) (q160c6)
def q160c7:zaa:=.seq (r160 23) (.ret)
def q160c8:zaa:=.seq (r160 18) (.seq (.seq (r160 19) (.block 4 (.loop q160l2))) (q160c7))
@[simp] theorem yce:Said (by and_intros<;>cbv:r160 0=_/\r160 1=_/\r160 2=_/\r160 3=_/\r160 4=_/\r160 5=_/\zkr 7 13=_/\zkr 8 15=_/\zkr 9 16=_/\zkr 10 13=_/\zkr 11 22=_/\r160 12=_/\r160 13=_/\r160 15=_/\r160 14=_/\r160 16=_/\r160 17=_/\r160 6=_/\r160 18=_/\r160 19=_/\r160 20=_/\zkr 22 9=_/\r160 21=_/\r160 23=_):=said _
@[simp] theorem z1d:Said (zac q160c2.eq_1):=said _
@[simp] theorem z1e:Said (zac q160c8.eq_1):=said _
@[simp] theorem zyl:Said (And.intro (zac q160c0.eq_1) (And.intro (zac q160c1.eq_1) (And.intro (zac q160l0.eq_1) (And.intro (zac q160c3.eq_1) (And.intro (zac q160c4.eq_1) (And.intro (zac q160l1.eq_1) (And.intro (zac q160c5.eq_1) (And.intro (zac q160c6.eq_1) (And.intro (zac q160l2.eq_1) (zac q160c7.eq_1)))))))))):=said _
@[simp] def q160:QFn:=⟨155,[(.tmp 4,119)],.seq (r160 0) (.seq (r160 1) (.seq (r160 2) (.seq (r160 3) (.seq (.seq (r160 4) (.block 0 (.loop q160l1))) (q160c8)))))⟩
theorem ycf:zao Tryz.f160=some q160:=by kernel_rfl
abbrev ycg:FuncId:=163
noncomputable def r163:=RC Tryz.f163
@[simp] theorem ych:Said (by and_intros<;>cbv:r163 0=_/\r163 1=_/\r163 2=_):=said _
@[simp] def q163:QFn:=⟨17,[(.tmp 4,115)],.seq (r163 0) (.seq (r163 1) (.seq (r163 2) (.ret)))⟩
theorem yci:zao Tryz.f163=some q163:=by kernel_rfl
abbrev ycj:FuncId:=180
noncomputable def r180:=RC Tryz.f180
@[simp] theorem yck:Said (by and_intros<;>cbv:r180 0=_/\r180 1=_):=said _
@[simp] def q180:QFn:=⟨18,[(.tmp 2,4)],.seq (r180 0) (.seq (r180 1) (.ret))⟩
theorem ycl:zao Tryz.f180=some q180:=by kernel_rfl
abbrev ycm:FuncId:=181
noncomputable def r181:=RC Tryz.f181
@[simp] theorem ycn:Said (by and_intros<;>cbv:r181 0=_/\r181 1=_):=said _
@[simp] def q181:QFn:=⟨9,[(.tmp 2,4)],.seq (r181 0) (.seq (r181 1) (.ret))⟩
theorem yco:zao Tryz.f181=some q181:=by kernel_rfl
abbrev ycp:FuncId:=183
noncomputable def z3t:=RD Tryz.f183
noncomputable def r183:=RC Tryz.f183
def q183c0:zaa:=.block 1 (.seq (r183 4) (.seq (z3t 5 6) (.cond (.tmp 31) (r183 6) (r183 7))))
def q183l0:zaa:=.seq (.seq (r183 3) (.cond (.tmp 17) (.skip) (.exit 0))) (q183c0)
def q183c1:zaa:=.seq (z3t 8 15) (.ret)
@[simp] theorem ycq:Said (by and_intros<;>cbv:r183 0=_/\r183 1=_/\r183 2=_/\r183 3=_/\r183 4=_/\z3t 5 6=_/\r183 6=_/\r183 7=_/\z3t 8 15=_):=said _
@[simp] theorem zdm:Said (And.intro (zac q183c0.eq_1) (And.intro (zac q183l0.eq_1) (zac q183c1.eq_1))):=said _
@[simp] def q183:QFn:=⟨49,[(.tmp 6,3),(.tmp 7,4)],.seq (r183 0) (.seq (r183 1) (.seq (r183 2) (.seq (.block 0 (.loop q183l0)) (q183c1))))⟩
theorem ycr:zao Tryz.f183=some q183:=by kernel_rfl
abbrev ycs:FuncId:=184
noncomputable def r184:=RC Tryz.f184
@[simp] theorem yct:Said (by and_intros<;>cbv:r184 0=_/\r184 1=_):=said _
@[simp] def q184:QFn:=⟨10,[(.tmp 4,3)],.seq (r184 0) (.seq (r184 1) (.ret))⟩
theorem ycu:zao Tryz.f184=some q184:=by kernel_rfl
abbrev ycv:FuncId:=185
noncomputable def r185:=RC Tryz.f185
def q185c0:zaa:=r185 3
def q185c1:zaa:=.seq (.block 1 (.seq (r185 4) (.cond (.tmp 14) (.seq (r185 5) (.ret)) (.skip)))) (q185c0)
def q185l0:zaa:=.seq (.seq (r185 2) (.cond (.tmp 7) (.skip) (.exit 0))) (q185c1)
def q185c2:zaa:=.seq (r185 6) (.ret)
@[simp] theorem ycw:Said (by and_intros<;>cbv:r185 0=_/\r185 1=_/\r185 2=_/\r185 4=_/\r185 5=_/\r185 3=_/\r185 6=_):=said _
@[simp] theorem z1f:Said (And.intro (zac q185c0.eq_1) (And.intro (zac q185c1.eq_1) (And.intro (zac q185l0.eq_1) (zac q185c2.eq_1)))):=said _
@[simp] def q185:QFn:=⟨26,[(.tmp 2,4)],.seq (r185 0) (.seq (.seq (r185 1) (.block 0 (.loop q185l0))) (q185c2))⟩
theorem ycx:zao Tryz.f185=some q185:=by kernel_rfl
abbrev ycy:FuncId:=193
noncomputable def z3u:=RD Tryz.f193
noncomputable def r193:=RC Tryz.f193
def q193c0:zaa:=r193 4
def q193c1:zaa:=.seq (.block 1 (z3u 5 33)) (q193c0)
def q193l0:zaa:=.seq (.seq (r193 3) (.cond (.tmp 12) (.skip) (.exit 0))) (q193c1)
def q193c2:zaa:=r193 8
def q193c3:zaa:=.seq (.block 3 (.seq (r193 9) (.seq (r193 10) (.seq (r193 11) (.seq (r193 12) (z3u 13 15)))))) (q193c2)
def q193l1:zaa:=.seq (.seq (r193 7) (.cond (.tmp 52) (.skip) (.exit 2))) (q193c3)
def q193c4:zaa:=.seq (r193 14) (.ret)
def q193c5:zaa:=.seq (.seq (r193 6) (.block 2 (.loop q193l1))) (q193c4)
@[simp] theorem ycz:Said (by and_intros<;>cbv:r193 0=_/\r193 1=_/\r193 2=_/\r193 3=_/\z3u 5 33=_/\r193 4=_/\r193 6=_/\r193 7=_/\r193 9=_/\r193 10=_/\r193 11=_/\r193 12=_/\z3u 13 15=_/\r193 8=_/\r193 14=_):=said _
@[simp] theorem z1g:Said (zac q193c5.eq_1):=said _
@[simp] theorem zym:Said (And.intro (zac q193c0.eq_1) (And.intro (zac q193c1.eq_1) (And.intro (zac q193l0.eq_1) (And.intro (zac q193c2.eq_1) (And.intro (zac q193c3.eq_1) (And.intro (zac q193l1.eq_1) (zac q193c4.eq_1))))))):=said _
@[simp] def q193:QFn:=⟨100,[(.tmp 2,119)],.seq (r193 0) (.seq (r193 1) (.seq (.seq (r193 2) (.block 0 (.loop q193l0))) (q193c5)))⟩
theorem yc0:zao Tryz.f193=some q193:=by kernel_rfl
abbrev yc1:FuncId:=194
noncomputable def r194:=RC Tryz.f194
@[simp] theorem yc2:Said (by and_intros<;>cbv:r194 0=_/\r194 1=_):=said _
@[simp] def q194:QFn:=⟨2,[(.tmp 0,119)],.seq (r194 0) (.seq (r194 1) (.ret))⟩
theorem yc3:zao Tryz.f194=some q194:=by kernel_rfl
abbrev z79:FuncId:=195
noncomputable def z8a:=RD Tryz.f195
noncomputable def r195:=RC Tryz.f195
@[simp] theorem yc4:Said (by and_intros<;>cbv:r195 0=_/\z8a 1 7=_):=said _
@[simp] def q195:QFn:=⟨13,[(.tmp 4,115)],.seq (r195 0) (.seq (z8a 1 7) (.ret))⟩
theorem yc5:zao Tryz.f195=some q195:=by kernel_rfl
abbrev yc6:FuncId:=203
noncomputable def r203:=RC Tryz.f203
def q203c0:zaa:=r203 6
def q203c1:zaa:=.seq (.block 1 (.seq (r203 3) (.seq (r203 4) (.cond (.tmp 13) (.seq (r203 5) (.ret)) (.skip))))) (q203c0)
def q203l0:zaa:=.seq (r203 2) (.seq (.cond (.tmp 7) (.skip) (.exit 0)) (q203c1))
def q203c2:zaa:=.seq (r203 7) (.ret)
@[simp] theorem yc7:Said (by and_intros<;>cbv:r203 0=_/\r203 1=_/\r203 2=_/\r203 3=_/\r203 4=_/\r203 5=_/\r203 6=_/\r203 7=_):=said _
@[simp] theorem zvi:Said (And.intro (zac q203c0.eq_1) (And.intro (zac q203c1.eq_1) (And.intro (zac q203l0.eq_1) (zac q203c2.eq_1)))):=said _
@[simp] def q203:QFn:=⟨17,[(.tmp 2,4)],.seq (r203 0) (.seq (.seq (r203 1) (.block 0 (.loop q203l0))) (q203c2))⟩
theorem yc8:zao Tryz.f203=some q203:=by kernel_rfl
abbrev yc9:FuncId:=205
noncomputable def r205:=RC Tryz.f205
def q205c0:zaa:=.seq (r205 6) (.ret)
def q205c1:zaa:=.seq (r205 13) (.ret)
def q205c2:zaa:=.seq (.seq (r205 11) (.cond (.tmp 19) (.seq (r205 12) (.ret)) (.skip))) (q205c1)
def q205c3:zaa:=.seq (.seq (r205 9) (.cond (.tmp 16) (.seq (r205 10) (.ret)) (.skip))) (q205c2)
def q205c4:zaa:=.seq (.seq (r205 7) (.cond (.tmp 13) (.seq (r205 8) (.ret)) (.skip))) (q205c3)
@[simp] theorem yda:Said (by and_intros<;>cbv:r205 0=_/\r205 1=_/\r205 2=_/\r205 3=_/\r205 4=_/\r205 5=_/\r205 6=_/\r205 7=_/\r205 8=_/\r205 9=_/\r205 10=_/\r205 11=_/\r205 12=_/\r205 13=_):=said _
@[simp] theorem zm7:Said (And.intro (zac q205c0.eq_1) (And.intro (zac q205c1.eq_1) (And.intro (zac q205c2.eq_1) (And.intro (zac q205c3.eq_1) (zac q205c4.eq_1))))):=said _
@[simp] def q205:QFn:=⟨20,[(.tmp 4,3)],.seq (r205 0) (.seq (r205 1) (.seq (r205 2) (.seq (.seq (r205 3) (.cond (.tmp 11) (.seq (.seq (r205 4) (.cond (.tmp 12) (.seq (r205 5) (.ret)) (.skip))) (q205c0)) (.skip))) (q205c4))))⟩
theorem ydb:zao Tryz.f205=some q205:=by kernel_rfl
abbrev ydc:FuncId:=206
noncomputable def r206:=RC Tryz.f206
@[simp] theorem ydd:Said (by and_intros<;>cbv:r206 0=_/\r206 1=_):=said _
@[simp] def q206:QFn:=⟨29,[(.tmp 2,4)],.seq (r206 0) (.seq (r206 1) (.ret))⟩
theorem yde:zao Tryz.f206=some q206:=by kernel_rfl
abbrev ydf:FuncId:=214
noncomputable def r214:=RC Tryz.f214
@[simp] theorem ydg:Said (by and_intros<;>cbv:r214 0=_/\r214 1=_):=said _
@[simp] def q214:QFn:=⟨29,[(.tmp 2,4)],.seq (r214 0) (.seq (r214 1) (.ret))⟩
theorem ydh:zao Tryz.f214=some q214:=by kernel_rfl
abbrev ydi:FuncId:=215
noncomputable def r215:=RC Tryz.f215
@[simp] theorem ydj:Said (by and_intros<;>cbv:r215 0=_/\r215 1=_):=said _
@[simp] def q215:QFn:=⟨6,[(.tmp 2,4)],.seq (r215 0) (.seq (r215 1) (.ret))⟩
theorem ydk:zao Tryz.f215=some q215:=by kernel_rfl
end
end Go.Qz
