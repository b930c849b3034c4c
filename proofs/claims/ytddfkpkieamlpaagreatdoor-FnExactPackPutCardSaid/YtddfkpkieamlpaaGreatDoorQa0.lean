import Derived.Shelf.Strings.BuilderK
namespace Go.Proofs
open Go.Shelf Go.RowKit
variable{P:Program}{ρ:Ren}
structure ButOne(o:Option Nat)(w w':World):Prop where
 os:w'.os=w.os
 tape:w'.tape=w.tape
 output:w'.output=w.output
 size:w.heap.size<=w'.heap.size
 block:∀x,x<w.heap.size->o≠some x->w'.heap[x]? =w.heap[x]?
theorem ButOne.drew(o:Option Nat)(w:World):ButOne o w w.drew:=⟨rfl,rfl,rfl,Nat.le_refl _,λ_ _ _=>rfl⟩
theorem ButOne.alloc{o:Option Nat}{w w':World}(h:ButOne o w w')(c:Obj):ButOne o w (w'.alloc c):=
 ⟨h.os,h.tape,h.output,Nat.le_trans h.size (by show w'.heap.size<=(w'.heap.push _).size;rw[Array.size_push];omega),λx hx hn=>by
  have hlt:x<w'.heap.size:=Nat.lt_of_lt_of_le hx h.size;rw[Lib.alloc_old w' c x hlt]
  exact h.block x hx hn⟩
theorem ButOne.freeze{w w':World}{g:Nat}(h:ButOne (some g) w w')(n:Nat):ButOne (some g) w (w'.freeze ⟨g,0,none⟩ n):=by
 unfold World.freeze;split
 ·exact h
 ·refine⟨h.os,h.tape,h.output,by simpa using h.size,λx hx hn=>?_⟩
  have hne:g≠x:=λe=>hn (by rw[e])
  rw[Array.getElem?_modify,if_neg hne];exact h.block x hx hn
set_option maxHeartbeats 1000000 in
set_option maxRecDepth 100000 in
theorem zsj(L:Lays.n169 P ρ)(X:Builder.Extra P ρ)(b:Nat)(l:List UInt8)(p:Value)(el:TypeId)(w:World)(h0:l≠[])(g cap:Nat)(cur:Array Value)
 (hbk:w.heap[b]? =some (.cells #[p,.slice (some ⟨g,0,none⟩) l.length cap] el (0,0))) (hg:w.heap[g]? =some (.cells cur (ρ.t 5) (0,0))) (hnc:l.length<=cap) (hcm:cap<=maxLen) (hcs:cur.size=cap*1)
 (htake:cur.toList.take (l.length*1)=Lib.byteCells l):
 Calls P (ρ.f 169) #[.pointer (some ⟨b,0,none⟩)] w λe w' =>e=.returned (.string ⟨l.toArray⟩)/\ButOne (some g) w w':=by
 have hl0:l.length≠0:=by simpa using h0
 have c1:w.drew.cell? ⟨b,1,none⟩=some (.slice (some ⟨g,0,none⟩) l.length cap):=by
  have:w.drew.heap[b]? =some (.cells #[p,.slice (some ⟨g,0,none⟩) l.length cap] el (0,0)):=hbk;rw[Lib.cell_of_heap this];rfl
 have hSD:(Builtin.unsafeSliceData_ #[(ρ.t 37)] (ρ.t 127) #[.slice (some ⟨g,0,none⟩) l.length cap]).run P w.drew=.ok (.pointer (some ⟨g,0,none⟩)) w.drew:=
  Lib.run_unsafeSliceData_row _ _ _ _ _ _ (by omega)
 have hUS:(Builtin.unsafeString_ #[(ρ.t 127),(ρ.t 3)] (ρ.t 9) #[.pointer (some ⟨g,0,none⟩),.int .i64 l.length]).run P w.drew=.ok (.string ⟨l.toArray⟩) (w.drew.freeze ⟨g,0,none⟩ l.length):=by
  refine Lib.run_unsafeString_row w.drew (ρ.t 127) (ρ.t 3) (ρ.t 9) (ρ.t 5) L.t127 X.cellsByte g cur.size (by have hg':w.drew.heap[g]? =some (.cells cur (ρ.t 5) (0,0)):=hg;simp[World.shape?,hg']) l h0 (by omega) (by unfold maxLen at hcm;omega) ?_
  intro j x hx;have hlt:j<l.length:=(List.getElem?_eq_some_iff.1 hx).1;have:(cur.toList.take (l.length*1))[j]? =some (.int .u8 x.toNat):=by rw[htake];simp[Lib.byteCells,hx]
  rw[List.getElem?_take_of_lt (by omega)]at this
  have hg':w.drew.heap[g]? =some (.cells cur (ρ.t 5) (0,0)):=hg;have ha:(⟨g,0,none⟩:Addr).add j=⟨g,j,none⟩:=by cases j<;>simp[Addr.add]
  rw[ha,Lib.cell_of_heap hg',<-Array.getElem?_toList,this]
 have hfin:ButOne (some g) w (w.drew.freeze ⟨g,0,none⟩ l.length):=(ButOne.drew _ w).freeze _;clear hbk hg hnc hcm hcs htake h0 hl0;have mixed:=L.mixed;have t72:=L.t72;have a72:=L.a72;have z72:=L.z72;have v72:=L.v72;have u72:=run_underlying L.t72;have t70:=L.t70;have a70:=L.a70;have z70:=L.z70;have v70:=L.v70;have u70:=run_underlying L.t70;have t37:=L.t37;have a37:=L.a37;have z37:=L.z37;have v37:=L.v37;have u37:=run_underlying L.t37;have t127:=L.t127;have a127:=L.a127;have z127:=L.z127;have v127:=L.v127;have u127:=run_underlying L.t127
 have t3:=L.t3;have a3:=L.a3;have z3:=L.z3;have v3:=L.v3;have u3:=run_underlying L.t3;have t9:=L.t9;have a9:=L.a9;have z9:=L.z9;have v9:=L.v9;have u9:=run_underlying L.t9;have t5:=X.t5;have a5:=X.a5;have z5:=X.z5;have v5:=X.v5;have u5:=run_underlying X.t5
 go_enter L.f169,Body.n169_ntmps ρ
 go_wp2
 go_region_o
 all_goals (go_wp2;go_ret;exact⟨rfl,hfin⟩)
set_option maxHeartbeats 1000000 in
set_option maxRecDepth 100000 in
theorem zvz(L:Lays.n169 P ρ)(X:Builder.Extra P ρ)(b:Nat)(p:Value)(el:TypeId)(w:World)(hbk:w.heap[b]? =some (.cells #[p,.slice none 0 0] el (0,0))):
 Calls P (ρ.f 169) #[.pointer (some ⟨b,0,none⟩)] w λe w' =>e=.returned (.string ⟨#[]⟩)/\ButOne none w w':=by
 have hUS:=Any.unsafeString_none L X
 have c1:w.drew.cell? ⟨b,1,none⟩=some (.slice none 0 0):=by
  have:w.drew.heap[b]? =some (.cells #[p,.slice none 0 0] el (0,0)):=hbk;rw[Lib.cell_of_heap this];rfl
 have hSD:(Builtin.unsafeSliceData_ #[(ρ.t 37)] (ρ.t 127) #[.slice none 0 0]).run P w.drew=.ok (.pointer none) w.drew:=rfl;have mixed:=L.mixed;have t72:=L.t72;have a72:=L.a72;have z72:=L.z72;have v72:=L.v72;have u72:=run_underlying L.t72;have t70:=L.t70;have a70:=L.a70;have z70:=L.z70;have v70:=L.v70;have u70:=run_underlying L.t70;have t37:=L.t37;have a37:=L.a37;have z37:=L.z37;have v37:=L.v37;have u37:=run_underlying L.t37;have t127:=L.t127;have a127:=L.a127;have z127:=L.z127;have v127:=L.v127;have u127:=run_underlying L.t127
 have t3:=L.t3;have a3:=L.a3;have z3:=L.z3;have v3:=L.v3;have u3:=run_underlying L.t3;have t9:=L.t9;have a9:=L.a9;have z9:=L.z9;have v9:=L.v9;have u9:=run_underlying L.t9;have t5:=X.t5;have a5:=X.a5;have z5:=X.z5;have v5:=X.v5;have u5:=run_underlying X.t5;have hfin:ButOne none w w.drew:=ButOne.drew _ w;clear hbk
 go_enter L.f169,Body.n169_ntmps ρ
 go_wp2
 go_region_o
 all_goals (go_wp2;go_ret;exact⟨rfl,hfin⟩)
set_option maxHeartbeats 1000000 in
set_option maxRecDepth 100000 in
theorem zoj(L:Lays.n169 P ρ)(X:Builder.Extra P ρ)(b g:Nat)(p:Value)(el:TypeId)(cur:Array Value)(w:World)(hbk:w.heap[b]? =some (.cells #[p,.slice (some ⟨g,0,none⟩) 0 0] el (0,0)))(hg:w.heap[g]? =some (.cells cur (ρ.t 5) (0,0))):
 Calls P (ρ.f 169) #[.pointer (some ⟨b,0,none⟩)] w λe w' =>e=.returned (.string ⟨#[]⟩)/\ButOne (some g) w w':=by
 have hUS:=Any.unsafeString_none L X
 have hlt:b<w.heap.size:=by
  rcases Nat.lt_or_ge b w.heap.size with h' |h'
  ·exact h'
  ·simp[Array.getElem?_eq_none h']at hbk
 have c1:w.drew.cell? ⟨b,1,none⟩=some (.slice (some ⟨g,0,none⟩) 0 0):=by
  have:w.drew.heap[b]? =some (.cells #[p,.slice (some ⟨g,0,none⟩) 0 0] el (0,0)):=hbk;rw[Lib.cell_of_heap this];rfl
 have hSD:(Builtin.unsafeSliceData_ #[(ρ.t 37)] (ρ.t 127) #[.slice (some ⟨g,0,none⟩) 0 0]).run P w.drew=.ok (.pointer (some ⟨w.drew.heap.size,0,none⟩)) (w.drew.alloc (.view ⟨g,0,none⟩ (ρ.t 5))):=
  Lib.run_unsafeSliceData_zero w.drew _ _ (ρ.t 5) L.t127 ⟨g,0,none⟩ 0 ((ρ.t 5),cur.size) (by have hg':w.drew.heap[g]? =some (.cells cur (ρ.t 5) (0,0)):=hg;simp[World.shape?,hg'])
 have c2:(w.drew.alloc (.view ⟨g,0,none⟩ (ρ.t 5))).cell? ⟨b,1,none⟩=some (.slice (some ⟨g,0,none⟩) 0 0):=by
  have:(w.drew.alloc (.view ⟨g,0,none⟩ (ρ.t 5))).heap[b]? =_:=(Lib.alloc_old w.drew _ b hlt).trans hbk;rw[Lib.cell_of_heap this];rfl
 have c3:(w.alloc (.view ⟨g,0,none⟩ (ρ.t 5))).drew.cell? ⟨b,1,none⟩=some (.slice (some ⟨g,0,none⟩) 0 0):=c2;have c0:w.cell? ⟨b,1,none⟩=some (.slice (some ⟨g,0,none⟩) 0 0):=c1;have mixed:=L.mixed;have t72:=L.t72;have a72:=L.a72;have z72:=L.z72;have v72:=L.v72;have u72:=run_underlying L.t72;have t70:=L.t70;have a70:=L.a70;have z70:=L.z70;have v70:=L.v70;have u70:=run_underlying L.t70;have t37:=L.t37;have a37:=L.a37;have z37:=L.z37;have v37:=L.v37;have u37:=run_underlying L.t37;have t127:=L.t127;have a127:=L.a127;have z127:=L.z127;have v127:=L.v127;have u127:=run_underlying L.t127
 have t3:=L.t3;have a3:=L.a3;have z3:=L.z3;have v3:=L.v3;have u3:=run_underlying L.t3;have t9:=L.t9;have a9:=L.a9;have z9:=L.z9;have v9:=L.v9;have u9:=run_underlying L.t9;have t5:=X.t5;have a5:=X.a5;have z5:=X.z5;have v5:=X.v5;have u5:=run_underlying X.t5;have hfin:ButOne (some g) w (w.drew.alloc (.view ⟨g,0,none⟩ (ρ.t 5))):=(ButOne.drew _ w).alloc _
 go_enter L.f169,Body.n169_ntmps ρ
 go_wp2
 go_region_o
 all_goals (go_wp2;go_ret;exact⟨rfl,hfin⟩)
set_option maxHeartbeats 1000000 in
set_option maxRecDepth 100000 in
theorem zsk(L:Lays.n169 P ρ)(X:Builder.Extra P ρ)(b g cap:Nat)(p:Value)(el:TypeId)(w:World)(hc0:cap≠0)(hbk:w.heap[b]? =some (.cells #[p,.slice (some ⟨g,0,none⟩) 0 cap] el (0,0))):
 Calls P (ρ.f 169) #[.pointer (some ⟨b,0,none⟩)] w λe w' =>e=.returned (.string ⟨#[]⟩)/\ButOne (some g) w w':=by
 have hUS:=Any.unsafeString_none L X
 have c1:w.drew.cell? ⟨b,1,none⟩=some (.slice (some ⟨g,0,none⟩) 0 cap):=by
  have:w.drew.heap[b]? =some (.cells #[p,.slice (some ⟨g,0,none⟩) 0 cap] el (0,0)):=hbk;rw[Lib.cell_of_heap this];rfl
 have hSD:(Builtin.unsafeSliceData_ #[(ρ.t 37)] (ρ.t 127) #[.slice (some ⟨g,0,none⟩) 0 cap]).run P w.drew=.ok (.pointer (some ⟨g,0,none⟩)) w.drew:=
  Lib.run_unsafeSliceData_row _ _ _ _ _ _ hc0
 clear hc0;have mixed:=L.mixed;have t72:=L.t72;have a72:=L.a72;have z72:=L.z72;have v72:=L.v72;have u72:=run_underlying L.t72;have t70:=L.t70;have a70:=L.a70;have z70:=L.z70;have v70:=L.v70;have u70:=run_underlying L.t70;have t37:=L.t37;have a37:=L.a37;have z37:=L.z37;have v37:=L.v37;have u37:=run_underlying L.t37;have t127:=L.t127;have a127:=L.a127;have z127:=L.z127;have v127:=L.v127;have u127:=run_underlying L.t127;have t3:=L.t3;have a3:=L.a3;have z3:=L.z3;have v3:=L.v3;have u3:=run_underlying L.t3;have t9:=L.t9;have a9:=L.a9;have z9:=L.z9;have v9:=L.v9;have u9:=run_underlying L.t9
 have t5:=X.t5;have a5:=X.a5;have z5:=X.z5;have v5:=X.v5;have u5:=run_underlying X.t5;have hfin:ButOne (some g) w w.drew:=ButOne.drew _ w;clear hbk
 go_enter L.f169,Body.n169_ntmps ρ
 go_wp2
 go_region_o
 all_goals (go_wp2;go_ret;exact⟨rfl,hfin⟩)
theorem zv0(L:Lays.n169 P ρ)(X:Builder.Extra P ρ)(b:Nat)(s:ByteArray)(p v:Value)(el:TypeId)(w:World)(hbk:w.heap[b]? =some (.cells #[p,v] el (0,0)))(hown:w.ownsRow 0 (ρ.t 5) 1 v s.size (s.data.toList.map λb=>.int .u8 b.toNat)):
 Calls P (ρ.f 169) #[.pointer (some ⟨b,0,none⟩)] w λe w' =>e=.returned (.string s)/\ButOne v.ownBlock w w':=by
 have hs:(⟨s.data.toList.toArray⟩:ByteArray)=s:=by cases s;simp
 have hlen:s.data.toList.length=s.size:=Array.length_toList;rcases hown.2 with⟨rfl,h0⟩|⟨g,cap,cur,rfl,_,hg,hnc,hcm,hcs,htake⟩
 ·have he:(⟨#[]⟩:ByteArray)=s:=by
   rw[<-hs];congr 1;have:s.data.toList=[]:=List.eq_nil_of_length_eq_zero (by omega)
   rw[this]
  rw[<-he];exact zvz L X b p el w hbk
 ·by_cases h0:s.data.toList=[]
  ·have he:(⟨#[]⟩:ByteArray)=s:=by rw[<-hs,h0]
   have hz:s.size=0:=by rw[<-hlen,h0];rfl
   rw[hz]at hbk;rw[hz,<-he];by_cases hc:cap=0
   ·subst hc;exact zoj L X b g p el cur w hbk hg
   ·exact zsk L X b g cap p el w hc hbk
  ·rw[<-hlen]at hbk hnc htake ⊢;have:=zsj L X b s.data.toList p el w h0 g cap cur hbk hg hnc hcm hcs htake;rw[hs]at this;exact this
end Go.Proofs
