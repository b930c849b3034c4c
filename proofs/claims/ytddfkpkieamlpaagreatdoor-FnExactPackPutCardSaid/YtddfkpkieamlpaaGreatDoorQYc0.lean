import Derived.Test.YtddfkpkieamlpaaGreatDoorQq0
import Derived.Test.YtddfkpkieamlpaaGreatDoorQm0
import Derived.Test.YtddfkpkieamlpaaGreatDoorQYb0
import Derived.WalkKit
import Derived.OwnWalkIn
import Derived.TacticsInMore
import Derived.LoopNIn
import Derived.LoopIn
namespace Go.Qz
open Go.Proofs Go.RowKit Go.Shelf
attribute [local go_sem] Oper.semAt_some
set_option maxRecDepth 100000 in
theorem z3y(s p:ByteArray)(w:World):Calls Tryz.prog 143 #[.string s,.string p] w λe w' =>e=.returned (seqV 202 (w.heap.size+1) w.heap.size (w.heap.size+2))/\
 w' =((w.alloc (.cells #[.string s] 9)).alloc (.cells #[.string p] 9)).alloc (.cells #[.int .i64 0] 3):=by
 go_enter Tryz.func143,Tryz.ntmps143
 go_wp2
 go_ret
 exact⟨rfl,rfl⟩
theorem zoa{c:UInt8}:∀{l:List UInt8},Lib.indexByte l c<0->za7 c l=[l]
 | [],_=>rfl
 |b::l,h=>by
  unfold Lib.indexByte at h;by_cases hb:(b==c)=true
  ·rw[if_pos hb]at h;omega
  ·rw[if_neg hb]at h;have hbc:¬b=c:=by simpa using hb
   have hl:Lib.indexByte l c<0:=by
    by_cases h1:(Lib.indexByte l c== -1)=true
    ·have:Lib.indexByte l c= -1:=by simpa using h1
     omega
    ·rw[if_neg h1]at h;have:=Lib.indexByte_ge l c;have h2:¬Lib.indexByte l c= -1:=by simpa using h1
     omega
   simp only[za7,if_neg hbc,zoa hl]
theorem zob{c:UInt8}:∀{l:List UInt8} {i:Nat},Lib.indexByte l c=i->i<l.length/\za7 c l=l.take i::za7 c (l.drop (i+1))
 | [],i,h=>by
   have:Lib.indexByte [] c= -1:=rfl;omega
 |b::l,i,h=>by
  unfold Lib.indexByte at h;by_cases hb:(b==c)=true
  ·rw[if_pos hb]at h;have hbc:b=c:=by simpa using hb
   obtain rfl:i=0:=by omega
   simp[za7,hbc]
  ·rw[if_neg hb]at h;have hbc:¬b=c:=by simpa using hb
   by_cases h1:(Lib.indexByte l c== -1)=true
   ·rw[if_pos h1]at h;omega
   ·rw[if_neg h1]at h;have h2:¬Lib.indexByte l c= -1:=by simpa using h1
    have:=Lib.indexByte_ge l c;obtain⟨j,hj⟩:∃j:Nat,Lib.indexByte l c=j:=⟨(Lib.indexByte l c).toNat,by omega⟩
    obtain rfl:i=j+1:=by omega
    obtain⟨k1,k2⟩:=zob hj;refine⟨by simp;omega,?_⟩
    simp only[za7,if_neg hbc,k2,List.take_succ_cons,List.drop_succ_cons]
open Classical in
noncomputable def zvm(w:World)(b:Nat):Nat:=match w.cell? ⟨b,0,none⟩with
 |some (.string s)=>s.size
 |_=>0
theorem zf1{w:World}{b:Nat}{v:Value}(h:∃e,w.heap[b]? =some (.cells #[v] e (0,0))):w.cell? ⟨b,0,none⟩=some v/\w.frozen? ⟨b,0,none⟩=false:=by
 obtain⟨e,h⟩:=h;constructor<;>simp[World.cell?,World.frozen?,h]
theorem heap_setCell{w:World}{b:Nat}{v v':Value}{e:TypeId}(h:w.heap[b]? =some (.cells #[v] e (0,0))):(w.setCell ⟨b,0,none⟩ v').heap[b]? =some (.cells #[v'] e (0,0)):=by
 obtain⟨hlt,hb⟩:=Array.getElem?_eq_some_iff.1 h;show (w.heap.modify b _)[b]? =_;rw[Array.getElem?_eq_getElem (by rw[Array.size_modify];exact hlt),Array.getElem_modify_self,hb]
 rfl
theorem SeqCells.turn{w:World}{s s2 p:ByteArray}{bp bs bn:Nat}(h:SeqCells w s p bp bs bn)(v:ByteArray)(hv:v=s2:=by rfl):SeqCells (w.setCell ⟨bs,0,none⟩ (.string v)) s2 p bp bs bn:=by
 subst hv;refine⟨?_,?_,?_,h.sp,h.sn⟩
 ·rw[Below.heap_setCell w _ _ bp (λe=>h.sp e.symm)];exact h.p
 ·obtain⟨e,he⟩:=h.s;exact⟨e,heap_setCell he⟩
 ·rw[Below.heap_setCell w _ _ bn (λe=>h.sn e.symm)];exact h.n
theorem zt4(w:World)(b:Nat)(v:Value):z0c b w (w.setCell ⟨b,0,none⟩ v):=
 ⟨rfl,rfl,rfl,by show w.heap.size<=(w.heap.modify _ _).size;rw[Array.size_modify];exact Nat.le_refl _,λx _ hne=>Below.heap_setCell w _ _ x hne⟩
theorem zrr{w:World}{b:Nat}{s:ByteArray}(h:∃e,w.heap[b]? =some (.cells #[.string s] e (0,0))):zvm w b=s.size:=by
 unfold zvm;rw[(zf1 h).1]
theorem zxk{w:World}{b:Nat}{s s2:ByteArray}(h:∃e,w.heap[b]? =some (.cells #[.string s] e (0,0))):zvm (w.setCell ⟨b,0,none⟩ (.string s2)) b=s2.size:=by
 obtain⟨e,h⟩:=h;exact zrr ⟨e,heap_setCell h⟩
set_option maxRecDepth 100000 in
set_option maxHeartbeats 2000000 in
theorem z3z:zo9 Tryz.prog 202:=by
 intro l bp bs bn s p J Jx W hp hsz hcel hstep hY h0
 obtain⟨c,rfl⟩:∃c,p=⟨#[c]⟩:=by
  obtain⟨⟨pl⟩⟩:=p
  match pl,hp with
  | [c],_=>exact⟨c,rfl⟩
 refine callsIn_of_wp Tryz.func202 rfl trivial ?_ rfl;simp only[Tryz.ntmps202,List.size_toArray,List.length_cons,List.length_nil,Nat.reduceAdd,Nat.reduceSub,Array.replicate_succ,Array.replicate_zero,List.push_toArray,List.append_toArray,List.nil_append,List.cons_append];have hcp:=(zf1 hcel.p).1;refine wpIn_seq_k (λK hK=>?_)
 replace hK:=PLift.up hK
 gi_wp2
 refine hK.down _ _ ?_;clear hK K;refine wpIn_seq_k (λK hK=>?_)
 replace hK:=PLift.up hK;refine wpIn_block ?_
 gi_loopw [7] (λp wr=> ∃s',s'.size<=9223372036854775807/\SeqCells wr s' ⟨#[c]⟩ bp bs bn/\J (zgh s' ⟨#[c]⟩) wr) (λp wr=>zvm wr bs)
 case atStart=>exact⟨s,hsz,hcel,h0⟩
 case round=>
  obtain⟨s',hs',hc',hj⟩:=hrel;have hcs:=(zf1 hc'.s).1;have hcp2:=(zf1 hc'.p).1;have hcn:=(zf1 hc'.n).1;have hfs:=(zf1 hc'.s).2;clear hcel h0 hcp hsz;by_cases hi:Lib.indexByte s'.data.toList c<0
  ·obtain⟨fn,tmps,assign,body,hy,hR⟩:=hY s' [] wr (by have:=hj;simpa [zgh,zoa hi]using this)
   gi_wp2_with (refine⟨trivial,rfl,?_⟩;gi_at_call 135;refine(callsIn_wide.2 (Tryz.strings_Index_one s' c wr)).mono ?_;rintro e w' ⟨rfl,rfl⟩)
   refine hK.down _ _ ?_;clear hK
   gi_wp2
   refine⟨rfl,hR.mono ?_⟩;rintro e W3 (⟨rfl,hJ3,_⟩|⟨rfl,hJx3⟩)
   ·gi_wp2
    go_end0
    exact⟨⟨_,rfl⟩,.inl hJ3⟩
   ·gi_wp2
    go_end0
    exact⟨⟨_,rfl⟩,.inr hJx3⟩
  ·obtain⟨i,hi'⟩:∃i:Nat,Lib.indexByte s'.data.toList c=i:=⟨_,(Int.toNat_of_nonneg (by omega)).symm⟩
   obtain⟨hlt,hcut⟩:=zob hi';have hlen:s'.data.toList.length=s'.size:=by rw[Array.length_toList];rfl
   have hw:Go.RowKit.wrap64 (i:Int)=i:=by unfold Go.RowKit.wrap64;omega
   have hw1:Go.RowKit.wrap64 ((i:Int)+1)=((i+1:Nat):Int):=by unfold Go.RowKit.wrap64;omega
   have hx1:(⟨(s'.data.toList.take i).toArray⟩:ByteArray)=s'.extract 0 i:=by
    have:=zn7 s'.data.toList 0 i;simpa using this.symm
   have hx2:(⟨(s'.data.toList.drop (i+1)).toArray⟩:ByteArray)=s'.extract (i+1) s'.size:=by
    have:=zn7 s'.data.toList (i+1) s'.size;rw[<-hlen,List.take_length]at this;rw[<-hlen];exact this.symm
   obtain⟨fn,tmps,assign,body,hy,hR⟩:=hY (s'.extract 0 i) (zgh (s'.extract (i+1) s'.size) ⟨#[c]⟩) wr (by have:=hj;rw[<-hx1,<-hx2];simpa [zgh,hcut]using this)
   have hi0:¬(i:Int)<0:=by omega
   gi_wp2_with (first|(refine⟨trivial,rfl,?_⟩;gi_at_call 135;refine(callsIn_wide.2 (Tryz.strings_Index_one s' c wr)).mono ?_;rintro e w' ⟨rfl,rfl⟩;rw[hi'])|simp)
   refine⟨rfl,hR.mono ?_⟩;rintro e W3 (⟨rfl,hJ3,b1,b2,b3⟩|⟨rfl,hJx3⟩)
   ·have hc3:=hc'.frame b1 b2 b3;have hcs3:=(zf1 hc3.s).1;have hcp3:=(zf1 hc3.p).1;have hfs3:=(zf1 hc3.s).2
    gi_wp2_with (simp only)
    go_roundw
    case rel=>
     refine⟨s'.extract (i+1) s'.size,?_,hc3.turn _,hstep _ _ _ hJ3 (zt4 _ _ _)⟩;rw[ByteArray.size_extract];omega
    case measure=>
     rw[zxk hc3.s,zrr hc'.s,ByteArray.size_extract];omega
   ·gi_wp2
    refine bodyPost_ret (results_none rfl _ _ _) rfl ?_;exact⟨⟨_,rfl⟩,.inr hJx3⟩
end Go.Qz
