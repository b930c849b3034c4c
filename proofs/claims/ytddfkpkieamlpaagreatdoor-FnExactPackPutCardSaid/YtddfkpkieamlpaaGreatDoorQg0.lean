import Derived.Shelf.Strings.IndexAnyAll
import Derived.Laws.RangeAny
import Derived.Laws.Runes
import Derived.Shelf.Small.Utf8
import Derived.Lib.OthersKept
namespace Go.Proofs
open Go.Shelf Go.RowKit Go.Lib
variable{P:Program}{ρ:Ren}
set_option maxHeartbeats 4000000 in
set_option maxRecDepth 1000000 in
theorem Any.indexRune_bad(L:Lays.n152 P ρ)(s:ByteArray)(w:World)(hascii:∀(j:Nat) b,s.data.toList[j]? =some b->b.toNat<128):
 Calls P (ρ.f 152) #[.string s,.int .i32 65533] w λe w' =>e=.returned (.int .i64 (-1))/\ ∃pos,w' =w.iter s pos:=by
 have HA:Aside (∀(j:Nat) b,s.data.toList[j]? =some b->b.toNat<128):=hascii;clear hascii;have t3:=L.t3;have a3:=L.a3;have z3:=L.z3;have v3:=L.v3;have t4:=L.t4;have a4:=L.a4;have z4:=L.z4;have v4:=L.v4;have t5:=L.t5;have a5:=L.a5;have z5:=L.z5;have v5:=L.v5;have t9:=L.t9;have a9:=L.a9;have z9:=L.z9;have v9:=L.v9;have t21:=L.t21;have a21:=L.a21;have z21:=L.z21;have v21:=L.v21
 go_enter L.f152,Body.n152_ntmps ρ
 go_wp2
 go_loopg [5,6] s.size (λg _ _ wx=> ∃i:Nat,i+g=s.size/\wx=w.iter s i)
 case atStart=>exact⟨0,by omega,rfl⟩
 case round=>
  obtain⟨i,hig,rfl⟩:=hrel
  cases gk with
  |zero=>
   obtain rfl:i=s.size:=by omega
   have hnx:=run_next_end (P:=P) w s s.size
   go_wp2
   go_ret
   exact⟨rfl,_,rfl⟩
  |succ g=>
   have hi:i<s.size:=by omega
   obtain⟨x,hx⟩:∃x:UInt8,s[i]'hi=x:=⟨_,rfl⟩;have hxl:s.data.toList[i]? =some x:=by rw[<-hx];exact Lib.data_getElem? s i hi
   have hx128:x.toNat<128:=HA.out i x hxl;have hnx:=λty=>run_next_ascii (P:=P) w s i ty hi (by rw[hx];exact hx128)
   rw[hx]at hnx;have hne:(((x.toNat:Nat):Int)==65533)=false:=beq_eq_false_iff_ne.2 (by omega)
   clear hxl hx hx128
   go_wp2
   go_roundg g
   case measure=>omega
   case rel=>exact⟨i+1,by omega,rfl⟩
theorem zqe{P:Program}{Q:Exit->Act->World->Prop}{a:Act}{w:World}{c:Code}(h:c.wp P (Exit.then (λ_ _=>False) Q) a w):(Code.loop c).wp P Q a w:=by
 refine wp_loop_ghost (λn a' w' =>n=1/\a' =a/\w' =w) 1 ⟨rfl,rfl,rfl⟩ ?_
 rintro n _ _ ⟨rfl,rfl,rfl⟩;refine wp_mono h ?_;intro e a' w' hq
 cases e with
 |normal=>exact hq.elim
 |exit id=>exact hq
 |goto l=>exact hq
 |ret=>exact hq
 |panic ch=>exact hq
 |outgrown=>exact hq
theorem zzg{Q:Exit->Act->World->Prop}{a:Act}{w:World}{i:Nat}(h:Q .ret a w):Exit.noGoto (Exit.inBlock i Q) .ret a w:=h
theorem z5l{Q:Exit->Act->World->Prop}{K K2:Act->World->Prop}{a:Act}{w:World}{i j:Nat}(h:Q .ret a w):Exit.then K (Exit.inBlock i (Exit.then K2 (Exit.noGoto (Exit.inBlock j Q)))) .ret a w:=h
set_option maxHeartbeats 4000000 in
set_option maxRecDepth 1000000 in
theorem Any.indexRune_high(L:Lays.n152 P ρ)(s:ByteArray)(r:Nat)(w:World)(h0:128<=r)(h1:r≠65533)(hs:s.size<=8)(hascii:∀b∈s.data.toList,b.toNat<128):
 Calls P (ρ.f 152) #[.string s,.int .i32 r] w λe w' =>e=.returned (.int .i64 (-1))/\Below w.heap.size w w':=by
 have HA:Aside (∀b∈s.data.toList,b.toNat<128):=hascii;clear hascii;have hr1:(decide ((r:Int)<128))=false:=decide_eq_false (by omega)
 have hr2:((r:Int)==65533)=false:=beq_eq_false_iff_ne.2 (by omega)
 have mixed:=L.mixed;have t3:=L.t3;have a3:=L.a3;have z3:=L.z3;have v3:=L.v3;have t4:=L.t4;have a4:=L.a4;have z4:=L.z4;have v4:=L.v4;have t5:=L.t5;have a5:=L.a5;have z5:=L.z5;have v5:=L.v5;have t9:=L.t9;have a9:=L.a9;have z9:=L.z9;have v9:=L.v9;have t21:=L.t21;have a21:=L.a21;have z21:=L.z21;have v21:=L.v21;have e137:∀args w,(callFunc (ρ.f 137) args).run P w=.ok (.enter (ρ.f 137) args) w:=enters_of L.f137 (by kernel_rfl) rfl
 have e119:∀args w,(callFunc (ρ.f 119) args).run P w=.ok (.enter (ρ.f 119) args) w:=enters_of L.f119 (by kernel_rfl) rfl
 have hV:=Any.utf8_ValidRune {L with} (r:Int) w
 cases hv:Lib.validRune (r:Int)with
 |false=>
  rw[hv]at hV
  go_enter L.f152,Body.n152_ntmps ρ
  go_wp2_with (go_at_fn (ρ.f 119);refine hV.mono ?_;rintro e w' ⟨rfl,hw⟩;rw[hw])
  go_ret
  exact⟨rfl,Below.refl _ _⟩
 |true=>
  rw[hv]at hV;obtain⟨k1,k2,k3⟩:=encode_facts (r:Int) (by rw[validRune_eq];simpa [Lib.validRune,validRune]using hv) (by omega)
  have gen:∀E:ByteArray,2<=E.size->(∀h:E.size-1<E.size,128<=(E[E.size-1]'h).toNat)-> ∃n,E.size=n+1/\ ∃h:n<E.size,128<=(E[n]'h).toNat:=λE h2 h3=>⟨E.size-1,by omega,by omega,h3 (by omega)⟩
  obtain⟨n,hn,hnlt,hlast⟩:=gen _ k1 k3;clear gen;generalize hE:Utf8.encode (r:Int)=E at *;have hw1:wrap64 ((E.size:Int)-1)=(n:Int):=by rw[hn];unfold wrap64;omega
  have HN:Aside (E.size=n+1):=hn;clear hn k1 k2 k3
  go_enter L.f152,Body.n152_ntmps ρ
  go_wp2_with (go_at_fn (ρ.f 119);refine hV.mono ?_;rintro e w' ⟨rfl,hw⟩;rw[hw])
  go_step3
  go_wp2
  try rw[hw1]
  refine zqe ?_;clear hE hV
  ·skip
   by_cases hlt:n<s.size
   ·obtain⟨x,hx⟩:∃x:UInt8,s[n]'hlt=x:=⟨_,rfl⟩;obtain⟨y,hy⟩:∃y:UInt8,E[n]'hnlt=y:=⟨_,rfl⟩;have hx128:x.toNat<128:=HA.out x (by rw[<-hx];exact Array.getElem_mem_toList (xs:=s.data) hlt)
    have hxy:(((x.toNat:Nat):Int)==((y.toNat:Nat):Int))=false:=beq_eq_false_iff_ne.2 (by rw[hy]at hlast;omega)
    have hxy2:(((x.toNat:Nat):Int)!=((y.toNat:Nat):Int))=true:=by rw[bne,hxy];rfl
    have hsl:∀w,(Instr.slice (ρ.t 9) (.string s) (some (.int .i64 ((n:Int)+1))) none none).run P w=.ok (.string (s.extract (n+1) s.size)) w:=λw=>by
     rw[run_slice_string_from_if w _ s _ _ L.t9,if_pos ⟨by omega,by omega⟩]
     rfl
    have hw2:wrap64 ((n:Int)+1)=(n:Int)+1:=by unfold wrap64;omega
    have hw3:IntKind.i64.wrap ((n:Int)+1)=(n:Int)+1:=wrap_small _ (by omega) (by omega)
    have hp1:(0:Int)<=(n:Int)+1:=by omega
    have hp2:(n:Int)+1<=(s.size:Int):=by omega
    have hp3:((n:Int)+1).toNat=n+1:=by omega
    have hix:∀a e:Nat,Lib.indexByte (List.take a (List.drop e s.data.toList)) y= -1:=λa e=>by
     have h:=firstIdx_ascii s e (e+a) y HA.out (by rw[<-hy];exact hlast)
     rw[Lib.firstIdx_eq,ByteArray.data_extract,Array.toList_extract]at h;simpa using h
    go_wp2
    go_step3
    go_wp2
    go_region_o
    go_wp2
    go_region_with_o (refine(Any.strings_IndexByte {L with} _ _ _).mono ?_;rintro e w' ⟨rfl,hw⟩;rw[hw])
    all_goals (
     go_wp2
     refine zzg ?_;refine z5l ?_
     go_ret
     first
      |exact⟨rfl,(Below.refl _ _).drew⟩
      |exact⟨rfl,(Below.refl _ _).drew.drew⟩
      |trace_state)
   ·go_wp2
    refine zzg ?_
    go_ret
    exact⟨rfl,Below.refl _ _⟩
theorem Any.indexRune_any(L:Lays.n152 P ρ)(s:ByteArray)(r:Nat)(w:World)(hs:s.size<=8)(hascii:∀(j:Nat) b,s.data.toList[j]? =some b->b.toNat<128):
 Calls P (ρ.f 152) #[.string s,.int .i32 r] w λe w' =>e=.returned (.int .i64 (if r<128 then Lib.indexByte s.data.toList r.toUInt8 else-1))/\Below w.heap.size w w':=by
 by_cases h:r<128
 ·refine(Any.strings_IndexRune_ascii L s r w (by omega) (by omega)).mono ?_
  rintro e w' ⟨rfl,rfl⟩;rw[if_pos h,Int.toNat_natCast];exact⟨rfl,Below.refl _ _⟩
 ·rw[if_neg h];by_cases hb:r=65533
  ·subst hb;refine(Any.indexRune_bad L s w hascii).mono ?_;rintro e w' ⟨rfl,pos,rfl⟩;exact⟨rfl,(Below.refl _ _).alloc (Nat.le_refl _) _⟩
  ·exact Any.indexRune_high L s r w (by omega) hb hs (λb hb=>by
    obtain⟨j,hj⟩:=List.getElem?_of_mem hb
    exact hascii j b hj)
theorem zs1(s:ByteArray)(pos:Nat)(h:pos<s.size)(ha:128<=(s[pos]'h).toNat):∀j,j<(Utf8.decode s pos).2->pos+j<s.size/\128<=(s.get! (pos+j)).toNat:=by
 have h0:128<=(s.get! (pos+0)).toNat:=by rw[get_at s pos h];exact ha
 have hone:∀j,j<1->pos+j<s.size/\128<=(s.get! (pos+j)).toNat:=λj hj=>by
  obtain rfl:j=0:=by omega
  exact⟨h,h0⟩
 unfold Utf8.decode;simp only;split
 ·exact hone
 ·split
  ·rename_i h1;simp only[Bool.and_eq_true,decide_eq_true_eq,beq_iff_eq]at h1;split
   ·intro j hj;have:j=0∨j=1:=by omega
    rcases this with rfl|rfl
    ·exact⟨h,h0⟩
    ·exact⟨h1.2.1,by omega⟩
   ·exact hone
  ·split
   ·rename_i h1;simp only[Bool.and_eq_true,decide_eq_true_eq,beq_iff_eq]at h1;split
    ·intro j hj;have:j=0∨j=1∨j=2:=by omega
     rcases this with rfl|rfl|rfl
     ·exact⟨h,h0⟩
     ·exact⟨h1.1.2.1,by omega⟩
     ·exact⟨h1.2.1,by omega⟩
    ·exact hone
   ·split
    ·rename_i h1;simp only[Bool.and_eq_true,decide_eq_true_eq,beq_iff_eq]at h1;split
     ·intro j hj;have:j=0∨j=1∨j=2∨j=3:=by omega
      rcases this with rfl|rfl|rfl|rfl
      ·exact⟨h,h0⟩
      ·exact⟨h1.1.1.2.1,by omega⟩
      ·exact⟨h1.1.2.1,by omega⟩
      ·exact⟨h1.2.1,by omega⟩
     ·exact hone
    ·exact hone
theorem zqf(w:World)(B k:Nat)(s:ByteArray)(pos:Nat)(h:B<=k):Below B w (w.iterAt k s pos):=
 ⟨rfl,rfl,rfl,by simp[World.iterAt],λi hi=>by
  show (w.heap.setIfInBounds k _)[i]? =_
  rw[Array.getElem?_setIfInBounds_ne (by omega)]⟩
set_option maxHeartbeats 8000000 in
set_option maxRecDepth 1000000 in
theorem Any.indexAny_short(L:Lays.n153 P ρ)(s chars:ByteArray)(w:World)(h2:2<=chars.size)(hc8:chars.size<=8)(h8:s.size<=8)(hascii:∀(j:Nat) b,chars.data.toList[j]? =some b->b.toNat<128):
 Calls P (ρ.f 153) #[.string s,.string chars] w λe w' =>e=.returned (.int .i64 (Lib.indexAny s.data.toList chars.data.toList))/\Below w.heap.size w w':=by
 have hR:=λ(r:Nat) (w:World)=>Any.indexRune_any {L with} chars r w hc8 hascii
 have HA:Aside (∀(j:Nat) b,chars.data.toList[j]? =some b->b.toNat<128):=hascii;clear hascii
 have hemp:chars.toList.isEmpty=false:=by
  rw[Lib.toList_data]
  cases h:chars.data.toList with
  |nil=>have:=Lib.size_eq chars;rw[h,List.length_nil]at this;omega
  |cons _ _=>rfl
 have hn1:((chars.size:Int)==1)=false:=beq_eq_false_iff_ne.2 (by omega)
 have h8z:decide ((8:Int)<(s.size:Int))=false:=decide_eq_false (by omega)
 have t3:=L.t3;have a3:=L.a3;have z3:=L.z3;have v3:=L.v3;have t4:=L.t4;have a4:=L.a4;have z4:=L.z4;have v4:=L.v4;have t5:=L.t5;have a5:=L.a5;have z5:=L.z5;have v5:=L.v5;have t9:=L.t9;have a9:=L.a9;have z9:=L.z9;have v9:=L.v9;have t21:=L.t21;have a21:=L.a21;have z21:=L.z21;have v21:=L.v21;have e152:∀args w,(callFunc (ρ.f 152) args).run P w=.ok (.enter (ρ.f 152) args) w:=enters_of L.f152 (by kernel_rfl) rfl
 have e226:∀args w,(callFunc (ρ.f 226) args).run P w=.ok (.enter (ρ.f 226) args) w:=enters_of L.f226 (by kernel_rfl) rfl
 go_enter L.f153,Body.n153_ntmps ρ
 go_wp2_with (go_at_fn (ρ.f 226);refine(Any.strings_shouldUseASCIISet {L with} _ _).mono ?_;rintro e w' ⟨rfl,hw⟩;rw[hw,h8z])
 go_loopg [9,10] s.size (λg _ _ wx=> ∃i:Nat,i+g=s.size/\wx.heap[w.heap.size]? =some (.stringIter s i)/\Below w.heap.size w wx/\Lib.NoAny s.data.toList chars.data.toList i)
 case atStart=>exact⟨0,by omega,World.iter_heap w s 0,(Below.refl _ _).alloc (Nat.le_refl _) _,Lib.NoAny.zero _ _⟩
 case round=>
  obtain⟨i,hig,hcell,hbel,hno⟩:=hrel;have HN:Aside (Lib.NoAny s.data.toList chars.data.toList i):=hno;have HB:Aside (Below w.heap.size w wr):=hbel;have HC:Aside (wr.heap[w.heap.size]? =some (.stringIter s i)):=hcell;clear hno hbel hcell
  cases gk with
  |zero=>
   obtain rfl:i=s.size:=by omega
   have hnx:=λty=>run_next_end_at (P:=P) wr w.heap.size s s.size ty HC.out (by omega)
   go_wp2
   go_ret
   exact⟨by rw[Lib.indexAny_none (by rw[<-Lib.size_eq];exact HN.out)];rfl,HB.out⟩
  |succ g=>
   have hi:i<s.size:=by omega
   obtain⟨x,hx⟩:∃x:UInt8,s[i]'hi=x:=⟨_,rfl⟩;have hxl:s.data.toList[i]? =some x:=by rw[<-hx];exact Lib.data_getElem? s i hi
   have Hx:Aside (s.data.toList[i]? =some x):=hxl;have hnx:=λty=>run_next_any_at (P:=P) wr w.heap.size s i ty HC.out hi
   obtain⟨r,k,hr,hk,hgood⟩:∃r k,(Utf8.decode s i).1=r/\(Utf8.decode s i).2=k/\1<=k/\i+k<=s.size/\((r=x.toNat/\k=1/\r<128)∨(128<=r/\ ∀j b,i<=j->j<i+k->s.data.toList[j]? =some b->128<=b.toNat)):=by
    refine⟨_,_,rfl,rfl,?_⟩;by_cases hx128:x.toNat<128
    ·rw[decode_ascii s i hi (by rw[hx];exact hx128),hx]
     exact⟨Nat.le_refl _,hi,.inl ⟨rfl,rfl,hx128⟩⟩
    ·have hd:=decode_high s i hi (by rw[hx];omega)
     have hsk:=zs1 s i hi (by rw[hx];omega)
     refine⟨hd.2,?_,.inr ⟨hd.1,λj b h1 h2 hb=>?_⟩⟩
     ·have:=(hsk ((Utf8.decode s i).2-1) (by omega)).1
      omega
     ·have h3:=(hsk (j-i) (by omega)).2
      rw[show i+(j-i)=j by omega]at h3
      have hj:=(List.getElem?_eq_some_iff.1 hb).1;rw[<-Lib.size_eq]at hj;have h4:=get_at s j hj;rw[Nat.add_zero]at h4;rw[h4]at h3;have h5:=Lib.data_getElem? s j hj;rw[hb]at h5;cases h5;exact h3
   rw[hr,hk]at hnx;clear hr hk hx hxl;have HG:Aside (1<=k/\i+k<=s.size/\((r=x.toNat/\k=1/\r<128)∨(128<=r/\ ∀j b,i<=j->j<i+k->s.data.toList[j]? =some b->128<=b.toNat))):=hgood;clear hgood;obtain⟨w1,hw1⟩:∃w1,wr.iterAt w.heap.size s (i+k)=w1:=⟨_,rfl⟩;rw[hw1]at hnx;have HW:Aside (wr.iterAt w.heap.size s (i+k)=w1):=hw1;clear hw1;obtain⟨v,hv⟩:∃v,(if r<128 then Lib.indexByte chars.data.toList r.toUInt8 else-1)=v:=⟨_,rfl⟩
   have hR1:=hR r w1;rw[hv]at hR1;have HV:Aside ((if r<128 then Lib.indexByte chars.data.toList r.toUInt8 else-1)=v):=hv
   clear hv
   have hfin:∀w',Below w1.heap.size w1 w' ->Below w.heap.size w w' /\w'.heap[w.heap.size]? =some (.stringIter s (i+k)):=by
    intro w' hw
    have hlt:w.heap.size<w1.heap.size:=by
     rw[<-HW.out];have:=(Array.getElem?_eq_some_iff.1 HC.out).1;simpa [World.iterAt]using this
    have hb1:Below w.heap.size w w1:=HB.out.trans (by rw[<-HW.out];exact zqf _ _ _ _ _ (Nat.le_refl _))
    refine⟨hb1.trans ⟨hw.os,hw.tape,hw.output,hw.size,λj hj=>hw.block j (by omega)⟩,?_⟩
    rw[hw.block _ hlt,<-HW.out];exact iterAt_heap _ _ _ _ _ HC.out
   have hcon:=Lib.contains_iff_indexByte chars.data.toList x;have hback:x.toNat.toUInt8=x:=by simp
   have HX:Aside ((0<=v->chars.data.toList.contains x=true)/\(¬0<=v->Lib.NoAny s.data.toList chars.data.toList (i+k))):=by
    have h1:=HV.out;obtain⟨g1,g2,g3⟩:=HG.out;rcases g3 with⟨rfl,rfl,g5⟩|⟨g4,g5⟩
    ·rw[if_pos g5,hback]at h1;rw[h1]at hcon;refine⟨λhp=>by rw[hcon];exact decide_eq_true hp,λhp=>HN.out.succ Hx.out (by rw[hcon];exact decide_eq_false hp)⟩
    ·rw[if_neg (by omega)]at h1
     refine⟨λhp=>by omega,λ_ j b hj hb=>?_⟩
     by_cases hji:j<i
     ·exact HN.out j b (by assumption) hb
     ·have h128:=g5 j b (by omega) hj hb
      cases hq:chars.data.toList.contains b with
      |false=>rfl
      |true=>
       rw[List.contains_iff_mem]at hq;obtain⟨q,hq⟩:=List.getElem?_of_mem hq;have:=HA.out q b hq;omega
   clear hcon hback;by_cases hge:(0:Int)<=v
   ·go_wp2_with (go_at_fn (ρ.f 152);refine hR1.mono ?_;rintro e w' ⟨rfl,hw⟩)
    go_ret
    exact⟨by rw[Lib.indexAny_hit HN.out Hx.out (HX.out.1 hge)];rfl,(hfin _ hw).1⟩
   ·go_wp2_with (go_at_fn (ρ.f 152);refine hR1.mono ?_;rintro e w' ⟨rfl,hw⟩)
    go_roundg (s.size-(i+k))
    case measure=>have:=HG.out.1;omega
    case rel=>exact⟨i+k,by have:=HG.out.2.1;omega,(hfin _ hw).2,(hfin _ hw).1,HX.out.2 hge⟩
theorem Any.indexAny_all(L:Lays.n153 P ρ)(h116:(P.info? (ρ.t 116)).map (λi=>(i.zero,i.size))=some (some (.agg (Array.replicate 256 (.bool false))),256))(s chars:ByteArray)(w:World)(hs:s.size<4294967281)(h2:2<=chars.size)(hc8:chars.size<=8)
 (hac:∀(j:Nat) b,chars.data.toList[j]? =some b->b.toNat<128):
 Calls P (ρ.f 153) #[.string s,.string chars] w λe w' =>e=.returned (.int .i64 (Lib.indexAny s.data.toList chars.data.toList))/\Below w.heap.size w w':=by
 by_cases h8:s.size<=8
 ·exact Any.indexAny_short L s chars w h2 hc8 h8 hac
 ·refine(Any.strings_IndexAny_long L (zero_of_info h116).1 (zero_of_info h116).2 s chars w h2 (by omega) hs (by omega) hac).mono λe w' ⟨h1,h2⟩=>⟨h1,?_⟩
  rw[h2];exact((Below.refl _ _).alloc (Nat.le_refl _) _).alloc (by simp) _
end Go.Proofs
