import Derived.Test.YtcadiohekccmiaaGreatDoorQu0
import Derived.Lib.Join
import Derived.Lib.IndexAny
namespace Go.Qz
open Go.RowKit (Below)
variable{P:Program}
def zxe:List D->Option (List ByteArray)
 | []=>some []
 | .str s::r=>match zxe r with
   |some ss=>some (s::ss)
   |none=>none
 |_::_=>none
theorem zt7:∀{xs:List D} {ss:List ByteArray},zxe xs=some ss->xs=ss.map .str
 | [],ss,h=>by cases h;rfl
 |d::r,ss,h=>by
  cases d with
  |str s=>
   simp only[zxe]at h;split at h
   ·rename_i q hq;cases h;rw[zt7 hq];rfl
   ·cases h
  |_=>simp[zxe]at h
theorem zp9:∀ss:List ByteArray,(ss.map D.str).flatMap D.cells=ss.map D.str
 | []=>rfl
 |s::r=>by rw[List.map_cons,List.flatMap_cons,zp9 r];rfl
def z1b(fi:FuncId):zal:=λf us bx=>if f=fi then(match us,bx with
    | [.ro (.sl z xs),.ro (.str sep)],[]=>(match zxe xs with
      |some ss=>if decide (z=1)&& !ss.isEmpty&&decide (ss.length<=1000000)&&decide ((Lib.join (ss.map (·.data.toList)) sep.data.toList).length<=140737488355328)then
       some (.one (.ro (.str ⟨(Lib.join (ss.map (·.data.toList)) sep.data.toList).toArray⟩)),[])else none
      |none=>none)
    |_,_=>none)else none
theorem zxf[Base]{fi:FuncId}(hb:zc4 P fi)
 (hc:∀(bk o c:Nat) (xs:List ByteArray) (sep:ByteArray) (w:World),(∀(j:Nat) x,xs[j]? =some x->w.cell? ⟨bk,o+j,none⟩=some (.string x))->bk<w.heap.size->xs.length<=140737488355328->xs.length<=c->
  (Lib.join (xs.map (·.data.toList)) sep.data.toList).length<=140737488355328->
  Calls P fi #[.slice (some ⟨bk,o,none⟩) xs.length c,.string sep] w λe w' =>e=.returned (.string ⟨(Lib.join (xs.map (·.data.toList)) sep.data.toList).toArray⟩)/\Below w.heap.size w w'):zao P (z1b fi):=by
 intro f us bx r bx' h;unfold z1b at h;split at h
 ·rename_i hf;subst hf;split at h
  ·rename_i z xs sep;split at h
   ·rename_i ss hss;split at h
    ·rename_i hq;simp only[Bool.and_eq_true,decide_eq_true_eq,Bool.not_eq_true',List.isEmpty_eq_false_iff]at hq;obtain⟨⟨⟨rfl,hne⟩,hn⟩,hl⟩:=hq;simp only[Option.some.injEq,Prod.mk.injEq]at h;obtain⟨rfl,rfl⟩:=h;obtain rfl:=zt7 hss;refine⟨hb,λg w vs hsz hs=>?_⟩
     have e0:RO g.c (.sl 1 (ss.map .str)) (vs.getD 0 undef):=zgg hs (k:=0) (a:=.ro (.sl 1 (ss.map .str))) rfl;have e1:RO g.c (.str sep) (vs.getD 1 undef):=zgg hs (k:=1) (a:=.ro (.str sep)) rfl;obtain⟨a,cap,hu,hcap,hx⟩:=RO.sl_inv e0;obtain⟨b,off,u,rfl,_,h2,h3⟩:=hx (by intro e;exact hne (by simpa using e))
     have hv1:=RO.str_inv e1;rw[List.length_map]at hu hcap h2
     have e:vs= #[.slice (some ⟨b,off,none⟩) ss.length cap,.string sep]:=by
      simp only[List.length_cons,List.length_nil]at hsz;refine Array.ext (by simpa using hsz) (λk hk hk' =>?_)
      match k,hk' with
      |0,_=>simpa [Array.getD_eq_getD_getElem?,hk]using hu
      |1,_=>simpa [Array.getD_eq_getD_getElem?,hk]using hv1
     have hcell:∀(j:Nat) x,ss[j]? =some x->w.cell? ⟨b,off+j,none⟩=some (.string x):=by
      intro j x hj;have hjl:=(List.getElem?_eq_some_iff.1 hj).1;have q1:=(h2 j (by omega)).1
      have q2:=h3 j (.str x) (by rw[zp9,List.getElem?_map,hj];rfl)
      rw[RO.str_inv q2]at q1;exact hs.cmem _ _ _ q1
     have hblk:b<w.heap.size:=by
      cases ss with
      |nil=>exact absurd rfl hne
      |cons s r=>exact World.block_lt_of_cell? w _ (hcell 0 s rfl)
     subst e;refine(hc b off cap ss sep w hcell hblk (by omega) hcap hl).mono ?_
     rintro en w' ⟨rfl,hbw⟩;exact⟨_,rfl,g,_,zfe hs hbw (RO.str _)⟩
    ·cases h
   ·cases h
  ·cases h
 ·cases h
def xAny(fi:FuncId):zal:=λf us bx=>if f=fi then(match us,bx with
    | [.ro (.str s),.ro (.str t)],[]=>if decide (s.size<4294967281)&&decide (2<=t.size)&&decide (t.size<=8)&&t.data.toList.all (λb=>decide (b.toNat<128))then some (.one (.ro (.int .i64 (Lib.indexAny s.data.toList t.data.toList))),[])else none
    |_,_=>none)else none
theorem z1c[Base]{fi:FuncId}(hb:zc4 P fi)
 (hc:∀(s t:ByteArray) (w:World),s.size<4294967281->2<=t.size->t.size<=8->(∀(j:Nat) b,t.data.toList[j]? =some b->b.toNat<128)->Calls P fi #[.string s,.string t] w λe w' =>e=.returned (.int .i64 (Lib.indexAny s.data.toList t.data.toList))/\Below w.heap.size w w'):zao P (xAny fi):=by
 intro f us bx r bx' h;unfold xAny at h;split at h
 ·rename_i hf;subst hf;split at h
  ·rename_i s t;split at h
   ·rename_i hq;simp only[Bool.and_eq_true,decide_eq_true_eq,List.all_eq_true]at hq;obtain⟨⟨⟨h1,h2⟩,h3⟩,h4⟩:=hq;simp only[Option.some.injEq,Prod.mk.injEq]at h;obtain⟨rfl,rfl⟩:=h;refine⟨hb,λg w vs hsz hs=>?_⟩
    have e:=zey (ds:=[.str s,.str t]) hs hsz rfl;subst e;refine(hc s t w h1 h2 h3 (λj b hj=>h4 b (List.mem_of_getElem? hj))).mono ?_
    rintro en w' ⟨rfl,hbw⟩;exact⟨_,rfl,g,_,zfe hs hbw (RO.int _ _)⟩
   ·cases h
  ·cases h
 ·cases h
end Go.Qz
