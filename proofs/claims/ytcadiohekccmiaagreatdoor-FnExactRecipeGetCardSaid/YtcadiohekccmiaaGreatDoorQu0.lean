import Derived.Test.YtcadiohekccmiaaGreatDoorQq0
import Derived.Test.YtcadiohekccmiaaGreatDoorQl0
import Derived.Lib.IndexMore
import Derived.Lib.ItoaNum
import Derived.Lib.Split
import Derived.Lib.LastIndexByte
import Derived.Lib.LaidTab
import Derived.Sort.Grow
namespace Go.Qz
open Go.RowKit (Below)
variable{P:Program}
def orX(a b:zal):zal:=λf us bx=>match a f us bx with
 |some r=>some r
 |none=>b f us bx
theorem zcp[Base]{a b:zal}(ha:zao P a)(hb:zao P b):zao P (orX a b):=λf us bx r bx' h=>by
 unfold orX at h;split at h
 ·rename_i x hx;obtain rfl:=Option.some.inj h;exact ha f us bx r bx' hx
 ·exact hb f us bx r bx' h
def noX:zal:=λ_ _ _=>none
theorem zt5[Base]:zao P noX:=λ_ _ _ _ _ h=>by cases h
theorem zw8[Base]{g:G}{e:Env}{tm:Array Value}{w:World}(hs:Sim g e tm w){x:Nat}{v:Value}(h:Base.W0.cell? ⟨x,0,none⟩=some v):w.cell? ⟨x,0,none⟩=some v:=by
 have hf:=hs.fix x v h;unfold World.cell? at h ⊢;rw[hf];exact h
theorem zw9{w:World}(n:Nat):Below w.heap.size w (w.drewN n):=⟨rfl,rfl,rfl,Nat.le_refl _,λ_ _=>rfl⟩
def zff(fi:FuncId):zal:=λf us bx=>if f=fi then(match us,bx with
    | [.ro (.str s),.ro (.str t)],[]=>if s.size<4294967281 then some (.one (.ro (.int .i64 (Lib.index s.data.toList t.data.toList))),[])else none
    |_,_=>none)else none
theorem zt6[Base]{fi:FuncId}{k:Nat}(hb:zc4 P fi)(hT:∃m:Int,Base.W0.cell? ⟨k,0,none⟩=some (.int .i64 m))
 (hc:∀(s t:ByteArray) (m:Int) (w:World),s.size<4294967281->w.cell? ⟨k,0,none⟩=some (.int .i64 m)->Calls P fi #[.string s,.string t] w λe w' =>e=.returned (.int .i64 (Lib.index s.data.toList t.data.toList))/\w' =w):zao P (zff fi):=by
 intro f us bx r bx' h;unfold zff at h;split at h
 ·rename_i hf;subst hf;split at h
  ·rename_i s t;split at h
   ·rename_i hlt;simp only[Option.some.injEq,Prod.mk.injEq]at h;obtain⟨rfl,rfl⟩:=h;refine⟨hb,λg w vs hsz hs=>?_⟩
    have e:=zey (ds:=[.str s,.str t]) hs hsz rfl;obtain⟨m,hm⟩:=hT;have hm':w.cell? ⟨k,0,none⟩=some (.int .i64 m):=zw8 hs hm;subst e;refine(hc s t m w hlt hm').mono ?_;rintro en w' ⟨rfl,rfl⟩;exact⟨_,rfl,g,_,zfe hs (Below.refl _ _) (RO.int _ _)⟩
   ·cases h
  ·cases h
 ·cases h
def xCut(fi:FuncId):zal:=λf us bx=>if f=fi then(match us,bx with
    | [.ro (.str s),.ro (.str t)],[]=>if s.size<4294967281 then some (.tup [.ro (.str ⟨(Lib.cut s.data.toList t.data.toList).1.toArray⟩),.ro (.str ⟨(Lib.cut s.data.toList t.data.toList).2.1.toArray⟩),.ro (.bool (Lib.cut s.data.toList t.data.toList).2.2)],[])else none
    |_,_=>none)else none
theorem z09[Base]{fi:FuncId}{k:Nat}(hb:zc4 P fi)(hT:∃m:Int,Base.W0.cell? ⟨k,0,none⟩=some (.int .i64 m))
 (hc:∀(s t:ByteArray) (m:Int) (w:World),s.size<4294967281->w.cell? ⟨k,0,none⟩=some (.int .i64 m)->Calls P fi #[.string s,.string t] w λe w' =>e=.returned (.tuple #[.string ⟨(Lib.cut s.data.toList t.data.toList).1.toArray⟩,.string ⟨(Lib.cut s.data.toList t.data.toList).2.1.toArray⟩,.bool (Lib.cut s.data.toList t.data.toList).2.2])/\ ∃k,w' =w.drewN k):zao P (xCut fi):=by
 intro f us bx r bx' h;unfold xCut at h;split at h
 ·rename_i hf;subst hf;split at h
  ·rename_i s t;split at h
   ·rename_i hlt;simp only[Option.some.injEq,Prod.mk.injEq]at h;obtain⟨rfl,rfl⟩:=h;refine⟨hb,λg w vs hsz hs=>?_⟩
    have e:=zey (ds:=[.str s,.str t]) hs hsz rfl;obtain⟨m,hm⟩:=hT;have hm':w.cell? ⟨k,0,none⟩=some (.int .i64 m):=zw8 hs hm;subst e;refine(hc s t m w hlt hm').mono ?_;rintro en w' ⟨rfl,j,rfl⟩;exact⟨_,rfl,g,_,zfe hs (zw9 j) (z8i (ds:=[.str _,.str _,.bool _]) rfl g _)⟩
   ·cases h
  ·cases h
 ·cases h
def xSeq(fi fs:FuncId):zal:=λf us bx=>if f=fi then(match us,bx with
    | [.ro (.str s),.ro (.str p)],[]=>some (.one (.own (.seq fs s p)),[])
    |_,_=>none)else none
theorem z1a[Base]{fi fs:FuncId}{ts tn:TypeId}(hb:zc4 P fi)
 (hc:∀(s p:ByteArray) (w:World),Calls P fi #[.string s,.string p] w λe w' =>e=.returned (seqV fs (w.heap.size+1) w.heap.size (w.heap.size+2))/\w' =((w.alloc (.cells #[.string s] ts)).alloc (.cells #[.string p] ts)).alloc (.cells #[.int .i64 0] tn)):zao P (xSeq fi fs):=by
 intro f us bx r bx' h;unfold xSeq at h;split at h
 ·rename_i hf;subst hf;split at h
  ·rename_i s p;simp only[Option.some.injEq,Prod.mk.injEq]at h;obtain⟨rfl,rfl⟩:=h;refine⟨hb,λg w vs hsz hs=>?_⟩
   have e:=zey (ds:=[.str s,.str p]) hs hsz rfl;subst e;refine(hc s p w).mono ?_;rintro en w' ⟨rfl,rfl⟩;refine⟨_,rfl,g,λj x=>j=0/\w.heap.size<=x/\x<w.heap.size+3,zyw hs ((((Below.refl _ w).alloc (Nat.le_refl _) _).alloc (by simp) _).alloc (by simp;omega) _) ?_ (λj x hx=>?_) (λj j' x hx hx' =>by rw[hx.1,hx'.1])⟩
   ·show OwnC _ (.seq fs s p) _ _;refine .seq ⟨⟨ts,?_⟩,⟨ts,?_⟩,⟨tn,?_⟩,by omega,by omega⟩ ⟨⟨rfl,by omega,by omega⟩,⟨rfl,by omega,by omega⟩,⟨rfl,by omega,by omega⟩⟩
    ·show (((w.heap.push _).push _).push _)[w.heap.size+1]? =_;rw[Array.getElem?_push,if_neg (by simp),Array.getElem?_push,if_pos (by simp)]
    ·show (((w.heap.push _).push _).push _)[w.heap.size]? =_;rw[Array.getElem?_push,if_neg (by simp;omega),Array.getElem?_push,if_neg (by simp),Array.getElem?_push,if_pos rfl]
    ·show (((w.heap.push _).push _).push _)[w.heap.size+2]? =_;rw[Array.getElem?_push,if_pos (by simp)]
   ·obtain⟨rfl,h1,h2⟩:=hx;refine⟨h1,?_⟩;show x<(((w.heap.push _).push _).push _).size;simp;omega
  ·cases h
 ·cases h
def zkr(fi:FuncId):zal:=λf us bx=>if f=fi then(match us,bx with
    | [.ro (.str s),.ro (.int .u8 c)],[]=>some (.one (.ro (.int .i64 (Lib.indexByte s.data.toList c.toNat.toUInt8))),[])
    |_,_=>none)else none
theorem zxa[Base]{fi:FuncId}(hb:zc4 P fi)
 (hc:∀(s:ByteArray) (c:Int) (w:World),Calls P fi #[.string s,.int .u8 c] w λe w' =>e=.returned (.int .i64 (Lib.indexByte s.data.toList c.toNat.toUInt8))/\w' =w):zao P (zkr fi):=by
 intro f us bx r bx' h;unfold zkr at h;split at h
 ·rename_i hf;subst hf;split at h
  ·rename_i s c;simp only[Option.some.injEq,Prod.mk.injEq]at h;obtain⟨rfl,rfl⟩:=h;refine⟨hb,λg w vs hsz hs=>?_⟩
   have e:=zey (ds:=[.str s,.int .u8 c]) hs hsz rfl;subst e;refine(hc s c w).mono ?_;rintro en w' ⟨rfl,rfl⟩;exact⟨_,rfl,g,_,zfe hs (Below.refl _ _) (RO.int _ _)⟩
  ·cases h
 ·cases h
def zrf(fi:FuncId)(T:TypeId):zal:=λf us bx=>if f=fi then(match us,bx with
    | [.ptr n 0],[(m,[a0,a1])]=>if n=m&&decide (n<zaf)then(match a0 with
      | .bnil t=>if t=T then some (.tup [],[(n,[.selfp,a1])])else none
      | .selfp=>some (.tup [],[(n,[.selfp,a1])])
      |_=>none)else none
    |_,_=>none)else none
theorem zxb[Base]{fi:FuncId}{T:TypeId}(hb:zc4 P fi)
 (h1:∀(b:Nat) (w:World),w.cell? ⟨b,0,none⟩=some (.pointer none)->w.shape? b=some (T,2)->w.frozen? ⟨b,0,none⟩=false->Calls P fi #[.pointer (some ⟨b,0,none⟩)] w λe w' =>e=.returned (.tuple #[])/\w' =w.setCell ⟨b,0,none⟩ (.pointer (some ⟨b,0,none⟩)))
 (h2:∀(b:Nat) (w:World),w.cell? ⟨b,0,none⟩=some (.pointer (some ⟨b,0,none⟩))->Calls P fi #[.pointer (some ⟨b,0,none⟩)] w λe w' =>e=.returned (.tuple #[])/\w' =w):zao P (zrf fi T):=by
 intro f us bx r bx' h;unfold zrf at h;split at h
 ·rename_i hf;subst hf;split at h
  ·rename_i n m a0 a1;split at h
   ·rename_i hc;simp only[Bool.and_eq_true,decide_eq_true_eq]at hc;obtain⟨rfl,hn⟩:=hc;split at h
    ·rename_i t;split at h
     ·rename_i ht;subst ht;simp only[Option.some.injEq,Prod.mk.injEq]at h;obtain⟨rfl,rfl⟩:=h;exact z0z hb hn h1
     ·cases h
    ·simp only[Option.some.injEq,Prod.mk.injEq]at h;obtain⟨rfl,rfl⟩:=h;exact z4j hb hn h2
    ·cases h
   ·cases h
  ·cases h
 ·cases h
def zxc(fi:FuncId)(el:TypeId):zal:=λf us bx=>if f=fi then(match us,bx with
    | [.ptr n 0],[(m,[a0,.own (.bs u s)])]=>if n=m&&u=el&&decide (n<zaf)then some (.one (.ro (.str s)),[(n,[a0,.dead])])else none
    |_,_=>none)else none
theorem zxd[Base]{fi:FuncId}{el:TypeId}(hb:zc4 P fi)
 (hc:∀(s:ByteArray) (b:Nat) (p v:Value) (tag:TypeId) (w:World),w.heap[b]? =some (.cells #[p,v] tag (0,0))->w.ownsRow 0 el 1 v s.size (s.data.toList.map λb=>.int .u8 b.toNat)->Calls P fi #[.pointer (some ⟨b,0,none⟩)] w λe w' =>e=.returned (.string s)/\Go.Proofs.ButOne v.ownBlock w w'):zao P (zxc fi el):=by
 intro f us bx r bx' h;unfold zxc at h;split at h
 ·rename_i hf;subst hf;split at h
  ·rename_i n m a0 u s;split at h
   ·rename_i hq;simp only[Bool.and_eq_true,decide_eq_true_eq]at hq;obtain⟨⟨rfl,rfl⟩,hn⟩:=hq;simp only[Option.some.injEq,Prod.mk.injEq]at h;obtain⟨rfl,rfl⟩:=h;exact zo1 hb hn (hc s)
   ·cases h
  ·cases h
 ·cases h
end Go.Qz
