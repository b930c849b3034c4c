import Derived.Test.YtddfkpkieamlpaaGreatDoorQr0
import Derived.Test.YtddfkpkieamlpaaGreatDoorQm0
import Derived.Lib.IndexMore
import Derived.Lib.ItoaNum
import Derived.Lib.Split
import Derived.Lib.LastIndexByte
import Derived.Lib.LaidTab
import Derived.Sort.Grow
namespace Go.Qz
open Go.RowKit (Below)
variable{P:Program}
def orX(a b:zai):zai:=λf us bx=>match a f us bx with
 |some r=>some r
 |none=>b f us bx
theorem zbw[Base]{a b:zai}(ha:zav P a)(hb:zav P b):zav P (orX a b):=λf us bx r bx' h=>by
 unfold orX at h;split at h
 ·rename_i x hx;obtain rfl:=Option.some.inj h;exact ha f us bx r bx' hx
 ·exact hb f us bx r bx' h
def noX:zai:=λ_ _ _=>none
theorem z1j[Base]:zav P noX:=λ_ _ _ _ _ h=>by cases h
theorem zpi[Base]{g:G}{e:Env}{tm:Array Value}{w:World}(hs:Sim g e tm w){x:Nat}{v:Value}(h:Base.W0.cell? ⟨x,0,none⟩=some v):w.cell? ⟨x,0,none⟩=some v:=by
 have hf:=hs.fix x v h;unfold World.cell? at h ⊢;rw[hf];exact h
theorem ztx{w:World}(n:Nat):Below w.heap.size w (w.drewN n):=⟨rfl,rfl,rfl,Nat.le_refl _,λ_ _=>rfl⟩
theorem zxe{w:World}(k:Nat)(os:Array Obj):Below w.heap.size w (Go.Sort.grow (w.drewN k) os) where
 os:=rfl
 tape:=rfl
 output:=rfl
 size:=by show w.heap.size<=(w.heap++os).size;rw[Array.size_append];omega
 block:=λx hx=>by
  show (w.heap++os)[x]? =w.heap[x]?;rw[Array.getElem?_append_left hx]
def zi9(fi:FuncId):zai:=λf us bx=>if f=fi then(match us,bx with
    | [.ro (.str s),.ro (.str t)],[]=>if s.size<4294967281 then some (.one (.ro (.int .i64 (Lib.index s.data.toList t.data.toList))),[])else none
    |_,_=>none)else none
theorem zro[Base]{fi:FuncId}{k:Nat}(hb:zb0 P fi)(hT:∃m:Int,Base.W0.cell? ⟨k,0,none⟩=some (.int .i64 m))
 (hc:∀(s t:ByteArray) (m:Int) (w:World),s.size<4294967281->w.cell? ⟨k,0,none⟩=some (.int .i64 m)->Calls P fi #[.string s,.string t] w λe w' =>e=.returned (.int .i64 (Lib.index s.data.toList t.data.toList))/\w' =w):zav P (zi9 fi):=by
 intro f us bx r bx' h;unfold zi9 at h;split at h
 ·rename_i hf;subst hf;split at h
  ·rename_i s t;split at h
   ·rename_i hlt;simp only[Option.some.injEq,Prod.mk.injEq]at h;obtain⟨rfl,rfl⟩:=h;refine⟨hb,λg w vs hsz hs=>?_⟩
    have e:=zck (ds:=[.str s,.str t]) hs hsz rfl;obtain⟨m,hm⟩:=hT;have hm':w.cell? ⟨k,0,none⟩=some (.int .i64 m):=zpi hs hm;subst e;refine(hc s t m w hlt hm').mono ?_;rintro en w' ⟨rfl,rfl⟩;exact⟨_,rfl,g,_,zfk hs (Below.refl _ _) (RO.int _ _)⟩
   ·cases h
  ·cases h
 ·cases h
def xCut(fi:FuncId):zai:=λf us bx=>if f=fi then(match us,bx with
    | [.ro (.str s),.ro (.str t)],[]=>if s.size<4294967281 then some (.tup [.ro (.str ⟨(Lib.cut s.data.toList t.data.toList).1.toArray⟩),.ro (.str ⟨(Lib.cut s.data.toList t.data.toList).2.1.toArray⟩),.ro (.bool (Lib.cut s.data.toList t.data.toList).2.2)],[])else none
    |_,_=>none)else none
theorem zxf[Base]{fi:FuncId}{k:Nat}(hb:zb0 P fi)(hT:∃m:Int,Base.W0.cell? ⟨k,0,none⟩=some (.int .i64 m))
 (hc:∀(s t:ByteArray) (m:Int) (w:World),s.size<4294967281->w.cell? ⟨k,0,none⟩=some (.int .i64 m)->Calls P fi #[.string s,.string t] w λe w' =>e=.returned (.tuple #[.string ⟨(Lib.cut s.data.toList t.data.toList).1.toArray⟩,.string ⟨(Lib.cut s.data.toList t.data.toList).2.1.toArray⟩,.bool (Lib.cut s.data.toList t.data.toList).2.2])/\ ∃k,w' =w.drewN k):zav P (xCut fi):=by
 intro f us bx r bx' h;unfold xCut at h;split at h
 ·rename_i hf;subst hf;split at h
  ·rename_i s t;split at h
   ·rename_i hlt;simp only[Option.some.injEq,Prod.mk.injEq]at h;obtain⟨rfl,rfl⟩:=h;refine⟨hb,λg w vs hsz hs=>?_⟩
    have e:=zck (ds:=[.str s,.str t]) hs hsz rfl;obtain⟨m,hm⟩:=hT;have hm':w.cell? ⟨k,0,none⟩=some (.int .i64 m):=zpi hs hm;subst e;refine(hc s t m w hlt hm').mono ?_;rintro en w' ⟨rfl,j,rfl⟩;exact⟨_,rfl,g,_,zfk hs (ztx j) (z3m (ds:=[.str _,.str _,.bool _]) rfl g _)⟩
   ·cases h
  ·cases h
 ·cases h
theorem zvk(w:World)(el:TypeId)(l:List ByteArray)(N:Nat)(hl:l.length<=N)(hN:N<=maxLen):
 OwnC (w.alloc (.cells (Lib.cellsOf l N) el)) (.sl 1 (l.map .str)) (.slice (some ⟨w.heap.size,0,none⟩) l.length N) (λx=>x=w.heap.size):=by
 have hsz:=Lib.cellsOf_size hl
 have hget:∀m (hm:m<l.length),(Lib.cellsOf l N).getD m undef=.string l[m]:=by
  intro m hm
  have:(Lib.cellsOf l N)[m]? =some (.string l[m]):=by
   unfold Lib.cellsOf;rw[List.getElem?_toArray,List.getElem?_append_left (by simpa using hm)]
   simp[hm]
  simp[Array.getD_eq_getD_getElem?,this]
 have hfm:(l.map D.str).flatMap D.cells=l.map D.str:=by
  clear hget hsz hl
  induction l with
  |nil=>rfl
  |cons x l ih=>rw[List.map_cons,List.flatMap_cons,ih];rfl
 have:=@OwnC.row (w.alloc (.cells (Lib.cellsOf l N) el)) 1 (l.map .str) w.heap.size N el (Lib.cellsOf l N) (λx=>x=w.heap.size) (λ_ _=>False)
  (.of (by show (w.heap.push _)[w.heap.size]? =_;simp)) (by rw[hsz];omega) (by simpa using hl) hN (by omega) rfl (λ_ _ h=>h.elim) (λ_ _ _ h=>h.elim)
  (λx hx=>by
   obtain⟨y,_,rfl⟩:=List.mem_map.1 hx
   rfl)
  (λm hm=>by
   rw[hget m (by simpa using hm)];rfl)
  (λm d hd=>by
   rw[hfm,List.getElem?_map]at hd
   cases hlm:l[m]? with
   |none=>rw[hlm]at hd;cases hd
   |some y=>
    rw[hlm]at hd;obtain rfl:=Option.some.inj hd;obtain⟨hm,rfl⟩:=List.getElem?_eq_some_iff.1 hlm;rw[hget m hm]
    exact .flat rfl (.str _))
 simpa using this
theorem zn8[Base]{g:G}{w:World}{us:List A}{vs:Array Value}{d:D}{v:Value}{o:Obj}(hs:Sim g (zak us.length us []) vs w)(ho:OwnC (w.alloc o) d v (λx=>x=w.heap.size)):zdt g (zak us.length us []) w (.one (.own d)) [] v (w.alloc o) g (λj x=>j=0/\x=w.heap.size):=by
 refine zpe hs ((Below.refl _ _).alloc (Nat.le_refl _) _) ?_ (λj x hx=>?_) (λj j' x hx hx' =>by rw[hx.1,hx'.1])
 ·show OwnC _ _ _ _;have e:(λx=>(0:Nat)=0/\x=w.heap.size)=(λx=>x=w.heap.size):=by funext x;simp
  rw[<-e]at ho;exact ho
 ·obtain⟨rfl,rfl⟩:=hx;refine⟨Nat.le_refl _,?_⟩;show w.heap.size<(w.heap.push _).size;simp
def zgx(fi:FuncId):zai:=λf us bx=>if f=fi then(match us,bx with
    | [.ro (.str s),.ro (.str t),.ro (.int .i64 n)],[]=>if s.size<4294967281&&decide (1<=t.size)&&decide (1<=n)&&decide (n<=1000000)then some (.one (.own (.sl 1 ((Lib.splitB t 0 (min n.toNat (s.size+1)-1) s).map .str))),[])else none
    |_,_=>none)else none
theorem zpj[Base]{fi:FuncId}{k:Nat}{el:TypeId}(hb:zb0 P fi)(hT:∃m:Int,Base.W0.cell? ⟨k,0,none⟩=some (.int .i64 m))
 (hc:∀(s t:ByteArray) (n:Nat) (m:Int) (w:World),s.size<4294967281->w.cell? ⟨k,0,none⟩=some (.int .i64 m)->1<=t.size->1<=n->n<=9223372036854775807->Calls P fi #[.string s,.string t,.int .i64 n] w λe w' =>
  e=.returned (.slice (some ⟨w.heap.size,0,none⟩) (Lib.splitB t 0 (min n (s.size+1)-1) s).length (min n (s.size+1)))/\w' =w.alloc (.cells (Lib.cellsOf (Lib.splitB t 0 (min n (s.size+1)-1) s) (min n (s.size+1))) el)):zav P (zgx fi):=by
 intro f us bx r bx' h;unfold zgx at h;split at h
 ·rename_i hf;subst hf;split at h
  ·rename_i s t n;split at h
   ·rename_i hq;simp only[Bool.and_eq_true,decide_eq_true_eq]at hq;obtain⟨⟨⟨h1,h2⟩,h3⟩,h4⟩:=hq;simp only[Option.some.injEq,Prod.mk.injEq]at h;obtain⟨rfl,rfl⟩:=h;obtain⟨j,rfl⟩:∃j:Nat,n=j:=⟨n.toNat,by omega⟩
    simp only[Int.toNat_natCast];refine⟨hb,λg w vs hsz hs=>?_⟩
    have e:=zck (ds:=[.str s,.str t,.int .i64 j]) hs hsz rfl;obtain⟨m,hm⟩:=hT;have hm':w.cell? ⟨k,0,none⟩=some (.int .i64 m):=zpi hs hm;subst e;refine(hc s t j m w h1 hm' h2 (by omega) (by omega)).mono ?_
    rintro en w' ⟨rfl,rfl⟩;have hle:=Lib.splitB_length_le t 0 (min j (s.size+1)-1) s;exact⟨_,rfl,g,_,zn8 hs (zvk w el _ (min j (s.size+1)) (by omega) (by unfold maxLen;omega))⟩
   ·cases h
  ·cases h
 ·cases h
def xSeq(fi fs:FuncId):zai:=λf us bx=>if f=fi then(match us,bx with
    | [.ro (.str s),.ro (.str p)],[]=>some (.one (.own (.seq fs s p)),[])
    |_,_=>none)else none
theorem zxg[Base]{fi fs:FuncId}{ts tn:TypeId}(hb:zb0 P fi)
 (hc:∀(s p:ByteArray) (w:World),Calls P fi #[.string s,.string p] w λe w' =>e=.returned (seqV fs (w.heap.size+1) w.heap.size (w.heap.size+2))/\w' =((w.alloc (.cells #[.string s] ts)).alloc (.cells #[.string p] ts)).alloc (.cells #[.int .i64 0] tn)):zav P (xSeq fi fs):=by
 intro f us bx r bx' h;unfold xSeq at h;split at h
 ·rename_i hf;subst hf;split at h
  ·rename_i s p;simp only[Option.some.injEq,Prod.mk.injEq]at h;obtain⟨rfl,rfl⟩:=h;refine⟨hb,λg w vs hsz hs=>?_⟩
   have e:=zck (ds:=[.str s,.str p]) hs hsz rfl;subst e;refine(hc s p w).mono ?_;rintro en w' ⟨rfl,rfl⟩;refine⟨_,rfl,g,λj x=>j=0/\w.heap.size<=x/\x<w.heap.size+3,zpe hs ((((Below.refl _ w).alloc (Nat.le_refl _) _).alloc (by simp) _).alloc (by simp;omega) _) ?_ (λj x hx=>?_) (λj j' x hx hx' =>by rw[hx.1,hx'.1])⟩
   ·show OwnC _ (.seq fs s p) _ _;refine .seq ⟨⟨ts,?_⟩,⟨ts,?_⟩,⟨tn,?_⟩,by omega,by omega⟩ ⟨⟨rfl,by omega,by omega⟩,⟨rfl,by omega,by omega⟩,⟨rfl,by omega,by omega⟩⟩
    ·show (((w.heap.push _).push _).push _)[w.heap.size+1]? =_;rw[Array.getElem?_push,if_neg (by simp),Array.getElem?_push,if_pos (by simp)]
    ·show (((w.heap.push _).push _).push _)[w.heap.size]? =_;rw[Array.getElem?_push,if_neg (by simp;omega),Array.getElem?_push,if_neg (by simp),Array.getElem?_push,if_pos rfl]
    ·show (((w.heap.push _).push _).push _)[w.heap.size+2]? =_;rw[Array.getElem?_push,if_pos (by simp)]
   ·obtain⟨rfl,h1,h2⟩:=hx;refine⟨h1,?_⟩;show x<(((w.heap.push _).push _).push _).size;simp;omega
  ·cases h
 ·cases h
def zrp(fi:FuncId):zai:=λf us bx=>if f=fi then(match us,bx with
    | [.ro (.str s),.ro (.int .u8 c)],[]=>if s.size<4611686018427387904 then some (.one (.ro (.int .i64 (Lib.lastIndexByte s c))),[])else none
    |_,_=>none)else none
theorem zty[Base]{fi:FuncId}(hb:zb0 P fi)
 (hc:∀(s:ByteArray) (c:Int) (w:World),s.size<4611686018427387904->Calls P fi #[.string s,.int .u8 c] w λe w' =>e=.returned (.int .i64 (Lib.lastIndexByte s c))/\w' =w):zav P (zrp fi):=by
 intro f us bx r bx' h;unfold zrp at h;split at h
 ·rename_i hf;subst hf;split at h
  ·rename_i s c;split at h
   ·rename_i hlt;simp only[Option.some.injEq,Prod.mk.injEq]at h;obtain⟨rfl,rfl⟩:=h;refine⟨hb,λg w vs hsz hs=>?_⟩
    have e:=zck (ds:=[.str s,.int .u8 c]) hs hsz rfl;subst e;refine(hc s c w hlt).mono ?_;rintro en w' ⟨rfl,rfl⟩;exact⟨_,rfl,g,_,zfk hs (Below.refl _ _) (RO.int _ _)⟩
   ·cases h
  ·cases h
 ·cases h
def zpk(fi:FuncId):zai:=λf us bx=>if f=fi then(match us,bx with
    | [.ro (.str s),.ro (.int .u8 c)],[]=>some (.one (.ro (.int .i64 (Lib.indexByte s.data.toList c.toNat.toUInt8))),[])
    |_,_=>none)else none
theorem ztz[Base]{fi:FuncId}(hb:zb0 P fi)
 (hc:∀(s:ByteArray) (c:Int) (w:World),Calls P fi #[.string s,.int .u8 c] w λe w' =>e=.returned (.int .i64 (Lib.indexByte s.data.toList c.toNat.toUInt8))/\w' =w):zav P (zpk fi):=by
 intro f us bx r bx' h;unfold zpk at h;split at h
 ·rename_i hf;subst hf;split at h
  ·rename_i s c;simp only[Option.some.injEq,Prod.mk.injEq]at h;obtain⟨rfl,rfl⟩:=h;refine⟨hb,λg w vs hsz hs=>?_⟩
   have e:=zck (ds:=[.str s,.int .u8 c]) hs hsz rfl;subst e;refine(hc s c w).mono ?_;rintro en w' ⟨rfl,rfl⟩;exact⟨_,rfl,g,_,zfk hs (Below.refl _ _) (RO.int _ _)⟩
  ·cases h
 ·cases h
def zt0(fi:FuncId):zai:=λf us bx=>if f=fi then(match us,bx with
    | [.ro (.int .i64 n)],[]=>if-9223372036854775808<=n&&n<=9223372036854775807 then some (.one (.ro (.str ⟨(Lib.itoa n).toArray⟩)),[])else none
    |_,_=>none)else none
theorem z8b[Base]{g:G}{e:Env}{tm:Array Value}{w:World}(hs:Sim g e tm w){name:String}{k:IntKind}{zs:List Int}(hz:zs≠[])(h:Lib.TabIs P Base.W0 name k zs):Lib.TabIs P w name k zs:=by
 unfold Lib.TabIs World.var? at h ⊢
 cases hg:P.globalNamed name with
 |none=>rw[hg]at h;cases h
 |some x=>
  rw[hg]at h;simp only[Option.bind_some]at h ⊢;split at h
  ·rename_i cs el fz hc;obtain rfl:=Option.some.inj h
   have hne:0<(zs.map λz=>Value.int k z).toArray.size:=by
    cases zs with
    |nil=>exact absurd rfl hz
    |cons z r=>simp
   have hcell:Base.W0.cell? ⟨x,0,none⟩=some ((zs.map λz=>Value.int k z).toArray[0]):=by
    simp only[World.cell?,hc];simp
   rw[hs.fix x _ hcell,hc]
  ·cases h
theorem zt1[Base]{fi:FuncId}{name:String}{zs:List Int}(hz:zs≠[])(hb:zb0 P fi)(hT:Lib.TabIs P Base.W0 name .u64 zs)
 (hc:∀(n:Int) (w:World),-9223372036854775808<=n->n<=9223372036854775807->Lib.TabIs P w name .u64 zs->Calls P fi #[.int .i64 n] w λe w' =>e=.returned (.string ⟨(Lib.itoa n).toArray⟩)/\ ∃k os,w' =Go.Sort.grow (w.drewN k) os):zav P (zt0 fi):=by
 intro f us bx r bx' h;unfold zt0 at h;split at h
 ·rename_i hf;subst hf;split at h
  ·rename_i n;split at h
   ·rename_i hq;simp only[Bool.and_eq_true,decide_eq_true_eq]at hq;simp only[Option.some.injEq,Prod.mk.injEq]at h;obtain⟨rfl,rfl⟩:=h;refine⟨hb,λg w vs hsz hs=>?_⟩
    have e:=zck (ds:=[.int .i64 n]) hs hsz rfl;have ht:=z8b hs hz hT;subst e;refine(hc n w hq.1 hq.2 ht).mono ?_;rintro en w' ⟨rfl,k,os,rfl⟩;exact⟨_,rfl,g,_,zfk hs (zxe k os) (RO.str _)⟩
   ·cases h
  ·cases h
 ·cases h
def zxh(fi:FuncId)(T:TypeId):zai:=λf us bx=>if f=fi then(match us,bx with
    | [.ptr n 0],[(m,[a0,a1])]=>if n=m&&decide (n<zab)then(match a0 with
      | .bnil t=>if t=T then some (.tup [],[(n,[.selfp,a1])])else none
      | .selfp=>some (.tup [],[(n,[.selfp,a1])])
      |_=>none)else none
    |_,_=>none)else none
theorem zt2[Base]{fi:FuncId}{T:TypeId}(hb:zb0 P fi)
 (h1:∀(b:Nat) (w:World),w.cell? ⟨b,0,none⟩=some (.pointer none)->w.shape? b=some (T,2)->w.frozen? ⟨b,0,none⟩=false->Calls P fi #[.pointer (some ⟨b,0,none⟩)] w λe w' =>e=.returned (.tuple #[])/\w' =w.setCell ⟨b,0,none⟩ (.pointer (some ⟨b,0,none⟩)))
 (h2:∀(b:Nat) (w:World),w.cell? ⟨b,0,none⟩=some (.pointer (some ⟨b,0,none⟩))->Calls P fi #[.pointer (some ⟨b,0,none⟩)] w λe w' =>e=.returned (.tuple #[])/\w' =w):zav P (zxh fi T):=by
 intro f us bx r bx' h;unfold zxh at h;split at h
 ·rename_i hf;subst hf;split at h
  ·rename_i n m a0 a1;split at h
   ·rename_i hc;simp only[Bool.and_eq_true,decide_eq_true_eq]at hc;obtain⟨rfl,hn⟩:=hc;split at h
    ·rename_i t;split at h
     ·rename_i ht;subst ht;simp only[Option.some.injEq,Prod.mk.injEq]at h;obtain⟨rfl,rfl⟩:=h;exact zw5 hb hn h1
     ·cases h
    ·simp only[Option.some.injEq,Prod.mk.injEq]at h;obtain⟨rfl,rfl⟩:=h;exact z0p hb hn h2
    ·cases h
   ·cases h
  ·cases h
 ·cases h
def z3v(fi:FuncId)(el:TypeId):zai:=λf us bx=>if f=fi then(match us,bx with
    | [.ptr n 0],[(m,[a0,.own (.bs u s)])]=>if n=m&&u=el&&decide (n<zab)then some (.one (.ro (.str s)),[(n,[a0,.dead])])else none
    |_,_=>none)else none
theorem zt3[Base]{fi:FuncId}{el:TypeId}(hb:zb0 P fi)
 (hc:∀(s:ByteArray) (b:Nat) (p v:Value) (tag:TypeId) (w:World),w.heap[b]? =some (.cells #[p,v] tag (0,0))->w.ownsRow 0 el 1 v s.size (s.data.toList.map λb=>.int .u8 b.toNat)->Calls P fi #[.pointer (some ⟨b,0,none⟩)] w λe w' =>e=.returned (.string s)/\Go.Proofs.ButOne v.ownBlock w w'):zav P (z3v fi el):=by
 intro f us bx r bx' h;unfold z3v at h;split at h
 ·rename_i hf;subst hf;split at h
  ·rename_i n m a0 u s;split at h
   ·rename_i hq;simp only[Bool.and_eq_true,decide_eq_true_eq]at hq;obtain⟨⟨rfl,rfl⟩,hn⟩:=hq;simp only[Option.some.injEq,Prod.mk.injEq]at h;obtain⟨rfl,rfl⟩:=h;exact zm6 hb hn (hc s)
   ·cases h
  ·cases h
 ·cases h
end Go.Qz
