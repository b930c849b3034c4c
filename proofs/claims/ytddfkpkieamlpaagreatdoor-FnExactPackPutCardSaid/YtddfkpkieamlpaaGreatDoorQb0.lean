import GoSem.Dispatch
namespace Go.Qz
open Go
abbrev zbp(a b:List UInt8):Bool:=Op.bytesLess a b
theorem zok:∀a:List UInt8,zbp a a=false
 | []=>rfl
 |x::r=>by simp[zbp,Op.bytesLess,zok r]
theorem ze2:∀{a b c:List UInt8},zbp a b=true->zbp b c=true->zbp a c=true
 |_,[],_,h,_=>by cases ‹List UInt8› <;>simp[zbp,Op.bytesLess]at h
 |_,_::_,[],_,h=>by simp[zbp,Op.bytesLess]at h
 | [],_::_,_::_,_,_=>by simp[zbp,Op.bytesLess]
 |x::a,y::b,z::c,h,h' =>by
  simp only[zbp,Op.bytesLess,Bool.or_eq_true,Bool.and_eq_true,decide_eq_true_eq,beq_iff_eq]at h h' ⊢;rcases h with h|⟨rfl,h⟩
  ·rcases h' with h' |⟨rfl,h'⟩
   ·exact .inl (UInt8.lt_trans h h')
   ·exact .inl h
  ·rcases h' with h' |⟨rfl,h'⟩
   ·exact .inl h'
   ·exact .inr ⟨rfl,ze2 h h'⟩
theorem zv1{a b:List UInt8}(h:zbp a b=true):zbp b a=false:=by
 cases h':zbp b a with
 |false=>rfl
 |true=>have:=ze2 h h';rw[zok]at this;exact this.symm
theorem zuq:∀(a b:List UInt8),b≠[]->zbp a (a++b)=true
 | [],[],h=>absurd rfl h
 | [],_::_,_=>by simp[zbp,Op.bytesLess]
 |x::a,b,h=>by have ih:=zuq a b h;simp only[zbp]at ih;simp[zbp,Op.bytesLess,ih]
def zcm{α:Type}(f:α->List UInt8)(p:List UInt8):List α->Nat
 | []=>0
 |x::r=>if zbp (f x) p then zcm f p r+1 else 0
theorem zol{α:Type}(f:α->List UInt8)(p:List UInt8):∀l:List α,zcm f p l<=l.length
 | []=>Nat.le_refl _
 |x::r=>by have:=zol f p r;simp only[zcm,List.length_cons];split<;>omega
def zbr{α:Type}(f:α->List UInt8):List α->Bool
 | []=>true
 |x::r=>(match r with| []=>true|y::_=>zbp (f x) (f y))&&zbr f r
theorem zur{α:Type}{f:α->List UInt8}{x:α}{r:List α}(h:zbr f (x::r)=true):zbr f r=true:=by
 unfold zbr at h;rw[Bool.and_eq_true]at h;exact h.2
theorem zus{α:Type}{f:α->List UInt8}:∀{r:List α} {x:α},zbr f (x::r)=true-> ∀y∈r,zbp (f x) (f y)=true
 | [],_,_,y,hy=>by cases hy
 |z::r,x,h,y,hy=>by
  have h2:=zur h;have h1:zbp (f x) (f z)=true:=by unfold zbr at h;rw[Bool.and_eq_true]at h;exact h.1
  rcases List.mem_cons.1 hy with rfl|hy
  ·exact h1
  ·exact ze2 h1 (zus h2 y hy)
theorem zsl{α:Type}{f:α->List UInt8}:∀{l:List α},zbr f l=true-> ∀(i j:Nat) (hj:j<l.length) (h:i<j),zbp (f (l[i]'(by omega))) (f l[j])=true
 | [],_,_,_,hj,_=>by simp at hj
 |x::r,h,0,j+1,hj,_=>zus h _ (List.getElem_mem _)
 |x::r,h,i+1,j+1,hj,hij=>by
  simp only[List.getElem_cons_succ];exact zsl (zur h) i j (by simpa using hj) (by omega)
theorem zom{α:Type}{f:α->List UInt8}{p:List UInt8}:∀{l:List α} (i:Nat) (h:i<l.length),i<zcm f p l->zbp (f l[i]) p=true
 | [],_,h,_=>by simp at h
 |x::r,i,h,hi=>by
  rw[zcm]at hi;split at hi
  ·rename_i hx
   cases i with
   |zero=>exact hx
   |succ i=>exact zom (l:=r) i (by simpa using h) (by omega)
  ·omega
theorem z2m{α:Type}{f:α->List UInt8}{p:List UInt8}{l:List α}(k:Nat)(hk:k<=l.length)(h1:∀i (h:i<l.length),i<k->zbp (f l[i]) p=true)(h2:∀i (h:i<l.length),k<=i->zbp (f l[i]) p=false):zcm f p l=k:=by
 have hb:=zol f p l;rcases Nat.lt_trichotomy (zcm f p l) k with h|h|h
 ·induction l generalizing k with
  |nil=>simp at hk;omega
  |cons x r ih=>
   have hx:zbp (f x) p=true:=h1 0 (by simp) (by omega)
   cases k with
   |zero=>omega
   |succ k=>
    rw[zcm,if_pos hx];rw[zcm,if_pos hx]at h hb;rw[ih k (by simpa using hk) (λi hi hik=>h1 (i+1) (by simpa using hi) (by omega)) (λi hi hik=>h2 (i+1) (by simpa using hi) (by omega)) (zol _ _ _) (by omega)]
 ·exact h
 ·have:=zom (f:=f) (p:=p) k (by omega) h
  rw[h2 k (by omega) (Nat.le_refl _)]at this
  cases this
end Go.Qz
