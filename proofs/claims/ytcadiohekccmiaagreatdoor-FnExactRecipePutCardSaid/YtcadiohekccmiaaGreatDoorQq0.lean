import Derived.Test.YtcadiohekccmiaaGreatDoorQo0
import Derived.Test.YtcadiohekccmiaaGreatDoorQa0
namespace Go.Qz
variable {P : Program}
theorem zph [Base] {g g' : G} {w w' : World} {us : List A} {n : Nat} {cs cs' : List A} {r : V} {v : Value} (hs' : Sim g' (zbh [(n,cs')]) #[] w') (hc : g'.c = g.c) (hβ : g'.β = g.β) (hγ : g'.γ = g.γ)
  (hS : ∀ s x,g'.S s x → g.S s x) (hos : w'.os = w.os) (htape : w'.tape = w.tape) (hout : w'.output = w.output) (hsize : w.heap.size ≤ w'.heap.size)
  (hold : ∀ x,x < w.heap.size → ¬ Mine g (zai us.length us [(n,cs)]) x → w'.heap[x]? = w.heap[x]?) (hr : HoldV g' (zbh [(n,cs')]) #[] w' (fun _ _ => False) r v) :
  FnPost g (zai us.length us [(n,cs)]) w r [(n,cs')] v w' g' (fun _ _ => False) where
 sim := hs'
 hold := hr
 free := zay _ _ _
 next := { os := hos,tape := htape,output := hout,size := hsize,old := hold,c := by rw [hc]; exact fun _ _ _ h => h,cnew := fun _ _ _ h => .inl (by rw [hc] at h; exact h),lent := fun _ _ => by rw [hβ,hγ]; exact ⟨rfl,rfl⟩,
           mine := fun x hx => .inl (hx.imp (fun ⟨s,hx⟩ => ⟨s,hS s x hx⟩) (fun ⟨b,hb,hl,hx⟩ => ⟨b,by rw [zca.1 hb]; simp [zai,Env.box,za6],hl,by rw [← hβ]; exact hx⟩)) }
 mine := fun _ _ h => h.elim
theorem zmv [Base] {g : G} {us : List A} {n : Nat} {cs : List A} {vs : Array Value} {w : World} (hs : Sim g (zai us.length us [(n,cs)]) vs w) (hlt : n < zae) :
  ∃ arr el,w.heap[g.β n]? = some (.cells arr el (0,0)) ∧ arr.size = cs.length ∧ ∀ o a,cs[o]? = some a → a.portable = true ∧ (arr.getD o undef).oneCell' = true ∧ RepA g (zai us.length us [(n,cs)]) vs w (.cell n o) a (arr.getD o undef) := by
 have hb := hs.bx n cs (by simp [zai,Env.box,za6])
 unfold RepBox at hb
 rwa [if_neg (by omega)] at hb
theorem zmw [Base] {g : G} {n : Nat} {r : List A} {cs : List A} {vs : Array Value} {w : World} (hs : Sim g (zai (A.ptr n 0 :: r).length (A.ptr n 0 :: r) [(n,cs)]) vs w) (hlt : n < zae) : vs.getD 0 undef = .pointer (some ⟨g.β n,0,none⟩) :=
 (zfl hs (k := 0) (a := .ptr n 0) rfl) (by simp [zai,Env.box,za6]) hlt
theorem ztz {vs : Array Value} (h : vs.size = 1) : vs = #[vs.getD 0 undef] := by
 refine Array.ext (by simpa using h) (fun k hk hk' => ?_)
 have : k = 0 := by omega
 subst this
 simp [Array.getD_eq_getD_getElem?,hk]
theorem zxd [Base] {f : FuncId} {T : TypeId} (hb : zcs P f) {n : Nat} {a1 : A} (hn : n < zae)
  (hc : ∀ (b : Nat) (w : World),w.cell? ⟨b,0,none⟩ = some (.pointer none) → w.shape? b = some (T,2) → w.frozen? ⟨b,0,none⟩ = false →
   Calls P f #[.pointer (some ⟨b,0,none⟩)] w fun e w' => e = .returned (.tuple #[]) ∧ w' = w.setCell ⟨b,0,none⟩ (.pointer (some ⟨b,0,none⟩))) :
  zcs P f ∧ ∀ (g : G) (w : World) (vs : Array Value),vs.size = [A.ptr n 0].length → Sim g (zai [A.ptr n 0].length [A.ptr n 0] [(n,[.bnil T,a1])]) vs w →
   Calls P f vs w (fun en w' => ∃ v,en = .returned v ∧ ∃ g' Y,FnPost g (zai [A.ptr n 0].length [A.ptr n 0] [(n,[.bnil T,a1])]) w (.tup []) [(n,[.selfp,a1])] v w' g' Y) := by
 refine ⟨hb,fun g w vs hsz hs => ?_⟩
 have hv := zmw hs hn
 have hvs := ztz hsz
 rw [hv] at hvs
 obtain ⟨arr,el,h1,h2,h3⟩ := zmv hs hn
 obtain ⟨_,_,hv0,b',o',he,htag⟩ := h3 0 _ rfl
 cases he
 obtain ⟨arr',fz,ht⟩ := htag hn
 rw [h1] at ht
 obtain rfl : el = T := by cases ht; rfl
 have hcell : w.cell? ⟨g.β n,0,none⟩ = some (.pointer none) := by
  have hk : 0 < arr.size := by rw [h2]; exact Nat.zero_lt_succ _
  rw [← hv0]
  simp [World.cell?,h1,hk,Array.getD_eq_getD_getElem?]
 rw [hvs] at hs ⊢
 refine (hc (g.β n) w hcell (by simp [World.shape?,h1,h2]) (by simp [World.frozen?,h1])).mono ?_
 rintro en w' ⟨rfl,rfl⟩
 refine ⟨_,rfl,?_⟩
 obtain ⟨g1,s1,hgc,hgβ,hgγ,hgS⟩ := hs.pokeBox (b := n) (o := 0) (cs := [.bnil el,a1]) (a := .dead) (u := .pointer (some ⟨g.β n,0,none⟩)) (Y := fun _ => False) (by simp [zai,Env.box,za6]) hn (by simp) rfl rfl trivial (zcw _ _ _)
 have s2 : Sim g1 (zbh [(n,[.dead,a1])]) #[] (w.setCell ⟨g.β n,0,none⟩ (.pointer (some ⟨g.β n,0,none⟩))) := by
  refine s1.ret (fun b cs hcs => ?_)
  obtain ⟨rfl,rfl⟩ := zke (n := n) (cs := [.dead,a1]) (b := b) (cs' := cs) hcs
  rw [zie]
  simp [zai,Env.box,za6]
 have s3 : Sim g1 (zbh [(n,[.selfp,a1])]) #[] (w.setCell ⟨g.β n,0,none⟩ (.pointer (some ⟨g.β n,0,none⟩))) := by
  refine s2.reBox1 (g' := g1) hn rfl rfl rfl (fun _ _ h => h) (fun arr2 el2 k1 k2 k3 o a' ha' => ?_)
  rw [hgβ] at k1 ⊢
  cases o with
  | zero =>
    simp only [List.getElem?_cons_zero,Option.some.injEq] at ha'
    subst ha'
    have hq := zic w (g.β n) 0 (.pointer (some ⟨g.β n,0,none⟩)) h1
    rw [hq] at k1
    simp only [Option.some.injEq,Obj.cells.injEq] at k1
    refine ⟨rfl,?_⟩
    show arr2.getD 0 undef = _
    rw [← k1.1,zd4 arr 0 0 _ (by rw [h2]; exact Nat.zero_lt_succ _),if_pos rfl]
  | succ o =>
    have ha2 : [A.dead,a1][o + 1]? = some a' := by simpa using ha'
    have hp : a'.portable = true := by
     refine (h3 (o + 1) a' ?_).1
     simpa using ha'
    refine ⟨hp,?_⟩
    have hk := RepA.cellV hp hn (fun _ _ h => h) (k3 (o + 1) a' ha2).2
    rw [hgβ] at hk
    exact hk
 refine ⟨g1,_,zph s3 hgc hgβ hgγ (fun s x hx => (hgS s x hx).elim id (fun h => h.elim)) rfl rfl rfl (by rw [zb8]; exact Nat.le_refl _) (fun x hx hm => ?_) ⟨#[],rfl,rfl,fun k a ha => by simp at ha⟩⟩
 refine zb7 _ _ _ _ (fun e => hm (.inr ⟨n,by simp [zai,Env.box,za6],hn,e.symm⟩))
theorem zz9 [Base] {f : FuncId} (hb : zcs P f) {n : Nat} {a1 : A} (hn : n < zae)
  (hc : ∀ (b : Nat) (w : World),w.cell? ⟨b,0,none⟩ = some (.pointer (some ⟨b,0,none⟩)) →
   Calls P f #[.pointer (some ⟨b,0,none⟩)] w fun e w' => e = .returned (.tuple #[]) ∧ w' = w) :
  zcs P f ∧ ∀ (g : G) (w : World) (vs : Array Value),vs.size = [A.ptr n 0].length → Sim g (zai [A.ptr n 0].length [A.ptr n 0] [(n,[.selfp,a1])]) vs w →
   Calls P f vs w (fun en w' => ∃ v,en = .returned v ∧ ∃ g' Y,FnPost g (zai [A.ptr n 0].length [A.ptr n 0] [(n,[.selfp,a1])]) w (.tup []) [(n,[.selfp,a1])] v w' g' Y) := by
 refine ⟨hb,fun g w vs hsz hs => ?_⟩
 have hv := zmw hs hn
 have hvs := ztz hsz
 rw [hv] at hvs
 obtain ⟨arr,el,h1,h2,h3⟩ := zmv hs hn
 obtain ⟨_,_,b',o',he,hv0⟩ := h3 0 _ rfl
 cases he
 have hcell : w.cell? ⟨g.β n,0,none⟩ = some (.pointer (some ⟨g.β n,0,none⟩)) := by
  have hk : 0 < arr.size := by rw [h2]; exact Nat.zero_lt_succ _
  rw [← hv0 hn]
  simp [World.cell?,h1,hk,Array.getD_eq_getD_getElem?]
 rw [hvs] at hs ⊢
 refine (hc (g.β n) w hcell).mono ?_
 rintro en w' ⟨rfl,rfl⟩
 refine ⟨_,rfl,g,_,zph (hs.ret (fun b cs h => h)) rfl rfl rfl (fun _ _ h => h) rfl rfl rfl (Nat.le_refl _) (fun _ _ _ => rfl) ⟨#[],rfl,rfl,fun k a ha => by simp at ha⟩⟩
theorem znf [Base] {f : FuncId} {el : TypeId} (hb : zcs P f) {n : Nat} {a0 : A} {s : ByteArray} (hn : n < zae)
  (hc : ∀ (b : Nat) (p v : Value) (tag : TypeId) (w : World),w.heap[b]? = some (.cells #[p,v] tag (0,0)) → w.ownsRow 0 el 1 v s.size (s.data.toList.map fun b => .int .u8 b.toNat) →
   Calls P f #[.pointer (some ⟨b,0,none⟩)] w fun e w' => e = .returned (.string s) ∧ Go.Proofs.ButOne v.ownBlock w w') :
  zcs P f ∧ ∀ (g : G) (w : World) (vs : Array Value),vs.size = [A.ptr n 0].length → Sim g (zai [A.ptr n 0].length [A.ptr n 0] [(n,[a0,.own (.bs el s)])]) vs w →
   Calls P f vs w (fun en w' => ∃ v,en = .returned v ∧ ∃ g' Y,FnPost g (zai [A.ptr n 0].length [A.ptr n 0] [(n,[a0,.own (.bs el s)])]) w (.one (.ro (.str s))) [(n,[a0,.dead])] v w' g' Y) := by
 refine ⟨hb,fun g w vs hsz hs => ?_⟩
 have hv := zmw hs hn
 have hvs := ztz hsz
 rw [hv] at hvs
 obtain ⟨arr,tag,h1,h2,h3⟩ := zmv hs hn
 obtain ⟨_,_,hown⟩ := h3 1 _ rfl
 have hown' : OwnC w (.bs el s) (arr.getD 1 undef) (g.S (.cell n 1)) := hown
 have harr : arr = #[arr.getD 0 undef,arr.getD 1 undef] := by
  have h2' : arr.size = 2 := h2
  refine Array.ext (by simpa using h2') (fun k hk hk' => ?_)
  have : k = 0 ∨ k = 1 := by omega
  rcases this with rfl | rfl <;> simp [Array.getD_eq_getD_getElem?,hk]
 rw [harr] at h1
 generalize hv1 : arr.getD 1 undef = v1 at h1 hown'
 obtain ⟨hrow,hmine⟩ : w.ownsRow 0 el 1 v1 s.size (s.data.toList.map fun b => .int .u8 b.toNat) ∧ ∀ x,v1.ownBlock = some x → g.S (.cell n 1) x := by
  cases hown' with
  | flat hf _ => simp [D.flat] at hf
  | bs k1 k2 => exact ⟨k1,k2⟩
 rw [hvs] at hs ⊢
 refine (hc (g.β n) _ v1 tag w h1 hrow).mono ?_
 rintro en w' ⟨rfl,hbut⟩
 refine ⟨_,rfl,?_⟩
 have s1 : Sim g (zbh [(n,[a0,.own (.bs el s)])]) #[] w := hs.ret (fun b cs h => h)
 have s2 : Sim (g.setSlot (.cell n 1) (fun _ => False)) (zbh [(n,[a0,.dead])]) #[] w := by
  refine s1.reBox1 (g' := g.setSlot (.cell n 1) (fun _ => False)) hn rfl rfl rfl (fun t x hx => ?_) (fun arr2 el2 k1 k2 k3 o a' ha' => ?_)
  ·by_cases e : t = .cell n 1
   ·subst e; rw [zam] at hx; exact hx.elim
   ·rw [zag g _ e] at hx; exact hx
  ·cases o with
   | zero =>
     simp only [List.getElem?_cons_zero,Option.some.injEq] at ha'
     subst ha'
     have hp := (h3 0 _ rfl).1
     refine ⟨hp,?_⟩
     rw [zag g _ (by simp)]
     exact RepA.cellV hp hn (fun _ _ h => h) (k3 0 _ rfl).2
   | succ o =>
     cases o with
     | zero =>
       simp only [List.getElem?_cons_succ,List.getElem?_cons_zero,Option.some.injEq] at ha'
       subst ha'
       exact ⟨rfl,trivial⟩
     | succ o => simp at ha'
 have hno : ∀ x,v1.ownBlock = some x → ¬ Mine (g.setSlot (.cell n 1) (fun _ => False)) (zbh [(n,[a0,.dead])]) x ∧ ∀ o v,g.c x o ≠ some v := by
  intro x hx
  have hS := hmine x hx
  refine ⟨?_,fun o v hv => (hs.cdis x o v hv).1 _ hS⟩
  rintro (⟨t,ht⟩ | ⟨b,hb,hl,he⟩)
  ·by_cases e : t = .cell n 1
   ·subst e; rw [zam] at ht; exact ht
   ·rw [zag g _ e] at ht
    exact e (hs.sdis _ _ _ ht hS)
  ·have := zca.1 hb
   subst this
   exact hs.sbox _ b x hS (by simp [zai,Env.box,za6]) hl he
 have s3 : Sim (g.setSlot (.cell n 1) (fun _ => False)) (zbh [(n,[a0,.dead])]) #[] w' := by
  refine s2.world hbut.size (fun x hx hm => hbut.block x hx (fun e => ?_))
  rcases hm with hm | ⟨o,v,hv⟩
  ·exact (hno x e).1 hm
  ·exact (hno x e).2 o v hv
 refine ⟨_,_,zph s3 rfl rfl rfl (fun t x hx => ?_) hbut.os hbut.tape hbut.output hbut.size (fun x hx hm => hbut.block x hx (fun e => hm (.inl ⟨_,hmine x e⟩))) (RO.str s)⟩
 by_cases e : t = .cell n 1
 ·subst e; rw [zam] at hx; exact hx.elim
 ·rw [zag g _ e] at hx; exact hx
end Go.Qz
