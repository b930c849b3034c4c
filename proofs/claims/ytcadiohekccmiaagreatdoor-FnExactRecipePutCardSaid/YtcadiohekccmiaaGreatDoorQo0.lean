import Derived.Test.YtcadiohekccmiaaGreatDoorQm1
import Derived.Below
import Derived.Calls
namespace Go.Qz
open Go.RowKit (Below)
variable {P : Program}
abbrev zcs (P : Program) (f : FuncId) : Prop := ∃ fn,P.funcs[f]? = some fn ∧ fn.body.isSome = true ∧ fn.name ≠ "runtime.NumGoroutine"
theorem zfl [Base] {g : G} {as : List A} {bx : zaq} {vs : Array Value} {w : World} (hs : Sim g (zai as.length as bx) vs w) {k : Nat} {a : A} (ha : as[k]? = some a) :
  RepA g (zai as.length as bx) vs w (.tmp k 0) a (vs.getD k undef) := by
 have ht := hs.tv k
 have ht' : RepV g (zai as.length as bx) vs w k (match as[k]? with | some a => .one a | none => .undef) (vs.getD k undef) := ht
 rw [ha] at ht'
 exact ht'
def valD : D → Option Value
 | .int k n => some (.int k n)
 | .bool b => some (.bool b)
 | .str s => some (.string s)
 | .nilp => some (.pointer none)
 | .nilf => some .nilFunc
 | .nili => some .nilIface
 | _ => none
def zw9 : List D → Option (List Value)
 | [] => some []
 | d :: r => match valD d with
   | some v => match zw9 r with
     | some vs => some (v :: vs)
     | none => none
   | none => none
theorem z5v {c : Mem} {d : D} {v v' : Value} (h : valD d = some v) (hr : RO c d v') : v' = v := by
 cases hr <;> simp [valD] at h <;> exact h
theorem z5w {c : Mem} {d : D} {v : Value} (h : valD d = some v) : RO c d v := by
 cases d <;> simp [valD] at h <;> subst h
 ·exact .int _ _
 ·exact .bool _
 ·exact .str _
 ·exact .nilp
 ·exact .nilf
 ·exact .nili
theorem zmu : ∀ {ds : List D} {vs : List Value},zw9 ds = some vs → vs.length = ds.length ∧ ∀ (k : Nat) (d : D),ds[k]? = some d → ∃ v,vs[k]? = some v ∧ valD d = some v
 | [],vs,h => by
   simp only [zw9,Option.some.injEq] at h
   subst h
   exact ⟨rfl,fun k d hd => by simp at hd⟩
 | d :: r,vs,h => by
   simp only [zw9] at h
   split at h
   ·rename_i v hv
    split at h
    ·rename_i vs' hvs
     obtain rfl := Option.some.inj h
     obtain ⟨h1,h2⟩ := zmu hvs
     refine ⟨by simp [h1],fun k d' hd => ?_⟩
     cases k with
     | zero =>
       simp only [List.getElem?_cons_zero,Option.some.injEq] at hd
       subst hd
       exact ⟨v,rfl,hv⟩
     | succ k => exact h2 k d' hd
    ·cases h
   ·cases h
theorem zd8 [Base] {g : G} {ds : List D} {bx : zaq} {vs : Array Value} {w : World} {us : List Value} (hs : Sim g (zai (ds.map A.ro).length (ds.map A.ro) bx) vs w) (hsz : vs.size = (ds.map A.ro).length) (hu : zw9 ds = some us) : vs = us.toArray := by
 obtain ⟨h1,h2⟩ := zmu hu
 have hsz' : vs.size = ds.length := by simpa using hsz
 refine Array.ext (by simp [h1,hsz']) (fun k hk hk' => ?_)
 have hd : ds[k]? = some ds[k] := List.getElem?_eq_getElem (by omega)
 obtain ⟨u,hu1,hu2⟩ := h2 k _ hd
 have hr : RO g.c ds[k] (vs.getD k undef) := zfl hs (a := .ro ds[k]) (by rw [List.getElem?_map,hd]; rfl)
 have e1 := z5v hu2 hr
 have e2 : vs.getD k undef = vs[k] := by simp [Array.getD_eq_getD_getElem?,hk]
 rw [e2] at e1
 rw [e1]
 have : us.toArray[k]? = some u := by simpa using hu1
 rw [Array.getElem?_eq_getElem hk'] at this
 exact (Option.some.inj this).symm
theorem z8p {c : Mem} {w : World} (h : c.le (zbq w)) {x o : Nat} {v : Value} (hc : c x o = some v) (hx : w.heap.size ≤ x) : False := by
 have h2 := h x o v hc
 unfold zbq World.cell? at h2
 have : w.heap[x]? = none := Array.getElem?_eq_none hx
 simp [this] at h2
theorem zvq [Base] {g : G} {w w' : World} {as : List A} {vs : Array Value} {r : V} {v : Value} {Y : Nat → Blk} (hs : Sim g (zai as.length as []) vs w) (hb : Below w.heap.size w w')
  (hr : HoldV g (zbh []) #[] w' Y r v) (hY : ∀ k x,Y k x → w.heap.size ≤ x ∧ x < w'.heap.size) (hone : ∀ k k' x,Y k x → Y k' x → k = k') : FnPost g (zai as.length as []) w r [] v w' g Y where
 sim := (hs.grow hb.size hb.block).ret (fun b cs h => by cases h)
 hold := hr
 free := ⟨hone,fun k s x hx hS => Nat.lt_irrefl _ (Nat.lt_of_lt_of_le (hs.slt s x hS) (hY k x hx).1),fun k x b _ hb => (by cases hb),fun k x hx => (hY k x hx).2,fun k x o v hx hc => z8p hs.cmem hc (hY k x hx).1⟩
 next := { os := hb.os,tape := hb.tape,output := hb.output,size := hb.size,old := fun x hx _ => hb.block x hx,mine := fun x hx => .inl (hx.imp id (fun ⟨b,hb,_⟩ => by cases hb)),c := fun _ _ _ h => h,cnew := fun _ _ _ h => .inl h,lent := fun _ _ => ⟨rfl,rfl⟩ }
 mine := fun k x hx => .inr (hY k x hx).1
theorem zen [Base] {g : G} {w w' : World} {as : List A} {vs : Array Value} {r : V} {v : Value} (hs : Sim g (zai as.length as []) vs w) (hb : Below w.heap.size w w')
  (hr : HoldV g (zbh []) #[] w' (fun _ _ => False) r v) : FnPost g (zai as.length as []) w r [] v w' g (fun _ _ => False) :=
 zvq hs hb hr (fun _ _ h => h.elim) (fun _ _ _ h => h.elim)
theorem z26 [Base] {ds : List D} {us : List Value} (h : zw9 ds = some us) (g : G) (w : World) : HoldV g (zbh []) #[] w (fun _ _ => False) (.tup (ds.map .ro)) (.tuple us.toArray) := by
 obtain ⟨h1,h2⟩ := zmu h
 refine ⟨us.toArray,rfl,by simp [h1],fun k a ha => ?_⟩
 rw [List.getElem?_map] at ha
 cases hd : ds[k]? with
 | none => rw [hd] at ha; cases ha
 | some d =>
   rw [hd] at ha
   obtain rfl := Option.some.inj ha
   obtain ⟨u,hu1,hu2⟩ := h2 k d hd
   have : us.toArray.getD k undef = u := by simp [hu1]
   rw [this]
   exact z5w hu2
theorem zke {n : Nat} {cs : List A} {b : Nat} {cs' : List A} (h : (zbh [(n,cs)]).box b = some cs') : b = n ∧ cs' = cs := by
 have h' : (if b = n then some cs else none) = some cs' := by
  simpa [zbh,Env.box,za6] using h
 split at h'
 ·rename_i e
  exact ⟨e,(Option.some.inj h').symm⟩
 ·cases h'
theorem zca {n : Nat} {cs : List A} {b : Nat} : ((zbh [(n,cs)]).box b).isSome = true ↔ b = n := by
 constructor
 ·intro h
  obtain ⟨cs',h'⟩ := Option.isSome_iff_exists.1 h
  exact (zke h').1
 ·rintro rfl
  simp [zbh,Env.box,za6]
theorem Sim.reBox1 [Base] {g g' : G} {w : World} {n : Nat} {cs cs' : List A} (h : Sim g (zbh [(n,cs)]) #[] w) (hlt : n < zae) (hl : cs'.length = cs.length) (hgc : g'.c = g.c) (hgβ : g'.β = g.β) (hS : ∀ s x,g'.S s x → g.S s x)
  (hc : ∀ arr el,w.heap[g.β n]? = some (.cells arr el (0,0)) → arr.size = cs.length → (∀ o a,cs[o]? = some a → (arr.getD o undef).oneCell' = true ∧ RepA g (zbh [(n,cs)]) #[] w (.cell n o) a (arr.getD o undef)) → ∀ o a',cs'[o]? = some a' → a'.portable = true ∧ CellV g.c (g'.S (.cell n o)) w (g.β n) a' (arr.getD o undef)) :
  Sim g' (zbh [(n,cs')]) #[] w where
 size := Nat.zero_le _
 tv := h.tv
 bx := fun b cs2 hcs => by
  obtain ⟨rfl,rfl⟩ := zke hcs
  have hb := h.bx b cs (by simp [zbh,Env.box,za6])
  unfold RepBox at hb ⊢
  rw [if_neg (by omega)] at hb ⊢
  obtain ⟨arr,el,h1,h2,h3⟩ := hb
  refine ⟨arr,el,by rw [hgβ]; exact h1,by omega,fun o a ha => ?_⟩
  obtain ⟨p1,p2⟩ := hc arr el h1 h2 (fun o a ha => (h3 o a ha).2) o a ha
  have hlt' : o < cs.length := by
   have := (List.getElem?_eq_some_iff.1 ha).1
   omega
  refine ⟨p1,(h3 o _ (List.getElem?_eq_getElem hlt')).2.1,?_⟩
  refine CellV.rep (fun x hx => hx) ?_
  rw [hgc,hgβ]
  exact p2
 binj := fun b b' hb hb' _ _ _ => by rw [zca.1 hb,zca.1 hb']
 sdis := fun s s' x hx hx' => h.sdis s s' x (hS _ _ hx) (hS _ _ hx')
 sbox := fun s b x hx hb hl => by
  rw [hgβ]
  exact h.sbox s b x (hS _ _ hx) (zca.2 (zca.1 hb)) hl
 slt := fun s x hx => h.slt s x (hS _ _ hx)
 cmem := by rw [hgc]; exact h.cmem
 base := by rw [hgc]; exact h.base
 fix := h.fix
 cdis := fun b o v hv => by
  rw [hgc] at hv
  refine ⟨fun s hx => (h.cdis b o v hv).1 s (hS _ _ hx),fun id hid hl => ?_⟩
  rw [hgβ]
  exact (h.cdis b o v hv).2 id (zca.2 (zca.1 hid)) hl
end Go.Qz
