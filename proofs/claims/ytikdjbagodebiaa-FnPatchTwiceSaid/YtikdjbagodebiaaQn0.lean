/- The evaluator of the claim and what it says, part Qn0 (several texts in one). -/
import Derived.Test.YtikdjbagodebiaaQk0
import Derived.Test.YtikdjbagodebiaaQg0
/- The evaluator Qz: functions that take over a row, by contract. -/
namespace Go.Qz

/-- Cells that say flat data. -/
def Says (ds : List D) (L : List Value) : Prop := ds.length = L.length ∧ ∀ (k : Nat) (d : D) (u : Value), ds[k]? = some d → L[k]? = some u → u.oneCell' = true ∧ RO noMem d u
theorem Says.one {ds : List D} {L : List Value} (h : Says ds L) : ∀ u ∈ L, u.oneCell' = true := by
  intro u hu
  obtain ⟨k, hk, rfl⟩ := List.mem_iff_getElem.1 hu
  exact (h.2 k _ _ (List.getElem?_eq_getElem (by rw [h.1]; exact hk)) (List.getElem?_eq_getElem hk)).1
theorem Says.append {ds ds' : List D} {L L' : List Value} (h : Says ds L) (h' : Says ds' L') : Says (ds ++ ds') (L ++ L') := by
  refine ⟨by rw [List.length_append, List.length_append, h.1, h'.1], fun k d u hd hu => ?_⟩
  rcases Nat.lt_or_ge k ds.length with hk | hk
  · rw [List.getElem?_append_left hk] at hd
    rw [List.getElem?_append_left (by rw [← h.1]; exact hk)] at hu
    exact h.2 k d u hd hu
  · rw [List.getElem?_append_right hk] at hd
    rw [List.getElem?_append_right (by rw [← h.1]; exact hk), ← h.1] at hu
    exact h'.2 _ d u hd hu
theorem Says.take {ds : List D} {L : List Value} (h : Says ds L) (n : Nat) : Says (ds.take n) (L.take n) := by
  refine ⟨by rw [List.length_take, List.length_take, h.1], fun k d u hd hu => ?_⟩
  rw [List.getElem?_take] at hd hu
  split at hd
  · rename_i hk; rw [if_pos hk] at hu; exact h.2 k d u hd hu
  · cases hd
theorem Says.drop {ds : List D} {L : List Value} (h : Says ds L) (n : Nat) : Says (ds.drop n) (L.drop n) := by
  refine ⟨by rw [List.length_drop, List.length_drop, h.1], fun k d u hd hu => ?_⟩
  rw [List.getElem?_drop] at hd hu
  exact h.2 _ d u hd hu
theorem flatMap_take {z : Nat} : ∀ {xs : List D} (n : Nat), (∀ x ∈ xs, x.cells.length = z) → (xs.take n).flatMap D.cells = (xs.flatMap D.cells).take (n * z)
  | [], n, _ => by simp
  | x :: xs, 0, _ => by simp
  | x :: xs, n + 1, h => by
    have h1 := h x List.mem_cons_self
    rw [List.take_succ_cons, List.flatMap_cons, List.flatMap_cons, flatMap_take n (fun y hy => h y (List.mem_cons_of_mem _ hy)), List.take_append, h1, Nat.add_mul, Nat.one_mul, Nat.add_sub_cancel, List.take_of_length_le (l := x.cells) (by omega)]
theorem flatMap_drop {z : Nat} : ∀ {xs : List D} (n : Nat), (∀ x ∈ xs, x.cells.length = z) → (xs.drop n).flatMap D.cells = (xs.flatMap D.cells).drop (n * z)
  | [], n, _ => by simp
  | x :: xs, 0, _ => by simp
  | x :: xs, n + 1, h => by
    have h1 := h x List.mem_cons_self
    rw [List.drop_succ_cons, List.flatMap_cons, flatMap_drop n (fun y hy => h y (List.mem_cons_of_mem _ hy)), List.drop_append, h1, Nat.add_mul, Nat.one_mul, Nat.add_sub_cancel, List.drop_eq_nil_of_le (as := x.cells) (by omega), List.nil_append]
theorem flats_cells {x : D} (h : x.flat = true) : ∀ d ∈ x.cells, d.flat = true := by
  intro d hd
  cases x with
  | agg cs => exact flats_mem (l := cs) (by simpa [D.flat] using h) hd
  | _ => simp [D.cells] at hd; subst hd; exact h
theorem own_flat {w : World} {d : D} {v : Value} {T : Blk} (h : OwnC w d v T) (hf : d.flat = true) : RO noMem d v := (h.toRO (c := memOf w) (fun _ _ _ _ h => h)).flat hf
theorem flats_of {l : List D} (h : ∀ d ∈ l, d.flat = true) : flats l = true := by
  induction l with
  | nil => rfl
  | cons a r ih =>
    simp only [flats, Bool.and_eq_true]
    exact ⟨h a List.mem_cons_self, ih (fun d hd => h d (List.mem_cons_of_mem _ hd))⟩
/-- The head of what is read. -/
theorem RO.head {c : Mem} {z k cap : Nat} {xs : List D} {a : Option Addr} (h : RO c (.sl z xs) (.slice a xs.length cap)) (hk : k ≤ xs.length) : RO c (.sl z (xs.take k)) (.slice a k cap) := by
  obtain ⟨a', cap', e1, h1, h2⟩ := h.sl_inv
  cases e1
  by_cases hx : xs = []
  · subst hx
    obtain rfl : k = 0 := by simpa using hk
    exact .sl0
  · obtain ⟨b, off, u, rfl, h3, h4, h5⟩ := h2 hx
    have hlen : (xs.take k).length = k := by rw [List.length_take]; omega
    have := @RO.sl c z (xs.take k) b off cap u (by omega) (fun x hx => h3 x (List.mem_of_mem_take hx)) (fun m hm => h4 m (Nat.lt_of_lt_of_le hm (Nat.mul_le_mul_right _ (by omega)))) (fun m d hd => h5 m d (flat_take h3 hk hd))
    rw [hlen] at this
    exact this
/-- A row of flat data, opened. -/
theorem own_open {w : World} {z : Nat} {xs : List D} {v : Value} {T : Blk} (h : OwnC w (.sl z xs) v T) (hf : flats xs = true) :
    (v = .slice none 0 0 ∧ xs = []) ∨ ∃ b c e L T', v = .slice (some ⟨b, 0, none⟩) xs.length c ∧ RowIs w b e (L ++ T') ∧ L.length = xs.length * z ∧ (L ++ T').length = c * z ∧ xs.length ≤ c ∧ c ≤ maxLen ∧ 0 < z ∧ (∀ x ∈ xs, x.cells.length = z) ∧ T b ∧ Says (xs.flatMap D.cells) L := by
  cases h with
  | flat hf' _ => simp [D.flat] at hf'
  | nil => exact .inl ⟨rfl, rfl⟩
  | @row z xs b cap e cur T U h1 h2 h3 h4 h5 h6 h7 h8 h9 h10 h11 =>
    have hcl : cur.toList.length = cap * z := by rw [Array.length_toList, h2]
    have hle : xs.length * z ≤ cap * z := Nat.mul_le_mul_right _ h3
    have hl : (cur.toList.take (xs.length * z)).length = xs.length * z := by rw [List.length_take, hcl]; omega
    refine .inr ⟨b, cap, e, cur.toList.take (xs.length * z), cur.toList.drop (xs.length * z), rfl, ?_, hl, by rw [List.take_append_drop, hcl], h3, h4, h5, h9, h6, ?_⟩
    · unfold RowIs
      rw [List.take_append_drop, Array.toArray_toList]
      exact h1
    · refine ⟨by rw [flat_length h9, hl], fun k d u hd hu => ?_⟩
      have hk := (List.getElem?_eq_some_iff.1 hd).1
      rw [flat_length h9] at hk
      rw [List.getElem?_take, if_pos hk] at hu
      have hu' : cur.getD k undef = u := by
        rw [Array.getElem?_toList] at hu
        simp [Array.getD_eq_getD_getElem?, hu]
      rw [← hu']
      refine ⟨h10 k hk, own_flat (h11 k d hd) ?_⟩
      obtain ⟨x, hx, hdx⟩ := List.mem_flatMap.1 (List.mem_of_getElem? hd)
      exact flats_cells (flats_mem hf hx) d hdx
/-- .. and closed. -/
theorem own_close {w : World} {z : Nat} {xs : List D} {b c : Nat} {e : TypeId} {L T' : List Value} {T : Blk} (hr : RowIs w b e (L ++ T')) (_ : L.length = xs.length * z) (hc : (L ++ T').length = c * z) (hn : xs.length ≤ c) (hm : c ≤ maxLen) (hz : 0 < z) (hx : ∀ x ∈ xs, x.cells.length = z) (hf : flats xs = true) (hT : T b) (hs : Says (xs.flatMap D.cells) L) :
    OwnC w (.sl z xs) (.slice (some ⟨b, 0, none⟩) xs.length c) T := by
  have hget : ∀ k d, (xs.flatMap D.cells)[k]? = some d → ∃ u, L[k]? = some u ∧ (L ++ T').toArray.getD k undef = u := fun k d hd => by
    have hk := (List.getElem?_eq_some_iff.1 hd).1
    rw [hs.1] at hk
    refine ⟨L[k], List.getElem?_eq_getElem hk, ?_⟩
    have : (L ++ T')[k]? = some L[k] := by rw [List.getElem?_append_left hk]; exact List.getElem?_eq_getElem hk
    rw [Array.getD_eq_getD_getElem?, List.getElem?_toArray, this]; rfl
  refine .row (fun _ _ => False) hr (by simpa using hc) hn hm hz hT (fun _ _ h => h.elim) (fun _ _ _ h => h.elim) hx (fun k hk => ?_) (fun k d hd => ?_)
  · have hk' : k < (xs.flatMap D.cells).length := by rw [flat_length hx]; exact hk
    obtain ⟨u, h1, h2⟩ := hget k _ (List.getElem?_eq_getElem hk')
    rw [h2]
    exact hs.one u (List.mem_of_getElem? h1)
  · obtain ⟨u, h1, h2⟩ := hget k d hd
    rw [h2]
    refine .flat ?_ (hs.2 k d u hd h1).2
    obtain ⟨x, hx, hdx⟩ := List.mem_flatMap.1 (List.mem_of_getElem? hd)
    exact flats_cells (flats_mem hf hx) d hdx

theorem came_own {w w' : World} {o : Option Nat} {z : Nat} {v : Value} {L : List Value} {ds : List D} {U : Blk} (hc : Came w w' o z v L) (hs : Says (ds.flatMap D.cells) L) (hx : ∀ x ∈ ds, x.cells.length = z) (hz : 0 < z) (hf : flats ds = true) (ho : ∀ b, o = some b → U b) :
    OwnC w' (.sl z ds) v (fun x => U x ∨ (w.heap.size ≤ x ∧ x < w'.heap.size)) := by
  have hl := hs.1
  rw [flat_length hx] at hl
  rcases hc.val with ⟨rfl, rfl⟩ | ⟨b, n, c, e, T, rfl, h1, h2, h3, h4, h5, h6⟩
  · have : ds.length = 0 := by
      rcases Nat.eq_zero_or_pos ds.length with h | h
      · exact h
      · have := Nat.mul_pos h hz
        simp at hl
        omega
    obtain rfl : ds = [] := List.eq_nil_of_length_eq_zero this
    exact .nil
  · have hn : n = ds.length := Nat.eq_of_mul_eq_mul_right hz (by rw [← h2, hl])
    subst hn
    exact own_close h1 h2 h3 h4 h5 hz hx hf (h6.elim (fun h => .inl (ho b h)) (fun h => .inr ⟨h, h1.lt⟩)) hs

/-- What such a function finds, and what it has to bring about. -/
theorem rows_post [Base] {g : G} {w : World} {us : List A} {vs : Array Value} {X : D} {Y : D} {n m : Nat} (hs : Sim g (startEnv us.length us [(n, [.own X]), (m, [.own Y])]) vs w) (hn : ghostFrom ≤ n) (hm : ghostFrom ≤ m) (hnm : n ≠ m) :
    ∃ va vb Ua Ub, (∀ k, us[k]? = some (.view ⟨.cell n 0, []⟩) → vs.getD k undef = va) ∧ (∀ k, us[k]? = some (.view ⟨.cell m 0, []⟩) → vs.getD k undef = vb) ∧ OwnC w X va Ua ∧ OwnC w Y vb Ub ∧ (∀ x, Ua x → Ub x → False) ∧ (∀ x, Ua x → x < w.heap.size) ∧ (∀ x, Ub x → x < w.heap.size) ∧
      ∀ (w' : World) (v : Value) (X' : D), w'.os = w.os → w'.tape = w.tape → w'.output = w.output → w.heap.size ≤ w'.heap.size → (∀ x, x < w.heap.size → ¬ Ua x → w'.heap[x]? = w.heap[x]?) →
        OwnC w' X' v (fun x => Ua x ∨ (w.heap.size ≤ x ∧ x < w'.heap.size)) → ∃ g' Z, FnPost g (startEnv us.length us [(n, [.own X]), (m, [.own Y])]) w (.one (.own X')) [(n, [.dead]), (m, [.own Y])] v w' g' Z := by
  have hbn : (startEnv us.length us [(n, [.own X]), (m, [.own Y])]).box n = some [.own X] := by simp [startEnv, Env.box, boxGet]
  have hbm : (startEnv us.length us [(n, [.own X]), (m, [.own Y])]).box m = some [.own Y] := by
    have : m ≠ n := hnm.symm
    simp [startEnv, Env.box, boxGet, this]
  have hrn : (startEnv us.length us [(n, [.own X]), (m, [.own Y])]).root (.cell n 0) = .own X := by simp [Env.root, hbn]
  have hrm : (startEnv us.length us [(n, [.own X]), (m, [.own Y])]).root (.cell m 0) = .own Y := by simp [Env.root, hbm]
  have hln : (startEnv us.length us [(n, [.own X]), (m, [.own Y])]).ownAt ⟨.cell n 0, []⟩ = some X := by simp [Env.ownAt, hrn, D.sub]
  have hlm : (startEnv us.length us [(n, [.own X]), (m, [.own Y])]).ownAt ⟨.cell m 0, []⟩ = some Y := by simp [Env.ownAt, hrm, D.sub]
  obtain ⟨g1, va, U, s1, hca, hoa, _, hc1, hβ1, hγ1, hS1, hU⟩ := hs.vacate hln
  obtain ⟨vb, hvb, hob⟩ := hs.rootOwn hrm
  have hview : ∀ (k l : Nat) (d : D) (v : Value), (startEnv us.length us [(n, [.own X]), (m, [.own Y])]).ownAt ⟨.cell l 0, []⟩ = some d → ConcV g vs w ⟨.cell l 0, []⟩ v → us[k]? = some (.view ⟨.cell l 0, []⟩) → vs.getD k undef = v := fun k l d v hd hc hk => ((start_get hs hk) d hd).det hc
  have hslot : (⟨.cell n 0, []⟩ : Loc).root.slot = .cell n 0 := rfl
  rw [hslot] at hU
  refine ⟨va, vb, U, g.S (.cell m 0), fun k hk => hview k n X va hln hca hk, fun k hk => hview k m Y vb hlm ⟨vb, hvb, rfl⟩ hk, hoa, hob, fun x h1 h2 => ?_, fun x hx => hs.slt _ x (hU x hx), fun x hx => hs.slt _ x hx, fun w' v X' e1 e2 e3 e4 e5 e6 => ?_⟩
  · have := hs.sdis _ _ x (hU x h1) h2
    simp at this
    exact hnm this
  have hvac : ∀ b, (Env.vacate (startEnv us.length us [(n, [.own X]), (m, [.own Y])]) ⟨.cell n 0, []⟩).box b = if b = n then some [.dead] else if b = m then some [.own Y] else none := by
    intro b
    simp only [Env.vacate, Env.setRoot, hbn]
    by_cases h1 : b = n
    · subst h1; simp [Env.setBox, Env.box]
    · by_cases h2 : b = m
      · subst h2; simp [Env.setBox, Env.box, h1, startEnv, boxGet]
      · simp [Env.setBox, Env.box, h1, h2, startEnv, boxGet]
  have hret : ∀ b cs, boxGet b [(n, [.dead]), (m, [.own Y])] = some cs → (Env.vacate (startEnv us.length us [(n, [.own X]), (m, [.own Y])]) ⟨.cell n 0, []⟩).box b = some cs := by
    intro b cs h
    rw [hvac]
    simpa [boxGet] using h
  have s2 := s1.ret hret
  have hboxg : ∀ b, ((retEnv [(n, [.dead]), (m, [.own Y])]).box b).isSome = true → b = n ∨ b = m := by
    intro b h
    have h' : (boxGet b [(n, [A.dead]), (m, [A.own Y])]).isSome = true := h
    simp only [boxGet] at h'
    by_cases h1 : b = n
    · exact .inl h1
    · by_cases h2 : b = m
      · exact .inr h2
      · rw [if_neg h1, if_neg h2] at h'; cases h'
  have hghost : ∀ b, ((retEnv [(n, [.dead]), (m, [.own Y])]).box b).isSome = true → b < ghostFrom → False := by
    intro b h hb
    rcases hboxg b h with rfl | rfl <;> omega
  have hmine : ∀ x, Mine g1 (retEnv [(n, [.dead]), (m, [.own Y])]) x → (∃ s, g.S s x) ∧ ¬ U x := by
    rintro x (⟨s, hx⟩ | ⟨b, hb, hlt, _⟩)
    · exact ⟨⟨s, (hS1 s x hx).1⟩, (hS1 s x hx).2⟩
    · exact (hghost b hb hlt).elim
  have hcU : ∀ x o v, g.c x o = some v → ¬ U x := fun x o v hv hx => (hs.cdis x o v hv).1 _ (hU x hx)
  have s3 := s2.world e4 (fun x hx hor => e5 x hx (by
    rcases hor with h | ⟨o, v, h⟩
    · exact (hmine x h).2
    · rw [hc1] at h; exact hcU x o v h))
  have hT : FreeB g1 (retEnv [(n, [.dead]), (m, [.own Y])]) w' (fun x => U x ∨ (w.heap.size ≤ x ∧ x < w'.heap.size)) := by
    refine ⟨fun s x hx hS => ?_, fun x b hx hb hlt => (hghost b hb hlt).elim, fun x hx => ?_, fun x o v hx hv => ?_⟩
    · rcases hx with hx | hx
      · exact (hS1 s x hS).2 hx
      · have := hs.slt s x (hS1 s x hS).1; omega
    · rcases hx with hx | hx
      · exact Nat.lt_of_lt_of_le (hs.slt _ x (hU x hx)) e4
      · exact hx.2
    · rw [hc1] at hv
      rcases hx with hx | hx
      · exact hcU x o v hv hx
      · exact mem_lt hs.cmem hv hx.1
  refine ⟨g1, fun k => if k = 0 then (fun x => U x ∨ (w.heap.size ≤ x ∧ x < w'.heap.size)) else fun _ => False, s3, ?_, hT.free, ?_, fun k x hx => ?_⟩
  · show OwnC w' X' v _
    simpa using e6
  · refine ⟨e1, e2, e3, e4, fun x hx hm => e5 x hx (fun hu => hm (.inl ⟨_, hU x hu⟩)), fun x hx => .inl (.inl (hmine x hx).1), by rw [hc1]; exact fun _ _ _ h => h, fun b o v h => .inl (by rw [hc1] at h; exact h), fun _ _ => by rw [hβ1, hγ1]; exact ⟨rfl, rfl⟩⟩
  · by_cases hk : k = 0
    · subst hk
      rcases (by simpa using hx : U x ∨ (w.heap.size ≤ x ∧ x < w'.heap.size)) with h | h
      · exact .inl (.inl ⟨_, hU x h⟩)
      · exact .inr h.1
    · rw [if_neg hk] at hx; exact hx.elim
end Go.Qz
