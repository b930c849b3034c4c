/- The evaluator of the claim and what it says, part Qg0 (several texts in one). -/
import Derived.Test.YtikdjbagodebiaaQd0
import Derived.Laws.CopyRow
import Derived.Lib.AppendZerosOnto
/- Rows of cells in memory, as lists: copy, append, clear. -/
namespace Go.Qz
variable {P : Program}

/-- A block is a row of just these cells. -/
def RowIs (w : World) (b : Nat) (e : TypeId) (L : List Value) : Prop := w.heap[b]? = some (.cells L.toArray e (0, 0))

theorem RowIs.cell {w : World} {b : Nat} {e : TypeId} {L : List Value} (h : RowIs w b e L) (j : Nat) : w.cell? ⟨b, j, none⟩ = L[j]? := by
  unfold RowIs at h
  simp [World.cell?, h]
theorem RowIs.add {w : World} {b : Nat} {e : TypeId} {L : List Value} (h : RowIs w b e L) (o j : Nat) : w.cell? ((⟨b, o, none⟩ : Addr).add j) = L[o + j]? := by
  rw [Addr.add_lit, h.cell]
theorem RowIs.set {w : World} {b : Nat} {e : TypeId} {L : List Value} (h : RowIs w b e L) (L' : List Value) : RowIs (w.setRow b L'.toArray) b e L' := setRow_heap w b _ _ e _ h
theorem RowIs.other {w : World} {b b' : Nat} {e : TypeId} {L : List Value} (h : RowIs w b e L) (L' : List Value) (hb : b ≠ b') : RowIs (w.setRow b' L'.toArray) b e L := by
  unfold RowIs
  rw [setRow_other _ _ _ _ hb]
  exact h
theorem RowIs.drew {w : World} {b : Nat} {e : TypeId} {L : List Value} (h : RowIs w b e L) : RowIs w.drew b e L := h
theorem RowIs.lt {w : World} {b : Nat} {e : TypeId} {L : List Value} (h : RowIs w b e L) : b < w.heap.size := (Array.getElem?_eq_some_iff.1 h).1
theorem RowIs.alloc {w : World} {b : Nat} {e : TypeId} {L : List Value} (h : RowIs w b e L) (o : Obj) : RowIs (w.alloc o) b e L := by
  unfold RowIs World.alloc
  simp only [Array.getElem?_push, Nat.ne_of_lt h.lt, if_false]
  exact h
theorem RowIs.new (w : World) (e : TypeId) (A : Array Value) : RowIs (w.alloc (.cells A e)) w.heap.size e A.toList := by
  unfold RowIs World.alloc
  simp
theorem RowIs.store {w : World} {b : Nat} {e : TypeId} {L : List Value} (h : RowIs w b e L) {o : Nat} {vs : List Value} (hf : o + vs.length ≤ L.length) (h1 : ∀ v ∈ vs, v.oneCell' = true) :
    (storeCells ⟨b, o, none⟩ vs).run P w = .ok () (w.setRow b (L.take o ++ vs ++ L.drop (o + vs.length)).toArray) := by
  have := run_storeCells_at P b o e vs 0 L.toArray w h (by simpa using hf) h1
  simpa using this

/-- What is copied, or appended: n elements, the cells 'cs'. -/
structure From (P : Program) (z : Nat) (t : TypeId) (x : Value) (n : Nat) (cs : List Value) (w : World) : Prop where
  kind : ∃ e, P.underlying t = some (.slice e)
  len : ∀ w' : World, (Builtin.lenOf x).run P w' = .ok n w'
  cells : (Builtin.firstCells z n x).run P w = .ok cs.toArray w
  cellsD : (Builtin.firstCells z n x).run P w.drew = .ok cs.toArray w.drew
  count : cs.length = n * z
  one : ∀ u ∈ cs, u.oneCell' = true
theorem From.src {z : Nat} {t : TypeId} {x : Value} {n : Nat} {cs : List Value} {w : World} (h : From P z t x n cs w) : Src P z t x n cs w := ⟨.inl h.kind, h.len, h.cells, h.cellsD, h.count, h.one⟩
theorem From.of {z : Nat} {t e : TypeId} (hk : P.underlying t = some (.slice e)) {a : Option Addr} {n c : Nat} {cs : List Value} {w : World} (hl : cs.length = n * z) (hn : a = none → n = 0) (hc : ∀ b, a = some b → ∀ j u, cs[j]? = some u → w.cell? (b.add j) = some u)
    (h1 : ∀ u ∈ cs, u.oneCell' = true) : From P z t (.slice a n c) n cs w := by
  cases a with
  | none =>
    obtain rfl := hn rfl
    obtain rfl : cs = [] := List.eq_nil_of_length_eq_zero (by simpa using hl)
    exact ⟨⟨e, hk⟩, fun _ => rfl, run_firstCells_none w z 0 0 c, run_firstCells_none w.drew z 0 0 c, by simp, fun _ h => by cases h⟩
  | some b => exact ⟨⟨e, hk⟩, fun _ => rfl, run_firstCells_some w z n b n c cs hl (hc b rfl), run_firstCells_some w.drew z n b n c cs hl (by simpa using hc b rfl), hl, h1⟩
/-- A part of a row. -/
theorem From.row {z : Nat} {t e' : TypeId} (hk : P.underlying t = some (.slice e')) {w : World} {b : Nat} {e : TypeId} {L : List Value} (h : RowIs w b e L) {o n c : Nat} (ho : o + n * z ≤ L.length) (h1 : ∀ u ∈ (L.drop o).take (n * z), u.oneCell' = true) :
    From P z t (.slice (some ⟨b, o, none⟩) n c) n ((L.drop o).take (n * z)) w :=
  .of hk (by simp; omega) (fun h => by cases h) (fun b' hb j u hu => by
    cases hb
    rw [h.add, ← hu, List.getElem?_take, List.getElem?_drop]
    have := (List.getElem?_eq_some_iff.1 hu).1
    simp at this
    rw [if_pos (by omega)]) h1

theorem copy_row {w : World} {dT t ty elem : TypeId} {i : TypeInfo} {z b o dLen dCap : Nat} {L : List Value} {e : TypeId} {x : Value} {n : Nat} {cs : List Value} (hu : P.underlying dT = some (.slice elem)) (hi : P.info? elem = some i) (hz : i.size = z) (hg : RowIs w b e L)
    (hs : From P z t x n cs w) (hn : n ≤ dLen) (hf : o + cs.length ≤ L.length) :
    (Builtin.copy_ #[dT, t] ty #[.slice (some ⟨b, o, none⟩) dLen dCap, x]).run P w = .ok (goInt n) (w.setRow b (L.take o ++ cs ++ L.drop (o + cs.length)).toArray) := by
  have hst := hg.store (P := P) hf hs.one
  have hm : Nat.min n dLen = n := Nat.min_eq_left hn
  subst hz
  simp [Builtin.copy_, run_underlying hu, hs.len, sizeOf, typeInfo, hi, hm, hs.cells, hst]

/-- More stands there than there is room for. -/
theorem copy_head {w : World} {dT t ty elem e' : TypeId} {i : TypeInfo} {z b o n dCap sLen sCap o' : Nat} {L : List Value} {e : TypeId} {cs : List Value} (hu : P.underlying dT = some (.slice elem)) (_ : P.underlying t = some (.slice e')) (hi : P.info? elem = some i) (hz : i.size = z) (hg : RowIs w b e L)
    (hl : cs.length = n * z) (hc : ∀ j u, cs[j]? = some u → L[o' + j]? = some u) (h1 : ∀ u ∈ cs, u.oneCell' = true) (hn : n ≤ sLen) (hf : o + cs.length ≤ L.length) :
    (Builtin.copy_ #[dT, t] ty #[.slice (some ⟨b, o, none⟩) n dCap, .slice (some ⟨b, o', none⟩) sLen sCap]).run P w = .ok (goInt n) (w.setRow b (L.take o ++ cs ++ L.drop (o + cs.length)).toArray) := by
  have hst := hg.store (P := P) hf h1
  have hm : Nat.min sLen n = n := Nat.min_eq_right hn
  have hfc := run_firstCells_some (P := P) w z n ⟨b, o', none⟩ sLen sCap cs hl (fun j u hj => by rw [hg.add]; exact hc j u hj)
  subst hz
  simp only [Builtin.copy_, sizeOf, typeInfo, Builtin.lenOf]
  simp [run_underlying hu, hi, hm, hfc, hst]

theorem clear_row {w : World} {t ty elem : TypeId} {i : TypeInfo} {v : Value} {z b o n c : Nat} {L : List Value} {e : TypeId} (hu : P.underlying t = some (.slice elem)) (hi : P.info? elem = some i) (hv : i.zero = some v) (hz : v.cells.size = z) (h1 : ∀ u ∈ v.cells, u.oneCell' = true) (h0 : 0 < z) (hn : 0 < n) (hg : RowIs w b e L) (hf : o + n * z ≤ L.length) :
    ∃ vs : List Value, vs.length = n * z ∧ (Builtin.clear_ #[t] ty #[.slice (some ⟨b, o, none⟩) n c]).run P w = .ok (.tuple #[]) (w.setRow b (L.take o ++ vs ++ L.drop (o + vs.length)).toArray) := by
  subst hz
  have hl : (Builtin.zeroCells v.cells n).toList.length = n * v.cells.size := by simp [Builtin.zeroCells]
  have hone : ∀ u ∈ (Builtin.zeroCells v.cells n).toList, u.oneCell' = true := by
    intro u hu
    simp only [Builtin.zeroCells, Array.toList_map, List.mem_map] at hu
    obtain ⟨k, _, rfl⟩ := hu
    have hk : k % v.cells.size < v.cells.size := Nat.mod_lt _ h0
    rw [getElem!_pos v.cells _ hk]
    exact h1 _ (Array.getElem_mem hk)
  have hst := hg.store (P := P) (o := o) (by omega) hone
  refine ⟨_, hl, ?_⟩
  obtain ⟨m, rfl⟩ : ∃ m, n = m + 1 := ⟨n - 1, by omega⟩
  simp [Builtin.clear_, run_underlying hu, zeroValue, typeInfo, hi, hv, hst]

theorem append_room {w : World} {t tx ty elem : TypeId} {i : TypeInfo} {z b n c : Nat} {L : List Value} {e : TypeId} {x : Value} {m : Nat} {cs : List Value} (hu : P.underlying t = some (.slice elem)) (hi : P.info? elem = some i) (hz : i.size = z) (hg : RowIs w b e L)
    (hs : From P z tx x m cs w) (hr : n + m ≤ c) (hf : n * z + cs.length ≤ L.length) :
    (Builtin.append_ #[t, tx] ty #[.slice (some ⟨b, 0, none⟩) n c, x]).run P w = .ok (.slice (some ⟨b, 0, none⟩) (n + m) c) (w.setRow b (L.take (n * z) ++ cs ++ L.drop (n * z + cs.length)).toArray) := by
  have hst := hg.store (P := P) hf hs.one
  obtain ⟨e', hk⟩ := hs.kind
  subst hz
  simp [Builtin.append_, run_underlying hu, run_underlying hk, sizeOf, typeInfo, hi, hs.len, hr, hs.cells, Addr.add_lit, hst]

/-- All but one block, and what is new, is as it was. -/
structure Turns (w w' : World) (o : Option Nat) : Prop where
  os : w'.os = w.os
  tape : w'.tape = w.tape
  output : w'.output = w.output
  size : w.heap.size ≤ w'.heap.size
  old : ∀ x, x < w.heap.size → o ≠ some x → w'.heap[x]? = w.heap[x]?
theorem Turns.refl (w : World) (o : Option Nat) : Turns w w o := ⟨rfl, rfl, rfl, Nat.le_refl _, fun _ _ _ => rfl⟩
theorem Turns.drew {w w' : World} {o : Option Nat} (h : Turns w w' o) : Turns w w'.drew o := ⟨h.os, h.tape, h.output, h.size, h.old⟩
theorem Turns.set {w w' : World} {o : Option Nat} (h : Turns w w' o) {b : Nat} (L : List Value) (hb : o = some b ∨ w.heap.size ≤ b) : Turns w (w'.setRow b L.toArray) o where
  os := h.os
  tape := h.tape
  output := h.output
  size := by
    have : (w'.setRow b L.toArray).heap.size = w'.heap.size := by simp [World.setRow]
    rw [this]; exact h.size
  old := fun x hx hn => by
    rw [setRow_other _ _ _ _ (fun e => by
      subst e
      rcases hb with rfl | hb
      · exact hn rfl
      · omega)]
    exact h.old x hx hn
theorem Turns.alloc {w w' : World} {o : Option Nat} (h : Turns w w' o) (x : Obj) : Turns w (w'.alloc x) o where
  os := h.os
  tape := h.tape
  output := h.output
  size := by
    have : (w'.heap.push x).size = w'.heap.size + 1 := by simp
    show _ ≤ (w'.heap.push x).size
    rw [this]; have := h.size; omega
  old := fun k hk hn => by
    have h1 := h.size
    have : (w'.heap.push x)[k]? = w'.heap[k]? := by simp [Array.getElem?_push, Nat.ne_of_lt (Nat.lt_of_lt_of_le hk h1)]
    show (w'.heap.push x)[k]? = _
    rw [this]; exact h.old k hk hn

/-- What came of rows: a row of just these cells, in a block of its own or in that of the first, and all else as it was. -/
structure Came (w w' : World) (o : Option Nat) (z : Nat) (v : Value) (L : List Value) : Prop where
  turns : Turns w w' o
  val : (v = .slice none 0 0 ∧ L = []) ∨ ∃ b n c e T, v = .slice (some ⟨b, 0, none⟩) n c ∧ RowIs w' b e (L ++ T) ∧ L.length = n * z ∧ (L ++ T).length = c * z ∧ n ≤ c ∧ c ≤ maxLen ∧ (o = some b ∨ w.heap.size ≤ b)

theorem splice {A B cs : List Value} {o : Nat} (h : A.length = o) : (A ++ B).take o ++ cs ++ (A ++ B).drop (o + cs.length) = A ++ cs ++ B.drop cs.length := by
  subst h
  simp [List.drop_append]

theorem append_grow {w : World} {t tx elem : TypeId} {i : TypeInfo} {v : Value} {z n c : Nat} {base : Option Addr} {olds : List Value} {x : Value} {m : Nat} {cs : List Value} (hu : P.underlying t = some (.slice elem)) (hi : P.info? elem = some i) (hv : i.zero = some v) (hz : i.size = z) (hvz : v.cells.size = z)
    (ho : From P z t (.slice base n c) n olds w) (hs : From P z tx x m cs w) (hr : c < n + m) (hb : (n + m) * i.bytes ≤ 140737488355328) (hb2 : n + m ≤ maxLen) :
    ∃ c' T, n + m ≤ c' ∧ c' ≤ maxLen ∧ (olds ++ cs ++ T).length = c' * z ∧ ∀ ty, (Builtin.append_ #[t, tx] ty #[.slice base n c, x]).run P w = .ok (.slice (some ⟨w.heap.size, 0, none⟩) (n + m) c') (w.drew.alloc (.cells (olds ++ cs ++ T).toArray elem)) := by
  subst hz
  refine ⟨grownCap w (n + m) c elem, (Builtin.zeroCells v.cells (grownCap w (n + m) c elem - (n + m))).toList, grownCap_ge _ _ _ _, grownCap_le_maxLen _ _ _ _ hb2, ?_, fun ty => ?_⟩
  · have hge := grownCap_ge w (n + m) c elem
    have hc := ho.count
    have hc2 := hs.count
    simp only [List.length_append, hc, hc2, Array.length_toList, Builtin.zeroCells, Array.size_map, Array.size_range, hvz]
    rw [← Nat.add_mul, ← Nat.add_mul]
    congr 1
    omega
  · rw [run_append_grow_src w t tx ty elem i v hu hi hv base n c olds (by simpa using ho.cellsD) x m cs hs.src hr (by unfold maxLen at hb2; omega) (growslice_fits hr hb)]
    congr 3
    apply Array.ext'
    simp

theorem append_zeros {w : World} {t tn elem : TypeId} {kn : IntKind} {i : TypeInfo} {v : Value} {z n c : Nat} {base : Option Addr} {olds : List Value} {k : Nat} (hu : P.underlying t = some (.slice elem)) (hn : P.underlying tn = some (.int kn)) (hi : P.info? elem = some i) (hv : i.zero = some v) (hz : i.size = z) (hvz : v.cells.size = z) (h0 : 0 < z)
    (ho : From P z t (.slice base n c) n olds w) (hk : 0 < k) (hr : c < n + k) (hb : (n + k) * i.bytes ≤ 140737488355328) (hb2 : n + k ≤ maxLen) :
    ∃ c' T, n + k ≤ c' ∧ c' ≤ maxLen ∧ (olds ++ T).length = c' * z ∧ ∀ ty, (Builtin.append_ #[t, tn] ty #[.slice base n c, .int .i64 k]).run P w = .ok (.slice (some ⟨w.heap.size, 0, none⟩) (n + k) c') (w.drew.alloc (.cells (olds ++ T).toArray elem)) := by
  subst hz
  have hge := grownCap_ge w (n + k) c elem
  have hkb : k * i.bytes ≤ (n + k) * i.bytes := Nat.mul_le_mul_right _ (by omega)
  refine ⟨grownCap w (n + k) c elem, (Builtin.zeroCells v.cells k).toList ++ (Builtin.zeroCells v.cells (grownCap w (n + k) c elem - (n + k))).toList, hge, grownCap_le_maxLen _ _ _ _ hb2, ?_, fun ty => ?_⟩
  · have hc := ho.count
    simp only [List.length_append, hc, Array.length_toList, Builtin.zeroCells, Array.size_map, Array.size_range, hvz]
    rw [← Nat.add_mul, ← Nat.add_mul]
    congr 1
    omega
  · rw [Lib.run_append_grow_zeros w t tn ty elem i v .i64 kn hu hn hi hv base n c olds (by simpa using ho.cellsD) k hk h0 hr (by unfold maxLen at hb2; omega) (by omega) (growslice_fits hr hb)]
    congr 3
    apply Array.ext'
    simp

end Go.Qz
