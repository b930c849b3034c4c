/- The evaluator of the claim and what it says, part Qs0 (several texts in one). -/
import Derived.Test.YtfikcfndmbcaoaaDoorQo0
import Derived.Test.YtfikcfndmbcaoaaDoorQr0
import Derived.Test.YtfikcfndmbcaoaaDoorQm0
/- What comes by contract, proved. -/
namespace Go.Qz
open Go.Proofs Go.RowKit

theorem mixed : Tryd.prog.follows .mixedOrders = true := by kernel_rfl
theorem noGo : (Tryd.prog.funcs.all fun fn => !(fn.name == "runtime.NumGoroutine")) = true := by kernel_rfl
theorem noName (f : FuncId) (fn : Func) (hf : Tryd.prog.funcs[f]? = some fn) : fn.name ≠ "runtime.NumGoroutine" := fun hn => by
  have h := Array.all_eq_true_iff_forall_mem.1 noGo fn (Array.mem_of_getElem? hf)
  rw [hn] at h
  exact absurd h (by decide)
theorem hasBody {f : FuncId} {fn : Func} (hf : Tryd.prog.funcs[f]? = some fn) (hb : fn.body.isSome = true) : HasBody Tryd.prog f := ⟨fn, hf, hb, noName f fn hf⟩
theorem below_drewN {w : World} (n : Nat) : Below w.heap.size w (w.drewN n) := ⟨rfl, rfl, rfl, Nat.le_refl _, fun _ _ => rfl⟩
theorem cell_at [Base] {g : G} {e : Env} {tm : Array Value} {w : World} (hs : Sim g e tm w) {x : Nat} {v : Value} (h : Base.W0.cell? ⟨x, 0, none⟩ = some v) : w.cell? ⟨x, 0, none⟩ = some v := by
  have hf := hs.fix x v h
  unfold World.cell? at h ⊢
  rw [hf]
  exact h

/-- What the start holds: the longest needle. -/
structure Start (W : World) : Prop where
  maxLen : ∃ m : Int, W.cell? ⟨1, 0, none⟩ = some (.int .i64 m)

theorem own_strs (w : World) (l : List ByteArray) (N : Nat) (hl : l.length ≤ N) (hN : N ≤ maxLen) :
    OwnC (w.alloc (.cells (Lib.cellsOf l N) 9)) (.sl 1 (l.map .str)) (.slice (some ⟨w.heap.size, 0, none⟩) l.length N) (fun x => x = w.heap.size) := by
  have hsz := Lib.cellsOf_size hl
  have hget : ∀ m (hm : m < l.length), (Lib.cellsOf l N).getD m undef = .string l[m] := by
    intro m hm
    have : (Lib.cellsOf l N)[m]? = some (.string l[m]) := by
      unfold Lib.cellsOf
      rw [List.getElem?_toArray, List.getElem?_append_left (by simpa using hm)]
      simp [hm]
    simp [Array.getD_eq_getD_getElem?, this]
  have hfm : (l.map D.str).flatMap D.cells = l.map D.str := by
    induction l with
    | nil => rfl
    | cons x l ih =>
      rw [List.map_cons, List.flatMap_cons]
      clear hget hsz
      have : List.flatMap D.cells (List.map D.str l) = List.map D.str l := by
        clear ih hl
        induction l with
        | nil => rfl
        | cons y l ih => rw [List.map_cons, List.flatMap_cons, ih]; rfl
      rw [this]; rfl
  have := @OwnC.row (w.alloc (.cells (Lib.cellsOf l N) 9)) 1 (l.map .str) w.heap.size N 9 (Lib.cellsOf l N) (fun x => x = w.heap.size) (fun _ _ => False)
    (by show (w.heap.push _)[w.heap.size]? = _; simp) (by rw [hsz]; omega) (by simpa using hl) hN (by omega) rfl (fun _ _ h => h.elim) (fun _ _ _ h => h.elim)
    (fun x hx => by
      obtain ⟨y, _, rfl⟩ := List.mem_map.1 hx
      rfl)
    (fun m hm => by
      rw [hget m (by simpa using hm)]; rfl)
    (fun m d hd => by
      rw [hfm, List.getElem?_map] at hd
      cases hlm : l[m]? with
      | none => rw [hlm] at hd; cases hd
      | some y =>
        rw [hlm] at hd
        obtain rfl := Option.some.inj hd
        obtain ⟨hm, rfl⟩ := List.getElem?_eq_some_iff.1 hlm
        rw [hget m hm]
        exact .flat rfl (.str _))
  simpa using this

theorem XG_sound [Base] (hT : Start Base.W0) : CallSound Tryd.prog XG := by
  intro f us bx r bx' h
  unfold XG at h
  split at h
  · rename_i hf
    subst hf
    split at h
    · rename_i s t
      split at h
      · rename_i hc
        simp only [Option.some.injEq, Prod.mk.injEq] at h
        obtain ⟨rfl, rfl⟩ := h
        refine ⟨hasBody Tryd.func87 (by kernel_rfl), fun g w vs hsz hs => ?_⟩
        have e := start_vals (ds := [.str s, .str t]) hs hsz rfl
        obtain ⟨m, hm⟩ := hT.maxLen
        have hm' : w.cell? ⟨1, 0, none⟩ = some (.int .i64 m) := cell_at hs hm
        subst e
        refine (Tryd.strings_Cut s t m w hc hm').mono ?_
        rintro en w' ⟨rfl, k, rfl⟩
        exact ⟨_, rfl, g, _, pure_post hs (below_drewN k) (hold_tup (ds := [.str _, .str _, .bool _]) rfl g _)⟩
      · cases h
    · cases h
  · split at h
    · rename_i hf
      subst hf
      split at h
      · rename_i s t n
        split at h
        · rename_i hc
          simp only [Bool.and_eq_true, decide_eq_true_eq] at hc
          obtain ⟨⟨⟨h1, h2⟩, h3⟩, h4⟩ := hc
          simp only [Option.some.injEq, Prod.mk.injEq] at h
          obtain ⟨rfl, rfl⟩ := h
          obtain ⟨k, rfl⟩ : ∃ k : Nat, n = k := ⟨n.toNat, by omega⟩
          simp only [Int.toNat_natCast]
          refine ⟨hasBody Tryd.func79 (by kernel_rfl), fun g w vs hsz hs => ?_⟩
          have e := start_vals (ds := [.str s, .str t, .int .i64 k]) hs hsz rfl
          obtain ⟨m, hm⟩ := hT.maxLen
          have hm' : w.cell? ⟨1, 0, none⟩ = some (.int .i64 m) := cell_at hs hm
          subst e
          refine (Tryd.strings_SplitN s t k m w h1 hm' h2 (by omega) (by omega)).mono ?_
          rintro en w' ⟨rfl, rfl⟩
          have hle := Lib.splitB_length_le t 0 (min k (s.size + 1) - 1) s
          have ho := own_strs w (Lib.splitB t 0 (min k (s.size + 1) - 1) s) (min k (s.size + 1)) (by omega) (by unfold maxLen; omega)
          refine ⟨_, rfl, g, fun j x => j = 0 ∧ x = w.heap.size, own_post hs ((Below.refl _ _).alloc (Nat.le_refl _) _) ?_ (fun j x hx => ?_) (fun j j' x hx hx' => by rw [hx.1, hx'.1])⟩
          · show OwnC _ _ _ _
            have e : (fun x => (0 : Nat) = 0 ∧ x = w.heap.size) = (fun x => x = w.heap.size) := by funext x; simp
            rw [← e] at ho
            exact ho
          · obtain ⟨rfl, rfl⟩ := hx
            refine ⟨Nat.le_refl _, ?_⟩
            show w.heap.size < (w.heap.push _).size
            simp
        · cases h
      · cases h
    · cases h
theorem sound [Base] (hT : Start Base.W0) : CallSound Tryd.prog C := callLim_sound mixed (XG_sound hT) noName
end Go.Qz
