/- The evaluator of the claim and what it says, part Qs0 (several texts in one). -/
import Derived.Test.YtfikcfndmbcaoaaDoorQo0
import Derived.Test.YtfikcfndmbcaoaaDoorQr0
import Derived.Test.YtfikcfndmbcaoaaDoorQm0
/- What comes by contract, proved. -/
namespace Go.Qz
open Go.Proofs Go.RowKit Go.Sort

theorem mixed : Tryd.prog.follows .mixedOrders = true := by kernel_rfl
theorem noGo : (Tryd.prog.funcs.all fun fn => !(fn.name == "runtime.NumGoroutine")) = true := by kernel_rfl
theorem noName (f : FuncId) (fn : Func) (hf : Tryd.prog.funcs[f]? = some fn) : fn.name ≠ "runtime.NumGoroutine" := fun hn => by
  have h := Array.all_eq_true_iff_forall_mem.1 noGo fn (Array.mem_of_getElem? hf)
  rw [hn] at h
  exact absurd h (by decide)
theorem hasBody {f : FuncId} {fn : Func} (hf : Tryd.prog.funcs[f]? = some fn) (hb : fn.body.isSome = true) : HasBody Tryd.prog f := ⟨fn, hf, hb, noName f fn hf⟩

theorem below_grow {w : World} (k : Nat) (os : Array Obj) : Below w.heap.size w (grow (w.drewN k) os) where
  os := rfl
  tape := rfl
  output := rfl
  size := by show w.heap.size ≤ (w.heap ++ os).size; rw [Array.size_append]; omega
  block := fun x hx => by
    show (w.heap ++ os)[x]? = w.heap[x]?
    rw [Array.getElem?_append_left hx]

/-- A table that was laid at the start is there. -/
theorem tab_at [Base] {P : Program} {g : G} {e : Env} {tm : Array Value} {w : World} (hs : Sim g e tm w) {name : String} {k : IntKind} {zs : List Int} (hz : zs ≠ []) (h : Lib.TabIs P Base.W0 name k zs) : Lib.TabIs P w name k zs := by
  unfold Lib.TabIs World.var? at h ⊢
  cases hg : P.globalNamed name with
  | none => rw [hg] at h; cases h
  | some x =>
    rw [hg] at h
    simp only [Option.bind_some] at h ⊢
    split at h
    · rename_i cs el fz hc
      obtain rfl := Option.some.inj h
      have hne : 0 < (zs.map fun z => Value.int k z).toArray.size := by
        cases zs with
        | nil => exact absurd rfl hz
        | cons z r => simp
      have hcell : Base.W0.cell? ⟨x, 0, none⟩ = some ((zs.map fun z => Value.int k z).toArray[0]) := by
        simp only [World.cell?, hc]
        simp [hne]
      rw [hs.fix x _ hcell, hc]
    · cases h

theorem XD_sound [Base] (hT : Lib.TabIs Tryd.prog Base.W0 "internal/strconv.uint64pow10" .u64 Lib.pow10Tab) : CallSound Tryd.prog XD := by
  intro f us bx r bx' h
  unfold XD at h
  split at h
  · rename_i hf
    subst hf
    split at h
    · rename_i n m a0 a1
      split at h
      · rename_i hc
        simp only [Bool.and_eq_true, decide_eq_true_eq] at hc
        obtain ⟨rfl, hn⟩ := hc
        split at h
        · rename_i t
          split at h
          · rename_i ht
            subst ht
            simp only [Option.some.injEq, Prod.mk.injEq] at h
            obtain ⟨rfl, rfl⟩ := h
            exact copy_fresh (hasBody Tryd.func62 (by kernel_rfl)) hn (fun b w h0 h1 h2 => Tryd.copyCheck_fresh b w h0 h1 h2)
          · cases h
        · simp only [Option.some.injEq, Prod.mk.injEq] at h
          obtain ⟨rfl, rfl⟩ := h
          exact copy_used (hasBody Tryd.func62 (by kernel_rfl)) hn (fun b w h0 => Tryd.copyCheck_used b w h0)
        · cases h
      · cases h
    · cases h
  · split at h
    · rename_i hf
      subst hf
      split at h
      · rename_i n m a0 u s
        split at h
        · rename_i hc
          simp only [Bool.and_eq_true, decide_eq_true_eq] at hc
          obtain ⟨⟨rfl, rfl⟩, hn⟩ := hc
          simp only [Option.some.injEq, Prod.mk.injEq] at h
          obtain ⟨rfl, rfl⟩ := h
          exact builder_string (hasBody Tryd.func31 (by kernel_rfl)) hn (fun b p v tag w h0 h1 => string_any Tryd.lays169 Tryd.Builder_Extra_169 b s p v tag w h0 h1)
        · cases h
      · cases h
    · split at h
      · rename_i hf
        subst hf
        split at h
        · rename_i n
          split at h
          · rename_i hc
            simp only [Bool.and_eq_true, decide_eq_true_eq] at hc
            simp only [Option.some.injEq, Prod.mk.injEq] at h
            obtain ⟨rfl, rfl⟩ := h
            refine ⟨hasBody Tryd.func30 (by kernel_rfl), fun g w vs hsz hs => ?_⟩
            have e := start_vals (ds := [.int .i64 n]) hs hsz rfl
            have ht := tab_at hs (by decide) hT
            subst e
            refine (Tryd.strconv_Itoa n hc.1 hc.2 w ht).mono ?_
            rintro en w' ⟨rfl, k, os, rfl⟩
            exact ⟨_, rfl, g, _, pure_post hs (below_grow k os) (RO.str _)⟩
          · cases h
        · cases h
      · cases h
theorem sound [Base] (hT : Lib.TabIs Tryd.prog Base.W0 "internal/strconv.uint64pow10" .u64 Lib.pow10Tab) : CallSound Tryd.prog C := callLim_sound mixed (XD_sound hT) noName
end Go.Qz
