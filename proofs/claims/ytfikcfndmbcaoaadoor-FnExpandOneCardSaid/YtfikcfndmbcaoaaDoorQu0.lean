/- The evaluator of the claim and what it says, part Qu0 (several texts in one). -/
import Derived.Test.YtfikcfndmbcaoaaDoorQo0
import Derived.Test.YtfikcfndmbcaoaaDoorQr0
import Derived.Test.YtfikcfndmbcaoaaDoorQp0
import Derived.Test.YtfikcfndmbcaoaaDoorQt0
import Derived.Test.YtfikcfndmbcaoaaDoorQm0
/- What comes by contract, proved. -/
namespace Go.Qz
open Go.Proofs Go.RowKit

theorem mixed : Tryd.prog.follows .mixedOrders = true := by kernel_rfl
theorem noGo : (Tryd.prog.funcs.all fun fn => !(fn.name == "runtime.NumGoroutine")) = true := by kernel_rfl
theorem noName (f : FuncId) (fn : Func) (hf : Tryd.prog.funcs[f]? = some fn) : fn.name ≠ "runtime.NumGoroutine" := fun hn => by
  have h := Array.all_eq_true_iff_forall_mem.1 noGo fn (Array.mem_of_getElem? hf)
  rw [hn] at h
  exact absurd h (by decide)
theorem hasBody {f : FuncId} {fn : Func} (hf : Tryd.prog.funcs[f]? = some fn) (hb : fn.body.isSome = true) : HasBody Tryd.prog f := ⟨fn, hf, hb, noName f fn hf⟩

theorem RO.take {c : Mem} {z k cap : Nat} {xs : List D} {a : Option Addr} (h : RO c (.sl z xs) (.slice a xs.length cap)) (hk : k ≤ xs.length) : RO c (.sl z (xs.take k)) (.slice a k cap) := by
  obtain ⟨a', cap', e1, h1, h2⟩ := h.sl_inv
  cases e1
  by_cases hx : xs = []
  · subst hx
    obtain rfl : k = 0 := by simpa using hk
    exact .sl0
  · obtain ⟨b, off, u, rfl, h3, h4, h5⟩ := h2 hx
    have hlen : (xs.take k).length = k := by rw [List.length_take]; omega
    have := @RO.sl c z (xs.take k) b off cap u (by omega) (fun x hx => h3 x (List.mem_of_mem_take hx)) (fun m hm => h4 m (Nat.lt_of_lt_of_le hm (Nat.mul_le_mul_right _ (by omega)))) (fun m d hd => h5 m d (flat_take h3 hk hd))
    rw [hlen] at this
    exact this

theorem below_drewN {w : World} (n : Nat) : Below w.heap.size w (w.drewN n) := ⟨rfl, rfl, rfl, Nat.le_refl _, fun _ _ => rfl⟩

theorem cell_at [Base] {g : G} {e : Env} {tm : Array Value} {w : World} (hs : Sim g e tm w) {x : Nat} {v : Value} (h : Base.W0.cell? ⟨x, 0, none⟩ = some v) : w.cell? ⟨x, 0, none⟩ = some v := by
  have hf := hs.fix x v h
  unfold World.cell? at h ⊢
  rw [hf]
  exact h

/-- What the start holds: the longest needle, the type 'error'. -/
structure Start (W : World) : Prop where
  maxLen : ∃ m : Int, W.cell? ⟨1, 0, none⟩ = some (.int .i64 m)
  error : W.cell? ⟨0, 0, none⟩ = some (.iface 150 (.agg #[hnd 58]))

theorem XE_sound [Base] (hT : Start Base.W0) : CallSound Tryd.prog XE := by
  intro f us bx r bx' h
  unfold XE at h
  split at h
  · rename_i hf
    subst hf
    split at h
    · rename_i s t
      split at h
      · rename_i hc
        simp only [Option.some.injEq, Prod.mk.injEq] at h
        obtain ⟨rfl, rfl⟩ := h
        refine ⟨hasBody Tryd.func68 (by kernel_rfl), fun g w vs hsz hs => ?_⟩
        have e := start_vals (ds := [.str s, .str t]) hs hsz rfl
        obtain ⟨m, hm⟩ := hT.maxLen
        have hm' : w.cell? ⟨1, 0, none⟩ = some (.int .i64 m) := cell_at hs hm
        subst e
        refine (Tryd.strings_Index s t m w hc hm').mono ?_
        rintro en w' ⟨rfl, rfl⟩
        exact ⟨_, rfl, g, _, pure_post hs (Below.refl _ _) (RO.int _ _)⟩
      · cases h
    · cases h
  · split at h
    · rename_i hf
      subst hf
      split at h
      · rename_i s t
        split at h
        · rename_i hc
          simp only [Option.some.injEq, Prod.mk.injEq] at h
          obtain ⟨rfl, rfl⟩ := h
          refine ⟨hasBody Tryd.func87 (by kernel_rfl), fun g w vs hsz hs => ?_⟩
          have e := start_vals (ds := [.str s, .str t]) hs hsz rfl
          obtain ⟨m, hm⟩ := hT.maxLen
          have hm' : w.cell? ⟨1, 0, none⟩ = some (.int .i64 m) := cell_at hs hm
          subst e
          refine (Tryd.strings_Cut s t m w hc hm').mono ?_
          rintro en w' ⟨rfl, k, rfl⟩
          exact ⟨_, rfl, g, _, pure_post hs (below_drewN k) (hold_tup (ds := [.str _, .str _, .bool _]) rfl g _)⟩
        · cases h
      · cases h
    · split at h
      · rename_i hf
        subst hf
        split at h
        · simp only [Option.some.injEq, Prod.mk.injEq] at h
          obtain ⟨rfl, rfl⟩ := h
          refine ⟨hasBody Tryd.func43 (by kernel_rfl), fun g w vs hsz hs => ?_⟩
          have e := start_vals (ds := [.nili]) hs hsz rfl
          subst e
          refine (codeOf_nil w).mono ?_
          rintro en w' ⟨rfl, rfl⟩
          exact ⟨_, rfl, g, _, pure_post hs ((Below.refl _ _).alloc (Nat.le_refl _) _) (RO.int _ _)⟩
        · rename_i t k c
          split at h
          · rename_i hc
            simp only [Bool.and_eq_true, decide_eq_true_eq] at hc
            obtain ⟨rfl, rfl⟩ := hc
            simp only [Option.some.injEq, Prod.mk.injEq] at h
            obtain ⟨rfl, rfl⟩ := h
            refine ⟨hasBody Tryd.func43 (by kernel_rfl), fun g w vs hsz hs => ?_⟩
            have e0 : RO g.c (.iface 106 (.agg [.int .i64 c])) (vs.getD 0 undef) := start_get hs (a := .ro (.iface 106 (.agg [.int .i64 c]))) rfl
            obtain ⟨u, hu, hr⟩ := e0.iface_inv
            obtain ⟨us, rfl, hsz2, _, hr2⟩ := hr.agg_inv
            have hi := (hr2 0 (.int .i64 c) rfl).int_inv
            have hus : us = #[.int .i64 c] := by
              refine Array.ext (by simpa using hsz2) (fun k hk hk' => ?_)
              simp only [List.length_singleton] at hsz2
              obtain rfl : k = 0 := by omega
              simpa [Array.getD_eq_getD_getElem?, hk] using hi
            have e : vs = #[.iface 106 (.agg #[.int .i64 c])] := by
              simp only [List.length_singleton] at hsz
              refine Array.ext (by simpa using hsz) (fun k hk hk' => ?_)
              obtain rfl : k = 0 := by omega
              simpa [Array.getD_eq_getD_getElem?, hk, hus] using hu
            have hm : w.cell? ⟨0, 0, none⟩ = some (.iface 150 (.agg #[hnd 58])) := cell_at hs hT.error
            subst e
            refine (codeOf_hit c w hm).mono ?_
            rintro en w' ⟨rfl, hb⟩
            exact ⟨_, rfl, g, _, pure_post hs hb (RO.int _ _)⟩
          · cases h
        · cases h
      · split at h
        · rename_i hf
          subst hf
          split at h
          · rename_i z xs
            split at h
            · rename_i hc
              subst hc
              simp only [Option.some.injEq, Prod.mk.injEq] at h
              obtain ⟨rfl, rfl⟩ := h
              refine ⟨hasBody Tryd.func33 (by kernel_rfl), fun g w vs hsz hs => ?_⟩
              have e0 : RO g.c (.sl 1 xs) (vs.getD 0 undef) := start_get hs (a := .ro (.sl 1 xs)) rfl
              obtain ⟨a, cap, hu, hcap, _⟩ := e0.sl_inv
              have e : vs = #[.slice a xs.length cap] := by
                simp only [List.length_singleton] at hsz
                refine Array.ext (by simpa using hsz) (fun k hk hk' => ?_)
                obtain rfl : k = 0 := by omega
                simpa [Array.getD_eq_getD_getElem?, hk] using hu
              subst e
              have hro : RO g.c (.sl 1 xs) (.slice a xs.length cap) := hu ▸ e0
              have fin : ∀ k, k ≤ xs.length → xs.take 2000 = xs.take k → Post g (startEnv 1 [A.ro (.sl 1 xs)] []) w (.agg [.ro (.sl 1 (xs.take 2000)), .ro (.int .i64 0)]) [] (.pointer (some ⟨w.heap.size, 0, none⟩)) (w.alloc (.cells #[.slice a k cap, .int .i64 0] 99)) := by
                intro k hk he
                refine ⟨#[.slice a k cap, .int .i64 0], 99, rfl, rfl, rfl, fun j d hd => ?_⟩
                match j, hd with
                | 0, hd =>
                  simp only [List.getElem?_cons_zero, Option.some.injEq, A.ro.injEq] at hd
                  subst hd
                  rw [he]
                  exact ⟨rfl, hro.take hk⟩
                | 1, hd =>
                  simp at hd
                  subst hd
                  exact ⟨rfl, .int _ _⟩
                | j + 2, hd => simp at hd
              by_cases hlen : xs.length ≤ 2000
              · refine (open_short a xs.length cap hlen w).mono ?_
                rintro en w' ⟨rfl, rfl⟩
                exact ⟨_, rfl, fin xs.length (Nat.le_refl _) (by rw [List.take_of_length_le hlen, List.take_length])⟩
              · refine (open_long a xs.length cap (by omega) hcap w).mono ?_
                rintro en w' ⟨rfl, rfl⟩
                exact ⟨_, rfl, fin 2000 (by omega) rfl⟩
            · cases h
          · cases h
        · cases h
theorem sound [Base] (hT : Start Base.W0) : CallSound Tryd.prog C := callLim_sound mixed (XE_sound hT) noName
end Go.Qz
