import Derived.Test.YtcadiohekccmiaaGreatDoorQp0
import Derived.Test.YtcadiohekccmiaaGreatDoorQk0
import Derived.Lib.IndexMore
import Derived.Lib.ItoaNum
import Derived.Lib.Split
import Derived.Lib.LastIndexByte
import Derived.Lib.LaidTab
import Derived.Sort.Grow
namespace Go.Qz
open Go.RowKit (Below)
variable {P : Program}
def orX (a b : CallF) : CallF := fun f us bx => match a f us bx with
 | some r => some r
 | none => b f us bx
theorem orX_sound [Base] {a b : CallF} (ha : CallSound P a) (hb : CallSound P b) : CallSound P (orX a b) := fun f us bx r bx' h => by
 unfold orX at h
 split at h
 ·rename_i x hx
  obtain rfl := Option.some.inj h
  exact ha f us bx r bx' hx
 ·exact hb f us bx r bx' h
def noX : CallF := fun _ _ _ => none
theorem noX_sound [Base] : CallSound P noX := fun _ _ _ _ _ h => by cases h
theorem cell_at [Base] {g : G} {e : Env} {tm : Array Value} {w : World} (hs : Sim g e tm w) {x : Nat} {v : Value} (h : Base.W0.cell? ⟨x, 0, none⟩ = some v) : w.cell? ⟨x, 0, none⟩ = some v := by
 have hf := hs.fix x v h
 unfold World.cell? at h ⊢
 rw [hf]
 exact h
theorem below_drewN {w : World} (n : Nat) : Below w.heap.size w (w.drewN n) := ⟨rfl, rfl, rfl, Nat.le_refl _, fun _ _ => rfl⟩
def xIndex (fi : FuncId) : CallF := fun f us bx => if f = fi then (match us, bx with
    | [.ro (.str s), .ro (.str t)], [] => if s.size < 4294967281 then some (.one (.ro (.int .i64 (Lib.index s.data.toList t.data.toList))), []) else none
    | _, _ => none) else none
theorem xIndex_sound [Base] {fi : FuncId} {k : Nat} (hb : HasBody P fi) (hT : ∃ m : Int, Base.W0.cell? ⟨k, 0, none⟩ = some (.int .i64 m))
  (hc : ∀ (s t : ByteArray) (m : Int) (w : World), s.size < 4294967281 → w.cell? ⟨k, 0, none⟩ = some (.int .i64 m) → Calls P fi #[.string s, .string t] w fun e w' => e = .returned (.int .i64 (Lib.index s.data.toList t.data.toList)) ∧ w' = w) : CallSound P (xIndex fi) := by
 intro f us bx r bx' h
 unfold xIndex at h
 split at h
 ·rename_i hf
  subst hf
  split at h
  ·rename_i s t
   split at h
   ·rename_i hlt
    simp only [Option.some.injEq, Prod.mk.injEq] at h
    obtain ⟨rfl, rfl⟩ := h
    refine ⟨hb, fun g w vs hsz hs => ?_⟩
    have e := start_vals (ds := [.str s, .str t]) hs hsz rfl
    obtain ⟨m, hm⟩ := hT
    have hm' : w.cell? ⟨k, 0, none⟩ = some (.int .i64 m) := cell_at hs hm
    subst e
    refine (hc s t m w hlt hm').mono ?_
    rintro en w' ⟨rfl, rfl⟩
    exact ⟨_, rfl, g, _, pure_post hs (Below.refl _ _) (RO.int _ _)⟩
   ·cases h
  ·cases h
 ·cases h
def xCut (fi : FuncId) : CallF := fun f us bx => if f = fi then (match us, bx with
    | [.ro (.str s), .ro (.str t)], [] => if s.size < 4294967281 then some (.tup [.ro (.str ⟨(Lib.cut s.data.toList t.data.toList).1.toArray⟩), .ro (.str ⟨(Lib.cut s.data.toList t.data.toList).2.1.toArray⟩), .ro (.bool (Lib.cut s.data.toList t.data.toList).2.2)], []) else none
    | _, _ => none) else none
theorem xCut_sound [Base] {fi : FuncId} {k : Nat} (hb : HasBody P fi) (hT : ∃ m : Int, Base.W0.cell? ⟨k, 0, none⟩ = some (.int .i64 m))
  (hc : ∀ (s t : ByteArray) (m : Int) (w : World), s.size < 4294967281 → w.cell? ⟨k, 0, none⟩ = some (.int .i64 m) → Calls P fi #[.string s, .string t] w fun e w' => e = .returned (.tuple #[.string ⟨(Lib.cut s.data.toList t.data.toList).1.toArray⟩, .string ⟨(Lib.cut s.data.toList t.data.toList).2.1.toArray⟩, .bool (Lib.cut s.data.toList t.data.toList).2.2]) ∧ ∃ k, w' = w.drewN k) : CallSound P (xCut fi) := by
 intro f us bx r bx' h
 unfold xCut at h
 split at h
 ·rename_i hf
  subst hf
  split at h
  ·rename_i s t
   split at h
   ·rename_i hlt
    simp only [Option.some.injEq, Prod.mk.injEq] at h
    obtain ⟨rfl, rfl⟩ := h
    refine ⟨hb, fun g w vs hsz hs => ?_⟩
    have e := start_vals (ds := [.str s, .str t]) hs hsz rfl
    obtain ⟨m, hm⟩ := hT
    have hm' : w.cell? ⟨k, 0, none⟩ = some (.int .i64 m) := cell_at hs hm
    subst e
    refine (hc s t m w hlt hm').mono ?_
    rintro en w' ⟨rfl, j, rfl⟩
    exact ⟨_, rfl, g, _, pure_post hs (below_drewN j) (hold_tup (ds := [.str _, .str _, .bool _]) rfl g _)⟩
   ·cases h
  ·cases h
 ·cases h
def xSeq (fi fs : FuncId) : CallF := fun f us bx => if f = fi then (match us, bx with
    | [.ro (.str s), .ro (.str p)], [] => some (.one (.own (.seq fs s p)), [])
    | _, _ => none) else none
theorem xSeq_sound [Base] {fi fs : FuncId} {ts tn : TypeId} (hb : HasBody P fi)
  (hc : ∀ (s p : ByteArray) (w : World), Calls P fi #[.string s, .string p] w fun e w' => e = .returned (seqV fs (w.heap.size + 1) w.heap.size (w.heap.size + 2)) ∧ w' = ((w.alloc (.cells #[.string s] ts)).alloc (.cells #[.string p] ts)).alloc (.cells #[.int .i64 0] tn)) : CallSound P (xSeq fi fs) := by
 intro f us bx r bx' h
 unfold xSeq at h
 split at h
 ·rename_i hf
  subst hf
  split at h
  ·rename_i s p
   simp only [Option.some.injEq, Prod.mk.injEq] at h
   obtain ⟨rfl, rfl⟩ := h
   refine ⟨hb, fun g w vs hsz hs => ?_⟩
   have e := start_vals (ds := [.str s, .str p]) hs hsz rfl
   subst e
   refine (hc s p w).mono ?_
   rintro en w' ⟨rfl, rfl⟩
   refine ⟨_, rfl, g, fun j x => j = 0 ∧ w.heap.size ≤ x ∧ x < w.heap.size + 3, own_post hs ((((Below.refl _ w).alloc (Nat.le_refl _) _).alloc (by simp) _).alloc (by simp; omega) _) ?_ (fun j x hx => ?_) (fun j j' x hx hx' => by rw [hx.1, hx'.1])⟩
   ·show OwnC _ (.seq fs s p) _ _
    refine .seq ⟨⟨ts, ?_⟩, ⟨ts, ?_⟩, ⟨tn, ?_⟩, by omega, by omega⟩ ⟨⟨rfl, by omega, by omega⟩, ⟨rfl, by omega, by omega⟩, ⟨rfl, by omega, by omega⟩⟩
    ·show (((w.heap.push _).push _).push _)[w.heap.size + 1]? = _
     rw [Array.getElem?_push, if_neg (by simp), Array.getElem?_push, if_pos (by simp)]
    ·show (((w.heap.push _).push _).push _)[w.heap.size]? = _
     rw [Array.getElem?_push, if_neg (by simp; omega), Array.getElem?_push, if_neg (by simp), Array.getElem?_push, if_pos rfl]
    ·show (((w.heap.push _).push _).push _)[w.heap.size + 2]? = _
     rw [Array.getElem?_push, if_pos (by simp)]
   ·obtain ⟨rfl, h1, h2⟩ := hx
    refine ⟨h1, ?_⟩
    show x < (((w.heap.push _).push _).push _).size
    simp
    omega
  ·cases h
 ·cases h
def xByte (fi : FuncId) : CallF := fun f us bx => if f = fi then (match us, bx with
    | [.ro (.str s), .ro (.int .u8 c)], [] => some (.one (.ro (.int .i64 (Lib.indexByte s.data.toList c.toNat.toUInt8))), [])
    | _, _ => none) else none
theorem xByte_sound [Base] {fi : FuncId} (hb : HasBody P fi)
  (hc : ∀ (s : ByteArray) (c : Int) (w : World), Calls P fi #[.string s, .int .u8 c] w fun e w' => e = .returned (.int .i64 (Lib.indexByte s.data.toList c.toNat.toUInt8)) ∧ w' = w) : CallSound P (xByte fi) := by
 intro f us bx r bx' h
 unfold xByte at h
 split at h
 ·rename_i hf
  subst hf
  split at h
  ·rename_i s c
   simp only [Option.some.injEq, Prod.mk.injEq] at h
   obtain ⟨rfl, rfl⟩ := h
   refine ⟨hb, fun g w vs hsz hs => ?_⟩
   have e := start_vals (ds := [.str s, .int .u8 c]) hs hsz rfl
   subst e
   refine (hc s c w).mono ?_
   rintro en w' ⟨rfl, rfl⟩
   exact ⟨_, rfl, g, _, pure_post hs (Below.refl _ _) (RO.int _ _)⟩
  ·cases h
 ·cases h
def xCopy (fi : FuncId) (T : TypeId) : CallF := fun f us bx => if f = fi then (match us, bx with
    | [.ptr n 0], [(m, [a0, a1])] => if n = m && decide (n < ghostFrom) then (match a0 with
      | .bnil t => if t = T then some (.tup [], [(n, [.selfp, a1])]) else none
      | .selfp => some (.tup [], [(n, [.selfp, a1])])
      | _ => none) else none
    | _, _ => none) else none
theorem xCopy_sound [Base] {fi : FuncId} {T : TypeId} (hb : HasBody P fi)
  (h1 : ∀ (b : Nat) (w : World), w.cell? ⟨b, 0, none⟩ = some (.pointer none) → w.shape? b = some (T, 2) → w.frozen? ⟨b, 0, none⟩ = false → Calls P fi #[.pointer (some ⟨b, 0, none⟩)] w fun e w' => e = .returned (.tuple #[]) ∧ w' = w.setCell ⟨b, 0, none⟩ (.pointer (some ⟨b, 0, none⟩)))
  (h2 : ∀ (b : Nat) (w : World), w.cell? ⟨b, 0, none⟩ = some (.pointer (some ⟨b, 0, none⟩)) → Calls P fi #[.pointer (some ⟨b, 0, none⟩)] w fun e w' => e = .returned (.tuple #[]) ∧ w' = w) : CallSound P (xCopy fi T) := by
 intro f us bx r bx' h
 unfold xCopy at h
 split at h
 ·rename_i hf
  subst hf
  split at h
  ·rename_i n m a0 a1
   split at h
   ·rename_i hc
    simp only [Bool.and_eq_true, decide_eq_true_eq] at hc
    obtain ⟨rfl, hn⟩ := hc
    split at h
    ·rename_i t
     split at h
     ·rename_i ht
      subst ht
      simp only [Option.some.injEq, Prod.mk.injEq] at h
      obtain ⟨rfl, rfl⟩ := h
      exact copy_fresh hb hn h1
     ·cases h
    ·simp only [Option.some.injEq, Prod.mk.injEq] at h
     obtain ⟨rfl, rfl⟩ := h
     exact copy_used hb hn h2
    ·cases h
   ·cases h
  ·cases h
 ·cases h
def xText (fi : FuncId) (el : TypeId) : CallF := fun f us bx => if f = fi then (match us, bx with
    | [.ptr n 0], [(m, [a0, .own (.bs u s)])] => if n = m && u = el && decide (n < ghostFrom) then some (.one (.ro (.str s)), [(n, [a0, .dead])]) else none
    | _, _ => none) else none
theorem xText_sound [Base] {fi : FuncId} {el : TypeId} (hb : HasBody P fi)
  (hc : ∀ (s : ByteArray) (b : Nat) (p v : Value) (tag : TypeId) (w : World), w.heap[b]? = some (.cells #[p, v] tag (0, 0)) → w.ownsRow 0 el 1 v s.size (s.data.toList.map fun b => .int .u8 b.toNat) → Calls P fi #[.pointer (some ⟨b, 0, none⟩)] w fun e w' => e = .returned (.string s) ∧ Go.Proofs.ButOne v.ownBlock w w') : CallSound P (xText fi el) := by
 intro f us bx r bx' h
 unfold xText at h
 split at h
 ·rename_i hf
  subst hf
  split at h
  ·rename_i n m a0 u s
   split at h
   ·rename_i hq
    simp only [Bool.and_eq_true, decide_eq_true_eq] at hq
    obtain ⟨⟨rfl, rfl⟩, hn⟩ := hq
    simp only [Option.some.injEq, Prod.mk.injEq] at h
    obtain ⟨rfl, rfl⟩ := h
    exact builder_string hb hn (hc s)
   ·cases h
  ·cases h
 ·cases h
end Go.Qz
