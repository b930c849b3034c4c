/- The evaluator of the claim and what it says, part Ql0 (several texts in one). -/
import Derived.Test.YtikdjbagodebiaaQj0
import Derived.Laws.Strings
/- The evaluator Qz: rules for walks. -/
namespace Go.Qz

/-- A loop: what comes of each round's head, the measure going down. -/
theorem loop_run {c : Ctx} {a : QCode} {ks : List Fr} {r : Option (V × Boxes)} (I : Nat → Env → Prop)
    (h : ∀ m e, I m e → (∀ m' e', m' < m → I m' e' → Run c (.loop a) e' ks = r) → Run c a e (.loop a :: ks) = r) : ∀ m e, I m e → Run c (.loop a) e ks = r := by
  intro m
  induction m using Nat.strongRecOn with
  | _ m ih =>
    intro e hI
    rw [run_loop]
    exact h m e hI (fun m' e' hlt hI' => ih m' hlt e' hI')

def gate {α : Type} : Option Bool → Option α → Option α → Option α
  | some true, x, _ => x
  | some false, _, y => y
  | none, _, _ => none
@[congr] theorem gate_congr {α : Type} {g g' : Option Bool} (x y : Option α) (h : g = g') : gate g x y = gate g' x y := by rw [h]
theorem gate_true {α : Type} (x y : Option α) : gate (some true) x y = x := (rfl)
theorem gate_false {α : Type} (x y : Option α) : gate (some false) x y = y := (rfl)
attribute [simp] gate_true gate_false
theorem gate_some {α : Type} (b : Bool) (x y : Option α) : gate (some b) x y = if b then x else y := by cases b <;> rfl
theorem stepQ_eq (P : Program) (io : FuncId → List Nat) (call : CallF) (q : QOp) (e : Env) : stepQ P io call q e = gate (guardQ e q.g) (evOp P io call e q.oper) (putDst e q.dst .undef) := by
  unfold stepQ
  cases guardQ e q.g with
  | none => rfl
  | some b => cases b <;> rfl
def stp1 (ds : List Nat) (e : Env) (dst : Option Nat) (x : Option (V × Option Nat)) : Option Stp := match x with
  | some (v, t) => if v.clean ds && okDst e dst then some ⟨dst, v, t⟩ else none
  | none => none
theorem stpQ_eq (P : Program) (io : FuncId → List Nat) (call : CallF) (ds : List Nat) (q : QOp) (e : Env) : stpQ P io call ds q e = gate (guardQ e q.g) (stp1 ds e q.dst (calmV P io call ds e q.ty q.op)) (if okDst e q.dst then some ⟨q.dst, .undef, none⟩ else none) := by
  unfold stpQ
  cases guardQ e q.g with
  | none => rfl
  | some b => cases b <;> rfl

attribute [simp] stepQ_eq stpQ_eq stp1 QOp.oper Stp.app okDst guardQ dstsOf calmV calmMove calmEx plainV quietV partRo partsRo looseOp calmAppend Env.eat V.clean A.clean Root.cleanR A.dropAll finishQ

/-! ### Numbers -/

theorem wrap64 {n : Int} (h : -9223372036854775808 ≤ n) (h' : n < 9223372036854775808) : IntKind.i64.wrap n = n := by
  simp [IntKind.wrap, IntKind.signed, IntKind.bits]
  omega
@[simp] theorem wrap64_succ {n : Nat} (h : n < 9223372036854775807) : IntKind.i64.wrap ((n : Int) + 1) = ((n + 1 : Nat) : Int) := by
  rw [wrap64 (by omega) (by omega)]
  omega

@[simp] theorem one_le_cast (n : Nat) : (1 : Int) ≤ (n : Int) + 1 := by omega
@[simp] theorem zero_lt_cast (n : Nat) : (0 : Int) < (n : Int) + 1 := by omega

@[simp] theorem wrap64_0 : IntKind.i64.wrap 0 = 0 := by decide
@[simp] theorem wrap64_1 : IntKind.i64.wrap 1 = 1 := by decide
@[simp] theorem wrap64_n1 : IntKind.i64.wrap (-1) = -1 := by decide

/-! What is a natural number is asked as one. -/
@[simp] theorem cast_lt_num (a n : Nat) : ((a : Int) < (no_index (OfNat.ofNat n : Int))) ↔ a < OfNat.ofNat n := by
  show ((a : Int) < ((n : Nat) : Int)) ↔ a < n
  omega
@[simp] theorem cast_le_num (a n : Nat) : ((a : Int) ≤ (no_index (OfNat.ofNat n : Int))) ↔ a ≤ OfNat.ofNat n := by
  show ((a : Int) ≤ ((n : Nat) : Int)) ↔ a ≤ n
  omega
@[simp] theorem num_lt_cast (a n : Nat) : ((no_index (OfNat.ofNat n : Int)) < (a : Int)) ↔ OfNat.ofNat n < a := by
  show (((n : Nat) : Int) < (a : Int)) ↔ n < a
  omega
@[simp] theorem num_le_cast (a n : Nat) : ((no_index (OfNat.ofNat n : Int)) ≤ (a : Int)) ↔ OfNat.ofNat n ≤ a := by
  show (((n : Nat) : Int) ≤ (a : Int)) ↔ n ≤ a
  omega
@[simp] theorem cast_beq_num (a n : Nat) : ((a : Int) == (no_index (OfNat.ofNat n : Int))) = (a == OfNat.ofNat n) := by
  show ((a : Int) == ((n : Nat) : Int)) = (a == n)
  rw [Bool.eq_iff_iff]
  simp
  omega
@[simp] theorem cast_beq (a b : Nat) : ((a : Int) == (b : Int)) = (a == b) := by
  rw [Bool.eq_iff_iff]
  simp
  omega
@[simp] theorem int_bne (a b : Int) : (a != b) = !(a == b) := (rfl)
theorem bne_not {α : Type} [BEq α] (a b : α) : (a != b) = !(a == b) := rfl
@[simp] theorem u8_beq_num (c : UInt8) (n : Nat) (h : n < 256) : (c.toNat == no_index (OfNat.ofNat n)) = (c == OfNat.ofNat n) := by
  show (c.toNat == n) = (c == UInt8.ofNat n)
  rw [Bool.eq_iff_iff]
  simp only [beq_iff_eq]
  constructor
  · intro h'
    apply UInt8.toNat_inj.1
    rw [h', UInt8.toNat_ofNat_of_lt' h]
  · rintro rfl
    rw [UInt8.toNat_ofNat_of_lt' h]

/-! ### Bytes -/

/-- A text out of its bytes. -/
abbrev B (l : List UInt8) : ByteArray := ⟨l.toArray⟩
abbrev T (l : List UInt8) : D := .str (B l)
@[simp] theorem ba_size (l : List UInt8) : ByteArray.size ⟨l.toArray⟩ = l.length := by simp [ByteArray.size]
@[simp] theorem ba_data (l : List UInt8) : ByteArray.data ⟨l.toArray⟩ = l.toArray := (rfl)
@[simp] theorem ba_append (l m : List UInt8) : (⟨l.toArray⟩ ++ ⟨m.toArray⟩ : ByteArray) = ⟨(l ++ m).toArray⟩ := by
  apply ByteArray.ext
  simp
theorem ba_ext {a b : ByteArray} (h : a.data.toList = b.data.toList) : a = b := by
  apply ByteArray.ext
  exact Array.ext' h
@[simp] theorem ba_extract (l : List UInt8) (i j : Nat) : ByteArray.extract ⟨l.toArray⟩ i j = ⟨((l.take j).drop i).toArray⟩ := by
  apply ba_ext
  rw [ByteArray.data_extract]
  simp [List.extract_eq_take_drop, List.drop_take]
@[simp] theorem ba_toList (l : List UInt8) : ByteArray.toList ⟨l.toArray⟩ = l := by
  rw [_root_.Go.ByteArray.toList_eq]
end Go.Qz
