import Derived.Test.YtcadiohekccmiaaGreatDoorQm0
import Derived.Laws.Strings
namespace Go.Qz
theorem loop_run {c : Ctx} {a : QCode} {ks : List Fr} {r : Option (V × Boxes)} (I : Nat → Env → Prop)
  (h : ∀ m e, I m e → (∀ m' e', m' < m → I m' e' → Run c (.loop a) e' ks = r) → Run c a e (.loop a :: ks) = r) : ∀ m e, I m e → Run c (.loop a) e ks = r := by
 intro m
 induction m using Nat.strongRecOn with
 | _ m ih =>
   intro e hI
   rw [run_loop]
   exact h m e hI (fun m' e' hlt hI' => ih m' hlt e' hI')
theorem range_run {c : Ctx} {o i : Env} {ps : List Nat} {a b : QCode} {ks : List Fr} {r : Option (V × Boxes)} (I : List (List UInt8) → Env → Prop)
  (h : ∀ xs e, I xs e → (∀ xs' e', xs'.length < xs.length → I xs' e' → RunR c o i ps a b (xs'.map fun l => ⟨l.toArray⟩) e' ks = r) → RunR c o i ps a b (xs.map fun l => ⟨l.toArray⟩) e ks = r) : ∀ xs e, I xs e → RunR c o i ps a b (xs.map fun l => ⟨l.toArray⟩) e ks = r := by
 have key : ∀ n xs e, xs.length = n → I xs e → RunR c o i ps a b (xs.map fun l => ⟨l.toArray⟩) e ks = r := by
  intro n
  induction n using Nat.strongRecOn with
  | _ n ih =>
    intro xs e hn hI
    exact h xs e hI (fun xs' e' hlt hI' => ih xs'.length (by omega) xs' e' rfl hI')
 exact fun xs e hI => key _ xs e rfl hI
theorem range_gen {c : Ctx} {e : Env} {ps : List Nat} {a b : QCode} {ks : List Fr} {r : Option (V × Boxes)} {xs : List ByteArray} (h : ∀ o, o = e → RunR c o o.enter ps a b xs o.enter ks = r) : RunR c e e.enter ps a b xs e.enter ks = r := h e rfl
@[simp] theorem seqList_one (l : List UInt8) (b : UInt8) : seqList ⟨l.toArray⟩ ⟨#[b]⟩ = (cutAt b l).map fun l => ⟨l.toArray⟩ := (rfl)
def gate {α : Type} : Option Bool → Option α → Option α → Option α
 | some true, x, _ => x
 | some false, _, y => y
 | none, _, _ => none
@[congr] theorem gate_congr {α : Type} {g g' : Option Bool} (x y : Option α) (h : g = g') : gate g x y = gate g' x y := by rw [h]
theorem gate_true {α : Type} (x y : Option α) : gate (some true) x y = x := (rfl)
theorem gate_false {α : Type} (x y : Option α) : gate (some false) x y = y := (rfl)
attribute [simp] gate_true gate_false
theorem stepQ_eq (P : Program) (io : FuncId → List Nat) (call : CallF) (q : QOp) (e : Env) : stepQ P io call q e = gate (guardQ e q.g) (evOp P io call e q.oper) (putDst e q.dst .undef) := by
 unfold stepQ
 cases guardQ e q.g with
 | none => rfl
 | some b => cases b <;> rfl
def stpW (ds : List Nat) (e : Env) (dst : Option Nat) (op : Op) : Option (V × Nat × List A) → Option Stp
 | some (v, b, cs) => if v.clean ds && okDst e dst && fitD dst op then some ⟨dst, v, none, some (b, cs)⟩ else none
 | none => none
def stpI (ds : List Nat) (e : Env) (dst : Option Nat) (op : Op) (t : Option Nat) (v : V) : Option Stp := if v.clean ds && okDst e dst && freeB ds e op then some ⟨dst, v, t, none⟩ else none
theorem stp1_some (ds : List Nat) (e : Env) (dst : Option Nat) (op : Op) (w : Option (V × Nat × List A)) (v : V) (t : Option Nat) : stp1 ds e dst op w (some (v, t)) = stpI ds e dst op t (iceR (noKeys ds) op v) := (rfl)
theorem stp1_none (ds : List Nat) (e : Env) (dst : Option Nat) (op : Op) (w : Option (V × Nat × List A)) : stp1 ds e dst op w none = stpW ds e dst op w := (rfl)
@[congr] theorem stp1_congr (ds : List Nat) (e : Env) (dst : Option Nat) (op : Op) (w : Option (V × Nat × List A)) {x y : Option (V × Option Nat)} (h : x = y) : stp1 ds e dst op w x = stp1 ds e dst op w y := by rw [h]
theorem stpQ_eq (P : Program) (io : FuncId → List Nat) (call : CallF) (ds : List Nat) (q : QOp) (e : Env) : stpQ P io call ds q e = gate (guardQ e q.g) (stp1 ds e q.dst q.op (wrV P io call ds e q.op) (calmV P io call ds e q.ty q.op)) (if okDst e q.dst then some ⟨q.dst, .undef, none, none⟩ else none) := by
 unfold stpQ
 cases guardQ e q.g with
 | none => rfl
 | some b => cases b <;> rfl
theorem freeB_nil (e : Env) (op : Op) : freeB [] e op = true := (rfl)
theorem freeB_cons (d : Nat) (ds : List Nat) (e : Env) (op : Op) : freeB (d :: ds) e op = freeS (decide (d < 1000000000)) (d :: ds) e op := (rfl)
@[congr] theorem freeS_congr {b b' : Bool} (ds : List Nat) (e : Env) (op : Op) (h : b = b') : freeS b ds e op = freeS b' ds e op := by rw [h]
theorem freeS_true (ds : List Nat) (e : Env) (op : Op) : freeS true ds e op = true := (rfl)
theorem freeS_false (ds : List Nat) (e : Env) (op : Op) : freeS false ds e op = (mvB op || valB op || ptrsFree ds e op) := (rfl)
@[simp] theorem noKeys_cons (d : Nat) (ds : List Nat) : noKeys (d :: ds) = decide (d < 1000000000) := (rfl)
attribute [simp] fitD packV rosOf roOp fillRo stepQ_eq stpQ_eq stp1_some stpI iceR sameOwn evAppSelf stp1_none stpW freeB_nil freeB_cons freeS_true freeS_false valB mvB ptrsFree wrV wrBs boxKey Env.boxed QOp.oper Stp.app okDst guardQ dstsOf calmV calmMove calmEx plainV quietV partRo partsRo looseOp calmAppend Env.eat V.clean A.clean Root.cleanR Root.cleanT A.dropAll finishQ
theorem wrap64 {n : Int} (h : -9223372036854775808 ≤ n) (h' : n < 9223372036854775808) : IntKind.i64.wrap n = n := by
 simp [IntKind.wrap, IntKind.signed, IntKind.bits]
 omega
@[simp] theorem wrap64_succ {n : Nat} (h : n < 9223372036854775807) : IntKind.i64.wrap ((n : Int) + 1) = ((n + 1 : Nat) : Int) := by
  rw [wrap64 (by omega) (by omega)]
  omega
@[simp] theorem one_le_cast (n : Nat) : (1 : Int) ≤ (n : Int) + 1 := by omega
@[simp] theorem cast_lt_num (a n : Nat) : ((a : Int) < (no_index (OfNat.ofNat n : Int))) ↔ a < OfNat.ofNat n := by
  show ((a : Int) < ((n : Nat) : Int)) ↔ a < n
  omega
@[simp] theorem cast_le_num (a n : Nat) : ((a : Int) ≤ (no_index (OfNat.ofNat n : Int))) ↔ a ≤ OfNat.ofNat n := by
  show ((a : Int) ≤ ((n : Nat) : Int)) ↔ a ≤ n
  omega
@[simp] theorem num_lt_cast (a n : Nat) : ((no_index (OfNat.ofNat n : Int)) < (a : Int)) ↔ OfNat.ofNat n < a := by
  show (((n : Nat) : Int) < (a : Int)) ↔ n < a
  omega
@[simp] theorem num_le_cast (a n : Nat) : ((no_index (OfNat.ofNat n : Int)) ≤ (a : Int)) ↔ OfNat.ofNat n ≤ a := by
  show (((n : Nat) : Int) ≤ (a : Int)) ↔ n ≤ a
  omega
@[simp] theorem cast_beq_num (a n : Nat) : ((a : Int) == (no_index (OfNat.ofNat n : Int))) = (a == OfNat.ofNat n) := by
  show ((a : Int) == ((n : Nat) : Int)) = (a == n)
  rw [Bool.eq_iff_iff]
  simp
  omega
@[simp] theorem cast_beq (a b : Nat) : ((a : Int) == (b : Int)) = (a == b) := by
  rw [Bool.eq_iff_iff]
  simp
  omega
@[simp] theorem int_bne (a b : Int) : (a != b) = !(a == b) := (rfl)
@[simp] theorem u8_beq_num (c : UInt8) (n : Nat) (h : n < 256) : (c.toNat == no_index (OfNat.ofNat n)) = (c == OfNat.ofNat n) := by
  show (c.toNat == n) = (c == UInt8.ofNat n)
  rw [Bool.eq_iff_iff]
  simp only [beq_iff_eq]
  constructor
  ·intro h'
   apply UInt8.toNat_inj.1
   rw [h', UInt8.toNat_ofNat_of_lt' h]
  ·rintro rfl
   rw [UInt8.toNat_ofNat_of_lt' h]
abbrev B (l : List UInt8) : ByteArray := ⟨l.toArray⟩
abbrev T (l : List UInt8) : D := .str (B l)
@[simp] theorem ba_size (l : List UInt8) : ByteArray.size ⟨l.toArray⟩ = l.length := by simp [ByteArray.size]
@[simp] theorem ba_append (l m : List UInt8) : (⟨l.toArray⟩ ++ ⟨m.toArray⟩ : ByteArray) = ⟨(l ++ m).toArray⟩ := by
  apply ByteArray.ext
  simp
theorem ba_ext {a b : ByteArray} (h : a.data.toList = b.data.toList) : a = b := by
 apply ByteArray.ext
 exact Array.ext' h
@[simp] theorem ba_extract (l : List UInt8) (i j : Nat) : ByteArray.extract ⟨l.toArray⟩ i j = ⟨((l.take j).drop i).toArray⟩ := by
  apply ba_ext
  rw [ByteArray.data_extract]
  simp [List.extract_eq_take_drop, List.drop_take]
end Go.Qz
