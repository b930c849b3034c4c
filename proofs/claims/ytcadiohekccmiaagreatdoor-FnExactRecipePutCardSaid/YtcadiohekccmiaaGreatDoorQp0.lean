import Derived.Test.YtcadiohekccmiaaGreatDoorQn0
import Derived.Laws.Strings
namespace Go.Qz
theorem zah {c : Ctx} {a : zab} {ks : List Fr} {r : Option (V × zaq)} (I : Nat → Env → Prop)
  (h : ∀ m e,I m e → (∀ m' e',m' < m → I m' e' → Run c (.loop a) e' ks = r) → Run c a e (.loop a :: ks) = r) : ∀ m e,I m e → Run c (.loop a) e ks = r := by
 intro m
 induction m using Nat.strongRecOn with
 | _ m ih =>
   intro e hI
   rw [zvp]
   exact h m e hI (fun m' e' hlt hI' => ih m' hlt e' hI')
theorem zrp {c : Ctx} {o i : Env} {ps : List Nat} {a b : zab} {ks : List Fr} {r : Option (V × zaq)} (I : List (List UInt8) → Env → Prop)
  (h : ∀ xs e,I xs e → (∀ xs' e',xs'.length < xs.length → I xs' e' → RunR c o i ps a b (xs'.map fun l => ⟨l.toArray⟩) e' ks = r) → RunR c o i ps a b (xs.map fun l => ⟨l.toArray⟩) e ks = r) : ∀ xs e,I xs e → RunR c o i ps a b (xs.map fun l => ⟨l.toArray⟩) e ks = r := by
 have key : ∀ n xs e,xs.length = n → I xs e → RunR c o i ps a b (xs.map fun l => ⟨l.toArray⟩) e ks = r := by
  intro n
  induction n using Nat.strongRecOn with
  | _ n ih =>
    intro xs e hn hI
    exact h xs e hI (fun xs' e' hlt hI' => ih xs'.length (by omega) xs' e' rfl hI')
 exact fun xs e hI => key _ xs e rfl hI
theorem zrq {c : Ctx} {e : Env} {ps : List Nat} {a b : zab} {ks : List Fr} {r : Option (V × zaq)} {xs : List ByteArray} (h : ∀ o,o = e → RunR c o o.enter ps a b xs o.enter ks = r) : RunR c e e.enter ps a b xs e.enter ks = r := h e rfl
@[simp] theorem z5x (l : List UInt8) (b : UInt8) : zgo ⟨l.toArray⟩ ⟨#[b]⟩ = (zbc b l).map fun l => ⟨l.toArray⟩ := (rfl)
def gate {α : Type} : Option Bool → Option α → Option α → Option α
 | some true,x,_ => x
 | some false,_,y => y
 | none,_,_ => none
@[congr] theorem z67 {α : Type} {g g' : Option Bool} (x y : Option α) (h : g = g') : gate g x y = gate g' x y := by rw [h]
theorem zz5 {α : Type} (x y : Option α) : gate (some true) x y = x := (rfl)
theorem zxa {α : Type} (x y : Option α) : gate (some false) x y = y := (rfl)
attribute [simp] zz5 zxa
theorem z27 (P : Program) (io : FuncId → List Nat) (call : zal) (q : QOp) (e : Env) : zk9 P io call q e = gate (zdu e q.g) (evOp P io call e q.oper) (zar e q.dst .undef) := by
 unfold zk9
 cases zdu e q.g with
 | none => rfl
 | some b => cases b <;> rfl
def stpW (ds : List Nat) (e : Env) (dst : Option Nat) (op : Op) : Option (V × Nat × List A) → Option Stp
 | some (v,b,cs) => if v.clean ds && zgn e dst && fitD dst op then some ⟨dst,v,none,some (b,cs)⟩ else none
 | none => none
def stpI (ds : List Nat) (e : Env) (dst : Option Nat) (op : Op) (t : Option Nat) (v : V) : Option Stp := if v.clean ds && zgn e dst && znd ds e op then some ⟨dst,v,t,none⟩ else none
theorem zz6 (ds : List Nat) (e : Env) (dst : Option Nat) (op : Op) (w : Option (V × Nat × List A)) (v : V) (t : Option Nat) : stp1 ds e dst op w (some (v,t)) = stpI ds e dst op t (iceR (ze9 ds) op v) := (rfl)
theorem zz7 (ds : List Nat) (e : Env) (dst : Option Nat) (op : Op) (w : Option (V × Nat × List A)) : stp1 ds e dst op w none = stpW ds e dst op w := (rfl)
@[congr] theorem z68 (ds : List Nat) (e : Env) (dst : Option Nat) (op : Op) (w : Option (V × Nat × List A)) {x y : Option (V × Option Nat)} (h : x = y) : stp1 ds e dst op w x = stp1 ds e dst op w y := by rw [h]
theorem z5y (P : Program) (io : FuncId → List Nat) (call : zal) (ds : List Nat) (q : QOp) (e : Env) : stpQ P io call ds q e = gate (zdu e q.g) (stp1 ds e q.dst q.op (wrV P io call ds e q.op) (zbb P io call ds e q.ty q.op)) (if zgn e q.dst then some ⟨q.dst,.undef,none,none⟩ else none) := by
 unfold stpQ
 cases zdu e q.g with
 | none => rfl
 | some b => cases b <;> rfl
theorem zz8 (e : Env) (op : Op) : znd [] e op = true := (rfl)
theorem zxb (d : Nat) (ds : List Nat) (e : Env) (op : Op) : znd (d :: ds) e op = zqe (decide (d < 1000000000)) (d :: ds) e op := (rfl)
@[congr] theorem z5z {b b' : Bool} (ds : List Nat) (e : Env) (op : Op) (h : b = b') : zqe b ds e op = zqe b' ds e op := by rw [h]
theorem zxc (ds : List Nat) (e : Env) (op : Op) : zqe true ds e op = true := (rfl)
theorem zty (ds : List Nat) (e : Env) (op : Op) : zqe false ds e op = (mvB op || valB op || zhf ds e op) := (rfl)
@[simp] theorem z50 (d : Nat) (ds : List Nat) : ze9 (d :: ds) = decide (d < 1000000000) := (rfl)
attribute [simp] fitD zp6 zwd roOp zkn z27 z5y zz6 stpI iceR zlr zit zz7 stpW zz8 zxb zxc zty valB mvB zhf wrV wrBs zbe Env.boxed QOp.oper Stp.app zgn zdu zc3 zbb zbx zqb zhy zcl znr ze4 zh9 ze8 Env.eat V.clean A.clean Root.cleanR Root.cleanT A.dropAll zg1
theorem wrap64 {n : Int} (h : -9223372036854775808 ≤ n) (h' : n < 9223372036854775808) : IntKind.i64.wrap n = n := by
 simp [IntKind.wrap,IntKind.signed,IntKind.bits]
 omega
@[simp] theorem zad {n : Nat} (h : n < 9223372036854775807) : IntKind.i64.wrap ((n : Int) + 1) = ((n + 1 : Nat) : Int) := by
  rw [wrap64 (by omega) (by omega)]
  omega
@[simp] theorem z52 (n : Nat) : (1 : Int) ≤ (n : Int) + 1 := by omega
@[simp] theorem z53 (a n : Nat) : ((a : Int) < (no_index (OfNat.ofNat n : Int))) ↔ a < OfNat.ofNat n := by
  show ((a : Int) < ((n : Nat) : Int)) ↔ a < n
  omega
@[simp] theorem z54 (a n : Nat) : ((a : Int) ≤ (no_index (OfNat.ofNat n : Int))) ↔ a ≤ OfNat.ofNat n := by
  show ((a : Int) ≤ ((n : Nat) : Int)) ↔ a ≤ n
  omega
@[simp] theorem z55 (a n : Nat) : ((no_index (OfNat.ofNat n : Int)) < (a : Int)) ↔ OfNat.ofNat n < a := by
  show (((n : Nat) : Int) < (a : Int)) ↔ n < a
  omega
@[simp] theorem z56 (a n : Nat) : ((no_index (OfNat.ofNat n : Int)) ≤ (a : Int)) ↔ OfNat.ofNat n ≤ a := by
  show (((n : Nat) : Int) ≤ (a : Int)) ↔ n ≤ a
  omega
@[simp] theorem z4y (a n : Nat) : ((a : Int) == (no_index (OfNat.ofNat n : Int))) = (a == OfNat.ofNat n) := by
  show ((a : Int) == ((n : Nat) : Int)) = (a == n)
  rw [Bool.eq_iff_iff]
  simp
  omega
@[simp] theorem ybg (a b : Nat) : ((a : Int) == (b : Int)) = (a == b) := by
  rw [Bool.eq_iff_iff]
  simp
  omega
@[simp] theorem ydj (a b : Int) : (a != b) = !(a == b) := (rfl)
@[simp] theorem z69 (c : UInt8) (n : Nat) (h : n < 256) : (c.toNat == no_index (OfNat.ofNat n)) = (c == OfNat.ofNat n) := by
  show (c.toNat == n) = (c == UInt8.ofNat n)
  rw [Bool.eq_iff_iff]
  simp only [beq_iff_eq]
  constructor
  ·intro h'
   apply UInt8.toNat_inj.1
   rw [h',UInt8.toNat_ofNat_of_lt' h]
  ·rintro rfl
   rw [UInt8.toNat_ofNat_of_lt' h]
abbrev B (l : List UInt8) : ByteArray := ⟨l.toArray⟩
abbrev T (l : List UInt8) : D := .str (B l)
@[simp] theorem ydk (l : List UInt8) : ByteArray.size ⟨l.toArray⟩ = l.length := by simp [ByteArray.size]
@[simp] theorem z8q (l m : List UInt8) : (⟨l.toArray⟩ ++ ⟨m.toArray⟩ : ByteArray) = ⟨(l ++ m).toArray⟩ := by
  apply ByteArray.ext
  simp
theorem z8r {a b : ByteArray} (h : a.data.toList = b.data.toList) : a = b := by
 apply ByteArray.ext
 exact Array.ext' h
@[simp] theorem zoc (l : List UInt8) (i j : Nat) : ByteArray.extract ⟨l.toArray⟩ i j = ⟨((l.take j).drop i).toArray⟩ := by
  apply z8r
  rw [ByteArray.data_extract]
  simp [List.extract_eq_take_drop,List.drop_take]
end Go.Qz
