/- The evaluator of the claim and what it says, part Qk0 (several texts in one). -/
import Derived.Test.YtfikcfndmbcaoaaQj0
import Derived.Test.YtfikcfndmbcaoaaQi0
import Derived.Test.YtfikcfndmbcaoaaQg2
/- The seat's context: what is lent to be written, what comes by contract. -/
namespace Go.Qz
open Go.Proofs

@[simp] def ioS : FuncId → List Nat := fun f => if f = fn_w_markStringS then [0] else if f = fn_w_markHunkS then [0] else if f = fn_w_markIntS then [0] else []
attribute [simp] fn_w_markStringS fn_w_markHunkS fn_w_markIntS
def X0 : CallF := fun _ _ _ => none
/-- slices.Clone at an empty slice: whether nil or not, an empty slice comes. -/
def XS : CallF := fun f us bx => if f = fn_slices_Clone_L_string_string then (match us, bx with
  | [.ro (.sl _ [])], [] => some (.one (.own (.sl 1 [])), [])
  | _, _ => none) else none
noncomputable abbrev C : CallF := callLim Try.prog ioS XS
noncomputable abbrev cx : Ctx := ⟨Try.prog, ioS, C⟩
end Go.Qz

/- What the functions come to: sizes. -/
namespace Go.Qz
open Go.Proofs

abbrev Lines := List (List UInt8)
abbrev SS (xs : Lines) : D := .sl 1 (xs.map T)
abbrev I (n : Int) : D := .int .i64 n
abbrev N (n : Nat) : D := .int .i64 (n : Int)

@[simp] theorem flats_T (xs : Lines) : flats (xs.map T) = true := by
  induction xs with
  | nil => rfl
  | cons a r ih => simp [flats, D.flat, ih]

def szL : Lines → Int → Int
  | [], l => l
  | x :: r, l => if l - x.length < 0 then -1 else szL r (l - x.length)
def szSS (xs : Lines) (l : Int) : Int := if l - xs.length < 0 then -1 else szL xs (l - xs.length)

theorem szStringS_ev (xs : Lines) (l : Int) (hl : 0 ≤ l) (hl2 : l ≤ 1048576) (hn : xs.length ≤ 140737488351232) (hx : ∀ x ∈ xs, x.length ≤ 140737488351232) :
    C fn_w_szStringS [.ro (SS xs), .ro (I l)] [] = some (.one (.ro (I (szSS xs l))), []) := by
  refine ctx_call Try.func19 conv_w_szStringS rfl ?_
  have h1 : IntKind.i64.wrap (l - xs.length) = l - xs.length := wrap64 (by omega) (by omega)
  unfold szSS
  by_cases hneg : l - xs.length < 0
  · simp [h1, hneg]
  · simp [h1, hneg]
    refine loop_run (fun m e => ∃ i l', m = xs.length - i ∧ i ≤ xs.length ∧ 0 ≤ l' ∧ l' ≤ 1048576 ∧ e.size = 28 ∧ e.get 0 = .one (.ro (SS xs)) ∧ e.get 1 = .one (.ro (I l')) ∧ e.get 5 = .one (.ro (N i)) ∧
      szL (xs.drop i) l' = szL xs (l - xs.length)) ?_ xs.length _ ⟨0, l - xs.length, rfl, Nat.zero_le _, by omega, by omega, by simp, by simp, by simp, by simp, rfl⟩
    rintro m e ⟨i, l', rfl, hi, hl0, hl1, hsz, h0, h1, h5, hr⟩ ih
    rcases Nat.lt_or_ge i xs.length with hlt | hge
    · have hxl := hx xs[i] (List.getElem_mem hlt)
      have hd : xs.drop i = xs[i] :: xs.drop (i + 1) := List.drop_eq_getElem_cons hlt
      have hw : IntKind.i64.wrap (l' - xs[i].length) = l' - xs[i].length := wrap64 (by omega) (by omega)
      rw [hd, szL] at hr
      have hwi : IntKind.i64.wrap ((i : Int) + 1) = ((i + 1 : Nat) : Int) := wrap64_succ (by omega)
      simp [hsz, h0, h1, h5, hlt, hw, hwi]
      split
      · rename_i hc
        rw [if_pos hc] at hr
        simp [← hr]
      · rename_i hc
        rw [if_neg hc] at hr
        exact ih _ _ (by omega) ⟨i + 1, _, rfl, by omega, by omega, by omega, by simp [hsz], by simp [h0], by simp, by simp, hr⟩
    · obtain rfl : i = xs.length := by omega
      simp [szL] at hr
      simp [hsz, h0, h1, h5, hr]
end Go.Qz

/- What the functions come to: plain text. -/
namespace Go.Qz
open Go.Proofs

def plainB (b : UInt8) : Bool := decide (32 ≤ b.toNat) && decide (b.toNat ≤ 126)
def plainT (l : List UInt8) : Bool := decide (l.length ≤ 80) && l.all plainB
def seenT (l : List UInt8) : Bool := l.all plainB && decide (l.length ≤ 80)
theorem seen_plain (l : List UInt8) : seenT l = plainT l := by unfold seenT plainT; exact Bool.and_comm _ _
def inI (n a b : Int) : Bool := decide (a ≤ n) && decide (n ≤ b)

theorem plainByte_ev (b : UInt8) : C fn_i_plainByte [.ro (.int .u8 b.toNat)] [] = some (.one (.ro (.bool (plainB b))), []) := by
  refine ctx_call Try.func80 conv_i_plainByte rfl ?_
  unfold plainB
  by_cases h : 32 ≤ b.toNat <;> simp [h]

theorem l1In_ev (n a b : Int) : C fn_s_l1In [.ro (I n), .ro (I a), .ro (I b)] [] = some (.one (.ro (.bool (inI n a b))), []) := by
  refine ctx_call Try.func66 conv_s_l1In rfl ?_
  unfold inI
  by_cases h : a ≤ n <;> simp [h]

theorem in_plain (b : UInt8) : inI b.toNat 32 126 = plainB b := by
  unfold inI plainB
  congr 1
  · simp
  · simp

theorem plainText_ev (l : List UInt8) : C fn_i_plainText [.ro (T l)] [] = some (.one (.ro (.bool (plainT l))), []) := by
  refine ctx_call Try.func74 conv_i_plainText rfl ?_
  unfold plainT
  by_cases hs : l.length ≤ 80
  · have hs' : ¬ (80 : Int) < l.length := by omega
    simp [hs']
    refine loop_run (fun m e => ∃ i, m = l.length - i ∧ i ≤ l.length ∧ e.size = 18 ∧ e.get 0 = .one (.ro (T l)) ∧ e.get 8 = .one (.ro (N l.length)) ∧ e.get 9 = .one (.ro (N i)) ∧
      (l.drop i).all plainB = l.all plainB) ?_ l.length _ ⟨0, rfl, Nat.zero_le _, by simp, by simp, by simp, by simp, rfl⟩
    rintro m e ⟨i, rfl, hi, hsz, h0, h8, h9, hr⟩ ih
    rcases Nat.lt_or_ge i l.length with hlt | hge
    · have hd : l.drop i = l[i] :: l.drop (i + 1) := List.drop_eq_getElem_cons hlt
      have hwi : IntKind.i64.wrap ((i : Int) + 1) = ((i + 1 : Nat) : Int) := wrap64_succ (by omega)
      rw [hd, List.all_cons] at hr
      cases hp : plainB l[i] with
      | false =>
        rw [hp] at hr
        simp [plainByte_ev, hsz, h0, h8, h9, hlt, hp, hs, ← hr]
      | true =>
        rw [hp, Bool.true_and] at hr
        simp [plainByte_ev, hsz, h0, h8, h9, hlt, hwi, hp]
        exact ih _ _ (by omega) ⟨i + 1, rfl, by omega, by simp [hsz], by simp [h0], by simp [h8], by simp, hr⟩
    · obtain rfl : i = l.length := by omega
      rw [List.drop_length, List.all_nil] at hr
      simp [hsz, h0, h8, h9, hs, ← hr]
  · have hs' : 80 < l.length := by omega
    simp [hs', hs]

theorem l5Seen_ev (l : List UInt8) (hl : l.length ≤ 140737488351232) : C fn_s_l5Seen [.ro (T l)] [] = some (.one (.ro (.bool (seenT l))), []) := by
  refine ctx_call Try.func73 conv_s_l5Seen rfl ?_
  unfold seenT
  simp
  refine loop_run (fun m e => ∃ i, m = l.length - i ∧ i ≤ l.length ∧ e.size = 19 ∧ e.get 0 = .one (.ro (T l)) ∧ e.get 3 = .one (.ro (N i)) ∧
    (l.drop i).all plainB = l.all plainB) ?_ l.length _ ⟨0, rfl, Nat.zero_le _, by simp, by simp, by simp, rfl⟩
  rintro m e ⟨i, rfl, hi, hsz, h0, h3, hr⟩ ih
  rcases Nat.lt_or_ge i l.length with hlt | hge
  · have hd : l.drop i = l[i] :: l.drop (i + 1) := List.drop_eq_getElem_cons hlt
    have hwi : IntKind.i64.wrap ((i : Int) + 1) = ((i + 1 : Nat) : Int) := wrap64_succ (by omega)
    have hwb : IntKind.i64.wrap (l[i].toNat : Int) = l[i].toNat := by have := l[i].toNat_lt; exact wrap64 (by omega) (by omega)
    rw [hd, List.all_cons] at hr
    cases hp : plainB l[i] with
    | false =>
      rw [hp] at hr
      simp [l1In_ev, in_plain, hsz, h0, h3, hlt, hwb, hp, ← hr]
    | true =>
      rw [hp, Bool.true_and] at hr
      simp [l1In_ev, in_plain, hsz, h0, h3, hlt, hwi, hwb, hp]
      exact ih _ _ (by omega) ⟨i + 1, rfl, by omega, by simp [hsz], by simp [h0], by simp, hr⟩
  · obtain rfl : i = l.length := by omega
    rw [List.drop_length, List.all_nil] at hr
    simp [hsz, h0, h3, ← hr]
end Go.Qz

/- What the functions come to: hunks, as the program has them. -/
namespace Go.Qz
open Go.Proofs

abbrev Hk := Int × Lines
abbrev HD (h : Hk) : D := .agg [I h.1, SS h.2]
abbrev HS (hs : List Hk) : D := .sl 2 (hs.map HD)

def signB (b : UInt8) : Bool := b == 32 || b == 45 || b == 43
def hlOk : List UInt8 → Bool
  | [] => false
  | c :: r => signB c && plainT r
def oldL (xs : Lines) : Lines := (xs.filter (fun x => !(x.head? == some 43))).map List.tail
def newL (xs : Lines) : Lines := (xs.filter (fun x => !(x.head? == some 45))).map List.tail
def goI : Int → List Hk → Bool
  | _, [] => true
  | least, h :: r => decide (least ≤ h.1) && decide (h.1 ≤ 999) && decide (1 ≤ h.2.length) && decide (h.2.length ≤ 30) && h.2.all hlOk && goI (h.1 + (oldL h.2).length) r
def hunksOkI (hs : List Hk) : Bool := decide (hs.length ≤ 4) && goI 1 hs

theorem hunkLineOk_ev (l : List UInt8) : C fn_i_hunkLineOk [.ro (T l)] [] = some (.one (.ro (.bool (hlOk l))), []) := by
  refine ctx_call Try.func51 conv_i_hunkLineOk rfl ?_
  cases l with
  | nil => simp [hlOk]
  | cons c r =>
    unfold hlOk signB
    cases h1 : c == 32
    · cases h2 : c == 45
      · cases h3 : c == 43
        · simp [h1, h2, h3, plainText_ev]
        · simp [h1, h2, h3, plainText_ev]
      · simp [h1, h2, plainText_ev]
    · simp [h1, plainText_ev]

theorem SS_get (xs : Lines) (i : Nat) (h : i < xs.length) : (xs.map T)[i]? = some (T xs[i]) := by simp [h]

theorem allStr_ev (xs : Lines) (f : FuncId) (p : List UInt8 → Bool) (hn : xs.length ≤ 140737488351232) (hf : ∀ x ∈ xs, C f [.ro (T x)] [] = some (.one (.ro (.bool (p x))), [])) :
    C fn_i_all_string [.ro (SS xs), .fn f []] [] = some (.one (.ro (.bool (xs.all p))), []) := by
  refine ctx_call Try.func50 conv_i_all_string rfl ?_
  simp
  refine loop_run (fun m e => ∃ i, m = xs.length - i ∧ i ≤ xs.length ∧ e.size = 18 ∧ e.get 1 = .one (.fn f []) ∧ e.get 7 = .one (.ro (SS xs)) ∧ e.get 8 = .one (.ro (N xs.length)) ∧ e.get 9 = .one (.ro (N i)) ∧
    (xs.drop i).all p = xs.all p) ?_ xs.length _ ⟨0, rfl, Nat.zero_le _, by simp, by simp, by simp, by simp, by simp, rfl⟩
  rintro m e ⟨i, rfl, hi, hsz, h1, h7, h8, h9, hr⟩ ih
  rcases Nat.lt_or_ge i xs.length with hlt | hge
  · have hd : xs.drop i = xs[i] :: xs.drop (i + 1) := List.drop_eq_getElem_cons hlt
    have hwi : IntKind.i64.wrap ((i : Int) + 1) = ((i + 1 : Nat) : Int) := wrap64_succ (by omega)
    have hfx := hf xs[i] (List.getElem_mem hlt)
    rw [hd, List.all_cons] at hr
    cases hp : p xs[i] with
    | false =>
      rw [hp] at hr hfx
      simp [hfx, hsz, h1, h7, h8, h9, hlt, ← hr]
    | true =>
      rw [hp] at hr hfx
      rw [Bool.true_and] at hr
      simp [hfx, hsz, h1, h7, h8, h9, hlt, hwi]
      exact ih _ _ (by omega) ⟨i + 1, rfl, by omega, by simp [hsz], by simp [h1], by simp [h7], by simp [h8], by simp, hr⟩
  · obtain rfl : i = xs.length := by omega
    rw [List.drop_length, List.all_nil] at hr
    simp [hsz, h7, h8, h9, ← hr]

theorem sides_ev (xs : Lines) (hn : xs.length ≤ 30) (hne : ∀ x ∈ xs, x ≠ []) :
    C fn_i_sides [.ro (SS xs)] [] = some (.tup [.own (SS (oldL xs)), .own (SS (newL xs))], []) := by
  refine ctx_call Try.func52 conv_i_sides rfl ?_
  simp
  refine loop_run (fun m e => ∃ i, m = xs.length - i ∧ i ≤ xs.length ∧ e.size = 33 ∧ e.get 4 = .one (.own (SS (oldL (xs.take i)))) ∧ e.get 5 = .one (.own (SS (newL (xs.take i)))) ∧ e.get 8 = .one (.ro (SS xs)) ∧ e.get 9 = .one (.ro (N xs.length)) ∧ e.get 10 = .one (.ro (N i)))
    ?_ xs.length _ ⟨0, rfl, Nat.zero_le _, by simp, by simp [oldL], by simp [newL], by simp, by simp, by simp⟩
  rintro m e ⟨i, rfl, hi, hsz, h4, h5, h8, h9, h10⟩ ih
  rcases Nat.lt_or_ge i xs.length with hlt | hge
  · have hwi : IntKind.i64.wrap ((i : Int) + 1) = ((i + 1 : Nat) : Int) := wrap64_succ (by omega)
    have hl1 : (oldL (xs.take i)).length ≤ 30 := by
      unfold oldL; rw [List.length_map]
      exact Nat.le_trans (List.length_filter_le _ _) (by simp; omega)
    have hl2 : (newL (xs.take i)).length ≤ 30 := by
      unfold newL; rw [List.length_map]
      exact Nat.le_trans (List.length_filter_le _ _) (by simp; omega)
    obtain ⟨c, r, hcr⟩ : ∃ c r, xs[i] = c :: r := by
      cases hq : xs[i] with
      | nil => exact absurd hq (hne _ (List.getElem_mem hlt))
      | cons c r => exact ⟨c, r, rfl⟩
    have ht : xs.take (i + 1) = xs.take i ++ [c :: r] := by rw [List.take_succ_eq_append_getElem hlt, hcr]
    have o : oldL (xs.take (i + 1)) = oldL (xs.take i) ++ if c == 43 then [] else [r] := by
      rw [ht]; unfold oldL; rw [List.filter_append, List.map_append]; cases h : c == 43 <;> simp [List.filter_cons, h]
    have n : newL (xs.take (i + 1)) = newL (xs.take i) ++ if c == 45 then [] else [r] := by
      rw [ht]; unfold newL; rw [List.filter_append, List.map_append]; cases h : c == 45 <;> simp [List.filter_cons, h]
    have ha1 : (oldL (xs.take i)).length + 1 ≤ appendMax := by simp [appendMax]; omega
    have ha2 : (newL (xs.take i)).length + 1 ≤ appendMax := by simp [appendMax]; omega
    cases h1 : c == 43 <;> cases h2 : c == 45
    all_goals
      simp [hsz, h4, h5, h8, h9, h10, hlt, hcr, h1, h2, ha1, ha2, hwi]
      exact ih _ _ (by omega) ⟨i + 1, rfl, by omega, by simp [hsz], by simp [o, h1, h4], by simp [n, h2, h5], by simp [h8], by simp [h9], by simp⟩
  · obtain rfl : i = xs.length := by omega
    rw [List.take_length] at h4 h5
    simp [hsz, h4, h5, h8, h9, h10]
end Go.Qz

/- What the functions come to: names and texts of files. -/
namespace Go.Qz
open Go.Proofs

def nameB (b : UInt8) : Bool := ((decide (97 ≤ b.toNat) && decide (b.toNat ≤ 122)) || (decide (48 ≤ b.toNat) && decide (b.toNat ≤ 57))) || b == 46 || b == 95 || b == 45

theorem nameByte_ev (b : UInt8) : C fn_i_nameByte [.ro (.int .u8 b.toNat)] [] = some (.one (.ro (.bool (nameB b))), []) := by
  refine ctx_call Try.func86 conv_i_nameByte rfl ?_
  unfold nameB
  by_cases h1 : 97 ≤ b.toNat <;> by_cases h2 : b.toNat ≤ 122 <;> by_cases h3 : 48 ≤ b.toNat <;> by_cases h4 : b.toNat ≤ 57 <;> cases h5 : b == 46 <;> cases h6 : b == 95 <;> simp [h1, h2, h3, h4, h5, h6]
theorem l1Small_ev (b : UInt8) : C fn_s_l1Small [.ro (.int .u8 b.toNat)] [] = some (.one (.ro (.bool (nameB b))), []) := by
  refine ctx_call Try.func69 conv_s_l1Small rfl ?_
  unfold nameB
  by_cases h1 : 97 ≤ b.toNat <;> by_cases h2 : b.toNat ≤ 122 <;> by_cases h3 : 48 ≤ b.toNat <;> by_cases h4 : b.toNat ≤ 57 <;> cases h5 : b == 46 <;> cases h6 : b == 95 <;> simp [h1, h2, h3, h4, h5, h6]

theorem nameBytes_ev (l : List UInt8) (hn : l.length ≤ 140737488351232) : C fn_i_nameBytes [.ro (T l)] [] = some (.one (.ro (.bool (l.all nameB && !(l == [])))), []) := by
  refine ctx_call Try.func79 conv_i_nameBytes rfl ?_
  simp
  refine loop_run (fun m e => ∃ i, m = l.length - i ∧ i ≤ l.length ∧ e.size = 17 ∧ e.get 0 = .one (.ro (T l)) ∧ e.get 5 = .one (.ro (N l.length)) ∧ e.get 6 = .one (.ro (N i)) ∧
    (l.drop i).all nameB = l.all nameB) ?_ l.length _ ⟨0, rfl, Nat.zero_le _, by simp, by simp, by simp, by simp, rfl⟩
  rintro m e ⟨i, rfl, hi, hsz, h0, h8, h9, hr⟩ ih
  rcases Nat.lt_or_ge i l.length with hlt | hge
  · have hd : l.drop i = l[i] :: l.drop (i + 1) := List.drop_eq_getElem_cons hlt
    have hwi : IntKind.i64.wrap ((i : Int) + 1) = ((i + 1 : Nat) : Int) := wrap64_succ (by omega)
    rw [hd, List.all_cons] at hr
    cases hp : nameB l[i] with
    | false =>
      rw [hp] at hr
      simp [nameByte_ev, hsz, h0, h8, h9, hlt, hp, ← hr]
    | true =>
      rw [hp, Bool.true_and] at hr
      simp [nameByte_ev, hsz, h0, h8, h9, hlt, hwi, hp]
      exact ih _ _ (by omega) ⟨i + 1, rfl, by omega, by simp [hsz], by simp [h0], by simp [h8], by simp, hr⟩
  · obtain rfl : i = l.length := by omega
    rw [List.drop_length, List.all_nil] at hr
    simp [hsz, h0, h8, h9, ← hr]

def nameI (l : List UInt8) : Bool := decide (l.length ≤ 10) && (!(l == [46])) && (!(l == [46, 46])) && (l.all nameB && !(l == []))
def nameS (l : List UInt8) : Bool := l.all nameB && (inI l.length 1 10 && (!(l == [46])) && !(l == [46, 46]))
theorem name_eq (l : List UInt8) : nameS l = nameI l := by
  have h0 : (!(l == [])) = decide (1 ≤ (l.length : Int)) := by cases l <;> simp
  have h1 : decide ((l.length : Int) ≤ 10) = decide (l.length ≤ 10) := by congr 1; apply propext; omega
  unfold nameS nameI inI
  rw [h0, h1]
  cases l.all nameB <;> cases decide (1 ≤ (l.length : Int)) <;> cases decide (l.length ≤ 10) <;> cases l == [46] <;> cases l == [46, 46] <;> rfl

theorem nameOk_ev (l : List UInt8) (hn : l.length ≤ 140737488351232) : C fn_i_nameOk [.ro (T l)] [] = some (.one (.ro (.bool (nameI l))), []) := by
  refine ctx_call Try.func70 conv_i_nameOk rfl ?_
  have hb := nameBytes_ev l hn
  unfold nameI
  by_cases h1 : l.length ≤ 10 <;> cases h2 : l == [46] <;> cases h3 : l == [46, 46] <;> simp [h1, h2, h3, hb]

theorem l1Name_ev (l : List UInt8) (hn : l.length ≤ 140737488351232) : C fn_s_l1Name [.ro (T l)] [] = some (.one (.ro (.bool (nameS l))), []) := by
  refine ctx_call Try.func37 conv_s_l1Name rfl ?_
  unfold nameS
  simp
  refine loop_run (fun m e => ∃ i, m = l.length - i ∧ i ≤ l.length ∧ e.size = 26 ∧ e.get 0 = .one (.ro (T l)) ∧ e.get 3 = .one (.ro (N i)) ∧
    (l.drop i).all nameB = l.all nameB) ?_ l.length _ ⟨0, rfl, Nat.zero_le _, by simp, by simp, by simp, rfl⟩
  rintro m e ⟨i, rfl, hi, hsz, h0, h3, hr⟩ ih
  rcases Nat.lt_or_ge i l.length with hlt | hge
  · have hd : l.drop i = l[i] :: l.drop (i + 1) := List.drop_eq_getElem_cons hlt
    have hwi : IntKind.i64.wrap ((i : Int) + 1) = ((i + 1 : Nat) : Int) := wrap64_succ (by omega)
    rw [hd, List.all_cons] at hr
    cases hp : nameB l[i] with
    | false =>
      rw [hp] at hr
      simp [l1Small_ev, hsz, h0, h3, hlt, hp, ← hr]
    | true =>
      rw [hp, Bool.true_and] at hr
      simp [l1Small_ev, hsz, h0, h3, hlt, hwi, hp]
      exact ih _ _ (by omega) ⟨i + 1, rfl, by omega, by simp [hsz], by simp [h0], by simp, hr⟩
  · obtain rfl : i = l.length := by omega
    rw [List.drop_length, List.all_nil] at hr
    have hin := l1In_ev l.length 1 10
    rw [← hr]
    cases g1 : inI l.length 1 10 <;> cases g2 : l == [46] <;> cases g3 : l == [46, 46] <;> rw [g1] at hin <;> simp [hsz, h0, h3, hin, g1, g2, g3]

def textB (b : UInt8) : Bool := plainB b || b == 10
def textI (l : List UInt8) : Bool := decide (l.length ≤ 80) && l.all textB
def textS (l : List UInt8) : Bool := l.all textB && decide (l.length ≤ 80)
theorem text_eq (l : List UInt8) : textS l = textI l := Bool.and_comm _ _

theorem fileText_ev (l : List UInt8) : C fn_i_fileText [.ro (T l)] [] = some (.one (.ro (.bool (textI l))), []) := by
  refine ctx_call Try.func71 conv_i_fileText rfl ?_
  unfold textI
  by_cases hs : l.length ≤ 80
  · have hs' : ¬ (80 : Int) < l.length := by omega
    simp [hs']
    refine loop_run (fun m e => ∃ i, m = l.length - i ∧ i ≤ l.length ∧ e.size = 24 ∧ e.get 0 = .one (.ro (T l)) ∧ e.get 8 = .one (.ro (N l.length)) ∧ e.get 9 = .one (.ro (N i)) ∧
      (l.drop i).all textB = l.all textB) ?_ l.length _ ⟨0, rfl, Nat.zero_le _, by simp, by simp, by simp, by simp, rfl⟩
    rintro m e ⟨i, rfl, hi, hsz, h0, h8, h9, hr⟩ ih
    rcases Nat.lt_or_ge i l.length with hlt | hge
    · have hd : l.drop i = l[i] :: l.drop (i + 1) := List.drop_eq_getElem_cons hlt
      have hwi : IntKind.i64.wrap ((i : Int) + 1) = ((i + 1 : Nat) : Int) := wrap64_succ (by omega)
      rw [hd, List.all_cons] at hr
      cases hp : plainB l[i] <;> cases hq : l[i] == 10 <;> simp only [textB, hp, hq, Bool.or_false, Bool.or_true, Bool.or_self, Bool.false_and, Bool.true_and] at hr
      · simp [plainByte_ev, hsz, h0, h8, h9, hlt, hp, hq, hs, ← hr]
      all_goals
        simp [plainByte_ev, hsz, h0, h8, h9, hlt, hwi, hp, hq]
        exact ih _ _ (by omega) ⟨i + 1, rfl, by omega, by simp [hsz], by simp [h0], by simp [h8], by simp, hr⟩
    · obtain rfl : i = l.length := by omega
      rw [List.drop_length, List.all_nil] at hr
      simp [hsz, h0, h8, h9, hs, ← hr]
  · have hs' : 80 < l.length := by omega
    simp [hs', hs]

theorem l2Text_ev (l : List UInt8) (hn : l.length ≤ 140737488351232) : C fn_s_l2Text [.ro (T l)] [] = some (.one (.ro (.bool (textS l))), []) := by
  refine ctx_call Try.func38 conv_s_l2Text rfl ?_
  unfold textS
  simp
  refine loop_run (fun m e => ∃ i, m = l.length - i ∧ i ≤ l.length ∧ e.size = 25 ∧ e.get 0 = .one (.ro (T l)) ∧ e.get 3 = .one (.ro (N i)) ∧
    (l.drop i).all textB = l.all textB) ?_ l.length _ ⟨0, rfl, Nat.zero_le _, by simp, by simp, by simp, rfl⟩
  rintro m e ⟨i, rfl, hi, hsz, h0, h3, hr⟩ ih
  rcases Nat.lt_or_ge i l.length with hlt | hge
  · have hd : l.drop i = l[i] :: l.drop (i + 1) := List.drop_eq_getElem_cons hlt
    have hwi : IntKind.i64.wrap ((i : Int) + 1) = ((i + 1 : Nat) : Int) := wrap64_succ (by omega)
    have hwb : IntKind.i64.wrap (l[i].toNat : Int) = l[i].toNat := by have := l[i].toNat_lt; exact wrap64 (by omega) (by omega)
    rw [hd, List.all_cons] at hr
    cases hp : plainB l[i] <;> cases hq : l[i] == 10 <;> simp only [textB, hp, hq, Bool.or_false, Bool.or_true, Bool.or_self, Bool.false_and, Bool.true_and] at hr
    · simp [l1In_ev, in_plain, hsz, h0, h3, hlt, hwb, hp, hq, ← hr]
    all_goals
      simp [l1In_ev, in_plain, hsz, h0, h3, hlt, hwi, hwb, hp, hq]
      exact ih _ _ (by omega) ⟨i + 1, rfl, by omega, by simp [hsz], by simp [h0], by simp, hr⟩
  · obtain rfl : i = l.length := by omega
    rw [List.drop_length, List.all_nil] at hr
    simp [hsz, h0, h3, ← hr]
end Go.Qz

/- What comes by contract, proved. -/
namespace Go.Qz
open Go.Proofs

theorem mixed : Try.prog.follows .mixedOrders = true := by kernel_rfl
theorem noGo : (Try.prog.funcs.all fun fn => !(fn.name == "runtime.NumGoroutine")) = true := by kernel_rfl
theorem noName (f : FuncId) (fn : Func) (hf : Try.prog.funcs[f]? = some fn) : fn.name ≠ "runtime.NumGoroutine" := fun hn => by
  have h := Array.all_eq_true_iff_forall_mem.1 noGo fn (Array.mem_of_getElem? hf)
  rw [hn] at h
  exact absurd h (by decide)
theorem sound0 : CallSound Try.prog (callLim Try.prog ioS X0) :=
  callLim_sound mixed (fun f us bx r bx' h => by cases h) noName

theorem clone_snil : callLim Try.prog ioS X0 fn_slices_Clone_L_string_string [.ro .snil] [] = some (.one (.own (.sl 1 [])), []) := by
  refine ctx_call Try.func64 conv_slices_Clone_L_string_string rfl ?_
  simp
theorem clone_sne : callLim Try.prog ioS X0 fn_slices_Clone_L_string_string [.ro .sne] [] = some (.one (.own (.sl 1 [])), []) := by
  refine ctx_call Try.func64 conv_slices_Clone_L_string_string rfl ?_
  have ha : 0 ≤ appendMax := by simp [appendMax]
  simp [ha]
theorem XS_sound : CallSound Try.prog XS := by
  intro f us bx r bx' h
  unfold XS at h
  split at h
  · rename_i hf
    subst hf
    split at h
    · rename_i z
      simp only [Option.some.injEq, Prod.mk.injEq] at h
      obtain ⟨rfl, rfl⟩ := h
      exact empties sound0 (z := z) (k := 0) (ds := [.sl z []]) rfl clone_snil clone_sne
    · cases h
  · cases h
theorem sound : CallSound Try.prog C := callLim_sound mixed XS_sound noName

theorem clone_ev (xs : Lines) (hn : xs.length ≤ 1048576) : C fn_slices_Clone_L_string_string [.ro (SS xs)] [] = some (.one (.own (SS xs)), []) := by
  cases xs with
  | nil =>
    show callLim Try.prog ioS XS fn_slices_Clone_L_string_string [.ro (.sl 1 [])] [] = _
    exact callLim_x rfl
  | cons x r =>
    show C fn_slices_Clone_L_string_string [.ro (.sl 1 (T x :: r.map T))] [] = some (.one (.own (.sl 1 (T x :: r.map T))), [])
    refine ctx_call Try.func64 conv_slices_Clone_L_string_string rfl ?_
    have ha : r.length + 1 ≤ appendMax := by simp at hn; simp [appendMax]; omega
    simp [ha]
end Go.Qz

/- What the functions come to: files. -/
namespace Go.Qz
open Go.Proofs

abbrev Fl := List UInt8 × List UInt8
abbrev FD (f : Fl) : D := .agg [T f.1, T f.2]
abbrev FS (fs : List Fl) : D := .sl 2 (fs.map FD)
@[simp] theorem flats_FD (fs : List Fl) : flats (fs.map FD) = true := by
  induction fs with
  | nil => rfl
  | cons a r ih => simp [flats, D.flat, ih]

def fileB (f : Fl) : Bool := nameI f.1 && textI f.2

theorem fileOk_ev (f : Fl) (hn : f.1.length ≤ 140737488351232) : C fn_i_fileOk [.ro (FD f)] [] = some (.one (.ro (.bool (fileB f))), []) := by
  refine ctx_call Try.func43 conv_i_fileOk rfl ?_
  have h1 := nameOk_ev f.1 hn
  have h2 := fileText_ev f.2
  unfold fileB
  cases c1 : nameI f.1 <;> rw [c1] at h1 <;> simp [h1, h2]

theorem fileName_ev (f : Fl) : C fn_i_FilesOk_cl1 [.ro (FD f)] [] = some (.one (.ro (T f.1)), []) := by
  refine ctx_call Try.func41 conv_i_FilesOk_cl1 rfl ?_
  simp

theorem allFile_ev (fs : List Fl) (hn : fs.length ≤ 140737488351232) (hx : ∀ f ∈ fs, f.1.length ≤ 140737488351232) :
    C fn_i_all_i_File [.ro (FS fs), .fn fn_i_fileOk []] [] = some (.one (.ro (.bool (fs.all fileB))), []) := by
  refine ctx_call Try.func42 conv_i_all_i_File rfl ?_
  simp
  refine loop_run (fun m e => ∃ i, m = fs.length - i ∧ i ≤ fs.length ∧ e.size = 18 ∧ e.get 1 = .one (.fn fn_i_fileOk []) ∧ e.get 7 = .one (.ro (FS fs)) ∧ e.get 8 = .one (.ro (N fs.length)) ∧ e.get 9 = .one (.ro (N i)) ∧
    (fs.drop i).all fileB = fs.all fileB) ?_ fs.length _ ⟨0, rfl, Nat.zero_le _, by simp, by simp, by simp, by simp, by simp, rfl⟩
  rintro m e ⟨i, rfl, hi, hsz, h1, h7, h8, h9, hr⟩ ih
  rcases Nat.lt_or_ge i fs.length with hlt | hge
  · have hd : fs.drop i = fs[i] :: fs.drop (i + 1) := List.drop_eq_getElem_cons hlt
    have hwi : IntKind.i64.wrap ((i : Int) + 1) = ((i + 1 : Nat) : Int) := wrap64_succ (by omega)
    have hfx := fileOk_ev fs[i] (hx _ (List.getElem_mem hlt))
    rw [hd, List.all_cons] at hr
    cases hp : fileB fs[i] with
    | false =>
      rw [hp] at hr hfx
      simp [hfx, hsz, h1, h7, h8, h9, hlt, ← hr]
    | true =>
      rw [hp] at hr hfx
      rw [Bool.true_and] at hr
      simp [hfx, hsz, h1, h7, h8, h9, hlt, hwi]
      exact ih _ _ (by omega) ⟨i + 1, rfl, by omega, by simp [hsz], by simp [h1], by simp [h7], by simp [h8], by simp, hr⟩
  · obtain rfl : i = fs.length := by omega
    rw [List.drop_length, List.all_nil] at hr
    simp [hsz, h7, h8, h9, ← hr]

def idxL (n : List UInt8) : Lines → Nat → Int
  | [], _ => -1
  | x :: r, i => if n == x then (i : Int) else idxL n r (i + 1)
theorem idxL_has (n : List UInt8) : ∀ (xs : Lines) (i : Nat), decide (idxL n xs i ≥ 0) = xs.contains n := by
  intro xs
  induction xs with
  | nil => intro i; rfl
  | cons x r ih =>
    intro i
    rw [idxL, List.contains_cons]
    cases h : n == x with
    | true => simp
    | false => simp [ih]

theorem index_ev (xs : Lines) (n : List UInt8) (hn : xs.length ≤ 140737488351232) : C fn_slices_Index_L_string_string [.ro (SS xs), .ro (T n)] [] = some (.one (.ro (I (idxL n xs 0))), []) := by
  refine ctx_call Try.func81 conv_slices_Index_L_string_string rfl ?_
  simp
  refine loop_run (fun m e => ∃ i, m = xs.length - i ∧ i ≤ xs.length ∧ e.size = 19 ∧ e.get 0 = .one (.ro (SS xs)) ∧ e.get 1 = .one (.ro (T n)) ∧ e.get 7 = .one (.ro (N xs.length)) ∧ e.get 8 = .one (.ro (N i)) ∧
    idxL n (xs.drop i) i = idxL n xs 0) ?_ xs.length _ ⟨0, rfl, Nat.zero_le _, by simp, by simp, by simp, by simp, by simp, rfl⟩
  rintro m e ⟨i, rfl, hi, hsz, h0, h1, h7, h8, hr⟩ ih
  rcases Nat.lt_or_ge i xs.length with hlt | hge
  · have hd : xs.drop i = xs[i] :: xs.drop (i + 1) := List.drop_eq_getElem_cons hlt
    have hwi : IntKind.i64.wrap ((i : Int) + 1) = ((i + 1 : Nat) : Int) := wrap64_succ (by omega)
    rw [hd, idxL] at hr
    cases hp : n == xs[i] with
    | true =>
      rw [hp, if_pos rfl] at hr
      simp [hsz, h0, h1, h7, h8, hlt, hp, ← hr]
    | false =>
      rw [hp] at hr
      simp only [Bool.false_eq_true, if_false] at hr
      simp [hsz, h0, h1, h7, h8, hlt, hwi, hp]
      exact ih _ _ (by omega) ⟨i + 1, rfl, by omega, by simp [hsz], by simp [h0], by simp [h1], by simp [h7], by simp, hr⟩
  · obtain rfl : i = xs.length := by omega
    rw [List.drop_length, idxL] at hr
    simp [hsz, h0, h1, h7, h8, ← hr]

theorem contains_ev (xs : Lines) (n : List UInt8) (hn : xs.length ≤ 140737488351232) : C fn_slices_Contains_L_string_string [.ro (SS xs), .ro (T n)] [] = some (.one (.ro (.bool (xs.contains n))), []) := by
  refine ctx_call Try.func72 conv_slices_Contains_L_string_string rfl ?_
  have h := index_ev xs n hn
  have h2 := idxL_has n xs 0
  generalize idxL n xs 0 = q at *
  rw [← h2]
  simp [h]

def twice : Lines → List Fl → Bool
  | _, [] => false
  | seen, f :: r => if seen.contains f.1 then true else twice (seen ++ [f.1]) r

set_option maxHeartbeats 1000000 in
theorem namesTwice_ev (fs : List Fl) (hn : fs.length ≤ 1048576) :
    C fn_i_namesTwice_i_File [.ro (FS fs), .fn fn_i_FilesOk_cl1 [], .ro (.sl 1 [])] [] = some (.one (.ro (.bool (twice [] fs))), []) := by
  refine ctx_call Try.func44 conv_i_namesTwice_i_File rfl ?_
  have hc := clone_ev [] (by simp)
  simp only [SS, List.map_nil] at hc
  simp [hc]
  refine loop_run (fun m e => ∃ i seen, m = fs.length - i ∧ i ≤ fs.length ∧ e.size = 30 ∧ e.get 1 = .one (.fn fn_i_FilesOk_cl1 []) ∧ e.get 7 = .one (.own (SS seen)) ∧ e.get 12 = .one (.ro (FS fs)) ∧ e.get 13 = .one (.ro (N fs.length)) ∧ e.get 14 = .one (.ro (N i)) ∧
    seen.length = i ∧ twice seen (fs.drop i) = twice [] fs) ?_ fs.length _ ⟨0, [], rfl, Nat.zero_le _, by simp, by simp, by simp, by simp, by simp, by simp, rfl, rfl⟩
  rintro m e ⟨i, seen, rfl, hi, hsz, h1, h7, h12, h13, h14, hsl, hr⟩ ih
  rcases Nat.lt_or_ge i fs.length with hlt | hge
  · have hd : fs.drop i = fs[i] :: fs.drop (i + 1) := List.drop_eq_getElem_cons hlt
    have hwi : IntKind.i64.wrap ((i : Int) + 1) = ((i + 1 : Nat) : Int) := wrap64_succ (by omega)
    have hfx := fileName_ev fs[i]
    have hcx := contains_ev seen fs[i].1 (by omega)
    have ha : seen.length + 1 ≤ appendMax := by simp only [appendMax]; omega
    rw [hd, twice] at hr
    cases hp : seen.contains fs[i].1 with
    | true =>
      rw [hp] at hr hcx
      rw [if_pos rfl] at hr
      simp [hfx, hcx, hsz, h1, h7, h12, h13, h14, hlt, ← hr]
    | false =>
      rw [hp] at hr hcx
      simp only [Bool.false_eq_true, if_false] at hr
      simp [hfx, hcx, hsz, h1, h7, h12, h13, h14, hlt, hwi, ha]
      exact ih _ _ (by omega) ⟨i + 1, seen ++ [fs[i].1], rfl, by omega, by simp [hsz], by simp [h1], by simp, by simp [h12], by simp [h13], by simp, by simp [hsl], hr⟩
  · obtain rfl : i = fs.length := by omega
    rw [List.drop_length, twice] at hr
    simp [hsz, h7, h12, h13, h14, ← hr]
end Go.Qz

/- What the functions come to: hunks ok, by the program and by the reference. -/
namespace Go.Qz
open Go.Proofs

theorem oldL_le (xs : Lines) : (oldL xs).length ≤ xs.length := by
  unfold oldL
  rw [List.length_map]
  exact List.length_filter_le _ _
theorem newL_le (xs : Lines) : (newL xs).length ≤ xs.length := by
  unfold newL
  rw [List.length_map]
  exact List.length_filter_le _ _
theorem hlOk_ne {x : List UInt8} (h : hlOk x = true) : x ≠ [] := by
  rintro rfl
  cases h

theorem HunksOkI_ev (hs : List Hk) (hb : ∀ h ∈ hs, h.2.length ≤ 140737488351232) : C fn_i_HunksOk [.ro (HS hs)] [] = some (.one (.ro (.bool (hunksOkI hs))), []) := by
  refine ctx_call Try.func17 conv_i_HunksOk rfl ?_
  unfold hunksOkI
  by_cases hn : hs.length ≤ 4
  · have hn' : ¬ 4 < hs.length := by omega
    simp [hn', hn]
    refine loop_run (fun m e => ∃ (i : Nat) (l : Int), m = hs.length - i ∧ i ≤ hs.length ∧ -1000 ≤ l ∧ l ≤ 2000 ∧ e.size = 54 ∧ e.get 3 = .one (.ro (I l)) ∧ e.get 11 = .one (.ro (HS hs)) ∧ e.get 12 = .one (.ro (N hs.length)) ∧ e.get 13 = .one (.ro (N i)) ∧
      goI l (hs.drop i) = goI 1 hs) ?_ hs.length _ ⟨0, 1, rfl, Nat.zero_le _, by omega, by omega, by simp, by simp, by simp, by simp, by simp, rfl⟩
    rintro m e ⟨i, l, rfl, hi, hl1, hl2, hsz, h3, h11, h12, h13, hr⟩ ih
    rcases Nat.lt_or_ge i hs.length with hlt | hge
    · have hd : hs.drop i = hs[i] :: hs.drop (i + 1) := List.drop_eq_getElem_cons hlt
      have hwi : IntKind.i64.wrap ((i : Int) + 1) = ((i + 1 : Nat) : Int) := wrap64_succ (by omega)
      have hbl := hb hs[i] (List.getElem_mem hlt)
      rw [hd, goI] at hr
      have hall := allStr_ev hs[i].2 fn_i_hunkLineOk hlOk hbl (fun x _ => hunkLineOk_ev x)
      by_cases c1 : hs[i].1 < l
      · have n1 : ¬ l ≤ hs[i].1 := by omega
        simp only [n1, decide_false, Bool.false_and] at hr
        simp [hsz, h3, h11, h12, h13, hlt, c1, ← hr]
      have n1 : l ≤ hs[i].1 := by omega
      by_cases c2 : 999 < hs[i].1
      · have n2 : ¬ hs[i].1 ≤ 999 := by omega
        simp only [n2, decide_false, Bool.false_and, Bool.and_false] at hr
        simp [hsz, h3, h11, h12, h13, hlt, c1, c2, ← hr]
      have n2 : hs[i].1 ≤ 999 := by omega
      by_cases c3 : hs[i].2 = []
      · simp only [c3, List.length_nil, Nat.not_succ_le_zero, decide_false, Bool.false_and, Bool.and_false] at hr
        simp [hsz, h3, h11, h12, h13, hlt, c1, c2, c3, ← hr]
      have n3 : 1 ≤ hs[i].2.length := by
        cases hq : hs[i].2 with
        | nil => exact absurd hq c3
        | cons a b => simp
      by_cases c4 : 30 < hs[i].2.length
      · have n4 : ¬ hs[i].2.length ≤ 30 := by omega
        simp only [n4, decide_false, Bool.false_and, Bool.and_false] at hr
        simp [hsz, h3, h11, h12, h13, hlt, c1, c2, c3, c4, ← hr]
      have n4 : hs[i].2.length ≤ 30 := by omega
      cases c5 : hs[i].2.all hlOk with
      | false =>
        rw [c5] at hall
        simp only [c5, Bool.false_and, Bool.and_false] at hr
        simp [hsz, h3, h11, h12, h13, hlt, c1, c2, c3, c4, hall, ← hr]
      | true =>
        rw [c5] at hall
        simp only [c5, n1, n2, n3, n4, decide_true, Bool.true_and] at hr
        have hsd := sides_ev hs[i].2 n4 (fun x hx => hlOk_ne (List.all_eq_true.1 c5 x hx))
        have hol := oldL_le hs[i].2
        have hwa : IntKind.i64.wrap (hs[i].1 + (oldL hs[i].2).length) = hs[i].1 + (oldL hs[i].2).length := wrap64 (by omega) (by omega)
        simp [hsz, h3, h11, h12, h13, hlt, c1, c2, c3, c4, hall, hsd, hwi, hwa]
        exact ih _ _ (by omega) ⟨i + 1, _, rfl, by omega, by omega, by omega, by simp [hsz], by simp, by simp [h11], by simp [h12], by simp, hr⟩
    · obtain rfl : i = hs.length := by omega
      rw [List.drop_length, goI] at hr
      simp [hsz, h3, h11, h12, h13, ← hr]
  · have hn' : 4 < hs.length := by omega
    simp [hn, hn']

theorem l5Old_ev (h : Hk) (hl : h.2.length ≤ 30) (hne : ∀ x ∈ h.2, x ≠ []) : C fn_s_l5Old [.ro (HD h)] [] = some (.one (.own (SS (oldL h.2))), []) := by
  refine ctx_call Try.func48 conv_s_l5Old rfl ?_
  simp
  refine loop_run (fun m e => ∃ i, m = h.2.length - i ∧ i ≤ h.2.length ∧ e.size = 30 ∧ e.get 1 = .one (.ptr 1 0) ∧ e.box 1 = some [.ro (I h.1), .ro (SS h.2)] ∧ e.get 3 = .one (.own (SS (oldL (h.2.take i)))) ∧ e.get 4 = .one (.ro (N i)))
    ?_ h.2.length _ ⟨0, rfl, Nat.zero_le _, by simp, by simp, by simp, by simp [oldL], by simp⟩
  rintro m e ⟨i, rfl, hi, hsz, h1, hb, h3, h4⟩ ih
  rcases Nat.lt_or_ge i h.2.length with hlt | hge
  · have hwi : IntKind.i64.wrap ((i : Int) + 1) = ((i + 1 : Nat) : Int) := wrap64_succ (by omega)
    have hl1 : (oldL (h.2.take i)).length ≤ 30 := Nat.le_trans (oldL_le _) (by simp; omega)
    obtain ⟨c, r, hcr⟩ : ∃ c r, h.2[i] = c :: r := by
      cases hq : h.2[i] with
      | nil => exact absurd hq (hne _ (List.getElem_mem hlt))
      | cons c r => exact ⟨c, r, rfl⟩
    have ht : h.2.take (i + 1) = h.2.take i ++ [c :: r] := by rw [List.take_succ_eq_append_getElem hlt, hcr]
    have o : oldL (h.2.take (i + 1)) = oldL (h.2.take i) ++ if c == 43 then [] else [r] := by
      rw [ht]; unfold oldL; rw [List.filter_append, List.map_append]; cases h : c == 43 <;> simp [h]
    have ha1 : (oldL (h.2.take i)).length + 1 ≤ appendMax := by simp [appendMax]; omega
    cases h1' : c == 43
    all_goals
      simp [hsz, h1, hb, h3, h4, hlt, hcr, h1', ha1, hwi]
      exact ih _ _ (by omega) ⟨i + 1, rfl, by omega, by simp [hsz], by simp [h1], by simp [hb], by simp [o, h1', h3], by simp⟩
  · obtain rfl : i = h.2.length := by omega
    rw [List.take_length] at h3
    simp [hsz, h1, hb, h3, h4]
end Go.Qz

/- What the functions come to: hunks of the reference; copies; comparisons. -/
namespace Go.Qz
open Go.Proofs

def hlS : List UInt8 → Bool
  | [] => false
  | c :: r => signB c && seenT r
theorem hlS_eq (l : List UInt8) : hlS l = hlOk l := by
  cases l with
  | nil => rfl
  | cons c r => simp only [hlS, hlOk, seen_plain]
def hunkS (h : Hk) : Bool := h.2.all hlS && (inI h.2.length 1 30 && inI h.1 1 999)

theorem l5Hunk_ev (h : Hk) (hl : h.2.length ≤ 140737488351232) (hx : ∀ x ∈ h.2, x.length ≤ 140737488351232) : C fn_s_l5Hunk [.ro (HD h)] [] = some (.one (.ro (.bool (hunkS h))), []) := by
  refine ctx_call Try.func47 conv_s_l5Hunk rfl ?_
  unfold hunkS
  simp
  refine loop_run (fun m e => ∃ i, m = h.2.length - i ∧ i ≤ h.2.length ∧ e.size = 49 ∧ e.get 1 = .one (.ptr 1 0) ∧ e.box 1 = some [.ro (I h.1), .ro (SS h.2)] ∧ e.get 3 = .one (.ro (N i)) ∧
    (h.2.drop i).all hlS = h.2.all hlS) ?_ h.2.length _ ⟨0, rfl, Nat.zero_le _, by simp, by simp, by simp, by simp, rfl⟩
  rintro m e ⟨i, rfl, hi, hsz, h1, hb, h3, hr⟩ ih
  rcases Nat.lt_or_ge i h.2.length with hlt | hge
  · have hwi : IntKind.i64.wrap ((i : Int) + 1) = ((i + 1 : Nat) : Int) := wrap64_succ (by omega)
    have hd : h.2.drop i = h.2[i] :: h.2.drop (i + 1) := List.drop_eq_getElem_cons hlt
    have hxl := hx h.2[i] (List.getElem_mem hlt)
    rw [hd, List.all_cons] at hr
    cases hq : h.2[i] with
    | nil =>
      rw [hq] at hr
      simp only [hlS, Bool.false_and] at hr
      simp [hsz, h1, hb, h3, hlt, hq, ← hr]
    | cons c r =>
      rw [hq] at hr hxl
      have hse := l5Seen_ev r (by simp at hxl; omega)
      have step : Run cx q_s_l5Hunk_l0 e (Fr.loop q_s_l5Hunk_l0 :: [Fr.blk 0, Fr.seq q_s_l5Hunk_c2, Fr.fn [(ResultVar.tmp 2, 4)] []]) = some (.one (.ro (.bool (h.2.all hlS && (inI h.2.length 1 30 && inI h.1 1 999)))), []) := by
        cases c1 : c == 32 <;> cases c2 : c == 45 <;> cases c3 : c == 43 <;> cases c4 : seenT r
        all_goals
          rw [c4] at hse
          simp only [hlS, signB, c1, c2, c3, c4, Bool.or_true, Bool.true_or, Bool.or_self, Bool.false_and, Bool.true_and, Bool.and_true, Bool.and_false, Bool.or_false, Bool.false_or] at hr
          first
          | (simp [hsz, h1, hb, h3, hlt, hq, c1, c2, c3, hse, ← hr]; done)
          | (simp [hsz, h1, hb, h3, hlt, hq, c1, c2, c3, hse, hwi]
             exact ih _ _ (by omega) ⟨i + 1, rfl, by omega, by simp [hsz], by simp [h1], by simp [hb], by simp, hr⟩)
      exact step
  · obtain rfl : i = h.2.length := by omega
    rw [List.drop_length, List.all_nil] at hr
    cases c1 : inI h.2.length 1 30
    · simp [hsz, h1, hb, h3, l1In_ev, c1, ← hr]
    · simp [hsz, h1, hb, h3, l1In_ev, c1, ← hr]

def goS : Option Hk → List Hk → Bool
  | _, [] => true
  | none, h :: r => hunkS h && goS (some h) r
  | some p, h :: r => (hunkS h && decide (p.1 + (oldL p.2).length ≤ h.1)) && goS (some h) r
def hunksOkS (hs : List Hk) : Bool := goS none hs && decide (hs.length ≤ 4)
end Go.Qz

/- What the functions come to: hunks ok of the reference. -/
namespace Go.Qz
open Go.Proofs

theorem hunkS_parts {h : Hk} (hh : hunkS h = true) : (∀ x ∈ h.2, x ≠ []) ∧ 1 ≤ h.2.length ∧ h.2.length ≤ 30 ∧ 1 ≤ h.1 ∧ h.1 ≤ 999 := by
  simp only [hunkS, inI, Bool.and_eq_true, decide_eq_true_eq] at hh
  obtain ⟨h1, ⟨h2, h3⟩, h4, h5⟩ := hh
  refine ⟨fun x hx => ?_, by omega, by omega, h4, h5⟩
  have := List.all_eq_true.1 h1 x hx
  rintro rfl
  cases this

theorem HunksOkS_ev (hs : List Hk) (hn : hs.length ≤ 140737488351232) (hl : ∀ h ∈ hs, h.2.length ≤ 140737488351232) (hx : ∀ h ∈ hs, ∀ x ∈ h.2, x.length ≤ 140737488351232) :
    C fn_s_HunksOk [.ro (HS hs)] [] = some (.one (.ro (.bool (hunksOkS hs))), []) := by
  refine ctx_call Try.func15 conv_s_HunksOk rfl ?_
  unfold hunksOkS
  simp
  refine loop_run (fun m e => ∃ i, m = hs.length - i ∧ i ≤ hs.length ∧ e.size = 45 ∧ e.get 0 = .one (.ro (HS hs)) ∧ e.get 3 = .one (.ro (N i)) ∧
    ((i = 0 ∧ goS none hs = goS none hs) ∨ ∃ k p, i = k + 1 ∧ hs[k]? = some p ∧ hunkS p = true ∧ goS (some p) (hs.drop i) = goS none hs)) ?_ hs.length _ ⟨0, rfl, Nat.zero_le _, by simp, by simp, by simp, .inl ⟨rfl, rfl⟩⟩
  rintro m e ⟨i, rfl, hi, hsz, h0, h3, hr⟩ ih
  rcases Nat.lt_or_ge i hs.length with hlt | hge
  · have hwi : IntKind.i64.wrap ((i : Int) + 1) = ((i + 1 : Nat) : Int) := wrap64_succ (by omega)
    have hd : hs.drop i = hs[i] :: hs.drop (i + 1) := List.drop_eq_getElem_cons hlt
    have hev := l5Hunk_ev hs[i] (hl _ (List.getElem_mem hlt)) (hx _ (List.getElem_mem hlt))
    rcases hr with ⟨rfl, hr⟩ | ⟨k, p, hik, hp, hps, hr⟩
    · have hd0 : hs = hs[0] :: hs.drop 1 := by simpa using hd
      cases c1 : hunkS hs[0] with
      | false =>
        have hr' : goS none hs = false := by rw [hd0, goS, c1]; rfl
        rw [c1] at hev
        simp [hsz, h0, h3, hlt, hev, hr']
      | true =>
        have hr' : goS (some hs[0]) (hs.drop 1) = goS none hs := by
          have : goS none hs = goS none (hs[0] :: hs.drop 1) := by rw [← hd0]
          rw [this, goS, c1, Bool.true_and]
        rw [c1] at hev
        simp [hsz, h0, h3, hlt, hev, hwi]
        exact ih _ _ (by omega) ⟨1, rfl, by omega, by simp [hsz], by simp [h0], by simp, .inr ⟨0, hs[0], rfl, by simp, c1, hr'⟩⟩
    · have hk : k < hs.length := by omega
      have hpk : hs[k] = p := Option.some.inj ((List.getElem?_eq_getElem hk).symm.trans hp)
      obtain ⟨q1, q2, q3, q4, q5⟩ := hunkS_parts hps
      have hold := l5Old_ev p q3 q1
      have holl := oldL_le p.2
      have hwk : IntKind.i64.wrap ((i : Int) - 1) = k := by rw [wrap64 (by omega) (by omega)]; omega
      have hwa : IntKind.i64.wrap (p.1 + (oldL p.2).length) = p.1 + (oldL p.2).length := wrap64 (by omega) (by omega)
      have hi0 : 0 < i := by omega
      rw [hd, goS] at hr
      cases c1 : hunkS hs[i] with
      | false =>
        rw [c1] at hev hr
        simp only [Bool.false_and] at hr
        simp [hsz, h0, h3, hlt, hev, ← hr]
      | true =>
        rw [c1] at hev hr
        simp only [Bool.true_and] at hr
        by_cases c2 : p.1 + (oldL p.2).length ≤ hs[i].1
        · have n2 : ¬ hs[i].1 < p.1 + (oldL p.2).length := by omega
          simp only [c2, decide_true, Bool.true_and] at hr
          simp [hsz, h0, h3, hlt, hev, hwi, hwk, hk, hpk, hold, hwa, n2, hi0]
          exact ih _ _ (by omega) ⟨i + 1, rfl, by omega, by simp [hsz], by simp [h0], by simp, .inr ⟨i, hs[i], rfl, by simp [hlt], c1, hr⟩⟩
        · have n2 : hs[i].1 < p.1 + (oldL p.2).length := by omega
          simp only [c2, decide_false, Bool.false_and] at hr
          simp [hsz, h0, h3, hlt, hev, hwk, hk, hpk, hold, hwa, n2, hi0, ← hr]
  · obtain rfl : i = hs.length := by omega
    have hr' : goS none hs = true := by
      rcases hr with ⟨h, _⟩ | ⟨k, p, h, hp, hps, hr⟩
      · rw [List.eq_nil_of_length_eq_zero h]; rfl
      · rw [← hr, List.drop_length]; rfl
    simp [hsz, h0, h3, hr']
end Go.Qz

/- What the functions come to: copies and comparisons. -/
namespace Go.Qz
open Go.Proofs

theorem eq_of_firsts {α : Type} {ys xs : List α} (h : ys.length = xs.length) (h' : ∀ j, j < xs.length → ys[j]? = xs[j]?) : ys = xs := by
  apply List.ext_getElem? 
  intro j
  rcases Nat.lt_or_ge j xs.length with hj | hj
  · exact h' j hj
  · rw [List.getElem?_eq_none hj, List.getElem?_eq_none (by omega)]

theorem toStringS_ev (xs : Lines) (hn : xs.length ≤ 1048576) : C fn_w_toStringS [.ro (SS xs)] [] = some (.one (.own (SS xs)), []) := by
  refine ctx_call Try.func21 conv_w_toStringS rfl ?_
  have ha : (xs.length : Int) ≤ appendMax := by simp [appendMax]; omega
  simp [ha]
  refine loop_run (fun m e => ∃ i yl, m = xs.length - i ∧ i ≤ xs.length ∧ e.size = 22 ∧ e.get 0 = .one (.ro (SS xs)) ∧ e.get 3 = .one (.own (SS yl)) ∧ e.get 4 = .one (.ro (N i)) ∧ yl.length = xs.length ∧ ∀ j, j < i → yl[j]? = xs[j]?)
    ?_ xs.length _ ⟨0, List.replicate xs.length [], rfl, Nat.zero_le _, by simp, by simp, by simp, by simp, by simp, fun j hj => by omega⟩
  rintro m e ⟨i, yl, rfl, hi, hsz, h0, h3, h4, hyl, hy⟩ ih
  rcases Nat.lt_or_ge i xs.length with hlt | hge
  · have hwi : IntKind.i64.wrap ((i : Int) + 1) = ((i + 1 : Nat) : Int) := wrap64_succ (by omega)
    have hlt' : i < yl.length := by omega
    simp [hsz, h0, h3, h4, hlt, hlt', hwi]
    exact ih _ _ (by omega) ⟨i + 1, yl.set i xs[i], rfl, by omega, by simp [hsz], by simp [h0], by simp, by simp, by simp [hyl], fun j hj => by
      by_cases e : j = i
      · subst e; simp [hlt, hlt']
      · rw [List.getElem?_set_ne (by omega)]; exact hy j (by omega)⟩
  · obtain rfl : i = xs.length := by omega
    obtain rfl := eq_of_firsts hyl hy
    simp [hsz, h0, h3, h4]

theorem toHunk_ev (h : Hk) (hn : h.2.length ≤ 1048576) : C fn_w_toHunk [.ro (HD h)] [] = some (.one (.own (HD h)), []) := by
  refine ctx_call Try.func49 conv_w_toHunk rfl ?_
  simp [toStringS_ev h.2 hn]

theorem toHunkS_ev (hs : List Hk) (hn : hs.length ≤ 1048576) (hl : ∀ h ∈ hs, h.2.length ≤ 1048576) : C fn_w_toHunkS [.ro (HS hs)] [] = some (.one (.own (HS hs)), []) := by
  refine ctx_call Try.func16 conv_w_toHunkS rfl ?_
  have ha : (hs.length : Int) ≤ appendMax := by simp [appendMax]; omega
  simp [ha]
  refine loop_run (fun m e => ∃ i yl, m = hs.length - i ∧ i ≤ hs.length ∧ e.size = 23 ∧ e.get 0 = .one (.ro (HS hs)) ∧ e.get 3 = .one (.own (HS yl)) ∧ e.get 4 = .one (.ro (N i)) ∧ yl.length = hs.length ∧ ∀ j, j < i → yl[j]? = hs[j]?)
    ?_ hs.length _ ⟨0, List.replicate hs.length (0, []), rfl, Nat.zero_le _, by simp, by simp, by simp, by simp, by simp, fun j hj => by omega⟩
  rintro m e ⟨i, yl, rfl, hi, hsz, h0, h3, h4, hyl, hy⟩ ih
  rcases Nat.lt_or_ge i hs.length with hlt | hge
  · have hwi : IntKind.i64.wrap ((i : Int) + 1) = ((i + 1 : Nat) : Int) := wrap64_succ (by omega)
    have hlt' : i < yl.length := by omega
    have hto := toHunk_ev hs[i] (hl _ (List.getElem_mem hlt))
    simp [hsz, h0, h3, h4, hlt, hlt', hwi, hto]
    exact ih _ _ (by omega) ⟨i + 1, yl.set i hs[i], rfl, by omega, by simp [hsz], by simp [h0], by simp, by simp, by simp [hyl], fun j hj => by
      by_cases e : j = i
      · subst e; simp [hlt, hlt']
      · rw [List.getElem?_set_ne (by omega)]; exact hy j (by omega)⟩
  · obtain rfl : i = hs.length := by omega
    obtain rfl := eq_of_firsts hyl hy
    simp [hsz, h0, h3, h4]
end Go.Qz

/- What the functions come to: files, in the program and in the reference; copies; comparisons; sizes. -/
namespace Go.Qz
open Go.Proofs

def filesOkI (fs : List Fl) : Bool := decide (fs.length ≤ 6) && fs.all fileB && !twice [] fs

theorem FilesOkI_ev (fs : List Fl) (hn : fs.length ≤ 1048576) (hx : ∀ f ∈ fs, f.1.length ≤ 140737488351232) : C fn_i_FilesOk [.ro (FS fs)] [] = some (.one (.ro (.bool (filesOkI fs))), []) := by
  refine ctx_call Try.func12 conv_i_FilesOk rfl ?_
  have h1 := allFile_ev fs (by omega) hx
  have h2 := namesTwice_ev fs hn
  unfold filesOkI
  by_cases c0 : fs.length ≤ 6 <;> cases c1 : fs.all fileB <;> cases c2 : twice [] fs <;> rw [c1] at h1 <;> rw [c2] at h2 <;> simp [c0, h1, h2]

def idxF (n : List UInt8) : List Fl → Nat → Int
  | [], _ => -1
  | f :: r, i => if f.1 == n then (i : Int) else idxF n r (i + 1)

theorem l6File_ev (fs : List Fl) (n : List UInt8) (hn : fs.length ≤ 140737488351232) : C fn_s_l6File [.ro (FS fs), .ro (T n)] [] = some (.one (.ro (I (idxF n fs 0))), []) := by
  refine ctx_call Try.func39 conv_s_l6File rfl ?_
  simp
  refine loop_run (fun m e => ∃ i, m = fs.length - i ∧ i ≤ fs.length ∧ e.size = 20 ∧ e.get 0 = .one (.ro (FS fs)) ∧ e.get 1 = .one (.ro (T n)) ∧ e.get 5 = .one (.ro (N i)) ∧
    idxF n (fs.drop i) i = idxF n fs 0) ?_ fs.length _ ⟨0, rfl, Nat.zero_le _, by simp, by simp, by simp, by simp, rfl⟩
  rintro m e ⟨i, rfl, hi, hsz, h0, h1, h5, hr⟩ ih
  rcases Nat.lt_or_ge i fs.length with hlt | hge
  · have hd : fs.drop i = fs[i] :: fs.drop (i + 1) := List.drop_eq_getElem_cons hlt
    have hwi : IntKind.i64.wrap ((i : Int) + 1) = ((i + 1 : Nat) : Int) := wrap64_succ (by omega)
    rw [hd, idxF] at hr
    cases hp : fs[i].1 == n with
    | true =>
      rw [hp, if_pos rfl] at hr
      simp [hsz, h0, h1, h5, hlt, hp, ← hr]
    | false =>
      rw [hp] at hr
      simp only [Bool.false_eq_true, if_false] at hr
      simp [hsz, h0, h1, h5, hlt, hwi, hp]
      exact ih _ _ (by omega) ⟨i + 1, rfl, by omega, by simp [hsz], by simp [h0], by simp [h1], by simp, hr⟩
  · obtain rfl : i = fs.length := by omega
    rw [List.drop_length, idxF] at hr
    simp [hsz, h0, h1, h5, ← hr]

def filesGo (fs : List Fl) : Nat → List Fl → Bool
  | _, [] => true
  | i, f :: r => (nameS f.1 && textS f.2 && (idxF f.1 fs 0 == (i : Int))) && filesGo fs (i + 1) r
def filesOkS (fs : List Fl) : Bool := filesGo fs 0 fs && decide (fs.length ≤ 6)

set_option maxHeartbeats 1000000 in
theorem FilesOkS_ev (fs : List Fl) (hn : fs.length ≤ 1048576) (hx : ∀ f ∈ fs, f.1.length ≤ 140737488351232) (hx2 : ∀ f ∈ fs, f.2.length ≤ 140737488351232) : C fn_s_FilesOk [.ro (FS fs)] [] = some (.one (.ro (.bool (filesOkS fs))), []) := by
  refine ctx_call Try.func10 conv_s_FilesOk rfl ?_
  unfold filesOkS
  simp
  refine loop_run (fun m e => ∃ i, m = fs.length - i ∧ i ≤ fs.length ∧ e.size = 40 ∧ e.get 0 = .one (.ro (FS fs)) ∧ e.get 3 = .one (.ro (N i)) ∧
    filesGo fs i (fs.drop i) = filesGo fs 0 fs) ?_ fs.length _ ⟨0, rfl, Nat.zero_le _, by simp, by simp, by simp, rfl⟩
  rintro m e ⟨i, rfl, hi, hsz, h0, h3, hr⟩ ih
  rcases Nat.lt_or_ge i fs.length with hlt | hge
  · have hd : fs.drop i = fs[i] :: fs.drop (i + 1) := List.drop_eq_getElem_cons hlt
    have hwi : IntKind.i64.wrap ((i : Int) + 1) = ((i + 1 : Nat) : Int) := wrap64_succ (by omega)
    have g1 := l1Name_ev fs[i].1 (hx _ (List.getElem_mem hlt))
    have g2 := l2Text_ev fs[i].2 (hx2 _ (List.getElem_mem hlt))
    have g3 := l6File_ev fs fs[i].1 (by omega)
    rw [hd, filesGo] at hr
    generalize idxF fs[i].1 fs 0 = q at *
    cases c1 : nameS fs[i].1 with
    | false =>
      rw [c1] at g1 hr
      simp only [Bool.false_and] at hr
      simp [hsz, h0, h3, hlt, g1, ← hr]
    | true =>
    cases c2 : textS fs[i].2 with
    | false =>
      rw [c1] at g1 hr; rw [c2] at g2 hr
      simp only [Bool.and_false, Bool.false_and] at hr
      simp [hsz, h0, h3, hlt, g1, g2, ← hr]
    | true =>
    cases c3 : q == (i : Int) with
    | false =>
      rw [c1] at g1 hr; rw [c2] at g2 hr; rw [c3] at hr
      have c3' : (q != (i : Int)) = true := by simp [bne, c3]
      simp only [Bool.and_false, Bool.false_and] at hr
      simp [hsz, h0, h3, hlt, g1, g2, g3, c3, c3', ← hr]
    | true =>
      rw [c1] at g1 hr; rw [c2] at g2 hr; rw [c3] at hr
      have c3' : (q != (i : Int)) = false := by simp [bne, c3]
      simp only [Bool.and_true, Bool.true_and] at hr
      simp [hsz, h0, h3, hlt, hwi, g1, g2, g3, c3, c3']
      exact ih _ _ (by omega) ⟨i + 1, rfl, by omega, by simp [hsz], by simp [h0], by simp, hr⟩
  · obtain rfl : i = fs.length := by omega
    rw [List.drop_length, filesGo] at hr
    simp [hsz, h0, h3, ← hr]

/-! ### They say the same -/

theorem idxF_ge (n : List UInt8) : ∀ (r : List Fl) (i : Nat), idxF n r i = -1 ∨ (i : Int) ≤ idxF n r i := by
  intro r
  induction r with
  | nil => intro i; exact .inl rfl
  | cons f r ih =>
    intro i
    rw [idxF]
    split
    · exact .inr (Int.le_refl _)
    · rcases ih (i + 1) with h | h
      · exact .inl h
      · exact .inr (by omega)
theorem idxF_app (n : List UInt8) : ∀ (p r : List Fl) (i : Nat), ((p.map (·.1)).contains n = true → idxF n (p ++ r) i < i + p.length) ∧ ((p.map (·.1)).contains n = false → idxF n (p ++ r) i = idxF n r (i + p.length)) := by
  intro p
  induction p with
  | nil => intro r i; exact ⟨fun h => by simp at h, fun _ => by simp⟩
  | cons f p ih =>
    intro r i
    rw [List.map_cons, List.contains_cons, List.cons_append, idxF]
    obtain ⟨h1, h2⟩ := ih r (i + 1)
    have hcomm : (n == f.1) = (f.1 == n) := by
      rw [Bool.eq_iff_iff, beq_iff_eq, beq_iff_eq]
      exact ⟨Eq.symm, Eq.symm⟩
    rw [hcomm]
    cases hc : f.1 == n with
    | true =>
      simp
      omega
    | false =>
      simp only [Bool.false_or, Bool.false_eq_true, if_false, List.length_cons]
      refine ⟨fun h => by have := h1 h; omega, fun h => ?_⟩
      rw [h2 h]
      congr 1
      omega
theorem filesGo_eq : ∀ (r p : List Fl), filesGo (p ++ r) p.length r = (r.all fileB && !twice (p.map (·.1)) r) := by
  intro r
  induction r with
  | nil => intro p; rfl
  | cons f r ih =>
    intro p
    have hih := ih (p ++ [f])
    rw [List.append_assoc, List.singleton_append, List.length_append, List.map_append] at hih
    simp only [List.length_cons, List.length_nil, List.map_cons, List.map_nil] at hih
    obtain ⟨h1, h2⟩ := idxF_app f.1 p (f :: r) 0
    rw [filesGo, twice, List.all_cons, fileB, name_eq, text_eq]
    cases hc : (p.map (·.1)).contains f.1 with
    | true =>
      have := h1 hc
      have hne : (idxF f.1 (p ++ f :: r) 0 == (p.length : Int)) = false := by
        rw [beq_eq_false_iff_ne]
        omega
      rw [hne]
      simp
    | false =>
      have := h2 hc
      have he : (idxF f.1 (p ++ f :: r) 0 == (p.length : Int)) = true := by
        rw [this, idxF]
        simp
      rw [he, hih]
      simp only [Bool.and_true, Bool.false_eq_true, if_false, Bool.and_assoc]
theorem files_eq (fs : List Fl) : filesOkS fs = filesOkI fs := by
  have h := filesGo_eq fs []
  simp only [List.nil_append, List.length_nil, List.map_nil] at h
  unfold filesOkS filesOkI
  rw [h]
  cases decide (fs.length ≤ 6) <;> simp

/-! ### Copies, comparisons, sizes -/

theorem toFile_ev (f : Fl) : C fn_w_toFile [.ro (FD f)] [] = some (.one (.ro (FD f)), []) := by
  refine ctx_call Try.func40 conv_w_toFile rfl ?_
  simp

theorem toFileS_ev (fs : List Fl) (hn : fs.length ≤ 1048576) : C fn_w_toFileS [.ro (FS fs)] [] = some (.one (.own (FS fs)), []) := by
  refine ctx_call Try.func11 conv_w_toFileS rfl ?_
  have ha : (fs.length : Int) ≤ appendMax := by simp [appendMax]; omega
  simp [ha]
  refine loop_run (fun m e => ∃ i yl, m = fs.length - i ∧ i ≤ fs.length ∧ e.size = 23 ∧ e.get 0 = .one (.ro (FS fs)) ∧ e.get 3 = .one (.own (FS yl)) ∧ e.get 4 = .one (.ro (N i)) ∧ yl.length = fs.length ∧ ∀ j, j < i → yl[j]? = fs[j]?)
    ?_ fs.length _ ⟨0, List.replicate fs.length ([], []), rfl, Nat.zero_le _, by simp, by simp, by simp, by simp, by simp, fun j hj => by omega⟩
  rintro m e ⟨i, yl, rfl, hi, hsz, h0, h3, h4, hyl, hy⟩ ih
  rcases Nat.lt_or_ge i fs.length with hlt | hge
  · have hwi : IntKind.i64.wrap ((i : Int) + 1) = ((i + 1 : Nat) : Int) := wrap64_succ (by omega)
    have hlt' : i < yl.length := by omega
    have hto := toFile_ev fs[i]
    simp [hsz, h0, h3, h4, hlt, hlt', hwi, hto]
    exact ih _ _ (by omega) ⟨i + 1, yl.set i fs[i], rfl, by omega, by simp [hsz], by simp [h0], by simp [List.map_set], by simp, by simp [hyl], fun j hj => by
      by_cases e : j = i
      · subst e; simp [hlt, hlt']
      · rw [List.getElem?_set_ne (by omega)]; exact hy j (by omega)⟩
  · obtain rfl : i = fs.length := by omega
    obtain rfl := eq_of_firsts hyl hy
    simp [hsz, h0, h3, h4]

theorem eqFile_self (f : Fl) : C fn_w_eqFile [.ro (FD f), .ro (FD f)] [] = some (.one (.ro (.bool true)), []) := by
  refine ctx_call Try.func45 conv_w_eqFile rfl ?_
  simp

theorem eqFileS_self (fs : List Fl) (hn : fs.length ≤ 140737488351232) : C fn_w_eqFileS [.ro (FS fs), .ro (FS fs)] [] = some (.one (.ro (.bool true)), []) := by
  refine ctx_call Try.func13 conv_w_eqFileS rfl ?_
  simp
  refine loop_run (fun m e => ∃ i, m = fs.length - i ∧ i ≤ fs.length ∧ e.size = 27 ∧ e.get 0 = .one (.ro (FS fs)) ∧ e.get 1 = .one (.ro (FS fs)) ∧ e.get 5 = .one (.ro (N i)))
    ?_ fs.length _ ⟨0, rfl, Nat.zero_le _, by simp, by simp, by simp, by simp⟩
  rintro m e ⟨i, rfl, hi, hsz, h0, h1, h5⟩ ih
  rcases Nat.lt_or_ge i fs.length with hlt | hge
  · have hwi : IntKind.i64.wrap ((i : Int) + 1) = ((i + 1 : Nat) : Int) := wrap64_succ (by omega)
    have hev := eqFile_self fs[i]
    simp [hsz, h0, h1, h5, hlt, hwi, hev]
    exact ih _ _ (by omega) ⟨i + 1, rfl, by omega, by simp [hsz], by simp [h0], by simp [h1], by simp⟩
  · obtain rfl : i = fs.length := by omega
    simp [hsz, h0, h1, h5]

def szFl (f : Fl) (l : Int) : Int := if l - f.1.length < 0 then -1 else if l - f.1.length - f.2.length < 0 then -1 else l - f.1.length - f.2.length
def szFLs : List Fl → Int → Int
  | [], l => l
  | f :: r, l => if szFl f l < 0 then -1 else szFLs r (szFl f l)
def szFS (fs : List Fl) (l : Int) : Int := if l - fs.length < 0 then -1 else szFLs fs (l - fs.length)

theorem szFile_ev (f : Fl) (l : Int) (hl : 0 ≤ l) (hl2 : l ≤ 1048576) (h1 : f.1.length ≤ 140737488351232) (h2 : f.2.length ≤ 140737488351232) : C fn_w_szFile [.ro (FD f), .ro (I l)] [] = some (.one (.ro (I (szFl f l))), []) := by
  refine ctx_call Try.func36 conv_w_szFile rfl ?_
  have w1 : IntKind.i64.wrap (l - f.1.length) = l - f.1.length := wrap64 (by omega) (by omega)
  unfold szFl
  by_cases c1 : l - f.1.length < 0
  · simp [w1, c1]
  · have w2 : IntKind.i64.wrap (l - f.1.length - f.2.length) = l - f.1.length - f.2.length := wrap64 (by omega) (by omega)
    by_cases c2 : l - f.1.length - f.2.length < 0
    · simp [w1, w2, c1, c2]
    · simp [w1, w2, c1, c2]
theorem szFl_le (f : Fl) (l : Int) (hl : 0 ≤ l) : szFl f l ≤ l ∧ -1 ≤ szFl f l := by
  unfold szFl
  split
  · omega
  · split <;> omega

theorem szFileS_ev (fs : List Fl) (l : Int) (hl : 0 ≤ l) (hl2 : l ≤ 1048576) (hn : fs.length ≤ 140737488351232) (hx1 : ∀ f ∈ fs, f.1.length ≤ 140737488351232) (hx2 : ∀ f ∈ fs, f.2.length ≤ 140737488351232) :
    C fn_w_szFileS [.ro (FS fs), .ro (I l)] [] = some (.one (.ro (I (szFS fs l))), []) := by
  refine ctx_call Try.func9 conv_w_szFileS rfl ?_
  have h1 : IntKind.i64.wrap (l - fs.length) = l - fs.length := wrap64 (by omega) (by omega)
  unfold szFS
  by_cases hneg : l - fs.length < 0
  · simp [h1, hneg]
  · simp [h1, hneg]
    refine loop_run (fun m e => ∃ i l', m = fs.length - i ∧ i ≤ fs.length ∧ 0 ≤ l' ∧ l' ≤ 1048576 ∧ e.size = 27 ∧ e.get 0 = .one (.ro (FS fs)) ∧ e.get 1 = .one (.ro (I l')) ∧ e.get 5 = .one (.ro (N i)) ∧
      szFLs (fs.drop i) l' = szFLs fs (l - fs.length)) ?_ fs.length _ ⟨0, l - fs.length, rfl, Nat.zero_le _, by omega, by omega, by simp, by simp, by simp, by simp, rfl⟩
    rintro m e ⟨i, l', rfl, hi, hl0, hl1, hsz, h0, h1, h5, hr⟩ ih
    rcases Nat.lt_or_ge i fs.length with hlt | hge
    · have hd : fs.drop i = fs[i] :: fs.drop (i + 1) := List.drop_eq_getElem_cons hlt
      have hwi : IntKind.i64.wrap ((i : Int) + 1) = ((i + 1 : Nat) : Int) := wrap64_succ (by omega)
      have hev := szFile_ev fs[i] l' hl0 hl1 (hx1 _ (List.getElem_mem hlt)) (hx2 _ (List.getElem_mem hlt))
      have hle := szFl_le fs[i] l' hl0
      rw [hd, szFLs] at hr
      by_cases hc : szFl fs[i] l' < 0
      · rw [if_pos hc] at hr
        simp [hsz, h0, h1, h5, hlt, hev, hc, ← hr]
      · rw [if_neg hc] at hr
        simp [hsz, h0, h1, h5, hlt, hev, hc, hwi]
        exact ih _ _ (by omega) ⟨i + 1, _, rfl, by omega, by omega, by omega, by simp [hsz], by simp [h0], by simp, by simp, hr⟩
    · obtain rfl : i = fs.length := by omega
      rw [List.drop_length, szFLs] at hr
      simp [hsz, h0, h1, h5, hr]
theorem szFS_len (fs : List Fl) (l : Int) (h : 0 ≤ szFS fs l) : (fs.length : Int) ≤ l := by
  unfold szFS at h
  split at h <;> omega

theorem exactFilesOk_ev (fs : List Fl) (hn : fs.length ≤ 140737488351232) (hx1 : ∀ f ∈ fs, f.1.length ≤ 140737488351232) (hx2 : ∀ f ∈ fs, f.2.length ≤ 140737488351232) :
    C fn_w_FnExactFilesOk [.ro (FS fs)] [] = some (.one (.ro (.bool true)), []) := by
  refine ctx_call Try.func3 conv_w_FnExactFilesOk rfl ?_
  have hsz := szFileS_ev fs 1048576 (by omega) (by omega) hn hx1 hx2
  by_cases hneg : szFS fs 1048576 < 0
  · simp [hsz, hneg]
  · have b1 := szFS_len fs 1048576 (by omega)
    have hto := toFileS_ev fs (by omega)
    have hS := FilesOkS_ev fs (by omega) hx1 hx2
    have hI := FilesOkI_ev fs (by omega) hx1
    have heq := eqFileS_self fs hn
    rw [← files_eq] at hI
    cases hc : filesOkS fs <;> rw [hc] at hS hI <;> simp [hsz, hneg, hto, hS, hI, heq]
end Go.Qz
