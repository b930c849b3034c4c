/- The evaluator of the claim and what it says, part Qo0 (several texts in one). -/
import Derived.Test.YtfikcfndmbcaoaaDoorQn0
import Derived.Test.YtfikcfndmbcaoaaDoorQl0
import Derived.Lib.IndexMore
import Derived.Lib.ItoaNum
import Derived.Lib.Split
/- The seat's context: what is lent to be written, what comes by contract. -/
namespace Go.Qz
open Go.Proofs

@[simp] def ioS : FuncId → List Nat := fun f => if f = 52 then [0] else if f = 22 then [0] else []
@[simp] theorem opens_no (f : FuncId) : opensF ioS f = false := by
  unfold opensF ioS
  repeat (split; rfl)
  rfl
/-- strings.Cut, strings.SplitN. -/
def XG : CallF := fun f us bx =>
  if f = 87 then (match us, bx with
    | [.ro (.str s), .ro (.str t)], [] => if s.size < 4294967281 then some (.tup [.ro (.str ⟨(Lib.cut s.data.toList t.data.toList).1.toArray⟩), .ro (.str ⟨(Lib.cut s.data.toList t.data.toList).2.1.toArray⟩), .ro (.bool (Lib.cut s.data.toList t.data.toList).2.2)], []) else none
    | _, _ => none)
  else if f = 79 then (match us, bx with
    | [.ro (.str s), .ro (.str t), .ro (.int .i64 n)], [] => if s.size < 4294967281 && decide (1 ≤ t.size) && decide (1 ≤ n) && decide (n ≤ 1000000) then some (.one (.own (.sl 1 ((Lib.splitB t 0 (min n.toNat (s.size + 1) - 1) s).map .str))), []) else none
    | _, _ => none)
  else none
noncomputable abbrev C : CallF := callLim Tryd.prog ioS XG
noncomputable abbrev cx : Ctx := ⟨Tryd.prog, ioS, C⟩

theorem cut_str (s t : List UInt8) (h : s.length < 4294967281) : C 87 [.ro (.str ⟨s.toArray⟩), .ro (.str ⟨t.toArray⟩)] [] = some (.tup [.ro (.str ⟨(Lib.cut s t).1.toArray⟩), .ro (.str ⟨(Lib.cut s t).2.1.toArray⟩), .ro (.bool (Lib.cut s t).2.2)], []) := callLim_x (by simp [XG, h])
theorem splitN_str (s t : ByteArray) (n : Int) (h : s.size < 4294967281) (ht : 1 ≤ t.size) (h1 : 1 ≤ n) (h2 : n ≤ 1000000) : C 79 [.ro (.str s), .ro (.str t), .ro (.int .i64 n)] [] = some (.one (.own (.sl 1 ((Lib.splitB t 0 (min n.toNat (s.size + 1) - 1) s).map .str))), []) := callLim_x (by simp [XG, h, ht, h1, h2])
end Go.Qz

/- What the functions come to: sizes. -/
namespace Go.Qz
open Go.Proofs

abbrev Lines := List (List UInt8)
abbrev SS (xs : Lines) : D := .sl 1 (xs.map T)
abbrev I (n : Int) : D := .int .i64 n
abbrev N (n : Nat) : D := .int .i64 (n : Int)

@[simp] theorem flats_T (xs : Lines) : flats (xs.map T) = true := by
  induction xs with
  | nil => rfl
  | cons a r ih => simp [flats, D.flat, ih]

def szL : Lines → Int → Int
  | [], l => l
  | x :: r, l => if l - x.length < 0 then -1 else szL r (l - x.length)
def szSS (xs : Lines) (l : Int) : Int := if l - xs.length < 0 then -1 else szL xs (l - xs.length)

theorem szStringS_ev (xs : Lines) (l : Int) (hl : 0 ≤ l) (hl2 : l ≤ 1048576) (hn : xs.length ≤ 140737488351232) (hx : ∀ x ∈ xs, x.length ≤ 140737488351232) :
    C fn_w_szStringS [.ro (SS xs), .ro (I l)] [] = some (.one (.ro (I (szSS xs l))), []) := by
  refine ctx_call Tryd.func54 conv_w_szStringS rfl ?_
  have h1 : IntKind.i64.wrap (l - xs.length) = l - xs.length := wrap64 (by omega) (by omega)
  unfold szSS
  by_cases hneg : l - xs.length < 0
  · simp [h1, hneg]
  · simp [h1, hneg]
    refine loop_run (fun m e => ∃ i l', m = xs.length - i ∧ i ≤ xs.length ∧ 0 ≤ l' ∧ l' ≤ 1048576 ∧ e.size = 28 ∧ e.get 0 = .one (.ro (SS xs)) ∧ e.get 1 = .one (.ro (I l')) ∧ e.get 5 = .one (.ro (N i)) ∧
      szL (xs.drop i) l' = szL xs (l - xs.length)) ?_ xs.length _ ⟨0, l - xs.length, rfl, Nat.zero_le _, by omega, by omega, by simp, by simp, by simp, by simp, rfl⟩
    rintro m e ⟨i, l', rfl, hi, hl0, hl1, hsz, h0, h1, h5, hr⟩ ih
    rcases Nat.lt_or_ge i xs.length with hlt | hge
    · have hxl := hx xs[i] (List.getElem_mem hlt)
      have hd : xs.drop i = xs[i] :: xs.drop (i + 1) := List.drop_eq_getElem_cons hlt
      have hw : IntKind.i64.wrap (l' - xs[i].length) = l' - xs[i].length := wrap64 (by omega) (by omega)
      rw [hd, szL] at hr
      have hwi : IntKind.i64.wrap ((i : Int) + 1) = ((i + 1 : Nat) : Int) := wrap64_succ (by omega)
      simp [hsz, h0, h1, h5, hlt, hw, hwi]
      split
      · rename_i hc
        rw [if_pos hc] at hr
        simp [← hr]
      · rename_i hc
        rw [if_neg hc] at hr
        exact ih _ _ (by omega) ⟨i + 1, _, rfl, by omega, by omega, by omega, by simp [hsz], by simp [h0], by simp, by simp, hr⟩
    · obtain rfl : i = xs.length := by omega
      simp [szL] at hr
      simp [hsz, h0, h1, h5, hr]
end Go.Qz

/- What the functions come to: plain text. -/
namespace Go.Qz
open Go.Proofs

def plainB (b : UInt8) : Bool := decide (32 ≤ b.toNat) && decide (b.toNat ≤ 126)
def plainT (l : List UInt8) : Bool := decide (l.length ≤ 80) && l.all plainB
def seenT (l : List UInt8) : Bool := l.all plainB && decide (l.length ≤ 80)
theorem seen_plain (l : List UInt8) : seenT l = plainT l := by unfold seenT plainT; exact Bool.and_comm _ _
def inI (n a b : Int) : Bool := decide (a ≤ n) && decide (n ≤ b)

theorem plainByte_ev (b : UInt8) : C fn_i_plainByte [.ro (.int .u8 b.toNat)] [] = some (.one (.ro (.bool (plainB b))), []) := by
  refine ctx_call Tryd.func85 conv_i_plainByte rfl ?_
  unfold plainB
  by_cases h : 32 ≤ b.toNat <;> simp [h]

theorem l1In_ev (n a b : Int) : C fn_s_l1In [.ro (I n), .ro (I a), .ro (I b)] [] = some (.one (.ro (.bool (inI n a b))), []) := by
  refine ctx_call Tryd.func73 conv_s_l1In rfl ?_
  unfold inI
  by_cases h : a ≤ n <;> simp [h]

theorem in_plain (b : UInt8) : inI b.toNat 32 126 = plainB b := by
  unfold inI plainB
  congr 1
  · simp
  · simp

theorem plainText_ev (l : List UInt8) : C fn_i_plainText [.ro (T l)] [] = some (.one (.ro (.bool (plainT l))), []) := by
  refine ctx_call Tryd.func67 conv_i_plainText rfl ?_
  unfold plainT
  by_cases hs : l.length ≤ 80
  · have hs' : ¬ (80 : Int) < l.length := by omega
    simp [hs']
    refine loop_run (fun m e => ∃ i, m = l.length - i ∧ i ≤ l.length ∧ e.size = 18 ∧ e.get 0 = .one (.ro (T l)) ∧ e.get 8 = .one (.ro (N l.length)) ∧ e.get 9 = .one (.ro (N i)) ∧
      (l.drop i).all plainB = l.all plainB) ?_ l.length _ ⟨0, rfl, Nat.zero_le _, by simp, by simp, by simp, by simp, rfl⟩
    rintro m e ⟨i, rfl, hi, hsz, h0, h8, h9, hr⟩ ih
    rcases Nat.lt_or_ge i l.length with hlt | hge
    · have hd : l.drop i = l[i] :: l.drop (i + 1) := List.drop_eq_getElem_cons hlt
      have hwi : IntKind.i64.wrap ((i : Int) + 1) = ((i + 1 : Nat) : Int) := wrap64_succ (by omega)
      rw [hd, List.all_cons] at hr
      cases hp : plainB l[i] with
      | false =>
        rw [hp] at hr
        simp [plainByte_ev, hsz, h0, h8, h9, hlt, hp, hs, ← hr]
      | true =>
        rw [hp, Bool.true_and] at hr
        simp [plainByte_ev, hsz, h0, h8, h9, hlt, hwi, hp]
        exact ih _ _ (by omega) ⟨i + 1, rfl, by omega, by simp [hsz], by simp [h0], by simp [h8], by simp, hr⟩
    · obtain rfl : i = l.length := by omega
      rw [List.drop_length, List.all_nil] at hr
      simp [hsz, h0, h8, h9, hs, ← hr]
  · have hs' : 80 < l.length := by omega
    simp [hs', hs]

theorem l5Seen_ev (l : List UInt8) (hl : l.length ≤ 140737488351232) : C fn_s_l5Seen [.ro (T l)] [] = some (.one (.ro (.bool (seenT l))), []) := by
  refine ctx_call Tryd.func82 conv_s_l5Seen rfl ?_
  unfold seenT
  simp
  refine loop_run (fun m e => ∃ i, m = l.length - i ∧ i ≤ l.length ∧ e.size = 19 ∧ e.get 0 = .one (.ro (T l)) ∧ e.get 3 = .one (.ro (N i)) ∧
    (l.drop i).all plainB = l.all plainB) ?_ l.length _ ⟨0, rfl, Nat.zero_le _, by simp, by simp, by simp, rfl⟩
  rintro m e ⟨i, rfl, hi, hsz, h0, h3, hr⟩ ih
  rcases Nat.lt_or_ge i l.length with hlt | hge
  · have hd : l.drop i = l[i] :: l.drop (i + 1) := List.drop_eq_getElem_cons hlt
    have hwi : IntKind.i64.wrap ((i : Int) + 1) = ((i + 1 : Nat) : Int) := wrap64_succ (by omega)
    have hwb : IntKind.i64.wrap (l[i].toNat : Int) = l[i].toNat := by have := l[i].toNat_lt; exact wrap64 (by omega) (by omega)
    rw [hd, List.all_cons] at hr
    cases hp : plainB l[i] with
    | false =>
      rw [hp] at hr
      simp [l1In_ev, in_plain, hsz, h0, h3, hlt, hwb, hp, ← hr]
    | true =>
      rw [hp, Bool.true_and] at hr
      simp [l1In_ev, in_plain, hsz, h0, h3, hlt, hwi, hwb, hp]
      exact ih _ _ (by omega) ⟨i + 1, rfl, by omega, by simp [hsz], by simp [h0], by simp, hr⟩
  · obtain rfl : i = l.length := by omega
    rw [List.drop_length, List.all_nil] at hr
    simp [hsz, h0, h3, ← hr]
end Go.Qz

/- What the functions come to: hunks, as the program has them. -/
namespace Go.Qz
open Go.Proofs

abbrev Hk := Int × Lines
abbrev HD (h : Hk) : D := .agg [I h.1, SS h.2]
abbrev HS (hs : List Hk) : D := .sl 2 (hs.map HD)

def signB (b : UInt8) : Bool := b == 32 || b == 45 || b == 43
def hlOk : List UInt8 → Bool
  | [] => false
  | c :: r => signB c && plainT r
def oldL (xs : Lines) : Lines := (xs.filter (fun x => !(x.head? == some 43))).map List.tail
def newL (xs : Lines) : Lines := (xs.filter (fun x => !(x.head? == some 45))).map List.tail
def goI : Int → List Hk → Bool
  | _, [] => true
  | least, h :: r => decide (least ≤ h.1) && decide (h.1 ≤ 999) && decide (1 ≤ h.2.length) && decide (h.2.length ≤ 30) && h.2.all hlOk && goI (h.1 + (oldL h.2).length) r
def hunksOkI (hs : List Hk) : Bool := decide (hs.length ≤ 4) && goI 1 hs

theorem hunkLineOk_ev (l : List UInt8) : C fn_i_hunkLineOk [.ro (T l)] [] = some (.one (.ro (.bool (hlOk l))), []) := by
  refine ctx_call Tryd.func60 conv_i_hunkLineOk rfl ?_
  cases l with
  | nil => simp [hlOk]
  | cons c r =>
    unfold hlOk signB
    cases h1 : c == 32
    · cases h2 : c == 45
      · cases h3 : c == 43
        · simp [h1, h2, h3, plainText_ev]
        · simp [h1, h2, h3, plainText_ev]
      · simp [h1, h2, plainText_ev]
    · simp [h1, plainText_ev]

theorem SS_get (xs : Lines) (i : Nat) (h : i < xs.length) : (xs.map T)[i]? = some (T xs[i]) := by simp [h]

theorem allStr_ev (xs : Lines) (f : FuncId) (p : List UInt8 → Bool) (hn : xs.length ≤ 140737488351232) (hf : ∀ x ∈ xs, C f [.ro (T x)] [] = some (.one (.ro (.bool (p x))), [])) :
    C fn_i_all_string [.ro (SS xs), .fn f []] [] = some (.one (.ro (.bool (xs.all p))), []) := by
  refine ctx_call Tryd.func59 conv_i_all_string rfl ?_
  simp
  refine loop_run (fun m e => ∃ i, m = xs.length - i ∧ i ≤ xs.length ∧ e.size = 18 ∧ e.get 1 = .one (.fn f []) ∧ e.get 7 = .one (.ro (SS xs)) ∧ e.get 8 = .one (.ro (N xs.length)) ∧ e.get 9 = .one (.ro (N i)) ∧
    (xs.drop i).all p = xs.all p) ?_ xs.length _ ⟨0, rfl, Nat.zero_le _, by simp, by simp, by simp, by simp, by simp, rfl⟩
  rintro m e ⟨i, rfl, hi, hsz, h1, h7, h8, h9, hr⟩ ih
  rcases Nat.lt_or_ge i xs.length with hlt | hge
  · have hd : xs.drop i = xs[i] :: xs.drop (i + 1) := List.drop_eq_getElem_cons hlt
    have hwi : IntKind.i64.wrap ((i : Int) + 1) = ((i + 1 : Nat) : Int) := wrap64_succ (by omega)
    have hfx := hf xs[i] (List.getElem_mem hlt)
    rw [hd, List.all_cons] at hr
    cases hp : p xs[i] with
    | false =>
      rw [hp] at hr hfx
      simp [hfx, hsz, h1, h7, h8, h9, hlt, ← hr]
    | true =>
      rw [hp] at hr hfx
      rw [Bool.true_and] at hr
      simp [hfx, hsz, h1, h7, h8, h9, hlt, hwi]
      exact ih _ _ (by omega) ⟨i + 1, rfl, by omega, by simp [hsz], by simp [h1], by simp [h7], by simp [h8], by simp, hr⟩
  · obtain rfl : i = xs.length := by omega
    rw [List.drop_length, List.all_nil] at hr
    simp [hsz, h7, h8, h9, ← hr]

theorem sides_ev (xs : Lines) (hn : xs.length ≤ 30) (hne : ∀ x ∈ xs, x ≠ []) :
    C fn_i_sides [.ro (SS xs)] [] = some (.tup [.own (SS (oldL xs)), .own (SS (newL xs))], []) := by
  refine ctx_call Tryd.func61 conv_i_sides rfl ?_
  simp
  refine loop_run (fun m e => ∃ i, m = xs.length - i ∧ i ≤ xs.length ∧ e.size = 33 ∧ e.get 4 = .one (.own (SS (oldL (xs.take i)))) ∧ e.get 5 = .one (.own (SS (newL (xs.take i)))) ∧ e.get 8 = .one (.ro (SS xs)) ∧ e.get 9 = .one (.ro (N xs.length)) ∧ e.get 10 = .one (.ro (N i)))
    ?_ xs.length _ ⟨0, rfl, Nat.zero_le _, by simp, by simp [oldL], by simp [newL], by simp, by simp, by simp⟩
  rintro m e ⟨i, rfl, hi, hsz, h4, h5, h8, h9, h10⟩ ih
  rcases Nat.lt_or_ge i xs.length with hlt | hge
  · have hwi : IntKind.i64.wrap ((i : Int) + 1) = ((i + 1 : Nat) : Int) := wrap64_succ (by omega)
    have hl1 : (oldL (xs.take i)).length ≤ 30 := by
      unfold oldL; rw [List.length_map]
      exact Nat.le_trans (List.length_filter_le _ _) (by simp; omega)
    have hl2 : (newL (xs.take i)).length ≤ 30 := by
      unfold newL; rw [List.length_map]
      exact Nat.le_trans (List.length_filter_le _ _) (by simp; omega)
    obtain ⟨c, r, hcr⟩ : ∃ c r, xs[i] = c :: r := by
      cases hq : xs[i] with
      | nil => exact absurd hq (hne _ (List.getElem_mem hlt))
      | cons c r => exact ⟨c, r, rfl⟩
    have ht : xs.take (i + 1) = xs.take i ++ [c :: r] := by rw [List.take_succ_eq_append_getElem hlt, hcr]
    have o : oldL (xs.take (i + 1)) = oldL (xs.take i) ++ if c == 43 then [] else [r] := by
      rw [ht]; unfold oldL; rw [List.filter_append, List.map_append]; cases h : c == 43 <;> simp [List.filter_cons, h]
    have n : newL (xs.take (i + 1)) = newL (xs.take i) ++ if c == 45 then [] else [r] := by
      rw [ht]; unfold newL; rw [List.filter_append, List.map_append]; cases h : c == 45 <;> simp [List.filter_cons, h]
    have ha1 : (oldL (xs.take i)).length + 1 ≤ appendMax := by simp [appendMax]; omega
    have ha2 : (newL (xs.take i)).length + 1 ≤ appendMax := by simp [appendMax]; omega
    cases h1 : c == 43 <;> cases h2 : c == 45
    all_goals
      simp [hsz, h4, h5, h8, h9, h10, hlt, hcr, h1, h2, ha1, ha2, hwi]
      exact ih _ _ (by omega) ⟨i + 1, rfl, by omega, by simp [hsz], by simp [o, h1, h4], by simp [n, h2, h5], by simp [h8], by simp [h9], by simp⟩
  · obtain rfl : i = xs.length := by omega
    rw [List.take_length] at h4 h5
    simp [hsz, h4, h5, h8, h9, h10]
end Go.Qz

/- What the functions come to: hunks ok, by the program and by the reference. -/
namespace Go.Qz
open Go.Proofs

theorem oldL_le (xs : Lines) : (oldL xs).length ≤ xs.length := by
  unfold oldL
  rw [List.length_map]
  exact List.length_filter_le _ _
theorem newL_le (xs : Lines) : (newL xs).length ≤ xs.length := by
  unfold newL
  rw [List.length_map]
  exact List.length_filter_le _ _
theorem hlOk_ne {x : List UInt8} (h : hlOk x = true) : x ≠ [] := by
  rintro rfl
  cases h

theorem HunksOkI_ev (hs : List Hk) (hb : ∀ h ∈ hs, h.2.length ≤ 140737488351232) : C fn_i_HunksOk [.ro (HS hs)] [] = some (.one (.ro (.bool (hunksOkI hs))), []) := by
  refine ctx_call Tryd.func28 conv_i_HunksOk rfl ?_
  unfold hunksOkI
  by_cases hn : hs.length ≤ 4
  · have hn' : ¬ 4 < hs.length := by omega
    simp [hn', hn]
    refine loop_run (fun m e => ∃ (i : Nat) (l : Int), m = hs.length - i ∧ i ≤ hs.length ∧ -1000 ≤ l ∧ l ≤ 2000 ∧ e.size = 54 ∧ e.get 3 = .one (.ro (I l)) ∧ e.get 11 = .one (.ro (HS hs)) ∧ e.get 12 = .one (.ro (N hs.length)) ∧ e.get 13 = .one (.ro (N i)) ∧
      goI l (hs.drop i) = goI 1 hs) ?_ hs.length _ ⟨0, 1, rfl, Nat.zero_le _, by omega, by omega, by simp, by simp, by simp, by simp, by simp, rfl⟩
    rintro m e ⟨i, l, rfl, hi, hl1, hl2, hsz, h3, h11, h12, h13, hr⟩ ih
    rcases Nat.lt_or_ge i hs.length with hlt | hge
    · have hd : hs.drop i = hs[i] :: hs.drop (i + 1) := List.drop_eq_getElem_cons hlt
      have hwi : IntKind.i64.wrap ((i : Int) + 1) = ((i + 1 : Nat) : Int) := wrap64_succ (by omega)
      have hbl := hb hs[i] (List.getElem_mem hlt)
      rw [hd, goI] at hr
      have hall := allStr_ev hs[i].2 fn_i_hunkLineOk hlOk hbl (fun x _ => hunkLineOk_ev x)
      by_cases c1 : hs[i].1 < l
      · have n1 : ¬ l ≤ hs[i].1 := by omega
        simp only [n1, decide_false, Bool.false_and] at hr
        simp [hsz, h3, h11, h12, h13, hlt, c1, ← hr]
      have n1 : l ≤ hs[i].1 := by omega
      by_cases c2 : 999 < hs[i].1
      · have n2 : ¬ hs[i].1 ≤ 999 := by omega
        simp only [n2, decide_false, Bool.false_and, Bool.and_false] at hr
        simp [hsz, h3, h11, h12, h13, hlt, c1, c2, ← hr]
      have n2 : hs[i].1 ≤ 999 := by omega
      by_cases c3 : hs[i].2 = []
      · simp only [c3, List.length_nil, Nat.not_succ_le_zero, decide_false, Bool.false_and, Bool.and_false] at hr
        simp [hsz, h3, h11, h12, h13, hlt, c1, c2, c3, ← hr]
      have n3 : 1 ≤ hs[i].2.length := by
        cases hq : hs[i].2 with
        | nil => exact absurd hq c3
        | cons a b => simp
      by_cases c4 : 30 < hs[i].2.length
      · have n4 : ¬ hs[i].2.length ≤ 30 := by omega
        simp only [n4, decide_false, Bool.false_and, Bool.and_false] at hr
        simp [hsz, h3, h11, h12, h13, hlt, c1, c2, c3, c4, ← hr]
      have n4 : hs[i].2.length ≤ 30 := by omega
      cases c5 : hs[i].2.all hlOk with
      | false =>
        rw [c5] at hall
        simp only [c5, Bool.false_and, Bool.and_false] at hr
        simp [hsz, h3, h11, h12, h13, hlt, c1, c2, c3, c4, hall, ← hr]
      | true =>
        rw [c5] at hall
        simp only [c5, n1, n2, n3, n4, decide_true, Bool.true_and] at hr
        have hsd := sides_ev hs[i].2 n4 (fun x hx => hlOk_ne (List.all_eq_true.1 c5 x hx))
        have hol := oldL_le hs[i].2
        have hwa : IntKind.i64.wrap (hs[i].1 + (oldL hs[i].2).length) = hs[i].1 + (oldL hs[i].2).length := wrap64 (by omega) (by omega)
        simp [hsz, h3, h11, h12, h13, hlt, c1, c2, c3, c4, hall, hsd, hwi, hwa]
        exact ih _ _ (by omega) ⟨i + 1, _, rfl, by omega, by omega, by omega, by simp [hsz], by simp, by simp [h11], by simp [h12], by simp, hr⟩
    · obtain rfl : i = hs.length := by omega
      rw [List.drop_length, goI] at hr
      simp [hsz, h3, h11, h12, h13, ← hr]
  · have hn' : 4 < hs.length := by omega
    simp [hn, hn']

theorem l5Old_ev (h : Hk) (hl : h.2.length ≤ 30) (hne : ∀ x ∈ h.2, x ≠ []) : C fn_s_l5Old [.ro (HD h)] [] = some (.one (.own (SS (oldL h.2))), []) := by
  refine ctx_call Tryd.func56 conv_s_l5Old rfl ?_
  simp
  refine loop_run (fun m e => ∃ i, m = h.2.length - i ∧ i ≤ h.2.length ∧ e.size = 30 ∧ e.get 1 = .one (.ptr 1 0) ∧ e.box 1 = some [.ro (I h.1), .ro (SS h.2)] ∧ e.get 3 = .one (.own (SS (oldL (h.2.take i)))) ∧ e.get 4 = .one (.ro (N i)))
    ?_ h.2.length _ ⟨0, rfl, Nat.zero_le _, by simp, by simp, by simp, by simp [oldL], by simp⟩
  rintro m e ⟨i, rfl, hi, hsz, h1, hb, h3, h4⟩ ih
  rcases Nat.lt_or_ge i h.2.length with hlt | hge
  · have hwi : IntKind.i64.wrap ((i : Int) + 1) = ((i + 1 : Nat) : Int) := wrap64_succ (by omega)
    have hl1 : (oldL (h.2.take i)).length ≤ 30 := Nat.le_trans (oldL_le _) (by simp; omega)
    obtain ⟨c, r, hcr⟩ : ∃ c r, h.2[i] = c :: r := by
      cases hq : h.2[i] with
      | nil => exact absurd hq (hne _ (List.getElem_mem hlt))
      | cons c r => exact ⟨c, r, rfl⟩
    have ht : h.2.take (i + 1) = h.2.take i ++ [c :: r] := by rw [List.take_succ_eq_append_getElem hlt, hcr]
    have o : oldL (h.2.take (i + 1)) = oldL (h.2.take i) ++ if c == 43 then [] else [r] := by
      rw [ht]; unfold oldL; rw [List.filter_append, List.map_append]; cases h : c == 43 <;> simp [h]
    have ha1 : (oldL (h.2.take i)).length + 1 ≤ appendMax := by simp [appendMax]; omega
    cases h1' : c == 43
    all_goals
      simp [hsz, h1, hb, h3, h4, hlt, hcr, h1', ha1, hwi]
      exact ih _ _ (by omega) ⟨i + 1, rfl, by omega, by simp [hsz], by simp [h1], by simp [hb], by simp [o, h1', h3], by simp⟩
  · obtain rfl : i = h.2.length := by omega
    rw [List.take_length] at h3
    simp [hsz, h1, hb, h3, h4]
end Go.Qz

/- What the functions come to: hunks of the reference; copies; comparisons. -/
namespace Go.Qz
open Go.Proofs

def hlS : List UInt8 → Bool
  | [] => false
  | c :: r => signB c && seenT r
theorem hlS_eq (l : List UInt8) : hlS l = hlOk l := by
  cases l with
  | nil => rfl
  | cons c r => simp only [hlS, hlOk, seen_plain]
def hunkS (h : Hk) : Bool := h.2.all hlS && (inI h.2.length 1 30 && inI h.1 1 999)

theorem l5Hunk_ev (h : Hk) (hl : h.2.length ≤ 140737488351232) (hx : ∀ x ∈ h.2, x.length ≤ 140737488351232) : C fn_s_l5Hunk [.ro (HD h)] [] = some (.one (.ro (.bool (hunkS h))), []) := by
  refine ctx_call Tryd.func55 conv_s_l5Hunk rfl ?_
  unfold hunkS
  simp
  refine loop_run (fun m e => ∃ i, m = h.2.length - i ∧ i ≤ h.2.length ∧ e.size = 49 ∧ e.get 1 = .one (.ptr 1 0) ∧ e.box 1 = some [.ro (I h.1), .ro (SS h.2)] ∧ e.get 3 = .one (.ro (N i)) ∧
    (h.2.drop i).all hlS = h.2.all hlS) ?_ h.2.length _ ⟨0, rfl, Nat.zero_le _, by simp, by simp, by simp, by simp, rfl⟩
  rintro m e ⟨i, rfl, hi, hsz, h1, hb, h3, hr⟩ ih
  rcases Nat.lt_or_ge i h.2.length with hlt | hge
  · have hwi : IntKind.i64.wrap ((i : Int) + 1) = ((i + 1 : Nat) : Int) := wrap64_succ (by omega)
    have hd : h.2.drop i = h.2[i] :: h.2.drop (i + 1) := List.drop_eq_getElem_cons hlt
    have hxl := hx h.2[i] (List.getElem_mem hlt)
    rw [hd, List.all_cons] at hr
    cases hq : h.2[i] with
    | nil =>
      rw [hq] at hr
      simp only [hlS, Bool.false_and] at hr
      simp [hsz, h1, hb, h3, hlt, hq, ← hr]
    | cons c r =>
      rw [hq] at hr hxl
      have hse := l5Seen_ev r (by simp at hxl; omega)
      have step : Run cx q_s_l5Hunk_l0 e (Fr.loop q_s_l5Hunk_l0 :: [Fr.blk 0, Fr.seq q_s_l5Hunk_c2, Fr.fn [(ResultVar.tmp 2, 4)] []]) = some (.one (.ro (.bool (h.2.all hlS && (inI h.2.length 1 30 && inI h.1 1 999)))), []) := by
        cases c1 : c == 32 <;> cases c2 : c == 45 <;> cases c3 : c == 43 <;> cases c4 : seenT r
        all_goals
          rw [c4] at hse
          simp only [hlS, signB, c1, c2, c3, c4, Bool.or_true, Bool.true_or, Bool.or_self, Bool.false_and, Bool.true_and, Bool.and_true, Bool.and_false, Bool.or_false, Bool.false_or] at hr
          first
          | (simp [hsz, h1, hb, h3, hlt, hq, c1, c2, c3, hse, ← hr]; done)
          | (simp [hsz, h1, hb, h3, hlt, hq, c1, c2, c3, hse, hwi]
             exact ih _ _ (by omega) ⟨i + 1, rfl, by omega, by simp [hsz], by simp [h1], by simp [hb], by simp, hr⟩)
      exact step
  · obtain rfl : i = h.2.length := by omega
    rw [List.drop_length, List.all_nil] at hr
    cases c1 : inI h.2.length 1 30
    · simp [hsz, h1, hb, h3, l1In_ev, c1, ← hr]
    · simp [hsz, h1, hb, h3, l1In_ev, c1, ← hr]

def goS : Option Hk → List Hk → Bool
  | _, [] => true
  | none, h :: r => hunkS h && goS (some h) r
  | some p, h :: r => (hunkS h && decide (p.1 + (oldL p.2).length ≤ h.1)) && goS (some h) r
def hunksOkS (hs : List Hk) : Bool := goS none hs && decide (hs.length ≤ 4)
end Go.Qz

/- What the functions come to: hunks ok of the reference. -/
namespace Go.Qz
open Go.Proofs

theorem hunkS_parts {h : Hk} (hh : hunkS h = true) : (∀ x ∈ h.2, x ≠ []) ∧ 1 ≤ h.2.length ∧ h.2.length ≤ 30 ∧ 1 ≤ h.1 ∧ h.1 ≤ 999 := by
  simp only [hunkS, inI, Bool.and_eq_true, decide_eq_true_eq] at hh
  obtain ⟨h1, ⟨h2, h3⟩, h4, h5⟩ := hh
  refine ⟨fun x hx => ?_, by omega, by omega, h4, h5⟩
  have := List.all_eq_true.1 h1 x hx
  rintro rfl
  cases this

theorem HunksOkS_ev (hs : List Hk) (hn : hs.length ≤ 140737488351232) (hl : ∀ h ∈ hs, h.2.length ≤ 140737488351232) (hx : ∀ h ∈ hs, ∀ x ∈ h.2, x.length ≤ 140737488351232) :
    C fn_s_HunksOk [.ro (HS hs)] [] = some (.one (.ro (.bool (hunksOkS hs))), []) := by
  refine ctx_call Tryd.func25 conv_s_HunksOk rfl ?_
  unfold hunksOkS
  simp
  refine loop_run (fun m e => ∃ i, m = hs.length - i ∧ i ≤ hs.length ∧ e.size = 45 ∧ e.get 0 = .one (.ro (HS hs)) ∧ e.get 3 = .one (.ro (N i)) ∧
    ((i = 0 ∧ goS none hs = goS none hs) ∨ ∃ k p, i = k + 1 ∧ hs[k]? = some p ∧ hunkS p = true ∧ goS (some p) (hs.drop i) = goS none hs)) ?_ hs.length _ ⟨0, rfl, Nat.zero_le _, by simp, by simp, by simp, .inl ⟨rfl, rfl⟩⟩
  rintro m e ⟨i, rfl, hi, hsz, h0, h3, hr⟩ ih
  rcases Nat.lt_or_ge i hs.length with hlt | hge
  · have hwi : IntKind.i64.wrap ((i : Int) + 1) = ((i + 1 : Nat) : Int) := wrap64_succ (by omega)
    have hd : hs.drop i = hs[i] :: hs.drop (i + 1) := List.drop_eq_getElem_cons hlt
    have hev := l5Hunk_ev hs[i] (hl _ (List.getElem_mem hlt)) (hx _ (List.getElem_mem hlt))
    rcases hr with ⟨rfl, hr⟩ | ⟨k, p, hik, hp, hps, hr⟩
    · have hd0 : hs = hs[0] :: hs.drop 1 := by simpa using hd
      cases c1 : hunkS hs[0] with
      | false =>
        have hr' : goS none hs = false := by rw [hd0, goS, c1]; rfl
        rw [c1] at hev
        simp [hsz, h0, h3, hlt, hev, hr']
      | true =>
        have hr' : goS (some hs[0]) (hs.drop 1) = goS none hs := by
          have : goS none hs = goS none (hs[0] :: hs.drop 1) := by rw [← hd0]
          rw [this, goS, c1, Bool.true_and]
        rw [c1] at hev
        simp [hsz, h0, h3, hlt, hev, hwi]
        exact ih _ _ (by omega) ⟨1, rfl, by omega, by simp [hsz], by simp [h0], by simp, .inr ⟨0, hs[0], rfl, by simp, c1, hr'⟩⟩
    · have hk : k < hs.length := by omega
      have hpk : hs[k] = p := Option.some.inj ((List.getElem?_eq_getElem hk).symm.trans hp)
      obtain ⟨q1, q2, q3, q4, q5⟩ := hunkS_parts hps
      have hold := l5Old_ev p q3 q1
      have holl := oldL_le p.2
      have hwk : IntKind.i64.wrap ((i : Int) - 1) = k := by rw [wrap64 (by omega) (by omega)]; omega
      have hwa : IntKind.i64.wrap (p.1 + (oldL p.2).length) = p.1 + (oldL p.2).length := wrap64 (by omega) (by omega)
      have hi0 : 0 < i := by omega
      rw [hd, goS] at hr
      cases c1 : hunkS hs[i] with
      | false =>
        rw [c1] at hev hr
        simp only [Bool.false_and] at hr
        simp [hsz, h0, h3, hlt, hev, ← hr]
      | true =>
        rw [c1] at hev hr
        simp only [Bool.true_and] at hr
        by_cases c2 : p.1 + (oldL p.2).length ≤ hs[i].1
        · have n2 : ¬ hs[i].1 < p.1 + (oldL p.2).length := by omega
          simp only [c2, decide_true, Bool.true_and] at hr
          simp [hsz, h0, h3, hlt, hev, hwi, hwk, hk, hpk, hold, hwa, n2, hi0]
          exact ih _ _ (by omega) ⟨i + 1, rfl, by omega, by simp [hsz], by simp [h0], by simp, .inr ⟨i, hs[i], rfl, by simp [hlt], c1, hr⟩⟩
        · have n2 : hs[i].1 < p.1 + (oldL p.2).length := by omega
          simp only [c2, decide_false, Bool.false_and] at hr
          simp [hsz, h0, h3, hlt, hev, hwk, hk, hpk, hold, hwa, n2, hi0, ← hr]
  · obtain rfl : i = hs.length := by omega
    have hr' : goS none hs = true := by
      rcases hr with ⟨h, _⟩ | ⟨k, p, h, hp, hps, hr⟩
      · rw [List.eq_nil_of_length_eq_zero h]; rfl
      · rw [← hr, List.drop_length]; rfl
    simp [hsz, h0, h3, hr']
end Go.Qz

/- What the functions come to: copies and comparisons. -/
namespace Go.Qz
open Go.Proofs

theorem eq_of_firsts {α : Type} {ys xs : List α} (h : ys.length = xs.length) (h' : ∀ j, j < xs.length → ys[j]? = xs[j]?) : ys = xs := by
  apply List.ext_getElem? 
  intro j
  rcases Nat.lt_or_ge j xs.length with hj | hj
  · exact h' j hj
  · rw [List.getElem?_eq_none hj, List.getElem?_eq_none (by omega)]

theorem toStringS_ev (xs : Lines) (hn : xs.length ≤ 1048576) : C fn_w_toStringS [.ro (SS xs)] [] = some (.one (.own (SS xs)), []) := by
  refine ctx_call Tryd.func58 conv_w_toStringS rfl ?_
  have ha : (xs.length : Int) ≤ appendMax := by simp [appendMax]; omega
  simp [ha]
  refine loop_run (fun m e => ∃ i yl, m = xs.length - i ∧ i ≤ xs.length ∧ e.size = 22 ∧ e.get 0 = .one (.ro (SS xs)) ∧ e.get 3 = .one (.own (SS yl)) ∧ e.get 4 = .one (.ro (N i)) ∧ yl.length = xs.length ∧ ∀ j, j < i → yl[j]? = xs[j]?)
    ?_ xs.length _ ⟨0, List.replicate xs.length [], rfl, Nat.zero_le _, by simp, by simp, by simp, by simp, by simp, fun j hj => by omega⟩
  rintro m e ⟨i, yl, rfl, hi, hsz, h0, h3, h4, hyl, hy⟩ ih
  rcases Nat.lt_or_ge i xs.length with hlt | hge
  · have hwi : IntKind.i64.wrap ((i : Int) + 1) = ((i + 1 : Nat) : Int) := wrap64_succ (by omega)
    have hlt' : i < yl.length := by omega
    simp [hsz, h0, h3, h4, hlt, hlt', hwi]
    exact ih _ _ (by omega) ⟨i + 1, yl.set i xs[i], rfl, by omega, by simp [hsz], by simp [h0], by simp, by simp, by simp [hyl], fun j hj => by
      by_cases e : j = i
      · subst e; simp [hlt, hlt']
      · rw [List.getElem?_set_ne (by omega)]; exact hy j (by omega)⟩
  · obtain rfl : i = xs.length := by omega
    obtain rfl := eq_of_firsts hyl hy
    simp [hsz, h0, h3, h4]

theorem toHunk_ev (h : Hk) (hn : h.2.length ≤ 1048576) : C fn_w_toHunk [.ro (HD h)] [] = some (.one (.own (HD h)), []) := by
  refine ctx_call Tryd.func27 conv_w_toHunk rfl ?_
  simp [toStringS_ev h.2 hn]

theorem toHunkS_ev (hs : List Hk) (hn : hs.length ≤ 1048576) (hl : ∀ h ∈ hs, h.2.length ≤ 1048576) : C fn_w_toHunkS [.ro (HS hs)] [] = some (.one (.own (HS hs)), []) := by
  refine ctx_call Tryd.func11 conv_w_toHunkS rfl ?_
  have ha : (hs.length : Int) ≤ appendMax := by simp [appendMax]; omega
  simp [ha]
  refine loop_run (fun m e => ∃ i yl, m = hs.length - i ∧ i ≤ hs.length ∧ e.size = 23 ∧ e.get 0 = .one (.ro (HS hs)) ∧ e.get 3 = .one (.own (HS yl)) ∧ e.get 4 = .one (.ro (N i)) ∧ yl.length = hs.length ∧ ∀ j, j < i → yl[j]? = hs[j]?)
    ?_ hs.length _ ⟨0, List.replicate hs.length (0, []), rfl, Nat.zero_le _, by simp, by simp, by simp, by simp, by simp, fun j hj => by omega⟩
  rintro m e ⟨i, yl, rfl, hi, hsz, h0, h3, h4, hyl, hy⟩ ih
  rcases Nat.lt_or_ge i hs.length with hlt | hge
  · have hwi : IntKind.i64.wrap ((i : Int) + 1) = ((i + 1 : Nat) : Int) := wrap64_succ (by omega)
    have hlt' : i < yl.length := by omega
    have hto := toHunk_ev hs[i] (hl _ (List.getElem_mem hlt))
    simp [hsz, h0, h3, h4, hlt, hlt', hwi, hto]
    exact ih _ _ (by omega) ⟨i + 1, yl.set i hs[i], rfl, by omega, by simp [hsz], by simp [h0], by simp, by simp, by simp [hyl], fun j hj => by
      by_cases e : j = i
      · subst e; simp [hlt, hlt']
      · rw [List.getElem?_set_ne (by omega)]; exact hy j (by omega)⟩
  · obtain rfl : i = hs.length := by omega
    obtain rfl := eq_of_firsts hyl hy
    simp [hsz, h0, h3, h4]
end Go.Qz

/- What the functions come to: comparisons of the same; sizes of hunks; the law. -/
namespace Go.Qz
open Go.Proofs

theorem eqStringS_self (xs : Lines) (hn : xs.length ≤ 140737488351232) : C fn_w_eqStringS [.ro (SS xs), .ro (SS xs)] [] = some (.one (.ro (.bool true)), []) := by
  refine ctx_call Tryd.func64 conv_w_eqStringS rfl ?_
  simp
  refine loop_run (fun m e => ∃ i, m = xs.length - i ∧ i ≤ xs.length ∧ e.size = 26 ∧ e.get 0 = .one (.ro (SS xs)) ∧ e.get 1 = .one (.ro (SS xs)) ∧ e.get 5 = .one (.ro (N i)))
    ?_ xs.length _ ⟨0, rfl, Nat.zero_le _, by simp, by simp, by simp, by simp⟩
  rintro m e ⟨i, rfl, hi, hsz, h0, h1, h5⟩ ih
  rcases Nat.lt_or_ge i xs.length with hlt | hge
  · have hwi : IntKind.i64.wrap ((i : Int) + 1) = ((i + 1 : Nat) : Int) := wrap64_succ (by omega)
    simp [hsz, h0, h1, h5, hlt, hwi]
    exact ih _ _ (by omega) ⟨i + 1, rfl, by omega, by simp [hsz], by simp [h0], by simp [h1], by simp⟩
  · obtain rfl : i = xs.length := by omega
    simp [hsz, h0, h1, h5]

theorem eqHunk_self (h : Hk) (hn : h.2.length ≤ 140737488351232) : C fn_w_eqHunk [.ro (HD h), .ro (HD h)] [] = some (.one (.ro (.bool true)), []) := by
  refine ctx_call Tryd.func32 conv_w_eqHunk rfl ?_
  simp [eqStringS_self h.2 hn]

theorem eqHunkS_self (hs : List Hk) (hn : hs.length ≤ 140737488351232) (hl : ∀ h ∈ hs, h.2.length ≤ 140737488351232) : C fn_w_eqHunkS [.ro (HS hs), .ro (HS hs)] [] = some (.one (.ro (.bool true)), []) := by
  refine ctx_call Tryd.func13 conv_w_eqHunkS rfl ?_
  simp
  refine loop_run (fun m e => ∃ i, m = hs.length - i ∧ i ≤ hs.length ∧ e.size = 27 ∧ e.get 0 = .one (.ro (HS hs)) ∧ e.get 1 = .one (.ro (HS hs)) ∧ e.get 5 = .one (.ro (N i)))
    ?_ hs.length _ ⟨0, rfl, Nat.zero_le _, by simp, by simp, by simp, by simp⟩
  rintro m e ⟨i, rfl, hi, hsz, h0, h1, h5⟩ ih
  rcases Nat.lt_or_ge i hs.length with hlt | hge
  · have hwi : IntKind.i64.wrap ((i : Int) + 1) = ((i + 1 : Nat) : Int) := wrap64_succ (by omega)
    have hev := eqHunk_self hs[i] (hl _ (List.getElem_mem hlt))
    simp [hsz, h0, h1, h5, hlt, hwi, hev]
    exact ih _ _ (by omega) ⟨i + 1, rfl, by omega, by simp [hsz], by simp [h0], by simp [h1], by simp⟩
  · obtain rfl : i = hs.length := by omega
    simp [hsz, h0, h1, h5]

/-! ### Sizes of hunks -/

theorem szL_le (xs : Lines) : ∀ l : Int, 0 ≤ l → szL xs l ≤ l ∧ -1 ≤ szL xs l := by
  induction xs with
  | nil => intro l hl; exact ⟨Int.le_refl _, by simp [szL]; omega⟩
  | cons x r ih =>
    intro l hl
    rw [szL]
    split
    · omega
    · have := ih (l - x.length) (by omega)
      omega
theorem szL_all (xs : Lines) : ∀ l : Int, 0 ≤ szL xs l → ∀ x ∈ xs, (x.length : Int) ≤ l := by
  induction xs with
  | nil => intro l _ x hx; cases hx
  | cons x r ih =>
    intro l hl y hy
    rw [szL] at hl
    split at hl
    · omega
    · rcases List.mem_cons.1 hy with rfl | hy
      · omega
      · have := ih _ hl y hy
        omega
theorem szSS_le (xs : Lines) (l : Int) (hl : 0 ≤ l) : szSS xs l ≤ l ∧ -1 ≤ szSS xs l := by
  unfold szSS
  split
  · omega
  · have := szL_le xs (l - xs.length) (by omega)
    omega
theorem szSS_all (xs : Lines) (l : Int) (h : 0 ≤ szSS xs l) : (xs.length : Int) ≤ l ∧ ∀ x ∈ xs, (x.length : Int) ≤ l := by
  unfold szSS at h
  split at h
  · omega
  · refine ⟨by omega, fun x hx => ?_⟩
    have := szL_all xs _ h x hx
    omega

def szHk (h : Hk) (l : Int) : Int := szSS h.2 l
def szHL : List Hk → Int → Int
  | [], l => l
  | h :: r, l => if szHk h l < 0 then -1 else szHL r (szHk h l)
def szHS (hs : List Hk) (l : Int) : Int := if l - hs.length < 0 then -1 else szHL hs (l - hs.length)

theorem szHunk_ev (h : Hk) (l : Int) (hl : 0 ≤ l) (hl2 : l ≤ 1048576) (hn : h.2.length ≤ 140737488351232) (hx : ∀ x ∈ h.2, x.length ≤ 140737488351232) :
    C fn_w_szHunk [.ro (HD h), .ro (I l)] [] = some (.one (.ro (I (szHk h l))), []) := by
  refine ctx_call Tryd.func24 conv_w_szHunk rfl ?_
  have hev := szStringS_ev h.2 l hl hl2 hn hx
  have hle := szSS_le h.2 l hl
  unfold szHk
  by_cases hneg : szSS h.2 l < 0
  · have : szSS h.2 l = -1 := by omega
    simp [hev, this]
  · simp [hev, hneg]

theorem szHunkS_ev (hs : List Hk) (l : Int) (hl : 0 ≤ l) (hl2 : l ≤ 1048576) (hn : hs.length ≤ 140737488351232) (hn2 : ∀ h ∈ hs, h.2.length ≤ 140737488351232) (hx : ∀ h ∈ hs, ∀ x ∈ h.2, x.length ≤ 140737488351232) :
    C fn_w_szHunkS [.ro (HS hs), .ro (I l)] [] = some (.one (.ro (I (szHS hs l))), []) := by
  refine ctx_call Tryd.func9 conv_w_szHunkS rfl ?_
  have h1 : IntKind.i64.wrap (l - hs.length) = l - hs.length := wrap64 (by omega) (by omega)
  unfold szHS
  by_cases hneg : l - hs.length < 0
  · simp [h1, hneg]
  · simp [h1, hneg]
    refine loop_run (fun m e => ∃ i l', m = hs.length - i ∧ i ≤ hs.length ∧ 0 ≤ l' ∧ l' ≤ 1048576 ∧ e.size = 27 ∧ e.get 0 = .one (.ro (HS hs)) ∧ e.get 1 = .one (.ro (I l')) ∧ e.get 5 = .one (.ro (N i)) ∧
      szHL (hs.drop i) l' = szHL hs (l - hs.length)) ?_ hs.length _ ⟨0, l - hs.length, rfl, Nat.zero_le _, by omega, by omega, by simp, by simp, by simp, by simp, rfl⟩
    rintro m e ⟨i, l', rfl, hi, hl0, hl1, hsz, h0, h1, h5, hr⟩ ih
    rcases Nat.lt_or_ge i hs.length with hlt | hge
    · have hd : hs.drop i = hs[i] :: hs.drop (i + 1) := List.drop_eq_getElem_cons hlt
      have hwi : IntKind.i64.wrap ((i : Int) + 1) = ((i + 1 : Nat) : Int) := wrap64_succ (by omega)
      have hev := szHunk_ev hs[i] l' hl0 hl1 (hn2 _ (List.getElem_mem hlt)) (hx _ (List.getElem_mem hlt))
      have hle := szSS_le hs[i].2 l' hl0
      rw [hd, szHL] at hr
      by_cases hc : szHk hs[i] l' < 0
      · rw [if_pos hc] at hr
        simp [hsz, h0, h1, h5, hlt, hev, hc, ← hr]
      · rw [if_neg hc] at hr
        simp [hsz, h0, h1, h5, hlt, hev, hc, hwi]
        exact ih _ _ (by omega) ⟨i + 1, _, rfl, by omega, by omega, by unfold szHk at hc ⊢; omega, by simp [hsz], by simp [h0], by simp, by simp, hr⟩
    · obtain rfl : i = hs.length := by omega
      rw [List.drop_length, szHL] at hr
      simp [hsz, h0, h1, h5, hr]

theorem szHL_all (hs : List Hk) : ∀ l : Int, 0 ≤ szHL hs l → ∀ h ∈ hs, (h.2.length : Int) ≤ l ∧ ∀ x ∈ h.2, (x.length : Int) ≤ l := by
  induction hs with
  | nil => intro l _ x hx; cases hx
  | cons h r ih =>
    intro l hl y hy
    rw [szHL] at hl
    split at hl
    · omega
    · rename_i hc
      have h0 : 0 ≤ szHk h l := by omega
      have ha := szSS_all h.2 l h0
      have hl0 : 0 ≤ l := by omega
      have hle := (szSS_le h.2 l hl0).1
      rcases List.mem_cons.1 hy with rfl | hy
      · exact ha
      · have := ih _ hl y hy
        unfold szHk at this
        exact ⟨by omega, fun x hx => by have := this.2 x hx; omega⟩
theorem szHS_all (hs : List Hk) (l : Int) (h : 0 ≤ szHS hs l) : (hs.length : Int) ≤ l ∧ ∀ h ∈ hs, (h.2.length : Int) ≤ l ∧ ∀ x ∈ h.2, (x.length : Int) ≤ l := by
  unfold szHS at h
  split at h
  · omega
  · refine ⟨by omega, fun y hy => ?_⟩
    have := szHL_all hs _ h y hy
    exact ⟨by omega, fun x hx => by have := this.2 x hx; omega⟩
end Go.Qz

/- The law of HunksOk, by the evaluator. -/
namespace Go.Qz
open Go.Proofs

theorem goI_goS : ∀ (hs : List Hk) (p : Hk), 1 ≤ p.1 → goI (p.1 + (oldL p.2).length) hs = goS (some p) hs := by
  intro hs
  induction hs with
  | nil => intro p _; rfl
  | cons h r ih =>
    intro p hp
    have hall : h.2.all hlS = h.2.all hlOk := by congr 1; funext x; exact hlS_eq x
    rw [goI, goS, Bool.eq_iff_iff]
    simp only [hunkS, inI, hall, Bool.and_eq_true, decide_eq_true_eq]
    constructor
    · rintro ⟨⟨⟨⟨⟨h1, h2⟩, h3⟩, h4⟩, h5⟩, h6⟩
      rw [ih h (by omega)] at h6
      exact ⟨⟨⟨h5, ⟨by omega, by omega⟩, by omega, h2⟩, h1⟩, h6⟩
    · rintro ⟨⟨⟨h5, ⟨h3, h4⟩, h7, h2⟩, h1⟩, h6⟩
      rw [← ih h (by omega)] at h6
      exact ⟨⟨⟨⟨⟨h1, h2⟩, by omega⟩, by omega⟩, h5⟩, h6⟩
theorem hunksOk_eq (hs : List Hk) : hunksOkI hs = hunksOkS hs := by
  unfold hunksOkI hunksOkS
  rw [Bool.and_comm]
  congr 1
  cases hs with
  | nil => rfl
  | cons h r =>
    have hall : h.2.all hlS = h.2.all hlOk := by congr 1; funext x; exact hlS_eq x
    rw [goI, goS, Bool.eq_iff_iff]
    simp only [hunkS, inI, hall, Bool.and_eq_true, decide_eq_true_eq]
    constructor
    · rintro ⟨⟨⟨⟨⟨h1, h2⟩, h3⟩, h4⟩, h5⟩, h6⟩
      rw [goI_goS r h (by omega)] at h6
      exact ⟨⟨h5, ⟨by omega, by omega⟩, by omega, h2⟩, h6⟩
    · rintro ⟨⟨h5, ⟨h3, h4⟩, h7, h2⟩, h6⟩
      rw [← goI_goS r h (by omega)] at h6
      exact ⟨⟨⟨⟨⟨by omega, h2⟩, by omega⟩, by omega⟩, h5⟩, h6⟩

end Go.Qz

/- Cutting texts: plain laws, and what the library's and the reference's functions come to. -/
namespace Go.Qz
open Go.Proofs

/-- What stands ahead of the first such byte, and behind it. -/
def brk (b : UInt8) : List UInt8 → Option (List UInt8 × List UInt8)
  | [] => none
  | c :: r => if c == b then some ([], r) else (brk b r).map fun p => (c :: p.1, p.2)
theorem brk_app {b : UInt8} : ∀ {d n r : List UInt8}, brk b d = some (n, r) → d = n ++ b :: r
  | [], n, r, h => by cases h
  | c :: d, n, r, h => by
    unfold brk at h
    split at h
    · rename_i hc
      cases h
      have : c = b := by simpa using hc
      rw [this]; rfl
    · obtain ⟨p, hp, he⟩ := Option.map_eq_some_iff.1 h
      cases he
      rw [brk_app (n := p.1) (r := p.2) hp]
      rfl
theorem brk_name {b : UInt8} : ∀ {n : List UInt8} (r : List UInt8), (∀ c ∈ n, c ≠ b) → brk b (n ++ b :: r) = some (n, r)
  | [], r, _ => by simp [brk]
  | c :: n, r, h => by
    have hc : (c == b) = false := by have := h c (by simp); simpa using this
    rw [List.cons_append, brk, hc, brk_name r (fun b hb => h b (by simp [hb]))]
    rfl
theorem brk_none {b : UInt8} : ∀ {n : List UInt8}, (∀ c ∈ n, c ≠ b) → brk b n = none
  | [], _ => rfl
  | c :: n, h => by
    have hc : (c == b) = false := by have := h c (by simp); simpa using this
    rw [brk, hc, brk_none (fun b hb => h b (by simp [hb]))]
    rfl
theorem brk_free {b : UInt8} : ∀ {d n r : List UInt8}, brk b d = some (n, r) → ∀ c ∈ n, c ≠ b
  | [], n, r, h => by cases h
  | c :: d, n, r, h => by
    unfold brk at h
    split at h
    · cases h; intro c hc; simp at hc
    · rename_i hc
      obtain ⟨p, hp, he⟩ := Option.map_eq_some_iff.1 h
      cases he
      intro x hx
      rcases List.mem_cons.1 hx with rfl | hx
      · simpa using hc
      · exact brk_free (n := p.1) (r := p.2) hp x hx
theorem index_brk (b : UInt8) : ∀ d : List UInt8, (brk b d = none ∧ Lib.index d [b] = -1) ∨ ∃ n r, brk b d = some (n, r) ∧ Lib.index d [b] = n.length
  | [] => .inl ⟨rfl, by simp [Lib.index]⟩
  | c :: r => by
    have hb : (b == c) = (c == b) := Bool.beq_comm
    unfold brk
    cases hc : c == b with
    | true =>
      refine .inr ⟨[], r, rfl, ?_⟩
      rw [hc] at hb
      simp [Lib.index, List.isPrefixOf, hb]
    | false =>
      rw [hc] at hb
      have h1 : Lib.index (c :: r) [b] = if Lib.index r [b] == -1 then -1 else Lib.index r [b] + 1 := by
        simp [Lib.index, List.isPrefixOf, hb]
      rcases index_brk b r with ⟨x1, x2⟩ | ⟨n, q, x1, x2⟩
      · refine .inl ⟨by rw [x1]; rfl, by rw [h1, x2]; rfl⟩
      · refine .inr ⟨c :: n, q, by rw [x1]; rfl, ?_⟩
        rw [h1, x2]
        have : ((n.length : Int) == -1) = false := by rw [beq_eq_false_iff_ne]; omega
        rw [this]
        simp
theorem cut_brk (b : UInt8) (d : List UInt8) : Lib.cut d [b] = (match brk b d with | some p => (p.1, p.2, true) | none => (d, [], false)) := by
  rcases index_brk b d with ⟨x1, x2⟩ | ⟨n, r, x1, x2⟩
  · rw [x1]
    simp [Lib.cut, x2]
  · have ha := brk_app x1
    rw [x1]
    simp only [Lib.cut, x2, if_pos (show (0 : Int) ≤ n.length by omega), Int.toNat_natCast, List.length_singleton]
    rw [ha]
    simp

/-- A text cut at a byte, so many times at most; 'pre' stands ahead. -/
def cutP (b : UInt8) : Nat → List UInt8 → List UInt8 → Lines
  | _, pre, [] => [pre]
  | 0, pre, c :: r => [pre ++ c :: r]
  | k + 1, pre, c :: r => if c == b then pre :: cutP b k [] r else cutP b (k + 1) (pre ++ [c]) r
theorem cutP_zero (b : UInt8) (pre s : List UInt8) : cutP b 0 pre s = [pre ++ s] := by cases s <;> simp [cutP]
theorem cutP_brk (b : UInt8) (k : Nat) : ∀ (s pre : List UInt8), cutP b (k + 1) pre s = (match brk b s with | some p => (pre ++ p.1) :: cutP b k [] p.2 | none => [pre ++ s])
  | [], pre => by simp [cutP, brk]
  | c :: r, pre => by
    rw [cutP, brk]
    split
    · simp
    · rw [cutP_brk b k r]
      cases h : brk b r with
      | none => simp
      | some p => simp
theorem cutP_ge (b : UInt8) : ∀ (k k' : Nat) (s pre : List UInt8), s.length ≤ k → s.length ≤ k' → cutP b k pre s = cutP b k' pre s
  | _, _, [], pre, _, _ => by simp [cutP]
  | 0, _, c :: r, _, h, _ => by simp at h
  | _, 0, c :: r, _, _, h => by simp at h
  | k + 1, k' + 1, c :: r, pre, h, h' => by
    simp only [List.length_cons] at h h'
    rw [cutP, cutP]
    split
    · rw [cutP_ge b k k' r [] (by omega) (by omega)]
    · exact cutP_ge b (k + 1) (k' + 1) r _ (by omega) (by omega)

theorem splitK_cut (b : UInt8) : ∀ (k : Nat) (s : List UInt8), Lib.splitK [b] 0 k s = cutP b k [] s
  | 0, s => by rw [cutP_zero]; rfl
  | k + 1, s => by
    rw [cutP_brk]
    rcases index_brk b s with ⟨x1, x2⟩ | ⟨n, r, x1, x2⟩
    · rw [x1]
      unfold Lib.splitK
      simp [x2]
    · have ha := brk_app x1
      rw [x1]
      unfold Lib.splitK
      have : ((n.length : Int) == -1) = false := by rw [beq_eq_false_iff_ne]; omega
      simp only [x2, this, Bool.false_eq_true, if_false, Int.toNat_natCast, List.nil_append, List.length_singleton, Nat.add_zero]
      rw [splitK_cut b k]
      rw [ha]
      simp
theorem splitN_ev (s : List UInt8) (b : UInt8) (h : s.length < 4294967281) : C 79 [.ro (T s), .ro (T [b]), .ro (.int .i64 4)] [] = some (.one (.own (SS (cutP b 3 [] s))), []) := by
  have h0 := splitN_str ⟨s.toArray⟩ ⟨[b].toArray⟩ 4 (by simpa using h) (by simp [ByteArray.size]) (by omega) (by omega)
  have e1 : (Lib.splitB ⟨[b].toArray⟩ 0 (min (4 : Int).toNat ((⟨s.toArray⟩ : ByteArray).size + 1) - 1) ⟨s.toArray⟩).map D.str = (cutP b 3 [] s).map T := by
    have h1 := Lib.splitB_data ⟨[b].toArray⟩ 0 (min (4 : Int).toNat ((⟨s.toArray⟩ : ByteArray).size + 1) - 1) ⟨s.toArray⟩
    rw [splitK_cut] at h1
    have hk : cutP b (min (4 : Int).toNat ((⟨s.toArray⟩ : ByteArray).size + 1) - 1) [] s = cutP b 3 [] s := by
      have hs : (⟨s.toArray⟩ : ByteArray).size = s.length := by simp [ByteArray.size]
      rw [hs]
      by_cases h3 : 3 ≤ s.length
      · rw [show min (4 : Int).toNat (s.length + 1) - 1 = 3 by have : (4 : Int).toNat = 4 := rfl; omega]
      · exact cutP_ge b _ _ _ _ (by have : (4 : Int).toNat = 4 := rfl; omega) (by omega)
    have h2 : (⟨s.toArray⟩ : ByteArray).data.toList = s := rfl
    rw [h2, hk] at h1
    rw [← h1, List.map_map]
    refine List.map_congr_left (fun x _ => ?_)
    simp [T]
  rw [e1] at h0
  exact h0
end Go.Qz

/- What the reference's cutting comes to. -/
namespace Go.Qz
open Go.Proofs

theorem l1Cut_ev (s : List UInt8) (b : UInt8) (most : Nat) (m0 : Int) (hm0 : m0 = most) (hs : s.length ≤ 1048576) (hm : most ≤ 2000000) :
    C fn_s_l1Cut [.ro (T s), .ro (.int .u8 b.toNat), .ro (.int .i64 m0)] [] = some (.one (.own (SS (cutP b most [] s))), []) := by
  subst hm0
  refine ctx_call Tryd.func76 conv_s_l1Cut rfl ?_
  simp
  refine loop_run (fun m e => ∃ (out : Lines) (pre rest : List UInt8) (i j : Nat), m = rest.length ∧ s.drop i = pre ++ rest ∧ j = i + pre.length ∧ j + rest.length = s.length ∧ out.length ≤ most ∧ out.length ≤ s.length ∧ out.length ≤ i ∧ e.size = 43 ∧ e.get 0 = .one (.ro (T s)) ∧ e.get 1 = .one (.ro (.int .u8 b.toNat)) ∧ e.get 2 = .one (.ro (N most)) ∧ e.get 7 = .one (.own (SS out)) ∧
      e.get 8 = .one (.ro (N i)) ∧ e.get 9 = .one (.ro (N j)) ∧ out ++ cutP b (most - out.length) pre rest = cutP b most [] s)
    ?_ s.length _ ⟨[], [], s, 0, 0, rfl, rfl, rfl, by simp, by simp, by simp, by simp, by simp, by simp, by simp, by simp, by simp, by simp, by simp, by simp⟩
  rintro m e ⟨out, pre, rest, i, j, rfl, hd, hj, hjl, ho, hos, hoi, hsz, h0, h1, h2, h7, h8, h9, hr⟩ ih
  have ha : out.length + 1 ≤ appendMax := by simp [appendMax]; omega
  have hil : i ≤ s.length := by omega
  have hil' : (i : Int) ≤ s.length := by omega
  have fin : List.drop i (List.take s.length s) = pre ++ rest := by rw [List.take_length]; exact hd
  cases rest with
  | nil =>
    have hlt : ¬ j < s.length := by simp at hjl; omega
    rw [cutP] at hr
    simp at fin
    simp [hsz, h0, h1, h2, h7, h8, h9, hlt, ha, hil, hil', hd, ← hr]
  | cons c r =>
    have hlt : j < s.length := by simp at hjl; omega
    by_cases hmo : out.length < most
    · have hget : s[j] = c := by
        have h3 : (s.drop i)[pre.length]? = some c := by rw [hd]; simp
        rw [List.getElem?_drop, ← hj, List.getElem?_eq_getElem hlt] at h3
        exact Option.some.inj h3
      have hsl : List.drop i (List.take j s) = pre := by
        rw [List.drop_take, hd, hj, Nat.add_sub_cancel_left, List.take_left]
      have hij : i ≤ j := by omega
      have hjs : j ≤ s.length := by omega
      have hij' : (i : Int) ≤ j := by omega
      have hwj : IntKind.i64.wrap ((j : Int) + 1) = ((j + 1 : Nat) : Int) := wrap64_succ (by omega)
      have hsd : s.drop (j + 1) = r := by
        have h3 : (s.drop i).drop (pre.length + 1) = r := by rw [hd]; simp
        rw [List.drop_drop] at h3
        rw [← h3]; congr 1; omega
      have hk : most - out.length = (most - out.length - 1) + 1 := by omega
      rw [hk, cutP] at hr
      cases hcb : c == b with
      | true =>
        obtain rfl : c = b := by simpa using hcb
        rw [if_pos hcb] at hr
        simp [hsz, h0, h1, h2, h7, h8, h9, hlt, ha, hmo, hget, hij, hij', hjs, hwj, hsl]
        exact ih _ _ (by simp) ⟨out ++ [pre], [], r, j + 1, j + 1, rfl, by simp [hsd], by simp, by simp at hjl ⊢; omega, by simp; omega, by simp; omega, by simp; omega, by simp [hsz], by simp [h0], by simp [h1], by simp [h2], by simp, by simp, by simp, by
          rw [← hr]; simp [show most - (out.length + 1) = most - out.length - 1 by omega]⟩
      | false =>
        have hne : ¬ c = b := by simpa using hcb
        have hne' : (c.toNat == b.toNat) = false := by rw [beq_eq_false_iff_ne]; exact fun h => hne (UInt8.toNat_inj.1 h)
        rw [if_neg (by simp [hcb])] at hr
        simp [hsz, h0, h1, h2, h7, h8, h9, hlt, ha, hmo, hget, hij, hij', hwj, hsl, hne, hne']
        refine ih r.length _ (by simp) ⟨out, pre ++ [c], r, i, j + 1, rfl, by simp [hd], by simp; omega, by simp at hjl ⊢; omega, ho, hos, hoi, by simp [hsz], by simp [h0], by simp [h1], by simp [h2], by simp [h7], by simp [h8], by simp, ?_⟩
        rw [← hr, ← hk]
    · have hmo' : most - out.length = 0 := by omega
      rw [hmo', cutP] at hr
      simp [hsz, h0, h1, h2, h7, h8, h9, hlt, ha, hmo, hil, hil', hd, ← hr]
end Go.Qz

/- Numbers that are read. -/
namespace Go.Qz
open Go.Proofs

def figB (b : UInt8) : Bool := decide (48 ≤ b.toNat) && decide (b.toNat ≤ 57)
def goN : Nat → List UInt8 → Option Nat
  | n, [] => some n
  | n, c :: r => if figB c then goN (n * 10 + (c.toNat - 48)) r else none
def lead0 (l : List UInt8) : Bool := match l with
  | c :: _ :: _ => c == 48
  | _ => false
def numS (l : List UInt8) : Int := match goN 0 l with
  | some n => if decide (l.length ≤ 6) && !l.isEmpty && !lead0 l then n else -1
  | none => -1
def numI (l : List UInt8) (most : Nat) : Nat × Bool := if l.isEmpty || decide (9 < l.length) || lead0 l then (0, false) else match goN 0 l with
  | some n => if most < n then (0, false) else (n, true)
  | none => (0, false)

def numV (o : Option Nat) (most : Nat) : Nat × Bool := match o with
  | some n => if most < n then (0, false) else (n, true)
  | none => (0, false)

theorem fig_sub {c : UInt8} (h : figB c = true) : IntKind.u8.wrap ((c.toNat : Int) - 48) = ((c.toNat - 48 : Nat) : Int) ∧ ¬ c.toNat < 48 ∧ ¬ 57 < c.toNat ∧ c.toNat - 48 ≤ 9 := by
  unfold figB at h
  simp only [Bool.and_eq_true, decide_eq_true_eq] at h
  refine ⟨?_, by omega, by omega, by omega⟩
  show ((c.toNat : Int) - 48) % 256 = _
  omega
theorem fig_not {c : UInt8} (h : figB c = false) : c.toNat < 48 ∨ (¬ c.toNat < 48 ∧ 57 < c.toNat) := by
  unfold figB at h
  simp only [Bool.and_eq_false_iff, decide_eq_false_iff_not] at h
  omega

theorem number_loop (l : List UInt8) (most : Nat) (hlen : l.length ≤ 9) (hm : most ≤ 1000000) (e : Env) (hsz : e.size = 53) (h0 : e.get 0 = .one (.ro (T l))) (h1 : e.get 1 = .one (.ro (N most))) (h6 : e.get 6 = .one (.ro (N 0))) (h26 : e.get 26 = .one (.ro (N l.length))) (h27 : e.get 27 = .one (.ro (N 0))) :
    Run cx q_i_number_l0.loop e [Fr.blk 0, Fr.seq q_i_number_c4, Fr.fn [(ResultVar.tmp 4, 3), (ResultVar.tmp 5, 4)] []] = some (.tup [.ro (N (numV (goN 0 l) most).1), .ro (.bool (numV (goN 0 l) most).2)], []) := by
  refine loop_run (fun m e => ∃ i n, m = l.length - i ∧ i ≤ l.length ∧ n < 10 ^ i ∧ e.size = 53 ∧ e.get 0 = .one (.ro (T l)) ∧ e.get 1 = .one (.ro (N most)) ∧ e.get 6 = .one (.ro (N n)) ∧ e.get 26 = .one (.ro (N l.length)) ∧ e.get 27 = .one (.ro (N i)) ∧ goN n (l.drop i) = goN 0 l)
    ?_ l.length _ ⟨0, 0, rfl, Nat.zero_le _, by simp, hsz, h0, h1, h6, h26, h27, rfl⟩
  clear hsz h0 h1 h6 h26 h27
  rintro m e ⟨i, n, rfl, hi, hn, hsz, h0, h1, h6, h26, h27, hr⟩ ih
  rcases Nat.lt_or_ge i l.length with hlt | hge
  · have hp : 10 ^ i ≤ 10 ^ 8 := Nat.pow_le_pow_right (by omega) (by omega)
    have hp2 : 10 ^ (i + 1) = 10 ^ i * 10 := Nat.pow_succ _ _
    have hwi : IntKind.i64.wrap ((i : Int) + 1) = ((i + 1 : Nat) : Int) := wrap64_succ (by omega)
    have hd : l.drop i = l[i] :: l.drop (i + 1) := List.drop_eq_getElem_cons hlt
    rw [hd, goN] at hr
    obtain ⟨c, hc⟩ : ∃ c, l[i] = c := ⟨_, rfl⟩
    rw [hc] at hr
    cases hf : figB c with
    | false =>
      rw [hf] at hr
      simp only [Bool.false_eq_true, if_false] at hr
      rcases fig_not hf with h | ⟨h, h'⟩
      · simp [hsz, h0, h1, h6, h26, h27, hlt, hc, h, ← hr, numV]
      · simp [hsz, h0, h1, h6, h26, h27, hlt, hc, h, h', ← hr, numV]
    | true =>
      rw [hf] at hr
      simp only [if_true] at hr
      obtain ⟨g1, g2, g3, g4⟩ := fig_sub hf
      generalize c.toNat - 48 = d at *
      have hw1 : IntKind.i64.wrap ((n : Int) * 10) = ((n * 10 : Nat) : Int) := by rw [wrap64 (by omega) (by omega)]; omega
      have hw2 : IntKind.i64.wrap (d : Int) = d := wrap64 (by omega) (by omega)
      have hw3 : IntKind.i64.wrap (((n * 10 : Nat) : Int) + (d : Int)) = ((n * 10 + d : Nat) : Int) := by rw [wrap64 (by omega) (by omega)]; omega
      have hlt2 : n * 10 + d < 10 ^ (i + 1) := by omega
      generalize n * 10 + d = q at *
      generalize n * 10 = p at *
      simp [hsz, h0, h1, h6, h26, h27, hlt, hc, g1, g2, g3, hwi, hw1, hw2, hw3]
      exact ih _ _ (by omega) ⟨i + 1, q, rfl, by omega, hlt2, by simp [hsz], by simp [h0], by simp [h1], by simp, by simp [h26], by simp, hr⟩
  · obtain rfl : i = l.length := by omega
    rw [List.drop_length, goN] at hr
    by_cases hmn : most < n
    · simp [hsz, h0, h1, h6, h26, h27, hmn, ← hr, numV]
    · simp [hsz, h0, h1, h6, h26, h27, hmn, ← hr, numV]

theorem number_ev (l : List UInt8) (most : Nat) (m0 : Int) (hm0 : m0 = most) (hl : l.length ≤ 1048576) (hm : most ≤ 1000000) :
    C fn_i_number [.ro (T l), .ro (.int .i64 m0)] [] = some (.tup [.ro (N (numI l most).1), .ro (.bool (numI l most).2)], []) := by
  subst hm0
  refine ctx_call Tryd.func80 conv_i_number rfl ?_
  unfold numI
  cases l with
  | nil => simp
  | cons c0 r0 =>
    by_cases h9 : 9 < r0.length + 1
    · have h9' : (9 : Int) < (r0.length : Int) + 1 := by omega
      simp [h9, h9']
    · have h9' : ¬ (9 : Int) < (r0.length : Int) + 1 := by omega
      have hlead : lead0 (c0 :: r0) = (decide ((1 : Int) < (r0.length : Int) + 1) && c0 == 48) := by
        cases r0 with
        | nil => simp [lead0]
        | cons b q => simp [lead0]; omega
      cases hl0 : lead0 (c0 :: r0) with
      | true =>
        rw [hl0] at hlead
        have h1 : (1 : Int) < (r0.length : Int) + 1 := by
          by_cases h : (1 : Int) < (r0.length : Int) + 1
          · exact h
          · simp [h] at hlead
        have h2 : (c0 == 48) = true := by simpa [h1] using hlead.symm
        simp [h9, h9', h1, h2]
      | false =>
        rw [hl0] at hlead
        have hg : (if (List.isEmpty (c0 :: r0) || decide (9 < List.length (c0 :: r0)) || false) = true then ((0 : Nat), false) else match goN 0 (c0 :: r0) with
            | some n => if most < n then (0, false) else (n, true)
            | none => (0, false)) = numV (goN 0 (c0 :: r0)) most := by
          rw [if_neg (by simp; omega)]
          rfl
        rw [hg]
        have hlen : (c0 :: r0).length ≤ 9 := by simp; omega
        by_cases h1 : (1 : Int) < (r0.length : Int) + 1
        · have h2 : (c0 == 48) = false := by simpa [h1] using hlead.symm
          simp [h9, h9', h1, h2]
          exact number_loop (c0 :: r0) most hlen hm _ (by simp) (by simp) (by simp) (by simp) (by simp) (by simp)
        · simp [h9, h9', h1]
          exact number_loop (c0 :: r0) most hlen hm _ (by simp) (by simp) (by simp) (by simp) (by simp) (by simp)
end Go.Qz

/- Numbers that the reference reads. -/
namespace Go.Qz
open Go.Proofs

theorem numS_long {l : List UInt8} (h : 6 < l.length) : numS l = -1 := by
  unfold numS
  split
  · rw [show decide (l.length ≤ 6) = false by simp; omega]
    simp
  · rfl
theorem l1Num_ev (l : List UInt8) (hl : l.length ≤ 1048576) : C fn_s_l1Num [.ro (T l)] [] = some (.one (.ro (I (numS l))), []) := by
  refine ctx_call Tryd.func77 conv_s_l1Num rfl ?_
  simp
  refine loop_run (fun m e => ∃ i n, m = l.length - i ∧ i ≤ l.length ∧ i ≤ 6 ∧ n < 10 ^ i ∧ e.size = 47 ∧ e.get 0 = .one (.ro (T l)) ∧ e.get 3 = .one (.ro (N n)) ∧ e.get 4 = .one (.ro (N i)) ∧ goN n (l.drop i) = goN 0 l)
    ?_ l.length _ ⟨0, 0, rfl, Nat.zero_le _, by omega, by simp, by simp, by simp, by simp, by simp, rfl⟩
  rintro m e ⟨i, n, rfl, hi, hi6, hn, hsz, h0, h3, h4, hr⟩ ih
  rcases Nat.lt_or_ge i l.length with hlt | hge
  · have hp : 10 ^ i ≤ 10 ^ 8 := Nat.pow_le_pow_right (by omega) (by omega)
    have hp2 : 10 ^ (i + 1) = 10 ^ i * 10 := Nat.pow_succ _ _
    have hwi : IntKind.i64.wrap ((i : Int) + 1) = ((i + 1 : Nat) : Int) := wrap64_succ (by omega)
    have hd : l.drop i = l[i] :: l.drop (i + 1) := List.drop_eq_getElem_cons hlt
    rw [hd, goN] at hr
    obtain ⟨c, hc⟩ : ∃ c, l[i] = c := ⟨_, rfl⟩
    rw [hc] at hr
    cases hf : figB c with
    | false =>
      rw [hf] at hr
      simp only [Bool.false_eq_true, if_false] at hr
      have hnum : numS l = -1 := by unfold numS; rw [← hr]
      rcases fig_not hf with h | ⟨h, h'⟩
      · simp [hsz, h0, h3, h4, hlt, hc, h, hnum]
      · simp [hsz, h0, h3, h4, hlt, hc, h, h', hnum]
    | true =>
      rw [hf] at hr
      simp only [if_true] at hr
      obtain ⟨g1, g2, g3, g4⟩ := fig_sub hf
      by_cases h6 : 6 ≤ i
      · have hnum := numS_long (l := l) (by omega)
        have h6' : (6 : Int) ≤ i := by omega
        simp [hsz, h0, h3, h4, hlt, hc, g2, g3, h6', hnum]
      · have h6' : ¬ (6 : Int) ≤ i := by omega
        generalize c.toNat - 48 = d at *
        have hw1 : IntKind.i64.wrap ((n : Int) * 10) = ((n * 10 : Nat) : Int) := by rw [wrap64 (by omega) (by omega)]; omega
        have hw2 : IntKind.i64.wrap (d : Int) = d := wrap64 (by omega) (by omega)
        have hw3 : IntKind.i64.wrap (((n * 10 : Nat) : Int) + (d : Int)) = ((n * 10 + d : Nat) : Int) := by rw [wrap64 (by omega) (by omega)]; omega
        have hlt2 : n * 10 + d < 10 ^ (i + 1) := by omega
        generalize n * 10 + d = q at *
        generalize n * 10 = p at *
        simp [hsz, h0, h3, h4, hlt, hc, g1, g2, g3, h6', hwi, hw1, hw2, hw3]
        exact ih _ _ (by omega) ⟨i + 1, q, rfl, by omega, by omega, hlt2, by simp [hsz], by simp [h0], by simp, by simp, hr⟩
  · obtain rfl : i = l.length := by omega
    rw [List.drop_length, goN] at hr
    unfold numS
    rw [← hr]
    clear ih hr
    match l, hi6, hsz, h0, h3, h4 with
    | [], _, hsz, h0, h3, h4 => simp [hsz, h0, h3, h4]
    | [c], _, hsz, h0, h3, h4 => simp [hsz, h0, h3, h4, lead0]
    | c :: b :: r, hi6, hsz, h0, h3, h4 =>
      simp only [List.length_cons] at hi6
      have h1 : (1 : Int) < (r.length : Int) + 1 + 1 := by omega
      have hne : ((r.length : Int) + 1 + 1 == 0) = false := by rw [beq_eq_false_iff_ne]; omega
      have h6 : r.length + 1 + 1 ≤ 6 := by omega
      cases hc : c == 48 with
      | true => simp [hsz, h0, h3, h4, lead0, h1, hne, hc, h6]
      | false => simp [hsz, h0, h3, h4, lead0, h1, hne, hc, h6]
end Go.Qz

/- What reading a line comes to. -/
namespace Go.Qz
open Go.Proofs

theorem next_ev (t : List UInt8) (ht : t.length ≤ 1048576) : C fn_i_lineReader_next [.ptr 5000 0] [(5000, [.ro (T t)])] = (match brk 10 t with
    | some p => some (.tup [.ro (T p.1), .ro (.bool true)], [(5000, [.ro (T p.2)])])
    | none => some (.tup [.ro (T []), .ro (.bool false)], [(5000, [.ro (T t)])])) := by
  have h := cut_str t [10] (by omega)
  rw [cut_brk] at h
  cases hb : brk 10 t with
  | none =>
    rw [hb] at h
    refine ctx_call Tryd.func78 conv_i_lineReader_next rfl ?_
    simp at h
    simp [h]
  | some p =>
    rw [hb] at h
    refine ctx_call Tryd.func78 conv_i_lineReader_next rfl ?_
    simp at h
    simp [h]
end Go.Qz

/- What reading a hunk comes to, in the program. -/
namespace Go.Qz
open Go.Proofs

def readN : Nat → List UInt8 → Option (Lines × List UInt8)
  | 0, t => some ([], t)
  | n + 1, t => match brk 10 t with
    | none => none
    | some p => match readN n p.2 with
      | none => none
      | some q => some (p.1 :: q.1, q.2)
def wordsR (ws : Lines) : Option (Nat × Nat) := match ws with
  | [a, b, c] => if a == [64] then (if (numI b 999).2 && (numI c 30).2 then some ((numI b 999).1, (numI c 30).1) else none) else none
  | _ => none
def headR (t : List UInt8) : Option (Nat × Nat × List UInt8) := match brk 10 t with
  | none => none
  | some p => match wordsR (cutP 32 3 [] p.1) with
    | none => none
    | some q => some (q.1, q.2, p.2)
def hunkR (t : List UInt8) : Option (Hk × List UInt8) := match headR t with
  | none => none
  | some q => match readN q.2.1 q.2.2 with
    | none => none
    | some p => some (((q.1 : Int), p.1), p.2)

theorem brk_len {b : UInt8} {d n r : List UInt8} (h : brk b d = some (n, r)) : d.length = n.length + 1 + r.length := by
  rw [brk_app h]; simp; omega

theorem cutP_len (b : UInt8) : ∀ (k : Nat) (s pre : List UInt8), ∀ x ∈ cutP b k pre s, x.length ≤ pre.length + s.length
  | _, [], pre, x, h => by rw [cutP] at h; simp at h; subst h; simp
  | 0, c :: r, pre, x, h => by rw [cutP] at h; simp at h; subst h; simp
  | k + 1, c :: r, pre, x, h => by
    rw [cutP] at h
    split at h
    · rcases List.mem_cons.1 h with rfl | h
      · simp
      · have := cutP_len b k r [] x h; simp at this ⊢; omega
    · have := cutP_len b (k + 1) r _ x h; simp at this ⊢; omega

theorem hunk_none (t : List UInt8) (ht : t.length ≤ 1048576) (h : headR t = none) : ∃ t', C fn_i_hunkReader_hunk [.ptr 5000 0] [(5000, [.ro (T t)])] = some (.tup [.own (HD (0, [])), .ro (.bool false)], [(5000, [.ro (T t')])]) := by
  unfold headR at h
  have hn := next_ev t ht
  cases hb : brk 10 t with
  | none =>
    rw [hb] at hn
    have hs := splitN_ev [] 32 (by simp)
    rw [show SS (cutP 32 3 [] []) = .sl 1 [T []] from rfl] at hs
    refine ⟨t, ctx_call Tryd.func51 conv_i_hunkReader_hunk rfl ?_⟩
    simp only at hn
    simp [hn, hs]
  | some p =>
    obtain ⟨hd, r⟩ := p
    have hbl := brk_len hb
    rw [hb] at hn h
    simp only at hn h
    have hs := splitN_ev hd 32 (by omega)
    refine ⟨r, ctx_call Tryd.func51 conv_i_hunkReader_hunk rfl ?_⟩
    match hws : cutP 32 3 [] hd with
    | [] =>
      rw [hws] at hs
      rw [show SS [] = .sl 1 [] from rfl] at hs
      simp [hn, hs]
    | [a] =>
      rw [hws] at hs
      rw [show SS [a] = .sl 1 [T a] from rfl] at hs
      simp [hn, hs]
    | [a, b] =>
      rw [hws] at hs
      rw [show SS [a, b] = .sl 1 [T a, T b] from rfl] at hs
      simp [hn, hs]
    | a :: b :: c :: d :: ws =>
      rw [hws] at hs
      rw [show SS (a :: b :: c :: d :: ws) = .sl 1 (T a :: T b :: T c :: T d :: ws.map T) from rfl] at hs
      have h3 : ((ws.length : Int) + 1 + 1 + 1 + 1 == 3) = false := by rw [beq_eq_false_iff_ne]; omega
      have h3' : ¬ ((ws.length : Int) + 1 + 1 + 1 + 1 = 3) := by omega
      simp [hn, hs, h3, h3']
    | [a, b, c] =>
      rw [hws] at hs h
      rw [show SS [a, b, c] = .sl 1 [T a, T b, T c] from rfl] at hs
      simp only [wordsR] at h
      have hwl : ∀ z ∈ [a, b, c], z.length ≤ 1048576 := fun z hz => by
        have := cutP_len 32 3 hd [] z (by rw [hws]; exact hz)
        simp at this
        omega
      have hn1 := number_ev b 999 999 rfl (hwl _ (by simp)) (by omega)
      have hn2 := number_ev c 30 30 rfl (hwl _ (by simp)) (by omega)
      cases ha : a == [64] with
      | false => simp [hn, hs, ha]
      | true =>
        rw [ha] at h
        simp only [if_true] at h
        generalize numI b 999 = v1 at *
        generalize numI c 30 = v2 at *
        obtain ⟨x, ok1⟩ := v1
        obtain ⟨y, ok2⟩ := v2
        simp only at hn1 hn2 h
        cases ok1 <;> cases ok2 <;> simp at h <;> simp [hn, hs, ha, hn1, hn2]

theorem numI_le {l : List UInt8} {m : Nat} (h : (numI l m).2 = true) : (numI l m).1 ≤ m := by
  unfold numI at h ⊢
  split
  · simp
  · rename_i hc
    rw [if_neg hc] at h
    split
    · rename_i n hn
      rw [hn] at h
      simp only at h
      split
      · simp
      · omega
    · simp

theorem headR_some {t : List UInt8} {x y : Nat} {r : List UInt8} (h : headR t = some (x, y, r)) : ∃ hd a b c, brk 10 t = some (hd, r) ∧ cutP 32 3 [] hd = [a, b, c] ∧ a = [64] ∧ numI b 999 = (x, true) ∧ numI c 30 = (y, true) := by
  unfold headR at h
  split at h
  · cases h
  · rename_i p hb
    obtain ⟨hd, r'⟩ := p
    split at h
    · cases h
    · rename_i q hq
      cases h
      unfold wordsR at hq
      split at hq
      · rename_i a b c hws
        split at hq
        · rename_i ha
          split at hq
          · rename_i hok
            cases hq
            simp only [Bool.and_eq_true] at hok
            refine ⟨hd, a, b, c, hb, hws, by simpa using ha, ?_, ?_⟩
            · rw [← hok.1]
            · rw [← hok.2]
          · cases hq
        · cases hq
      · cases hq

def restN : Nat → List UInt8 → List UInt8
  | 0, t => t
  | n + 1, t => match brk 10 t with
    | none => t
    | some p => restN n p.2
/-- What a hunk's reading hands back. -/
def hunkV (x : Nat) (acc : Lines) (o : Option (Lines × List UInt8)) (rest : List UInt8) : V × Boxes := match o with
  | some p => (.tup [.own (HD ((x : Int), acc ++ p.1)), .ro (.bool true)], [(5000, [.ro (T p.2)])])
  | none => (.tup [.own (HD (0, [])), .ro (.bool false)], [(5000, [.ro (T rest)])])

theorem hunk_some (t : List UInt8) (ht : t.length ≤ 1048576) (x y : Nat) (r : List UInt8) (h : headR t = some (x, y, r)) :
    C fn_i_hunkReader_hunk [.ptr 5000 0] [(5000, [.ro (T t)])] = some (hunkV x [] (readN y r) (restN y r)) := by
  obtain ⟨hd, a, b, c, hb, hws, rfl, e1, e2⟩ := headR_some h
  have hbl := brk_len hb
  have hn := next_ev t ht
  rw [hb] at hn
  simp only at hn
  have hs := splitN_ev hd 32 (by omega)
  rw [hws] at hs
  rw [show SS [[64], b, c] = .sl 1 [T [64], T b, T c] from rfl] at hs
  have hwl : ∀ z ∈ [[64], b, c], z.length ≤ 1048576 := fun z hz => by
    have := cutP_len 32 3 hd [] z (by rw [hws]; exact hz)
    simp at this
    omega
  have hn1 := number_ev b 999 999 rfl (hwl _ (by simp)) (by omega)
  have hn2 := number_ev c 30 30 rfl (hwl _ (by simp)) (by omega)
  have hy : y ≤ 30 := by
    have := numI_le (l := c) (m := 30) (by rw [e2])
    rw [e2] at this
    exact this
  rw [e1] at hn1
  rw [e2] at hn2
  simp only at hn1 hn2
  refine ctx_call Tryd.func51 conv_i_hunkReader_hunk rfl ?_
  simp [hn, hs, hn1, hn2]
  refine loop_run (fun m e => ∃ (i : Nat) (acc : Lines) (u : List UInt8), m + i = y ∧ acc.length = i ∧ u.length ≤ 1048576 ∧ e.size = 77 ∧ e.get 0 = .one (.ptr 5000 0) ∧ e.get 2 = .one (.ptr 2 0) ∧ e.get 11 = .one (.ptr 11 0) ∧ e.get 56 = .one (.ro (N y)) ∧ e.get 57 = .one (.ro (N i)) ∧
      e.box 5000 = some [.ro (T u)] ∧ e.box 2 = some [.ro (.int .i64 0), .own (.sl 1 [])] ∧ e.box 11 = some [.ro (N x), .own (SS acc)] ∧ hunkV x acc (readN m u) (restN m u) = hunkV x [] (readN y r) (restN y r))
    ?_ y _ ⟨0, [], r, rfl, rfl, by omega, by simp, by simp, by simp, by simp, by simp, by simp, by simp, by simp, by simp, rfl⟩
  rintro m e ⟨i, acc, u, rfl, hac, hu, hsz, h0, h2, h11, h56, h57, b5, b2, b11, hr⟩ ih
  cases m with
  | zero =>
    rw [← hr]
    simp [hsz, h0, h2, h11, h56, h57, b5, b2, b11, hunkV, readN]
  | succ m =>
    have hlt : (i : Int) < (m : Int) + 1 + i := by omega
    have hnx := next_ev u hu
    have hwi : IntKind.i64.wrap ((i : Int) + 1) = ((i + 1 : Nat) : Int) := wrap64_succ (by omega)
    have ha : acc.length + 1 ≤ appendMax := by simp [appendMax]; omega
    cases hbu : brk 10 u with
    | none =>
      rw [hbu] at hnx
      simp only [readN, restN, hbu] at hr
      rw [← hr]
      simp only at hnx
      simp [hsz, h0, h2, h11, h56, h57, b5, b2, b11, hlt, hnx, hunkV]
      | some p =>
      obtain ⟨z, u'⟩ := p
      have hul := brk_len hbu
      rw [hbu] at hnx
      simp only [readN, restN, hbu] at hr
      simp only at hnx
      simp [hsz, h0, h2, h11, h56, h57, b5, b2, b11, hlt, hnx, hwi, ha]
      refine ih m _ (by omega) ⟨i + 1, acc ++ [z], u', by omega, by simp [hac], by omega, by simp [hsz], by simp [h0], by simp [h2], by simp [h11], ?_, by simp, by simp, by simp [b2], by simp, ?_⟩
      · simp [h56]; try omega
      · rw [← hr]
        cases readN m u' with
        | none => rfl
        | some q => simp [hunkV]
end Go.Qz

/- What reading hunks comes to, in the program. -/
namespace Go.Qz
open Go.Proofs

theorem readN_len : ∀ (n : Nat) (t : List UInt8) (p : Lines × List UInt8), readN n t = some p → p.2.length ≤ t.length ∧ p.1.length = n ∧ ∀ x ∈ p.1, x.length ≤ t.length
  | 0, t, p, h => by cases h; simp
  | n + 1, t, p, h => by
    unfold readN at h
    split at h
    · cases h
    · rename_i q hq
      have h1 := brk_len (n := q.1) (r := q.2) hq
      split at h
      · cases h
      · rename_i s hs
        cases h
        obtain ⟨a1, a2, a3⟩ := readN_len n q.2 s hs
        refine ⟨by simp only; omega, by simp [a2], fun x hx => ?_⟩
        rcases List.mem_cons.1 hx with rfl | hx
        · omega
        · have := a3 x hx; omega
theorem hunkR_parts {t : List UInt8} {p : Hk × List UInt8} (h : hunkR t = some p) : p.2.length < t.length ∧ p.1.2.length ≤ 30 ∧ ∀ x ∈ p.1.2, x.length ≤ t.length := by
  unfold hunkR at h
  split at h
  · cases h
  · rename_i q hq
    obtain ⟨x, y, r⟩ := q
    split at h
    · cases h
    · rename_i s hs
      cases h
      obtain ⟨hd, a, b, c, hb, hws, ha, e1, e2⟩ := headR_some hq
      have h1 := brk_len hb
      obtain ⟨a1, a2, a3⟩ := readN_len _ _ _ hs
      have hy : y ≤ 30 := by
        have := numI_le (l := c) (m := 30) (by rw [e2])
        rw [e2] at this
        exact this
      refine ⟨by simp only at a1 ⊢; omega, by simp only at a2 ⊢; omega, fun z hz => ?_⟩
      have := a3 z hz
      simp only at this
      omega

def getI (acc : List Hk) (t : List UInt8) : Option (List Hk) := if t = [] then some acc else match h : hunkR t with
  | none => none
  | some p => if acc.length = 4 then none else getI (acc ++ [p.1]) p.2
termination_by t.length
decreasing_by exact (hunkR_parts h).1
theorem getI_nil (acc : List Hk) : getI acc [] = some acc := by rw [getI, if_pos rfl]
theorem getI_none {acc : List Hk} {t : List UInt8} (ht : t ≠ []) (h : hunkR t = none) : getI acc t = none := by
  rw [getI, if_neg ht]
  split
  · rfl
  · rename_i p hp; rw [h] at hp; cases hp
theorem getI_some {acc : List Hk} {t : List UInt8} {p : Hk × List UInt8} (ht : t ≠ []) (h : hunkR t = some p) : getI acc t = if acc.length = 4 then none else getI (acc ++ [p.1]) p.2 := by
  rw [getI, if_neg ht]
  split
  · rename_i hp; rw [h] at hp; cases hp
  · rename_i q hp; rw [h] at hp; cases hp; rfl

/-- A hunk's reading, whatever comes. -/
theorem hunk_ev (t : List UInt8) (ht : t.length ≤ 1048576) : ∃ t', C fn_i_hunkReader_hunk [.ptr 5000 0] [(5000, [.ro (T t)])] = some (match hunkR t with
    | some p => (.tup [.own (HD p.1), .ro (.bool true)], [(5000, [.ro (T p.2)])])
    | none => (.tup [.own (HD (0, [])), .ro (.bool false)], [(5000, [.ro (T t')])])) := by
  unfold hunkR
  cases hh : headR t with
  | none =>
    obtain ⟨t', h⟩ := hunk_none t ht hh
    exact ⟨t', h⟩
  | some q =>
    obtain ⟨x, y, r⟩ := q
    refine ⟨restN y r, ?_⟩
    rw [hunk_some t ht x y r hh]
    unfold hunkV
    cases hrd : readN y r with
    | none => simp [hrd]
    | some p => simp [hrd]

def okI (o : Option (List Hk)) : List Hk × Bool := match o with
  | some hs => if hunksOkI hs then (hs, true) else ([], false)
  | none => ([], false)

theorem HunksGetI_ev (t : List UInt8) (ht : t.length ≤ 1048576) : C fn_i_HunksGet [.ro (T t)] [] = some (.tup [.own (HS (okI (getI [] t)).1), .ro (.bool (okI (getI [] t)).2)], []) := by
  refine ctx_call Tryd.func21 conv_i_HunksGet rfl ?_
  simp
  refine loop_run (fun m e => ∃ (acc : List Hk) (u : List UInt8), m = u.length ∧ u.length ≤ t.length ∧ acc.length ≤ 4 ∧ (∀ h ∈ acc, h.2.length ≤ 30) ∧ e.size = 34 ∧ e.get 4 = .one (.ptr 4 0) ∧ e.get 5 = .one (.own (HS acc)) ∧ e.box 4 = some [.ro (T u)] ∧ getI acc u = getI [] t)
    ?_ t.length _ ⟨[], t, rfl, Nat.le_refl _, by simp, by simp, by simp, by simp, by simp, by simp, rfl⟩
  rintro m e ⟨acc, u, rfl, hu, hacc, hl, hsz, h4, h5, b4, hr⟩ ih
  by_cases hnil : u = []
  · subst hnil
    rw [getI_nil] at hr
    rw [← hr]
    have hok := HunksOkI_ev acc (fun h hh => by have := hl h hh; omega)
    simp only [okI]
    cases hb : hunksOkI acc with
    | true =>
      rw [hb] at hok
      simp [hsz, h4, h5, b4, hok]
    | false =>
      rw [hb] at hok
      simp [hsz, h4, h5, b4, hok]
  · obtain ⟨t', hh⟩ := hunk_ev u (by omega)
    cases hq : hunkR u with
    | none =>
      rw [hq] at hh
      simp only at hh
      rw [getI_none hnil hq] at hr
      rw [← hr]
      simp only [okI]
      simp [hsz, h4, h5, b4, hnil, hh]
    | some p =>
      obtain ⟨p1, p2, p3⟩ := hunkR_parts hq
      rw [hq] at hh
      simp only at hh
      rw [getI_some hnil hq] at hr
      obtain ⟨⟨x, ls⟩, u'⟩ := p
      simp only at hh p1 p2
      have ha : acc.length + 1 ≤ appendMax := by simp [appendMax]; omega
      by_cases h4l : acc.length = 4
      · rw [if_pos h4l] at hr
        rw [← hr]
        simp only [okI]
        simp [hsz, h4, h5, b4, hnil, hh, h4l]
      · rw [if_neg h4l] at hr
        have hne : ((acc.length : Int) == 4) = false := by rw [beq_eq_false_iff_ne]; omega
        simp [hsz, h4, h5, b4, hnil, hh, h4l, hne, ha]
        exact ih _ _ p1 ⟨acc ++ [(x, ls)], u', rfl, by omega, by simp; omega, by
          intro h hh
          rcases List.mem_append.1 hh with h1 | h1
          · exact hl h h1
          · simp at h1; subst h1; exact p2, by simp [hsz], by simp [h4], by simp, by simp, hr⟩
end Go.Qz

/- What the functions come to: numbers in decimal, hunks as text. -/
namespace Go.Qz
open Go.Proofs

theorem dec_small (n : Nat) (h : n < 10) : Lib.decDigits n = [UInt8.ofNat (48 + n)] := by rw [Lib.decDigits, dif_pos h]
theorem dec_great (n : Nat) (h : 10 ≤ n) : Lib.decDigits n = Lib.decDigits (n / 10) ++ [UInt8.ofNat (48 + n % 10)] := by rw [Lib.decDigits, dif_neg (by omega)]
theorem dec_len : ∀ n : Nat, (Lib.decDigits n).length ≤ n + 1 := by
  intro n
  induction n using Nat.strongRecOn with
  | _ n ih =>
    rcases Nat.lt_or_ge n 10 with h | h
    · rw [dec_small n h]; simp
    · rw [dec_great n h, List.length_append]
      have := ih (n / 10) (by omega)
      simp only [List.length_singleton]
      omega
theorem dec_short : ∀ (k n : Nat), n < 10 ^ (k + 1) → (Lib.decDigits n).length ≤ k + 1
  | 0, n, h => by rw [dec_small n (by simpa using h)]; simp
  | k + 1, n, h => by
    rcases Nat.lt_or_ge n 10 with h1 | h1
    · rw [dec_small n h1]; simp
    · rw [dec_great n h1, List.length_append]
      have := dec_short k (n / 10) (by rw [Nat.pow_succ] at h; omega)
      simp only [List.length_singleton]
      omega

theorem l1Dec_ev : ∀ n : Nat, n ≤ 1099511627776 → C fn_s_l1Dec [.ro (N n)] [] = some (.one (.ro (T (Lib.decDigits n))), []) := by
  intro n
  induction n using Nat.strongRecOn with
  | _ n ih =>
    intro hn
    refine ctx_call Tryd.func57 conv_s_l1Dec rfl ?_
    have n1 : ¬ ((n : Int) < -9223372036854775807) := by omega
    have n2 : ¬ ((n : Int) < 0) := by omega
    rcases Nat.lt_or_ge n 10 with h | h
    · have hw1 : IntKind.i64.wrap (48 + (n : Int)) = ((48 + n : Nat) : Int) := by rw [wrap64 (by omega) (by omega)]; omega
      have hw3 : IntKind.u8.wrap ((48 + n : Nat) : Int) = ((48 + n : Nat) : Int) := by
        show ((48 + n : Nat) : Int) % 256 = _
        omega
      rw [dec_small n h]
      generalize hz : 48 + n = z at *
      simp [n1, n2, h, hw1, hw3]
    · have h3 : ¬ n < 10 := by omega
      have hr1 : ((n : Int)).tmod 10 = ((n % 10 : Nat) : Int) := by rw [Int.ofNat_tmod]; rfl
      have hq1 : ((n : Int)).tdiv 10 = ((n / 10 : Nat) : Int) := by rw [Int.ofNat_tdiv]; rfl
      have hi := ih (n / 10) (by omega) (by omega)
      have hl := dec_len (n / 10)
      rw [dec_great n h]
      have hrl : n % 10 < 10 := Nat.mod_lt _ (by omega)
      have hql : n / 10 < n := by omega
      generalize n % 10 = r at *
      generalize n / 10 = q at *
      have hw1 : IntKind.i64.wrap (48 + (r : Int)) = ((48 + r : Nat) : Int) := by rw [wrap64 (by omega) (by omega)]; omega
      have hw2 : IntKind.i64.wrap (q : Int) = (q : Int) := wrap64 (by omega) (by omega)
      have hw3 : IntKind.u8.wrap ((48 + r : Nat) : Int) = ((48 + r : Nat) : Int) := by
        show ((48 + r : Nat) : Int) % 256 = _
        omega
      have hms : (Lib.decDigits q).length + 1 ≤ maxStr := by simp [maxStr]; omega
      generalize 48 + r = z at *
      simp [n1, n2, h3, hr1, hq1, hw1, hw2, hw3, hi, hms]

def putLines : Lines → List UInt8
  | [] => []
  | x :: r => x ++ [10] ++ putLines r
def putHk (h : Hk) : List UInt8 := [64, 32] ++ Lib.decDigits h.1.toNat ++ [32] ++ Lib.decDigits h.2.length ++ [10] ++ putLines h.2
def putHs : List Hk → List UInt8
  | [] => []
  | h :: r => putHk h ++ putHs r

theorem putLines_len (xs : Lines) (b : Nat) (hx : ∀ x ∈ xs, x.length ≤ b) : (putLines xs).length ≤ xs.length * (b + 1) := by
  induction xs with
  | nil => simp [putLines]
  | cons x r ih =>
    have h1 := hx x List.mem_cons_self
    have h2 := ih (fun y hy => hx y (List.mem_cons_of_mem _ hy))
    simp only [putLines, List.length_append, List.length_cons, List.length_nil, Nat.add_mul, Nat.one_mul]
    omega
end Go.Qz

/- What the functions come to: hunks as text. -/
namespace Go.Qz
open Go.Proofs

theorem l1DecI_ev (a : Int) (h0 : 0 ≤ a) (h1 : a ≤ 1099511627776) : C fn_s_l1Dec [.ro (.int .i64 a)] [] = some (.one (.ro (T (Lib.decDigits a.toNat))), []) := by
  obtain ⟨n, rfl⟩ := Int.eq_ofNat_of_zero_le h0
  exact l1Dec_ev n (by omega)

/-- Hunks whose numbers are small. -/
def fewHs (hs : List Hk) : Prop := hs.length ≤ 1000 ∧ ∀ h ∈ hs, 0 ≤ h.1 ∧ h.1 ≤ 1000000 ∧ h.2.length ≤ 1000000

theorem l5Put_ev (hs : List Hk) (hf : fewHs hs) (hB : (putHs hs).length ≤ 1099511627776) : C fn_s_l5Put [.ro (HS hs)] [] = some (.one (.ro (T (putHs hs))), []) := by
  refine ctx_call Tryd.func26 conv_s_l5Put rfl ?_
  simp
  have hN := hf.1
  refine loop_run (fun m e => ∃ i l, m = hs.length - i ∧ i ≤ hs.length ∧ e.size = 53 ∧ e.get 0 = .one (.ro (HS hs)) ∧ e.get 3 = .one (.ro (T l)) ∧ e.get 4 = .one (.ro (N i)) ∧ l ++ putHs (hs.drop i) = putHs hs)
    ?_ hs.length _ ⟨0, [], rfl, Nat.zero_le _, by simp, by simp, by simp, by simp, rfl⟩
  rintro m e ⟨i, l, rfl, hi, hsz, h0, h3, h4, hr⟩ ih
  rcases Nat.lt_or_ge i hs.length with hlt | hge
  · have hwi : IntKind.i64.wrap ((i : Int) + 1) = ((i + 1 : Nat) : Int) := wrap64_succ (by omega)
    have hd : hs.drop i = hs[i] :: hs.drop (i + 1) := List.drop_eq_getElem_cons hlt
    obtain ⟨f1, f2, f3⟩ := hf.2 _ (List.getElem_mem hlt)
    rw [hd, putHs] at hr
    have hlen := congrArg List.length hr
    simp only [List.length_append] at hlen
    have e1 := l1DecI_ev hs[i].1 f1 (by omega)
    have e2 := l1Dec_ev hs[i].2.length (by omega)
    have hp : (putHk hs[i]).length = 2 + (Lib.decDigits hs[i].1.toNat).length + 1 + (Lib.decDigits hs[i].2.length).length + 1 + (putLines hs[i].2).length := by
      simp only [putHk, List.length_append, List.length_cons, List.length_nil]
    have hpk : putHk hs[i] = ([64, 32] ++ Lib.decDigits hs[i].1.toNat ++ [32] ++ Lib.decDigits hs[i].2.length ++ [10]) ++ putLines hs[i].2 := rfl
    rw [hpk] at hr
    generalize Lib.decDigits hs[i].1.toNat = d1 at *
    generalize Lib.decDigits hs[i].2.length = d2 at *
    have m1 : l.length + 2 ≤ maxStr := by simp only [maxStr]; omega
    have m2 : l.length + (1 + 1) + d1.length ≤ maxStr := by simp only [maxStr]; omega
    have m3 : l.length + (d1.length + 1 + 1) + 1 ≤ maxStr := by simp only [maxStr]; omega
    have m4 : l.length + (d1.length + 1 + 1 + 1) + d2.length ≤ maxStr := by simp only [maxStr]; omega
    have m5 : l.length + (d1.length + (d2.length + 1) + 1 + 1) + 1 ≤ maxStr := by simp only [maxStr]; omega
    simp [hsz, h0, h3, h4, hlt, e1, e2, m1, m2, m3, m4, m5]
    refine loop_run (fun m e => ∃ k l', m = hs[i].2.length - k ∧ k ≤ hs[i].2.length ∧ e.size = 53 ∧ e.get 0 = .one (.ro (HS hs)) ∧ e.get 3 = .one (.ro (T l')) ∧ e.get 4 = .one (.ro (N i)) ∧ e.get 5 = .one (.ro (N k)) ∧ l' ++ (putLines (hs[i].2.drop k) ++ putHs (hs.drop (i + 1))) = putHs hs)
      ?_ hs[i].2.length _ ⟨0, l ++ 64 :: 32 :: (d1 ++ 32 :: (d2 ++ [10])), rfl, Nat.zero_le _, by simp [hsz], by simp [h0], by simp, by simp [h4], by simp, by rw [← hr]; simp⟩
    clear hr hlen hp hpk h0 h3 h4
    rintro m e' ⟨k, l', rfl, hk, hsz', h0, h3, h4, h5, hr⟩ ih2
    rcases Nat.lt_or_ge k hs[i].2.length with hlt2 | hge2
    · have hwk : IntKind.i64.wrap ((k : Int) + 1) = ((k + 1 : Nat) : Int) := wrap64_succ (by omega)
      have hd2 : hs[i].2.drop k = hs[i].2[k] :: hs[i].2.drop (k + 1) := List.drop_eq_getElem_cons hlt2
      rw [hd2, putLines] at hr
      have hlen := congrArg List.length hr
      simp only [List.length_append, List.length_cons, List.length_nil] at hlen
      have m6 : l'.length + hs[i].2[k].length ≤ maxStr := by simp only [maxStr]; omega
      have m7 : l'.length + hs[i].2[k].length + 1 ≤ maxStr := by simp only [maxStr]; omega
      simp [hsz', h0, h3, h4, h5, hlt, hlt2, hwk, m6, m7]
      exact ih2 _ _ (by omega) ⟨k + 1, l' ++ (hs[i].2[k] ++ [10]), rfl, by omega, by simp [hsz'], by simp [h0], by simp, by simp [h4], by simp, by rw [← hr]; simp⟩
    · obtain rfl : k = hs[i].2.length := by omega
      rw [List.drop_length] at hr
      simp [putLines] at hr
      simp [hsz', h0, h3, h4, h5, hlt, hwi]
      exact ih _ _ (by omega) ⟨i + 1, l', rfl, by omega, by simp [hsz'], by simp [h0], by simp [h3], by simp, hr⟩
  · obtain rfl : i = hs.length := by omega
    rw [List.drop_length] at hr
    simp [putHs] at hr
    simp [hsz, h0, h3, h4, hr]
end Go.Qz

/- What the functions come to: the law of HunksPut. -/
namespace Go.Qz
open Go.Proofs

theorem goS_all : ∀ (hs : List Hk) (p : Option Hk), goS p hs = true → ∀ h ∈ hs, hunkS h = true
  | [], _, _, h, hh => by cases hh
  | a :: r, p, hg, h, hh => by
    cases p with
    | none =>
      rw [goS, Bool.and_eq_true] at hg
      cases hh with
      | head => exact hg.1
      | tail _ hh => exact goS_all r _ hg.2 h hh
    | some q =>
      rw [goS] at hg
      simp only [Bool.and_eq_true] at hg
      cases hh with
      | head => simp_all
      | tail _ hh => exact goS_all r (some a) (by simp_all) h hh

theorem putHs_len (hs : List Hk) (b : Nat) (hb : ∀ h ∈ hs, (putHk h).length ≤ b) : (putHs hs).length ≤ hs.length * b := by
  induction hs with
  | nil => simp [putHs]
  | cons h r ih =>
    have h1 := hb h List.mem_cons_self
    have h2 := ih (fun y hy => hb y (List.mem_cons_of_mem _ hy))
    simp only [putHs, List.length_append, List.length_cons, Nat.add_mul, Nat.one_mul]
    omega

theorem few_of_ok (hs : List Hk) (hok : hunksOkS hs = true) (hx : ∀ h ∈ hs, ∀ x ∈ h.2, x.length ≤ 1048576) : fewHs hs ∧ (putHs hs).length ≤ 1073741824 := by
  unfold hunksOkS at hok
  simp only [Bool.and_eq_true, decide_eq_true_eq] at hok
  have hall := goS_all hs none (by simp_all)
  have hlen : hs.length ≤ 4 := by simp_all
  refine ⟨⟨by omega, fun h hh => ?_⟩, ?_⟩
  · obtain ⟨_, _, q3, q4, q5⟩ := hunkS_parts (hall h hh)
    exact ⟨by omega, by omega, by omega⟩
  · have hb : ∀ h ∈ hs, (putHk h).length ≤ 40000000 := by
      intro h hh
      obtain ⟨_, _, q3, q4, q5⟩ := hunkS_parts (hall h hh)
      have h1 := dec_len h.1.toNat
      have h2 := dec_len h.2.length
      have h3 := putLines_len h.2 1048576 (hx h hh)
      have h4 : h.2.length * (1048576 + 1) ≤ 30 * (1048576 + 1) := Nat.mul_le_mul_right _ q3
      simp only [putHk, List.length_append, List.length_cons, List.length_nil]
      omega
    have := putHs_len hs 40000000 hb
    have h5 : hs.length * 40000000 ≤ 4 * 40000000 := Nat.mul_le_mul_right _ hlen
    omega
end Go.Qz

/- What reading hunks comes to, in the reference. -/
namespace Go.Qz
open Go.Proofs

def wordsS (ws : Lines) (most : Int) : Option (Int × Nat) := match ws with
  | [a, b, c] => if a == [64] then (if decide (1 ≤ numS c) && decide (numS c ≤ most) then some (numS b, (numS c).toNat) else none) else none
  | _ => none
/-- Hunks of lines: those, and whether all was read. -/
def getS : Nat → List Hk → Lines → List Hk × Bool
  | 0, acc, _ => (acc, true)
  | k + 1, acc, L => match L with
    | l :: m :: r => if 4 < acc.length then (acc, true) else match wordsS (cutP 32 2 [] l) (r.length : Int) with
      | none => (acc, false)
      | some q => getS k (acc ++ [(q.1, (m :: r).take q.2)]) ((m :: r).drop q.2)
    | _ => (acc, true)

theorem numS_le (l : List UInt8) : -1 ≤ numS l ∧ numS l ≤ 999999 := by
  have hb : ∀ (l : List UInt8) (n m k : Nat), goN n l = some m → n < 10 ^ k → m < 10 ^ (k + l.length) := by
    intro l
    induction l with
    | nil => intro n m k h hn; cases h; simpa using hn
    | cons c r ih =>
      intro n m k h hn
      unfold goN at h
      split at h
      · rename_i hf
        obtain ⟨_, _, _, g4⟩ := fig_sub hf
        have hp2 : 10 ^ (k + 1) = 10 ^ k * 10 := Nat.pow_succ _ _
        have := ih _ m (k + 1) h (by omega)
        rw [List.length_cons, show k + (r.length + 1) = k + 1 + r.length by omega]
        exact this
      · cases h
  unfold numS
  split
  · rename_i n hn
    split
    · rename_i hc
      simp only [Bool.and_eq_true, decide_eq_true_eq] at hc
      have h1 := hb l 0 n 0 hn (by simp)
      have h2 : 10 ^ (0 + l.length) ≤ 10 ^ 6 := Nat.pow_le_pow_right (by omega) (by omega)
      omega
    · omega
  · omega

theorem cutP_count (b : UInt8) : ∀ (k : Nat) (s pre : List UInt8), (cutP b k pre s).length ≤ s.length + 1
  | _, [], pre => by rw [cutP]; simp
  | 0, c :: r, pre => by rw [cutP]; simp
  | k + 1, c :: r, pre => by
    rw [cutP]
    split
    · have := cutP_count b k r []; simp; omega
    · have := cutP_count b (k + 1) r (pre ++ [c]); simp; omega

set_option maxHeartbeats 2000000 in
set_option maxRecDepth 4000 in
theorem l5Get_ev (t : List UInt8) (ht : t.length ≤ 1048576) : ∃ b, C fn_s_l5Get [.ro (T t)] [] = some (.tup [.own (HS (getS (t.length + 2) [] (cutP 10 (t.length + 1) [] t)).1), .ro (.bool b)], []) ∧
    b = ((getS (t.length + 2) [] (cutP 10 (t.length + 1) [] t)).2 && (hunksOkS (getS (t.length + 2) [] (cutP 10 (t.length + 1) [] t)).1 && (putHs (getS (t.length + 2) [] (cutP 10 (t.length + 1) [] t)).1 == t))) := by
  refine ⟨_, ?_, rfl⟩
  refine ctx_call Tryd.func50 conv_s_l5Get rfl ?_
  have hcut : C fn_s_l1Cut [.ro (T t), .ro (.int .u8 10), .ro (.int .i64 ((t.length : Int) + 1))] [] = some (.one (.own (SS (cutP 10 (t.length + 1) [] t))), []) := l1Cut_ev t 10 (t.length + 1) ((t.length : Int) + 1) (by omega) ht (by omega)
  have w1 : IntKind.i64.wrap ((t.length : Int) + 1) = (t.length : Int) + 1 := wrap64 (by omega) (by omega)
  have hxl := cutP_len 10 (t.length + 1) t []
  have hcl : (cutP 10 (t.length + 1) [] t).length ≤ t.length + 1 := cutP_count 10 _ t []
  generalize cutP 10 (t.length + 1) [] t = lines at *
  simp [hcut, w1]
  refine loop_run (fun m e => ∃ (acc : List Hk) (i k : Nat), m = lines.length - i ∧ i ≤ lines.length ∧ lines.length < i + k ∧ (∀ h ∈ acc, h.2.length ≤ 1048576 ∧ ∀ x ∈ h.2, x.length ≤ 1048576) ∧ acc.length ≤ 5 ∧ e.size = 84 ∧ e.get 0 = .one (.ro (T t)) ∧ e.get 4 = .one (.own (HS acc)) ∧ (e.get 5 = .one (.own (SS lines)) ∨ e.get 5 = .one (.ro (SS lines))) ∧ e.get 6 = .one (.ro (N i)) ∧
      getS k acc (lines.drop i) = getS (t.length + 2) [] lines)
    ?_ lines.length _ ⟨[], 0, t.length + 2, rfl, Nat.zero_le _, by omega, by simp, by simp, by simp, by simp, by simp, by simp, by simp, rfl⟩
  rintro m e ⟨acc, i, k, rfl, hi, hk, hacc, ha5, hsz, h0, h4, h5, h6, hr⟩ ih
  obtain ⟨k, rfl⟩ : ∃ k', k = k' + 1 := ⟨k - 1, by omega⟩
  have hw1 : IntKind.i64.wrap ((i : Int) + 1) = ((i + 1 : Nat) : Int) := wrap64_succ (by omega)
  have hS := HunksOkS_ev acc (by omega) (fun h hh => by have := (hacc h hh).1; omega) (fun h hh x hx => by have := (hacc h hh).2 x hx; omega)
  have hP : hunksOkS acc = true → C fn_s_l5Put [.ro (HS acc)] [] = some (.one (.ro (T (putHs acc))), []) := fun hok => by
    obtain ⟨f1, f2⟩ := few_of_ok acc hok (fun h hh => (hacc h hh).2)
    exact l5Put_ev acc f1 (by omega)
  rcases h5 with h5 | h5
  all_goals
    by_cases hlt : i + 1 < lines.length
    · have hlti : i < lines.length := by omega
      have hi1 : (i : Int) + 1 < lines.length := by omega
      have hd : lines.drop i = lines[i] :: lines[i + 1] :: lines.drop (i + 1 + 1) := by
        rw [List.drop_eq_getElem_cons hlti, List.drop_eq_getElem_cons hlt]
      rw [hd, getS] at hr
      by_cases h4l : 4 < acc.length
      · rw [if_pos h4l] at hr
        have h4' : ¬ (acc.length : Int) ≤ 4 := by omega
        rw [← hr]
        cases hok : hunksOkS acc with
        | false =>
          rw [hok] at hS
          simp [hsz, h0, h4, h5, h6, hi1, hw1, h4', hS, hok]
        | true =>
          rw [hok] at hS
          have hP := hP hok
          simp [hsz, h0, h4, h5, h6, hi1, hw1, h4', hS, hok, hP]
      · rw [if_neg h4l] at hr
        have h4' : (acc.length : Int) ≤ 4 := by omega
        have hll := hxl lines[i] (List.getElem_mem hlti)
        simp only [List.length_nil, Nat.zero_add] at hll
        have hws : C fn_s_l1Cut [.ro (T lines[i]), .ro (.int .u8 32), .ro (.int .i64 2)] [] = some (.one (.own (SS (cutP 32 2 [] lines[i]))), []) := l1Cut_ev lines[i] 32 2 2 rfl (by omega) (by omega)
        have hwl := cutP_len 32 2 lines[i] []
        obtain ⟨l, hl⟩ : ∃ l, lines[i] = l := ⟨_, rfl⟩
        rw [hl] at hr hws hwl hll
        match hcw : cutP 32 2 [] l with
        | [] =>
          rw [hcw] at hws hr
          rw [show SS [] = .sl 1 [] from rfl] at hws
          simp only [wordsS] at hr
          rw [← hr]
          simp [hsz, h0, h4, h5, h6, hi1, hw1, h4', hlti, hl, hws]
        | [a] =>
          rw [hcw] at hws hr
          rw [show SS [a] = .sl 1 [T a] from rfl] at hws
          simp only [wordsS] at hr
          rw [← hr]
          simp [hsz, h0, h4, h5, h6, hi1, hw1, h4', hlti, hl, hws]
        | [a, b] =>
          rw [hcw] at hws hr
          rw [show SS [a, b] = .sl 1 [T a, T b] from rfl] at hws
          simp only [wordsS] at hr
          rw [← hr]
          simp [hsz, h0, h4, h5, h6, hi1, hw1, h4', hlti, hl, hws]
        | a :: b :: c :: d :: ws =>
          rw [hcw] at hws hr
          rw [show SS (a :: b :: c :: d :: ws) = .sl 1 (T a :: T b :: T c :: T d :: ws.map T) from rfl] at hws
          simp only [wordsS] at hr
          rw [← hr]
          have h3 : ((ws.length : Int) + 1 + 1 + 1 + 1 == 3) = false := by rw [beq_eq_false_iff_ne]; omega
          have h3' : ¬ ((ws.length : Int) + 1 + 1 + 1 + 1 = 3) := by omega
          simp [hsz, h0, h4, h5, h6, hi1, hw1, h4', hlti, hl, hws, h3, h3']
        | [a, b, c] =>
          rw [hcw] at hws hr hwl
          rw [show SS [a, b, c] = .sl 1 [T a, T b, T c] from rfl] at hws
          simp only [wordsS] at hr
          simp only [List.length_nil, Nat.zero_add] at hwl
          have hN1 := l1Num_ev b (by have := hwl b (by simp); omega)
          have hN2 := l1Num_ev c (by have := hwl c (by simp); omega)
          cases ha : a == [64] with
          | false =>
            rw [ha] at hr
            simp only [Bool.false_eq_true, if_false] at hr
            rw [← hr]
            simp [hsz, h0, h4, h5, h6, hi1, hw1, h4', hlti, hl, hws, ha]
          | true =>
            rw [ha] at hr
            simp only [if_true] at hr
            have hrl : ((lines.drop (i + 1 + 1)).length : Int) = (lines.length : Int) - i - 2 := by rw [List.length_drop]; omega
            have hw2 : IntKind.i64.wrap ((lines.length : Int) - i) = (lines.length : Int) - i := wrap64 (by omega) (by omega)
            have hw3 : IntKind.i64.wrap ((lines.length : Int) - i - 2) = (lines.length : Int) - i - 2 := wrap64 (by omega) (by omega)
            have hin := l1In_ev (numS c) 1 ((lines.length : Int) - i - 2)
            rw [hrl] at hr
            cases hc : decide (1 ≤ numS c) && decide (numS c ≤ (lines.length : Int) - i - 2) with
            | false =>
              have hin' : inI (numS c) 1 ((lines.length : Int) - i - 2) = false := hc
              rw [hin'] at hin
              rw [hc] at hr
              simp only [Bool.false_eq_true, if_false] at hr
              rw [← hr]
              simp [hsz, h0, h4, h5, h6, hi1, hw1, h4', hlti, hl, hws, ha, hN2, hw2, hw3, hin]
            | true =>
              have hin' : inI (numS c) 1 ((lines.length : Int) - i - 2) = true := hc
              rw [hin'] at hin
              rw [hc] at hr
              simp only [if_true] at hr
              simp only [Bool.and_eq_true, decide_eq_true_eq] at hc
              obtain ⟨n, hn⟩ : ∃ n : Nat, numS c = n := ⟨(numS c).toNat, by omega⟩
              rw [hn] at hr hin hN2 hc
              simp only [Int.toNat_natCast] at hr
              have ham : acc.length + 1 ≤ appendMax := by simp [appendMax]; omega
              have hwn : IntKind.i64.wrap ((i : Int) + 1 + n) = ((i + 1 + n : Nat) : Int) := by rw [wrap64 (by omega) (by omega)]; omega
              have hin2 : i + 1 + n ≤ lines.length := by omega
              have hm2 : (lines[i + 1] :: lines.drop (i + 1 + 1)) = lines.drop (i + 1) := (List.drop_eq_getElem_cons hlt).symm
              rw [hm2] at hr
              have hsl : List.drop (i + 1) (List.take (i + 1 + n) lines) = (lines.drop (i + 1)).take n := by rw [List.drop_take]; congr 1; omega
              have hdd : List.drop n (lines.drop (i + 1)) = lines.drop (i + 1 + n) := by rw [List.drop_drop]
              rw [hdd] at hr
              have hal : (List.take n (lines.drop (i + 1))).length ≤ appendMax := by rw [List.length_take]; simp [appendMax]; omega
              have b1 : (i : Int) + 1 + n ≤ lines.length := by omega
              have b2 : (i : Int) + 1 ≤ (i : Int) + 1 + n := by omega
              have hmt : List.drop (i + 1) (List.take (i + 1 + n) (List.map T lines)) = List.take n (List.drop (i + 1) (List.map T lines)) := by
                rw [List.drop_take]; congr 1; omega
              have hfl : flats (List.drop (i + 1) (List.take (i + 1 + n) (List.map T lines))) = true := by
                rw [← List.map_take, ← List.map_drop]
                exact flats_T _
              have hna : n ≤ appendMax := by simp [appendMax]; omega
              have b3 : (0 : Int) ≤ (i : Int) + 1 + n := by omega
              have b4 : (0 : Int) ≤ (i : Int) + 1 := by omega
              have b5 : ((i : Int) + 1 + n).toNat = i + 1 + n := by omega
              simp [hsz, h0, h4, h5, h6, hi1, hw1, h4', hlti, hl, hws, ha, hN1, hN2, hw2, hw3, hin, ham, hwn, b1, b2, b3, b4, b5, hin2, hfl, hna, hal]
              refine ih _ _ (by omega) ⟨acc ++ [(numS b, List.take n (lines.drop (i + 1)))], i + 1 + n, k, rfl, hin2, by omega, ?_, by simp; omega, by simp [hsz], by simp [h0], by simp [hmt], .inr (by simp [h5]), by simp, hr⟩
              intro h hh
              rcases List.mem_append.1 hh with h1 | h1
              · exact hacc h h1
              · simp at h1
                subst h1
                refine ⟨by rw [List.length_take]; omega, fun x hx => ?_⟩
                have := hxl x (List.mem_of_mem_drop (List.mem_of_mem_take hx))
                simp at this
                omega
    · have hi1 : ¬ (i : Int) + 1 < lines.length := by omega
      have hend : getS (k + 1) acc (lines.drop i) = (acc, true) := by
        match hdr : lines.drop i with
        | [] => simp [getS]
        | [x] => simp [getS]
        | x :: y :: z =>
          have := congrArg List.length hdr
          simp at this
          omega
      rw [hend] at hr
      rw [← hr]
      cases hok : hunksOkS acc with
      | false =>
        rw [hok] at hS
        simp [hsz, h0, h4, h5, h6, hi1, hw1, hS, hok]
      | true =>
        rw [hok] at hS
        have hP := hP hok
        simp [hsz, h0, h4, h5, h6, hi1, hw1, hS, hok, hP]
end Go.Qz

/- Plain laws of hunks that are written and read. -/
namespace Go.Qz
open Go.Proofs

/-! ### Decimals -/
theorem goN_app (c : UInt8) : ∀ (l : List UInt8) (a : Nat), goN a (l ++ [c]) = (goN a l).bind fun m => if figB c then some (m * 10 + (c.toNat - 48)) else none
  | [], a => by simp only [List.nil_append, goN, Option.bind_some]
  | b :: l, a => by
    rw [List.cons_append, goN, goN]
    split
    · exact goN_app c l _
    · rfl
theorem goN_ge : ∀ (l : List UInt8) (a m : Nat), goN a l = some m → a ≤ m
  | [], a, m, h => by cases h; exact Nat.le_refl _
  | b :: l, a, m, h => by
    unfold goN at h
    split at h
    · have := goN_ge l _ m h; omega
    · cases h
theorem fig_of (d : Nat) (h : d < 10) : figB (UInt8.ofNat (48 + d)) = true ∧ (UInt8.ofNat (48 + d)).toNat = 48 + d := by
  have h1 : (UInt8.ofNat (48 + d)).toNat = 48 + d := by
    rw [UInt8.toNat_ofNat']
    omega
  refine ⟨?_, h1⟩
  unfold figB
  rw [h1]
  simp
  omega
theorem goN_dec (n : Nat) : goN 0 (Lib.decDigits n) = some n := by
  induction n using Nat.strongRecOn with
  | _ n ih =>
    rcases Nat.lt_or_ge n 10 with h | h
    · rw [dec_small n h, goN]
      obtain ⟨h1, h2⟩ := fig_of n h
      rw [if_pos h1, h2]
      simp [goN]
    · rw [dec_great n h, goN_app, ih (n / 10) (by omega)]
      obtain ⟨h1, h2⟩ := fig_of (n % 10) (Nat.mod_lt _ (by omega))
      simp only [Option.bind_some]
      rw [if_pos h1, h2]
      congr 1
      omega
theorem dec_head (n : Nat) (hn : 0 < n) : ∃ c r, Lib.decDigits n = c :: r ∧ (c == 48) = false := by
  induction n using Nat.strongRecOn with
  | _ n ih =>
    rcases Nat.lt_or_ge n 10 with h | h
    · refine ⟨_, [], dec_small n h, ?_⟩
      obtain ⟨h1, h2⟩ := fig_of n h
      rw [beq_eq_false_iff_ne]
      intro e
      rw [e] at h2
      simp at h2
      omega
    · obtain ⟨c, r, h1, h2⟩ := ih (n / 10) (by omega) (by omega)
      rw [dec_great n h, h1]
      exact ⟨c, r ++ [UInt8.ofNat (48 + n % 10)], rfl, h2⟩
theorem dec_lead (n : Nat) : lead0 (Lib.decDigits n) = false := by
  rcases Nat.lt_or_ge n 10 with h | h
  · rw [dec_small n h]; rfl
  · obtain ⟨c, r, h1, h2⟩ := dec_head n (by omega)
    rw [h1]
    cases r with
    | nil => rfl
    | cons b r => exact h2
theorem dec_ne (n : Nat) : Lib.decDigits n ≠ [] := by
  rcases Nat.lt_or_ge n 10 with h | h
  · rw [dec_small n h]; simp
  · rw [dec_great n h]; simp
theorem dec_fig (n : Nat) : ∀ b ∈ Lib.decDigits n, figB b = true := by
  induction n using Nat.strongRecOn with
  | _ n ih =>
    rcases Nat.lt_or_ge n 10 with h | h
    · rw [dec_small n h]
      intro b hb
      rw [List.mem_singleton] at hb
      subst hb
      exact (fig_of n h).1
    · rw [dec_great n h]
      intro b hb
      rcases List.mem_append.1 hb with h1 | h1
      · exact ih (n / 10) (by omega) b h1
      · rw [List.mem_singleton] at h1
        subst h1
        exact (fig_of (n % 10) (Nat.mod_lt _ (by omega))).1
theorem dec_three (n : Nat) (h : n ≤ 999) : (Lib.decDigits n).length ≤ 3 := dec_short 2 n (by omega)
theorem fig_back {c : UInt8} (h : figB c = true) : UInt8.ofNat (48 + (c.toNat - 48)) = c ∧ c.toNat - 48 < 10 := by
  unfold figB at h
  simp only [Bool.and_eq_true, decide_eq_true_eq] at h
  refine ⟨?_, by omega⟩
  rw [show 48 + (c.toNat - 48) = c.toNat by omega]
  exact UInt8.ofNat_toNat
theorem goN_all : ∀ (l : List UInt8) (a m : Nat), goN a l = some m → ∀ b ∈ l, figB b = true
  | [], _, _, _ => fun b hb => by simp at hb
  | c :: l, a, m, h => by
    unfold goN at h
    split at h
    · rename_i hc
      intro b hb
      rcases List.mem_cons.1 hb with rfl | hb
      · exact hc
      · exact goN_all l _ m h b hb
    · cases h
theorem dec_of : ∀ (k : Nat) (l : List UInt8) (n : Nat), l.length ≤ k → l ≠ [] → lead0 l = false → goN 0 l = some n → Lib.decDigits n = l := by
  intro k
  induction k with
  | zero =>
    intro l n hk hne
    exact absurd (List.length_eq_zero_iff.1 (by omega)) hne
  | succ k ih =>
    intro l n hk hne hld hg
    rcases List.eq_nil_or_concat l with rfl | ⟨l', c, rfl⟩
    · exact absurd rfl hne
    · have hc : figB c = true := goN_all _ 0 n hg c (by simp)
      obtain ⟨e1, e2⟩ := fig_back hc
      rw [List.concat_eq_append] at hg hld ⊢
      rw [goN_app] at hg
      cases l' with
      | nil =>
        simp only [goN, Option.bind_some, if_pos hc, Option.some.injEq] at hg
        simp only [List.nil_append]
        rw [← hg, dec_small _ (by omega)]
        rw [show 48 + (0 * 10 + (c.toNat - 48)) = 48 + (c.toNat - 48) by omega, e1]
      | cons x r =>
        cases hm : goN 0 (x :: r) with
        | none => rw [hm] at hg; cases hg
        | some m =>
          rw [hm] at hg
          simp only [Option.bind_some, if_pos hc, Option.some.injEq] at hg
          have hx : (x == 48) = false := by
            cases r with
            | nil => exact hld
            | cons y r => exact hld
          have hl2 : lead0 (x :: r) = false := by
            cases r with
            | nil => rfl
            | cons y r => exact hx
          have hih := ih (x :: r) m (by simp at hk ⊢; omega) (by simp) hl2 hm
          have hpos : 1 ≤ m := by
            have hxf : figB x = true := goN_all _ 0 m hm x (by simp)
            unfold goN at hm
            rw [if_pos hxf] at hm
            have := goN_ge r _ m hm
            have hne48 : x.toNat ≠ 48 := by
              intro e
              have : x = 48 := UInt8.toNat_inj.1 e
              rw [this] at hx
              simp at hx
            unfold figB at hxf
            simp only [Bool.and_eq_true, decide_eq_true_eq] at hxf
            omega
          rw [dec_great n (by omega), ← hg, show (m * 10 + (c.toNat - 48)) / 10 = m by omega, show (m * 10 + (c.toNat - 48)) % 10 = c.toNat - 48 by omega, hih, e1]
theorem numI_dec (n m : Nat) (h1 : n ≤ m) (h2 : n ≤ 999) : numI (Lib.decDigits n) m = (n, true) := by
  have h3 := dec_three n h2
  unfold numI
  rw [dec_lead, goN_dec]
  have h4 : (Lib.decDigits n).isEmpty = false := by
    cases h : Lib.decDigits n with
    | nil => exact absurd h (dec_ne n)
    | cons c r => rfl
  rw [h4, if_neg (by simp; omega)]
  simp only
  rw [if_neg (by omega)]
theorem numS_dec (n : Nat) (h2 : n ≤ 999) : numS (Lib.decDigits n) = n := by
  have h3 := dec_three n h2
  have h4 : (Lib.decDigits n).isEmpty = false := by
    cases h : Lib.decDigits n with
    | nil => exact absurd h (dec_ne n)
    | cons c r => rfl
  unfold numS
  rw [goN_dec, dec_lead, h4]
  simp only
  rw [if_pos (by simp; omega)]
theorem numI_is {l : List UInt8} {m x : Nat} (h : numI l m = (x, true)) : Lib.decDigits x = l := by
  unfold numI at h
  split at h
  · cases h
  · rename_i hc
    simp only [Bool.or_eq_true, not_or, Bool.not_eq_true, List.isEmpty_eq_false_iff, decide_eq_false_iff_not] at hc
    split at h
    · rename_i n hn
      split at h
      · cases h
      · cases h
        exact dec_of l.length l _ (Nat.le_refl _) hc.1.1 hc.2 hn
    · cases h

/-! ### Heads -/
def headB (h : Hk) : List UInt8 := 64 :: 32 :: (Lib.decDigits h.1.toNat ++ 32 :: Lib.decDigits h.2.length)
theorem putHk_eq (h : Hk) (r : List UInt8) : putHk h ++ r = headB h ++ 10 :: (putLines h.2 ++ r) := by simp [putHk, headB]
theorem fig_ne {b : UInt8} (h : figB b = true) : b ≠ 32 ∧ b ≠ 10 := by
  unfold figB at h
  simp only [Bool.and_eq_true, decide_eq_true_eq] at h
  constructor
  · rintro rfl; simp at h
  · rintro rfl; simp at h
theorem head_words (h : Hk) (k : Nat) : cutP 32 (k + 2) [] (headB h) = [[64], Lib.decDigits h.1.toNat, Lib.decDigits h.2.length] := by
  have e1 : brk 32 (headB h) = some ([64], Lib.decDigits h.1.toNat ++ 32 :: Lib.decDigits h.2.length) := brk_name (n := [64]) _ (by simp)
  have e2 : brk 32 (Lib.decDigits h.1.toNat ++ 32 :: Lib.decDigits h.2.length) = some (Lib.decDigits h.1.toNat, Lib.decDigits h.2.length) := brk_name _ (fun c hc => (fig_ne (dec_fig _ c hc)).1)
  have e3 : brk 32 (Lib.decDigits h.2.length) = none := brk_none (fun c hc => (fig_ne (dec_fig _ c hc)).1)
  rw [cutP_brk, e1]
  simp only [List.nil_append]
  rw [cutP_brk, e2]
  simp only [List.nil_append]
  cases k with
  | zero => rw [cutP_zero]; rfl
  | succ k => rw [cutP_brk, e3]; rfl
theorem head_free (h : Hk) : ∀ c ∈ headB h, c ≠ 10 := by
  intro c hc
  unfold headB at hc
  rcases List.mem_cons.1 hc with rfl | hc
  · decide
  rcases List.mem_cons.1 hc with rfl | hc
  · decide
  rcases List.mem_append.1 hc with hc | hc
  · exact (fig_ne (dec_fig _ c hc)).2
  rcases List.mem_cons.1 hc with rfl | hc
  · decide
  · exact (fig_ne (dec_fig _ c hc)).2
theorem words_join {hd a b c : List UInt8} (h : cutP 32 3 [] hd = [a, b, c]) : hd = a ++ 32 :: (b ++ 32 :: c) := by
  rw [cutP_brk] at h
  cases h1 : brk 32 hd with
  | none => rw [h1] at h; simp at h
  | some p =>
    obtain ⟨x, r⟩ := p
    rw [h1] at h
    simp only [List.nil_append, List.cons.injEq] at h
    obtain ⟨rfl, h⟩ := h
    rw [cutP_brk] at h
    cases h2 : brk 32 r with
    | none => rw [h2] at h; simp at h
    | some q =>
      obtain ⟨y, r'⟩ := q
      rw [h2] at h
      simp only [List.nil_append, List.cons.injEq] at h
      obtain ⟨rfl, h⟩ := h
      rw [cutP_brk] at h
      cases h3 : brk 32 r' with
      | none =>
        rw [h3] at h
        simp at h
        rw [brk_app h1, brk_app h2, h]
      | some q' =>
        rw [h3] at h
        simp at h
        have := congrArg List.length h.2
        rw [cutP_zero] at this
        simp at this

/-! ### What is read was written -/
theorem readN_put : ∀ (n : Nat) (t : List UInt8) (p : Lines × List UInt8), readN n t = some p → t = putLines p.1 ++ p.2
  | 0, t, p, h => by cases h; rfl
  | n + 1, t, p, h => by
    unfold readN at h
    split at h
    · cases h
    · rename_i q hq
      split at h
      · cases h
      · rename_i s hs
        cases h
        have h1 := readN_put n q.2 s hs
        have h2 := brk_app (n := q.1) (r := q.2) hq
        rw [h2, h1]
        simp [putLines]
theorem hunkR_put {t : List UInt8} {p : Hk × List UInt8} (h : hunkR t = some p) : t = putHk p.1 ++ p.2 := by
  unfold hunkR at h
  split at h
  · cases h
  · rename_i q hq
    obtain ⟨x, y, r⟩ := q
    split at h
    · cases h
    · rename_i s hs
      cases h
      obtain ⟨hd, a, b, c, hb, hws, rfl, e1, e2⟩ := headR_some hq
      have h1 := readN_put _ _ _ hs
      have hl := (readN_len _ _ _ hs).2.1
      simp only at hl h1
      rw [putHk_eq, brk_app hb, words_join hws, h1]
      unfold headB
      rw [← numI_is e1, ← numI_is e2, hl]
      simp
theorem getI_put : ∀ (k : Nat) (acc hs : List Hk) (t : List UInt8), t.length ≤ k → getI acc t = some hs → ∃ tl, hs = acc ++ tl ∧ t = putHs tl := by
  intro k
  induction k with
  | zero =>
    intro acc hs t hk h
    obtain rfl := List.length_eq_zero_iff.1 (Nat.le_zero.1 hk)
    rw [getI_nil] at h
    cases h
    exact ⟨[], by simp, rfl⟩
  | succ k ih =>
    intro acc hs t hk h
    by_cases hn : t = []
    · subst hn
      rw [getI_nil] at h
      cases h
      exact ⟨[], by simp, rfl⟩
    · cases hq : hunkR t with
      | none => rw [getI_none hn hq] at h; cases h
      | some p =>
        rw [getI_some hn hq] at h
        split at h
        · cases h
        · have h1 := (hunkR_parts hq).1
          obtain ⟨tl, e1, e2⟩ := ih _ _ _ (by omega) h
          refine ⟨p.1 :: tl, by rw [e1]; simp, ?_⟩
          rw [putHs, ← e2]
          exact hunkR_put hq
end Go.Qz

/- Plain laws of hunks that are written and read: what was written is read. -/
namespace Go.Qz
open Go.Proofs

structure OkH (h : Hk) : Prop where
  at1 : 1 ≤ h.1
  at2 : h.1 ≤ 999
  len1 : 1 ≤ h.2.length
  len2 : h.2.length ≤ 30
  free : ∀ x ∈ h.2, ∀ c ∈ x, c ≠ 10
theorem okH_of {hs : List Hk} (h : hunksOkS hs = true) : hs.length ≤ 4 ∧ ∀ g ∈ hs, OkH g := by
  unfold hunksOkS at h
  simp only [Bool.and_eq_true, decide_eq_true_eq] at h
  refine ⟨h.2, fun g hg => ?_⟩
  have h1 := goS_all hs none h.1 g hg
  obtain ⟨_, a1, a2, a3, a4⟩ := hunkS_parts h1
  refine ⟨a3, a4, a1, a2, fun x hx c hc => ?_⟩
  unfold hunkS at h1
  simp only [Bool.and_eq_true, List.all_eq_true] at h1
  have h2 := h1.1 x hx
  rw [hlS_eq] at h2
  cases x with
  | nil => simp at hc
  | cons b r =>
    unfold hlOk at h2
    simp only [Bool.and_eq_true] at h2
    rcases List.mem_cons.1 hc with rfl | hc
    · have h3 := h2.1
      unfold signB at h3
      rintro rfl
      simp at h3
    · have h3 := h2.2
      unfold plainT at h3
      simp only [Bool.and_eq_true, List.all_eq_true] at h3
      have h4 := h3.2 c hc
      unfold plainB at h4
      rintro rfl
      simp at h4

theorem readN_app : ∀ (xs : Lines) (r : List UInt8), (∀ x ∈ xs, ∀ c ∈ x, c ≠ 10) → readN xs.length (putLines xs ++ r) = some (xs, r)
  | [], r, _ => rfl
  | x :: xs, r, h => by
    have e : putLines (x :: xs) ++ r = x ++ 10 :: (putLines xs ++ r) := by simp [putLines]
    rw [List.length_cons, readN, e, brk_name _ (h x (by simp))]
    simp only
    rw [readN_app xs r (fun y hy => h y (by simp [hy]))]
theorem hunkR_app {h : Hk} (hok : OkH h) (r : List UInt8) : hunkR (putHk h ++ r) = some (h, r) := by
  have e1 : headR (putHk h ++ r) = some (h.1.toNat, h.2.length, putLines h.2 ++ r) := by
    unfold headR
    rw [putHk_eq, brk_name _ (head_free h)]
    simp only
    rw [head_words h 1]
    have := hok.at2
    have := hok.len2
    simp only [wordsR, beq_self_eq_true, if_true]
    rw [numI_dec h.1.toNat 999 (by omega) (by omega), numI_dec h.2.length 30 (by omega) (by omega)]
    rfl
  unfold hunkR
  rw [e1]
  simp only
  rw [readN_app h.2 r hok.free]
  simp only [Option.some.injEq, Prod.mk.injEq, and_true]
  have := hok.at1
  have h2 : ((h.1.toNat : Nat) : Int) = h.1 := by omega
  rw [h2]
theorem putHk_ne (h : Hk) (r : List UInt8) : putHk h ++ r ≠ [] := by rw [putHk_eq]; simp [headB]
theorem getI_app : ∀ (hs acc : List Hk), (∀ h ∈ hs, OkH h) → acc.length + hs.length ≤ 4 → getI acc (putHs hs) = some (acc ++ hs)
  | [], acc, _, _ => by rw [putHs, getI_nil]; simp
  | h :: hs, acc, hok, hl => by
    simp only [List.length_cons] at hl
    rw [putHs, getI_some (putHk_ne h _) (hunkR_app (hok h (by simp)) _), if_neg (by omega)]
    rw [getI_app hs (acc ++ [h]) (fun g hg => hok g (by simp [hg])) (by simp; omega)]
    simp

def linesOf (hs : List Hk) : Lines := hs.flatMap fun h => headB h :: h.2
theorem putLines_app : ∀ (a b : Lines), putLines (a ++ b) = putLines a ++ putLines b
  | [], b => rfl
  | x :: a, b => by rw [List.cons_append, putLines, putLines, putLines_app a b]; simp
theorem putHs_lines : ∀ hs : List Hk, putHs hs = putLines (linesOf hs)
  | [] => rfl
  | h :: hs => by
    have e : linesOf (h :: hs) = (headB h :: h.2) ++ linesOf hs := by simp [linesOf]
    rw [putHs, e, putLines_app, ← putHs_lines hs, putLines]
    rw [putHk_eq]
    simp
theorem cutP_lines : ∀ (ls : Lines) (k : Nat), ls.length ≤ k → (∀ x ∈ ls, ∀ c ∈ x, c ≠ 10) → cutP 10 k [] (putLines ls) = ls ++ [[]]
  | [], k, _, _ => by rw [putLines, cutP]; rfl
  | x :: ls, 0, hk, _ => by simp at hk
  | x :: ls, k + 1, hk, h => by
    have e : putLines (x :: ls) = x ++ 10 :: putLines ls := by simp [putLines]
    rw [e, cutP_brk, brk_name _ (h x (by simp))]
    simp only [List.nil_append]
    rw [cutP_lines ls k (by simpa using hk) (fun y hy => h y (by simp [hy]))]
    rfl
theorem linesOf_free {hs : List Hk} (hok : ∀ h ∈ hs, OkH h) : ∀ x ∈ linesOf hs, ∀ c ∈ x, c ≠ 10 := by
  intro x hx
  unfold linesOf at hx
  obtain ⟨h, hh, hx⟩ := List.mem_flatMap.1 hx
  rcases List.mem_cons.1 hx with rfl | hx
  · exact head_free h
  · exact (hok h hh).free x hx
theorem getS_app : ∀ (hs acc : List Hk) (k : Nat), (∀ h ∈ hs, OkH h) → acc.length + hs.length ≤ 4 → hs.length < k → getS k acc (linesOf hs ++ [[]]) = (acc ++ hs, true)
  | _, _, 0, _, _, hk => by omega
  | [], acc, k + 1, _, _, _ => by simp [linesOf, getS]
  | h :: hs, acc, k + 1, hok, hl, hk => by
    simp only [List.length_cons] at hl hk
    have ho := hok h (by simp)
    have h1 := ho.len1
    have h2 := ho.len2
    have h3 := ho.at2
    have h4 := ho.at1
    have e : linesOf (h :: hs) ++ [[]] = headB h :: (h.2 ++ (linesOf hs ++ [[]])) := by simp [linesOf]
    match h2' : h.2, h1 with
    | m :: ms, _ =>
      rw [e, h2', List.cons_append, getS, if_neg (by omega), head_words h 0]
      have hlen : h.2.length = ms.length + 1 := by rw [h2']; rfl
      have hw : wordsS [[64], Lib.decDigits h.1.toNat, Lib.decDigits h.2.length] ((ms ++ (linesOf hs ++ [[]])).length : Int) = some (h.1, h.2.length) := by
        simp only [wordsS, beq_self_eq_true, if_true]
        rw [numS_dec _ (by omega), numS_dec _ (by omega), if_pos (by simp; omega)]
        simp only [Int.toNat_natCast, Option.some.injEq, Prod.mk.injEq, and_true]
        omega
      rw [hw]
      simp only
      have et : (m :: (ms ++ (linesOf hs ++ [[]]))) = h.2 ++ (linesOf hs ++ [[]]) := by rw [h2']; rfl
      rw [et, List.take_left, List.drop_left]
      rw [getS_app hs _ k (fun g hg => hok g (by simp [hg])) (by simp; omega) (by omega)]
      simp

/-- What both hand back. -/
theorem getS_put {hs : List Hk} (hok : hunksOkS hs = true) : getS ((putHs hs).length + 2) [] (cutP 10 ((putHs hs).length + 1) [] (putHs hs)) = (hs, true) := by
  obtain ⟨h4, ho⟩ := okH_of hok
  have hlen : ∀ ls : Lines, ls.length ≤ (putLines ls).length := by
    intro ls
    induction ls with
    | nil => simp
    | cons x ls ih => simp [putLines]; omega
  have h1 := hlen (linesOf hs)
  have h2 : hs.length ≤ (linesOf hs).length := by
    clear hok h4 ho h1
    induction hs with
    | nil => simp
    | cons h hs ih =>
      have e : linesOf (h :: hs) = (headB h :: h.2) ++ linesOf hs := by simp [linesOf]
      rw [e]; simp; omega
  rw [← putHs_lines] at h1
  have e : cutP 10 ((putHs hs).length + 1) [] (putHs hs) = linesOf hs ++ [[]] := by
    have := cutP_lines (linesOf hs) ((putHs hs).length + 1) (by omega) (linesOf_free ho)
    rw [← putHs_lines] at this
    exact this
  rw [e]
  have := getS_app hs [] ((putHs hs).length + 2) ho (by simpa using h4) (by omega)
  simpa using this
theorem okI_put {hs : List Hk} (hok : hunksOkS hs = true) : okI (getI [] (putHs hs)) = (hs, true) := by
  obtain ⟨h4, ho⟩ := okH_of hok
  have := getI_app hs [] ho (by simpa using h4)
  rw [this]
  simp only [okI, List.nil_append]
  rw [hunksOk_eq, if_pos hok]

/-- The program and the reference read the same. -/
theorem get_eq (t : List UInt8) : okI (getI [] t) = (if ((getS (t.length + 2) [] (cutP 10 (t.length + 1) [] t)).2 && (hunksOkS (getS (t.length + 2) [] (cutP 10 (t.length + 1) [] t)).1 && (putHs (getS (t.length + 2) [] (cutP 10 (t.length + 1) [] t)).1 == t))) = true
    then ((getS (t.length + 2) [] (cutP 10 (t.length + 1) [] t)).1, true) else ([], false)) := by
  by_cases hex : ∃ hs, hunksOkS hs = true ∧ t = putHs hs
  · obtain ⟨hs, hok, rfl⟩ := hex
    rw [getS_put hok, okI_put hok]
    simp [hok]
  · have e1 : okI (getI [] t) = ([], false) := by
      cases hg : getI [] t with
      | none => rfl
      | some hs =>
        obtain ⟨tl, e1, e2⟩ := getI_put t.length [] hs t (Nat.le_refl _) hg
        simp only [List.nil_append] at e1
        subst e1
        simp only [okI]
        rw [if_neg]
        intro hok
        rw [hunksOk_eq] at hok
        exact hex ⟨hs, hok, e2⟩
    rw [e1, if_neg]
    intro hb
    simp only [Bool.and_eq_true, beq_iff_eq] at hb
    exact hex ⟨_, hb.2.1, hb.2.2.symm⟩
end Go.Qz

/- What the functions come to: marks, written and read again. -/
namespace Go.Qz
open Go.Proofs

def dig (n : Nat) (l : List UInt8) : List UInt8 := if h : n = 0 then l else dig (n / 10) ((48 + n % 10).toUInt8 :: l)
termination_by n
decreasing_by omega
theorem dig_zero (l : List UInt8) : dig 0 l = l := by rw [dig]; rfl
theorem dig_pos (n : Nat) (l : List UInt8) (h : 0 < n) : dig n l = dig (n / 10) ((48 + n % 10).toUInt8 :: l) := by
  rw [dig, dif_neg (by omega)]
def mtext (n : Nat) : List UInt8 := if n = 0 then [109, 48] else 109 :: dig n []

theorem markText_ev (n : Nat) (hn : n ≤ 1099511627776) : C fn_w_markText [.ro (N n)] [] = some (.one (.ro (T (mtext n))), []) := by
  refine ctx_call Tryd.func81 conv_w_markText rfl ?_
  unfold mtext
  by_cases h0 : n = 0
  · subst h0
    simp
  have hp : ¬ ((n : Int) ≤ 0) := by omega
  simp [h0, hp]
  refine loop_run (fun m e => ∃ k l, m = k ∧ l.length + k ≤ n ∧ e.size = 20 ∧ e.get 0 = .one (.ro (N k)) ∧ e.get 3 = .one (.ro (T l)) ∧ dig k l = dig n [])
    ?_ n _ ⟨n, [], rfl, by simp, by simp, by simp, by simp, rfl⟩
  rintro m e ⟨k, l, rfl, hl, hsz, h0, h3, hr⟩ ih
  rcases Nat.eq_zero_or_pos m with rfl | hm
  · rw [dig_zero] at hr
    have hms : 1 + l.length ≤ maxStr := by simp [maxStr]; omega
    subst hr
    simp [hsz, h0, h3, hms]
  · have hr1 : ((m : Int)).tmod 10 = ((m % 10 : Nat) : Int) := by rw [Int.ofNat_tmod]; rfl
    have hq1 : ((m : Int)).tdiv 10 = ((m / 10 : Nat) : Int) := by rw [Int.ofNat_tdiv]; rfl
    rw [dig_pos _ _ hm] at hr
    have hrl : m % 10 < 10 := Nat.mod_lt _ (by omega)
    have hql : m / 10 < m := by omega
    generalize m % 10 = r at *
    generalize m / 10 = q at *
    have hw1 : IntKind.i64.wrap (48 + (r : Int)) = ((48 + r : Nat) : Int) := by rw [wrap64 (by omega) (by omega)]; omega
    have hw2 : IntKind.i64.wrap (q : Int) = (q : Int) := wrap64 (by omega) (by omega)
    have hw3 : IntKind.u8.wrap ((48 + r : Nat) : Int) = ((48 + r : Nat) : Int) := by
      show ((48 + r : Nat) : Int) % 256 = _
      omega
    have hms : 1 + l.length ≤ maxStr := by simp [maxStr]; omega
    have hpos : (0 : Int) < m := by omega
    generalize 48 + r = z at *
    have hpos' : 0 < m := hm
    simp [hsz, h0, h3, hpos', hr1, hq1, hw1, hw2, hw3, hms]
    exact ih _ _ hql ⟨q, z.toUInt8 :: l, rfl, by simp; omega, by simp [hsz], by simp, by simp, hr⟩

def markL (n k : Nat) : Lines := (List.range n).map fun j => mtext (k + j)
@[simp] theorem markL_len (n k : Nat) : (markL n k).length = n := by simp [markL]
theorem markL_get (n k j : Nat) (h : j < n) : (markL n k)[j]? = some (mtext (k + j)) := by simp [markL, h]

theorem markL_elem (n k j : Nat) (h : j < (markL n k).length) : (markL n k)[j] = mtext (k + j) := by simp [markL]

theorem markStringS_ev (xs : Lines) (k : Nat) (hk : k ≤ 549755813888) (hn : xs.length ≤ 1048576) :
    C fn_w_markStringS [.view ⟨.cell 10000 0, []⟩, .ro (N k)] [(10000, [.own (SS xs)])] = some (.one (.ro (N (k + xs.length))), [(10000, [.own (SS (markL xs.length k))])]) := by
  refine ctx_call Tryd.func52 conv_w_markStringS rfl ?_
  simp
  refine loop_run (fun m e => ∃ i yl, m = xs.length - i ∧ i ≤ xs.length ∧ e.size = 20 ∧ e.get 0 = .one (.view ⟨.cell 10000 0, []⟩) ∧ e.box 10000 = some [.own (SS yl)] ∧ e.get 1 = .one (.ro (N (k + i))) ∧ e.get 5 = .one (.ro (N i)) ∧ yl.length = xs.length ∧ ∀ j, j < i → yl[j]? = some (mtext (k + j)))
    ?_ xs.length _ ⟨0, xs, rfl, Nat.zero_le _, by simp, by simp, by simp, by simp, by simp, rfl, fun j hj => by omega⟩
  rintro m e ⟨i, yl, rfl, hi, hsz, h0, hb, h1, h5, hyl, hy⟩ ih
  rcases Nat.lt_or_ge i xs.length with hlt | hge
  · have hwi : IntKind.i64.wrap ((i : Int) + 1) = ((i + 1 : Nat) : Int) := wrap64_succ (by omega)
    have hlt' : i < yl.length := by omega
    have hm := markText_ev (k + i) (by omega)
    generalize hq : k + i = q at *
    have hwq : IntKind.i64.wrap ((q : Int) + 1) = ((q + 1 : Nat) : Int) := wrap64_succ (by omega)
    simp [hsz, h0, hb, h1, h5, hlt, hlt', hwi, hwq, hm, hyl]
    exact ih _ _ (by omega) ⟨i + 1, yl.set i (mtext q), rfl, by omega, by simp [hsz], by simp [h0], by simp, by simp [← hq]; omega, by simp, by simp [hyl], fun j hj => by
      by_cases e : j = i
      · subst e; simp [hlt', hq]
      · rw [List.getElem?_set_ne (by omega)]; exact hy j (by omega)⟩
  · obtain rfl : i = xs.length := by omega
    have : yl = markL xs.length k := eq_of_firsts (by simp [hyl]) (fun j hj => by rw [markL_len] at hj; rw [hy j hj, markL_get _ _ _ hj])
    subst this
    simp [hsz, h0, hb, h1, h5]

theorem heldStringS_ev (n k : Nat) (hk : k ≤ 549755813888) (hn : n ≤ 1048576) :
    C fn_w_heldStringS [.ro (SS (markL n k)), .ro (N k)] [] = some (.one (.ro (N (k + n))), []) := by
  refine ctx_call Tryd.func53 conv_w_heldStringS rfl ?_
  simp
  refine loop_run (fun m e => ∃ i, m = n - i ∧ i ≤ n ∧ e.size = 22 ∧ e.get 0 = .one (.ro (SS (markL n k))) ∧ e.get 1 = .one (.ro (N (k + i))) ∧ e.get 5 = .one (.ro (N i)))
    ?_ n _ ⟨0, rfl, Nat.zero_le _, by simp, by simp, by simp, by simp⟩
  rintro m e ⟨i, rfl, hi, hsz, h0, h1, h5⟩ ih
  rcases Nat.lt_or_ge i n with hlt | hge
  · have hwi : IntKind.i64.wrap ((i : Int) + 1) = ((i + 1 : Nat) : Int) := wrap64_succ (by omega)
    have hm := markText_ev (k + i) (by omega)
    generalize hq : k + i = q at *
    have hwq : IntKind.i64.wrap ((q : Int) + 1) = ((q + 1 : Nat) : Int) := wrap64_succ (by omega)
    simp [hsz, h0, h1, h5, hlt, hwi, hwq, hm, markL_elem, hq]
    exact ih _ _ (by omega) ⟨i + 1, rfl, by omega, by simp [hsz], by simp [h0], by simp [← hq]; omega, by simp⟩
  · obtain rfl : i = n := by omega
    simp [hsz, h0, h1, h5]
end Go.Qz

/- What the functions come to: marks in hunks. -/
namespace Go.Qz
open Go.Proofs

def markHs : List Hk → Nat → List Hk
  | [], _ => []
  | h :: r, k => ((k : Int), markL h.2.length (k + 1)) :: markHs r (k + 1 + h.2.length)
def endHs : List Hk → Nat → Nat
  | [], k => k
  | h :: r, k => endHs r (k + 1 + h.2.length)

set_option maxHeartbeats 1000000 in
theorem markHunkS_ev (hs : List Hk) (k : Nat) (hk : k ≤ 1048576) (hn : hs.length ≤ 100) (hl : ∀ h ∈ hs, h.2.length ≤ 1048576) :
    C fn_w_markHunkS [.view ⟨.cell 10000 0, []⟩, .ro (N k)] [(10000, [.own (HS hs)])] = some (.one (.ro (N (endHs hs k))), [(10000, [.own (HS (markHs hs k))])]) := by
  refine ctx_call Tryd.func22 conv_w_markHunkS rfl ?_
  simp
  refine loop_run (fun m e => ∃ i q yl, m = hs.length - i ∧ i ≤ hs.length ∧ q ≤ 1048576 + i * 1048577 ∧ e.size = 27 ∧ e.get 0 = .one (.view ⟨.cell 10000 0, []⟩) ∧ e.box 10000 = some [.own (HS yl)] ∧ e.get 1 = .one (.ro (N q)) ∧ e.get 5 = .one (.ro (N i)) ∧
      yl.length = hs.length ∧ yl.drop i = hs.drop i ∧ yl.take i ++ markHs (hs.drop i) q = markHs hs k ∧ endHs (hs.drop i) q = endHs hs k)
    ?_ hs.length _ ⟨0, k, hs, rfl, Nat.zero_le _, by omega, by simp, by simp, by simp, by simp, by simp, rfl, rfl, rfl, rfl⟩
  rintro m e ⟨i, q, yl, rfl, hi, hq, hsz, h0, hb, h1, h5, hyl, hd, hr, hr2⟩ ih
  rcases Nat.lt_or_ge i hs.length with hlt | hge
  · have hwi : IntKind.i64.wrap ((i : Int) + 1) = ((i + 1 : Nat) : Int) := wrap64_succ (by omega)
    have hlt' : i < yl.length := by omega
    have hyi : yl[i] = hs[i] := by
      have h1 := List.drop_eq_getElem_cons hlt
      have h2 := List.drop_eq_getElem_cons hlt'
      rw [hd, h1] at h2
      exact (List.cons.inj h2).1.symm
    have hln := hl _ (List.getElem_mem hlt)
    have hwq : IntKind.i64.wrap ((q : Int) + 1) = ((q + 1 : Nat) : Int) := wrap64_succ (by omega)
    have hm := markStringS_ev hs[i].2 (q + 1) (by omega) (by omega)
    rw [List.drop_eq_getElem_cons hlt, markHs] at hr
    rw [List.drop_eq_getElem_cons hlt, endHs] at hr2
    generalize hq1 : q + 1 = q1 at *
    generalize hq2 : q1 + hs[i].2.length = q2 at *
    simp [hsz, h0, hb, h1, h5, hlt, hlt', hwi, hwq, hm, hyl, hyi]
    exact ih _ _ (by omega) ⟨i + 1, q2, yl.set i (q, markL hs[i].2.length q1), rfl, by omega, by omega, by simp [hsz], by simp [h0], by simp [HS, HD, List.map_set], by simp, by simp, by simp [hyl], by
      rw [List.drop_set_of_lt (by omega)]
      have := congrArg (List.drop 1) hd
      simpa using this, by
      rw [← hr, List.take_succ_eq_append_getElem (by simp; omega)]
      simp [List.take_set_of_le], hr2⟩
  · obtain rfl : i = hs.length := by omega
    rw [List.drop_length, markHs, List.append_nil, ← hyl, List.take_length] at hr
    rw [List.drop_length, endHs] at hr2
    subst hr hr2
    simp [hsz, h0, hb, h1, h5, hyl]

theorem markHs_len : ∀ (hs : List Hk) (k : Nat), (markHs hs k).length = hs.length := by
  intro hs
  induction hs with
  | nil => intro k; rfl
  | cons h r ih => intro k; simp [markHs, ih]

set_option maxHeartbeats 1000000 in
theorem heldHunkS_ev (hs : List Hk) (k : Nat) (hk : k ≤ 1048576) (hn : hs.length ≤ 100) (hl : ∀ h ∈ hs, h.2.length ≤ 1048576) :
    C fn_w_heldHunkS [.ro (HS (markHs hs k)), .ro (N k)] [] = some (.one (.ro (N (endHs hs k))), []) := by
  refine ctx_call Tryd.func23 conv_w_heldHunkS rfl ?_
  have hml := markHs_len hs k
  simp
  refine loop_run (fun m e => ∃ i q, m = hs.length - i ∧ i ≤ hs.length ∧ q ≤ 1048576 + i * 1048577 ∧ e.size = 31 ∧ e.get 0 = .one (.ro (HS (markHs hs k))) ∧ e.get 1 = .one (.ro (N q)) ∧ e.get 5 = .one (.ro (N i)) ∧
      (markHs hs k).drop i = markHs (hs.drop i) q ∧ endHs (hs.drop i) q = endHs hs k)
    ?_ hs.length _ ⟨0, k, rfl, Nat.zero_le _, by omega, by simp, by simp, by simp, by simp, rfl, rfl⟩
  rintro m e ⟨i, q, rfl, hi, hq, hsz, h0, h1, h5, hd, hr2⟩ ih
  generalize markHs hs k = ms at *
  rcases Nat.lt_or_ge i hs.length with hlt | hge
  · have hwi : IntKind.i64.wrap ((i : Int) + 1) = ((i + 1 : Nat) : Int) := wrap64_succ (by omega)
    have hlt' : i < ms.length := by omega
    rw [List.drop_eq_getElem_cons hlt, markHs, List.drop_eq_getElem_cons hlt'] at hd
    rw [List.drop_eq_getElem_cons hlt, endHs] at hr2
    obtain ⟨hd1, hd2⟩ := List.cons.inj hd
    have hln := hl _ (List.getElem_mem hlt)
    have hwq : IntKind.i64.wrap ((q : Int) + 1) = ((q + 1 : Nat) : Int) := wrap64_succ (by omega)
    have hm := heldStringS_ev hs[i].2.length (q + 1) (by omega) (by omega)
    generalize hq1 : q + 1 = q1 at *
    generalize hq2 : q1 + hs[i].2.length = q2 at *
    have hneg : ¬ ((q2 : Int) < 0) := by omega
    simp [hsz, h0, h1, h5, hlt, hlt', hwi, hwq, hm, hml, hd1, hneg]
    exact ih _ _ (by omega) ⟨i + 1, q2, rfl, by omega, by omega, by simp [hsz], by simp [h0], by simp, by simp, hd2, hr2⟩
  · obtain rfl : i = hs.length := by omega
    rw [List.drop_length, endHs] at hr2
    subst hr2
    simp [hsz, h0, h1, h5, hml]
end Go.Qz

/- The law: hunks are read alike. -/
namespace Go.Qz
open Go.Proofs

theorem HunksGetS_ev (t : List UInt8) (ht : t.length ≤ 1048576) : C fn_s_HunksGet [.ro (T t)] [] = some (.tup [.own (HS (okI (getI [] t)).1), .ro (.bool (okI (getI [] t)).2)], []) := by
  refine ctx_call Tryd.func20 conv_s_HunksGet rfl ?_
  obtain ⟨b, h1, h2⟩ := l5Get_ev t ht
  rw [get_eq t, ← h2]
  generalize getS (t.length + 2) [] (cutP 10 (t.length + 1) [] t) = v at *
  cases b with
  | true => simp [h1]
  | false => simp [h1]

theorem okI_few (t : List UInt8) : (okI (getI [] t)).1.length ≤ 4 ∧ ∀ h ∈ (okI (getI [] t)).1, h.2.length ≤ 30 := by
  cases hg : getI [] t with
  | none => simp [okI]
  | some hs =>
    simp only [okI]
    split
    · rename_i hok
      rw [hunksOk_eq] at hok
      obtain ⟨h4, ho⟩ := okH_of hok
      exact ⟨h4, fun h hh => (ho h hh).len2⟩
    · simp

theorem exactHunksGet_ev (t : List UInt8) (hl : t.length ≤ 140737488351232) : C fn_w_FnExactHunksGet [.ro (T t)] [] = some (.one (.ro (.bool true)), []) := by
  refine ctx_call Tryd.func8 conv_w_FnExactHunksGet rfl ?_
  by_cases hlong : 1048576 < t.length
  · have h1 : (1048576 : Int) < t.length := by omega
    simp [h1]
  have h1 : ¬ (1048576 : Int) < t.length := by omega
  have hI := HunksGetI_ev t (by omega)
  have hS := HunksGetS_ev t (by omega)
  obtain ⟨hd1, hd2⟩ := okI_few t
  generalize okI (getI [] t) = v at *
  obtain ⟨d, b⟩ := v
  simp only at hI hS hd1 hd2
  have heq := eqHunkS_self d (by omega) (fun h hh => by have := hd2 h hh; omega)
  have hmd := markHunkS_ev d 1 (by omega) (by omega) (fun h hh => by have := hd2 h hh; omega)
  have hhd := heldHunkS_ev d 1 (by omega) (by omega) (fun h hh => by have := hd2 h hh; omega)
  generalize markHs d 1 = md at *
  generalize endHs d 1 = ed at *
  have he2 : ¬ ((ed : Int) < 0) := by omega
  have hmd' : C fn_w_markHunkS [.view ⟨.cell 10000 0, []⟩, .ro (I 1)] [(10000, [.own (HS d)])] = some (.one (.ro (N ed)), [(10000, [.own (HS md)])]) := hmd
  have hhd' : C fn_w_heldHunkS [.ro (HS md), .ro (I 1)] [] = some (.one (.ro (N ed)), []) := hhd
  cases b <;> simp [h1, hS, hI, heq, hmd', hhd', he2]
end Go.Qz
