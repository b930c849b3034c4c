/- The evaluator of the claim and what it says, part Qo0 (several texts in one). -/
import Derived.Test.YtfikcfndmbcaoaaDoorQn0
import Derived.Test.YtfikcfndmbcaoaaDoorQl0
import Derived.Lib.ItoaNum
/- The seat's context: what is lent to be written, what comes by contract. -/
namespace Go.Qz
open Go.Proofs

@[simp] def ioS : FuncId → List Nat := fun _ => []
/-- copyCheck, String, strconv.Itoa. -/
def XD : CallF := fun f us bx =>
  if f = 62 then (match us, bx with
    | [.ptr n 0], [(m, [a0, a1])] => if n = m && decide (n < ghostFrom) then (match a0 with
        | .bnil t => if t = 56 then some (.tup [], [(n, [.selfp, a1])]) else none
        | .selfp => some (.tup [], [(n, [.selfp, a1])])
        | _ => none) else none
    | _, _ => none)
  else if f = 31 then (match us, bx with
    | [.ptr n 0], [(m, [a0, .own (.bs u s)])] => if n = m && u = 5 && decide (n < ghostFrom) then some (.one (.ro (.str s)), [(n, [a0, .dead])]) else none
    | _, _ => none)
  else if f = 30 then (match us, bx with
    | [.ro (.int .i64 n)], [] => if -9223372036854775808 ≤ n && n ≤ 9223372036854775807 then some (.one (.ro (.str ⟨(Lib.itoa n).toArray⟩)), []) else none
    | _, _ => none)
  else none
noncomputable abbrev C : CallF := callLim Tryd.prog ioS XD
noncomputable abbrev cx : Ctx := ⟨Tryd.prog, ioS, C⟩

theorem copyNil_ev (n : Nat) (a1 : A) (hn : n < 10000) : C 62 [.ptr n 0] [(n, [.bnil 56, a1])] = some (.tup [], [(n, [.selfp, a1])]) := callLim_x (by simp [XD, ghostFrom, hn])
theorem copySelf_ev (n : Nat) (a1 : A) (hn : n < 10000) : C 62 [.ptr n 0] [(n, [.selfp, a1])] = some (.tup [], [(n, [.selfp, a1])]) := callLim_x (by simp [XD, ghostFrom, hn])
theorem string_ev (n : Nat) (a0 : A) (s : ByteArray) (hn : n < 10000) : C 31 [.ptr n 0] [(n, [a0, .own (.bs 5 s)])] = some (.one (.ro (.str s)), [(n, [a0, .dead])]) := callLim_x (by simp [XD, ghostFrom, hn])
theorem itoa_ev (n : Int) (h0 : -9223372036854775808 ≤ n) (h1 : n ≤ 9223372036854775807) : C 30 [.ro (.int .i64 n)] [] = some (.one (.ro (.str ⟨(Lib.itoa n).toArray⟩)), []) := callLim_x (by simp [XD, h0, h1])
end Go.Qz

/- What the functions come to: sizes. -/
namespace Go.Qz
open Go.Proofs

abbrev Lines := List (List UInt8)
abbrev SS (xs : Lines) : D := .sl 1 (xs.map T)
abbrev I (n : Int) : D := .int .i64 n
abbrev N (n : Nat) : D := .int .i64 (n : Int)

@[simp] theorem flats_T (xs : Lines) : flats (xs.map T) = true := by
  induction xs with
  | nil => rfl
  | cons a r ih => simp [flats, D.flat, ih]

def szL : Lines → Int → Int
  | [], l => l
  | x :: r, l => if l - x.length < 0 then -1 else szL r (l - x.length)
def szSS (xs : Lines) (l : Int) : Int := if l - xs.length < 0 then -1 else szL xs (l - xs.length)

theorem szStringS_ev (xs : Lines) (l : Int) (hl : 0 ≤ l) (hl2 : l ≤ 1048576) (hn : xs.length ≤ 140737488351232) (hx : ∀ x ∈ xs, x.length ≤ 140737488351232) :
    C fn_w_szStringS [.ro (SS xs), .ro (I l)] [] = some (.one (.ro (I (szSS xs l))), []) := by
  refine ctx_call Tryd.func54 conv_w_szStringS rfl ?_
  have h1 : IntKind.i64.wrap (l - xs.length) = l - xs.length := wrap64 (by omega) (by omega)
  unfold szSS
  by_cases hneg : l - xs.length < 0
  · simp [h1, hneg]
  · simp [h1, hneg]
    refine loop_run (fun m e => ∃ i l', m = xs.length - i ∧ i ≤ xs.length ∧ 0 ≤ l' ∧ l' ≤ 1048576 ∧ e.size = 28 ∧ e.get 0 = .one (.ro (SS xs)) ∧ e.get 1 = .one (.ro (I l')) ∧ e.get 5 = .one (.ro (N i)) ∧
      szL (xs.drop i) l' = szL xs (l - xs.length)) ?_ xs.length _ ⟨0, l - xs.length, rfl, Nat.zero_le _, by omega, by omega, by simp, by simp, by simp, by simp, rfl⟩
    rintro m e ⟨i, l', rfl, hi, hl0, hl1, hsz, h0, h1, h5, hr⟩ ih
    rcases Nat.lt_or_ge i xs.length with hlt | hge
    · have hxl := hx xs[i] (List.getElem_mem hlt)
      have hd : xs.drop i = xs[i] :: xs.drop (i + 1) := List.drop_eq_getElem_cons hlt
      have hw : IntKind.i64.wrap (l' - xs[i].length) = l' - xs[i].length := wrap64 (by omega) (by omega)
      rw [hd, szL] at hr
      have hwi : IntKind.i64.wrap ((i : Int) + 1) = ((i + 1 : Nat) : Int) := wrap64_succ (by omega)
      simp [hsz, h0, h1, h5, hlt, hw, hwi]
      split
      · rename_i hc
        rw [if_pos hc] at hr
        simp [← hr]
      · rename_i hc
        rw [if_neg hc] at hr
        exact ih _ _ (by omega) ⟨i + 1, _, rfl, by omega, by omega, by omega, by simp [hsz], by simp [h0], by simp, by simp, hr⟩
    · obtain rfl : i = xs.length := by omega
      simp [szL] at hr
      simp [hsz, h0, h1, h5, hr]
end Go.Qz

/- What the functions come to: plain text. -/
namespace Go.Qz
open Go.Proofs

def plainB (b : UInt8) : Bool := decide (32 ≤ b.toNat) && decide (b.toNat ≤ 126)
def plainT (l : List UInt8) : Bool := decide (l.length ≤ 80) && l.all plainB
def seenT (l : List UInt8) : Bool := l.all plainB && decide (l.length ≤ 80)
theorem seen_plain (l : List UInt8) : seenT l = plainT l := by unfold seenT plainT; exact Bool.and_comm _ _
def inI (n a b : Int) : Bool := decide (a ≤ n) && decide (n ≤ b)

theorem plainByte_ev (b : UInt8) : C fn_i_plainByte [.ro (.int .u8 b.toNat)] [] = some (.one (.ro (.bool (plainB b))), []) := by
  refine ctx_call Tryd.func85 conv_i_plainByte rfl ?_
  unfold plainB
  by_cases h : 32 ≤ b.toNat <;> simp [h]

theorem l1In_ev (n a b : Int) : C fn_s_l1In [.ro (I n), .ro (I a), .ro (I b)] [] = some (.one (.ro (.bool (inI n a b))), []) := by
  refine ctx_call Tryd.func73 conv_s_l1In rfl ?_
  unfold inI
  by_cases h : a ≤ n <;> simp [h]

theorem in_plain (b : UInt8) : inI b.toNat 32 126 = plainB b := by
  unfold inI plainB
  congr 1
  · simp
  · simp

theorem plainText_ev (l : List UInt8) : C fn_i_plainText [.ro (T l)] [] = some (.one (.ro (.bool (plainT l))), []) := by
  refine ctx_call Tryd.func67 conv_i_plainText rfl ?_
  unfold plainT
  by_cases hs : l.length ≤ 80
  · have hs' : ¬ (80 : Int) < l.length := by omega
    simp [hs']
    refine loop_run (fun m e => ∃ i, m = l.length - i ∧ i ≤ l.length ∧ e.size = 18 ∧ e.get 0 = .one (.ro (T l)) ∧ e.get 8 = .one (.ro (N l.length)) ∧ e.get 9 = .one (.ro (N i)) ∧
      (l.drop i).all plainB = l.all plainB) ?_ l.length _ ⟨0, rfl, Nat.zero_le _, by simp, by simp, by simp, by simp, rfl⟩
    rintro m e ⟨i, rfl, hi, hsz, h0, h8, h9, hr⟩ ih
    rcases Nat.lt_or_ge i l.length with hlt | hge
    · have hd : l.drop i = l[i] :: l.drop (i + 1) := List.drop_eq_getElem_cons hlt
      have hwi : IntKind.i64.wrap ((i : Int) + 1) = ((i + 1 : Nat) : Int) := wrap64_succ (by omega)
      rw [hd, List.all_cons] at hr
      cases hp : plainB l[i] with
      | false =>
        rw [hp] at hr
        simp [plainByte_ev, hsz, h0, h8, h9, hlt, hp, hs, ← hr]
      | true =>
        rw [hp, Bool.true_and] at hr
        simp [plainByte_ev, hsz, h0, h8, h9, hlt, hwi, hp]
        exact ih _ _ (by omega) ⟨i + 1, rfl, by omega, by simp [hsz], by simp [h0], by simp [h8], by simp, hr⟩
    · obtain rfl : i = l.length := by omega
      rw [List.drop_length, List.all_nil] at hr
      simp [hsz, h0, h8, h9, hs, ← hr]
  · have hs' : 80 < l.length := by omega
    simp [hs', hs]

theorem l5Seen_ev (l : List UInt8) (hl : l.length ≤ 140737488351232) : C fn_s_l5Seen [.ro (T l)] [] = some (.one (.ro (.bool (seenT l))), []) := by
  refine ctx_call Tryd.func82 conv_s_l5Seen rfl ?_
  unfold seenT
  simp
  refine loop_run (fun m e => ∃ i, m = l.length - i ∧ i ≤ l.length ∧ e.size = 19 ∧ e.get 0 = .one (.ro (T l)) ∧ e.get 3 = .one (.ro (N i)) ∧
    (l.drop i).all plainB = l.all plainB) ?_ l.length _ ⟨0, rfl, Nat.zero_le _, by simp, by simp, by simp, rfl⟩
  rintro m e ⟨i, rfl, hi, hsz, h0, h3, hr⟩ ih
  rcases Nat.lt_or_ge i l.length with hlt | hge
  · have hd : l.drop i = l[i] :: l.drop (i + 1) := List.drop_eq_getElem_cons hlt
    have hwi : IntKind.i64.wrap ((i : Int) + 1) = ((i + 1 : Nat) : Int) := wrap64_succ (by omega)
    have hwb : IntKind.i64.wrap (l[i].toNat : Int) = l[i].toNat := by have := l[i].toNat_lt; exact wrap64 (by omega) (by omega)
    rw [hd, List.all_cons] at hr
    cases hp : plainB l[i] with
    | false =>
      rw [hp] at hr
      simp [l1In_ev, in_plain, hsz, h0, h3, hlt, hwb, hp, ← hr]
    | true =>
      rw [hp, Bool.true_and] at hr
      simp [l1In_ev, in_plain, hsz, h0, h3, hlt, hwi, hwb, hp]
      exact ih _ _ (by omega) ⟨i + 1, rfl, by omega, by simp [hsz], by simp [h0], by simp, hr⟩
  · obtain rfl : i = l.length := by omega
    rw [List.drop_length, List.all_nil] at hr
    simp [hsz, h0, h3, ← hr]
end Go.Qz

/- What the functions come to: hunks, as the program has them. -/
namespace Go.Qz
open Go.Proofs

abbrev Hk := Int × Lines
abbrev HD (h : Hk) : D := .agg [I h.1, SS h.2]
abbrev HS (hs : List Hk) : D := .sl 2 (hs.map HD)

def signB (b : UInt8) : Bool := b == 32 || b == 45 || b == 43
def hlOk : List UInt8 → Bool
  | [] => false
  | c :: r => signB c && plainT r
def oldL (xs : Lines) : Lines := (xs.filter (fun x => !(x.head? == some 43))).map List.tail
def newL (xs : Lines) : Lines := (xs.filter (fun x => !(x.head? == some 45))).map List.tail
def goI : Int → List Hk → Bool
  | _, [] => true
  | least, h :: r => decide (least ≤ h.1) && decide (h.1 ≤ 999) && decide (1 ≤ h.2.length) && decide (h.2.length ≤ 30) && h.2.all hlOk && goI (h.1 + (oldL h.2).length) r
def hunksOkI (hs : List Hk) : Bool := decide (hs.length ≤ 4) && goI 1 hs

theorem hunkLineOk_ev (l : List UInt8) : C fn_i_hunkLineOk [.ro (T l)] [] = some (.one (.ro (.bool (hlOk l))), []) := by
  refine ctx_call Tryd.func60 conv_i_hunkLineOk rfl ?_
  cases l with
  | nil => simp [hlOk]
  | cons c r =>
    unfold hlOk signB
    cases h1 : c == 32
    · cases h2 : c == 45
      · cases h3 : c == 43
        · simp [h1, h2, h3, plainText_ev]
        · simp [h1, h2, h3, plainText_ev]
      · simp [h1, h2, plainText_ev]
    · simp [h1, plainText_ev]

theorem SS_get (xs : Lines) (i : Nat) (h : i < xs.length) : (xs.map T)[i]? = some (T xs[i]) := by simp [h]

theorem allStr_ev (xs : Lines) (f : FuncId) (p : List UInt8 → Bool) (hn : xs.length ≤ 140737488351232) (hf : ∀ x ∈ xs, C f [.ro (T x)] [] = some (.one (.ro (.bool (p x))), [])) :
    C fn_i_all_string [.ro (SS xs), .fn f []] [] = some (.one (.ro (.bool (xs.all p))), []) := by
  refine ctx_call Tryd.func59 conv_i_all_string rfl ?_
  simp
  refine loop_run (fun m e => ∃ i, m = xs.length - i ∧ i ≤ xs.length ∧ e.size = 18 ∧ e.get 1 = .one (.fn f []) ∧ e.get 7 = .one (.ro (SS xs)) ∧ e.get 8 = .one (.ro (N xs.length)) ∧ e.get 9 = .one (.ro (N i)) ∧
    (xs.drop i).all p = xs.all p) ?_ xs.length _ ⟨0, rfl, Nat.zero_le _, by simp, by simp, by simp, by simp, by simp, rfl⟩
  rintro m e ⟨i, rfl, hi, hsz, h1, h7, h8, h9, hr⟩ ih
  rcases Nat.lt_or_ge i xs.length with hlt | hge
  · have hd : xs.drop i = xs[i] :: xs.drop (i + 1) := List.drop_eq_getElem_cons hlt
    have hwi : IntKind.i64.wrap ((i : Int) + 1) = ((i + 1 : Nat) : Int) := wrap64_succ (by omega)
    have hfx := hf xs[i] (List.getElem_mem hlt)
    rw [hd, List.all_cons] at hr
    cases hp : p xs[i] with
    | false =>
      rw [hp] at hr hfx
      simp [hfx, hsz, h1, h7, h8, h9, hlt, ← hr]
    | true =>
      rw [hp] at hr hfx
      rw [Bool.true_and] at hr
      simp [hfx, hsz, h1, h7, h8, h9, hlt, hwi]
      exact ih _ _ (by omega) ⟨i + 1, rfl, by omega, by simp [hsz], by simp [h1], by simp [h7], by simp [h8], by simp, hr⟩
  · obtain rfl : i = xs.length := by omega
    rw [List.drop_length, List.all_nil] at hr
    simp [hsz, h7, h8, h9, ← hr]

theorem sides_ev (xs : Lines) (hn : xs.length ≤ 30) (hne : ∀ x ∈ xs, x ≠ []) :
    C fn_i_sides [.ro (SS xs)] [] = some (.tup [.own (SS (oldL xs)), .own (SS (newL xs))], []) := by
  refine ctx_call Tryd.func61 conv_i_sides rfl ?_
  simp
  refine loop_run (fun m e => ∃ i, m = xs.length - i ∧ i ≤ xs.length ∧ e.size = 33 ∧ e.get 4 = .one (.own (SS (oldL (xs.take i)))) ∧ e.get 5 = .one (.own (SS (newL (xs.take i)))) ∧ e.get 8 = .one (.ro (SS xs)) ∧ e.get 9 = .one (.ro (N xs.length)) ∧ e.get 10 = .one (.ro (N i)))
    ?_ xs.length _ ⟨0, rfl, Nat.zero_le _, by simp, by simp [oldL], by simp [newL], by simp, by simp, by simp⟩
  rintro m e ⟨i, rfl, hi, hsz, h4, h5, h8, h9, h10⟩ ih
  rcases Nat.lt_or_ge i xs.length with hlt | hge
  · have hwi : IntKind.i64.wrap ((i : Int) + 1) = ((i + 1 : Nat) : Int) := wrap64_succ (by omega)
    have hl1 : (oldL (xs.take i)).length ≤ 30 := by
      unfold oldL; rw [List.length_map]
      exact Nat.le_trans (List.length_filter_le _ _) (by simp; omega)
    have hl2 : (newL (xs.take i)).length ≤ 30 := by
      unfold newL; rw [List.length_map]
      exact Nat.le_trans (List.length_filter_le _ _) (by simp; omega)
    obtain ⟨c, r, hcr⟩ : ∃ c r, xs[i] = c :: r := by
      cases hq : xs[i] with
      | nil => exact absurd hq (hne _ (List.getElem_mem hlt))
      | cons c r => exact ⟨c, r, rfl⟩
    have ht : xs.take (i + 1) = xs.take i ++ [c :: r] := by rw [List.take_succ_eq_append_getElem hlt, hcr]
    have o : oldL (xs.take (i + 1)) = oldL (xs.take i) ++ if c == 43 then [] else [r] := by
      rw [ht]; unfold oldL; rw [List.filter_append, List.map_append]; cases h : c == 43 <;> simp [List.filter_cons, h]
    have n : newL (xs.take (i + 1)) = newL (xs.take i) ++ if c == 45 then [] else [r] := by
      rw [ht]; unfold newL; rw [List.filter_append, List.map_append]; cases h : c == 45 <;> simp [List.filter_cons, h]
    have ha1 : (oldL (xs.take i)).length + 1 ≤ appendMax := by simp [appendMax]; omega
    have ha2 : (newL (xs.take i)).length + 1 ≤ appendMax := by simp [appendMax]; omega
    cases h1 : c == 43 <;> cases h2 : c == 45
    all_goals
      simp [hsz, h4, h5, h8, h9, h10, hlt, hcr, h1, h2, ha1, ha2, hwi]
      exact ih _ _ (by omega) ⟨i + 1, rfl, by omega, by simp [hsz], by simp [o, h1, h4], by simp [n, h2, h5], by simp [h8], by simp [h9], by simp⟩
  · obtain rfl : i = xs.length := by omega
    rw [List.take_length] at h4 h5
    simp [hsz, h4, h5, h8, h9, h10]
end Go.Qz

/- What the functions come to: hunks ok, by the program and by the reference. -/
namespace Go.Qz
open Go.Proofs

theorem oldL_le (xs : Lines) : (oldL xs).length ≤ xs.length := by
  unfold oldL
  rw [List.length_map]
  exact List.length_filter_le _ _
theorem newL_le (xs : Lines) : (newL xs).length ≤ xs.length := by
  unfold newL
  rw [List.length_map]
  exact List.length_filter_le _ _
theorem hlOk_ne {x : List UInt8} (h : hlOk x = true) : x ≠ [] := by
  rintro rfl
  cases h

theorem HunksOkI_ev (hs : List Hk) (hb : ∀ h ∈ hs, h.2.length ≤ 140737488351232) : C fn_i_HunksOk [.ro (HS hs)] [] = some (.one (.ro (.bool (hunksOkI hs))), []) := by
  refine ctx_call Tryd.func28 conv_i_HunksOk rfl ?_
  unfold hunksOkI
  by_cases hn : hs.length ≤ 4
  · have hn' : ¬ 4 < hs.length := by omega
    simp [hn', hn]
    refine loop_run (fun m e => ∃ (i : Nat) (l : Int), m = hs.length - i ∧ i ≤ hs.length ∧ -1000 ≤ l ∧ l ≤ 2000 ∧ e.size = 54 ∧ e.get 3 = .one (.ro (I l)) ∧ e.get 11 = .one (.ro (HS hs)) ∧ e.get 12 = .one (.ro (N hs.length)) ∧ e.get 13 = .one (.ro (N i)) ∧
      goI l (hs.drop i) = goI 1 hs) ?_ hs.length _ ⟨0, 1, rfl, Nat.zero_le _, by omega, by omega, by simp, by simp, by simp, by simp, by simp, rfl⟩
    rintro m e ⟨i, l, rfl, hi, hl1, hl2, hsz, h3, h11, h12, h13, hr⟩ ih
    rcases Nat.lt_or_ge i hs.length with hlt | hge
    · have hd : hs.drop i = hs[i] :: hs.drop (i + 1) := List.drop_eq_getElem_cons hlt
      have hwi : IntKind.i64.wrap ((i : Int) + 1) = ((i + 1 : Nat) : Int) := wrap64_succ (by omega)
      have hbl := hb hs[i] (List.getElem_mem hlt)
      rw [hd, goI] at hr
      have hall := allStr_ev hs[i].2 fn_i_hunkLineOk hlOk hbl (fun x _ => hunkLineOk_ev x)
      by_cases c1 : hs[i].1 < l
      · have n1 : ¬ l ≤ hs[i].1 := by omega
        simp only [n1, decide_false, Bool.false_and] at hr
        simp [hsz, h3, h11, h12, h13, hlt, c1, ← hr]
      have n1 : l ≤ hs[i].1 := by omega
      by_cases c2 : 999 < hs[i].1
      · have n2 : ¬ hs[i].1 ≤ 999 := by omega
        simp only [n2, decide_false, Bool.false_and, Bool.and_false] at hr
        simp [hsz, h3, h11, h12, h13, hlt, c1, c2, ← hr]
      have n2 : hs[i].1 ≤ 999 := by omega
      by_cases c3 : hs[i].2 = []
      · simp only [c3, List.length_nil, Nat.not_succ_le_zero, decide_false, Bool.false_and, Bool.and_false] at hr
        simp [hsz, h3, h11, h12, h13, hlt, c1, c2, c3, ← hr]
      have n3 : 1 ≤ hs[i].2.length := by
        cases hq : hs[i].2 with
        | nil => exact absurd hq c3
        | cons a b => simp
      by_cases c4 : 30 < hs[i].2.length
      · have n4 : ¬ hs[i].2.length ≤ 30 := by omega
        simp only [n4, decide_false, Bool.false_and, Bool.and_false] at hr
        simp [hsz, h3, h11, h12, h13, hlt, c1, c2, c3, c4, ← hr]
      have n4 : hs[i].2.length ≤ 30 := by omega
      cases c5 : hs[i].2.all hlOk with
      | false =>
        rw [c5] at hall
        simp only [c5, Bool.false_and, Bool.and_false] at hr
        simp [hsz, h3, h11, h12, h13, hlt, c1, c2, c3, c4, hall, ← hr]
      | true =>
        rw [c5] at hall
        simp only [c5, n1, n2, n3, n4, decide_true, Bool.true_and] at hr
        have hsd := sides_ev hs[i].2 n4 (fun x hx => hlOk_ne (List.all_eq_true.1 c5 x hx))
        have hol := oldL_le hs[i].2
        have hwa : IntKind.i64.wrap (hs[i].1 + (oldL hs[i].2).length) = hs[i].1 + (oldL hs[i].2).length := wrap64 (by omega) (by omega)
        simp [hsz, h3, h11, h12, h13, hlt, c1, c2, c3, c4, hall, hsd, hwi, hwa]
        exact ih _ _ (by omega) ⟨i + 1, _, rfl, by omega, by omega, by omega, by simp [hsz], by simp, by simp [h11], by simp [h12], by simp, hr⟩
    · obtain rfl : i = hs.length := by omega
      rw [List.drop_length, goI] at hr
      simp [hsz, h3, h11, h12, h13, ← hr]
  · have hn' : 4 < hs.length := by omega
    simp [hn, hn']

theorem l5Old_ev (h : Hk) (hl : h.2.length ≤ 30) (hne : ∀ x ∈ h.2, x ≠ []) : C fn_s_l5Old [.ro (HD h)] [] = some (.one (.own (SS (oldL h.2))), []) := by
  refine ctx_call Tryd.func56 conv_s_l5Old rfl ?_
  simp
  refine loop_run (fun m e => ∃ i, m = h.2.length - i ∧ i ≤ h.2.length ∧ e.size = 30 ∧ e.get 1 = .one (.ptr 1 0) ∧ e.box 1 = some [.ro (I h.1), .ro (SS h.2)] ∧ e.get 3 = .one (.own (SS (oldL (h.2.take i)))) ∧ e.get 4 = .one (.ro (N i)))
    ?_ h.2.length _ ⟨0, rfl, Nat.zero_le _, by simp, by simp, by simp, by simp [oldL], by simp⟩
  rintro m e ⟨i, rfl, hi, hsz, h1, hb, h3, h4⟩ ih
  rcases Nat.lt_or_ge i h.2.length with hlt | hge
  · have hwi : IntKind.i64.wrap ((i : Int) + 1) = ((i + 1 : Nat) : Int) := wrap64_succ (by omega)
    have hl1 : (oldL (h.2.take i)).length ≤ 30 := Nat.le_trans (oldL_le _) (by simp; omega)
    obtain ⟨c, r, hcr⟩ : ∃ c r, h.2[i] = c :: r := by
      cases hq : h.2[i] with
      | nil => exact absurd hq (hne _ (List.getElem_mem hlt))
      | cons c r => exact ⟨c, r, rfl⟩
    have ht : h.2.take (i + 1) = h.2.take i ++ [c :: r] := by rw [List.take_succ_eq_append_getElem hlt, hcr]
    have o : oldL (h.2.take (i + 1)) = oldL (h.2.take i) ++ if c == 43 then [] else [r] := by
      rw [ht]; unfold oldL; rw [List.filter_append, List.map_append]; cases h : c == 43 <;> simp [h]
    have ha1 : (oldL (h.2.take i)).length + 1 ≤ appendMax := by simp [appendMax]; omega
    cases h1' : c == 43
    all_goals
      simp [hsz, h1, hb, h3, h4, hlt, hcr, h1', ha1, hwi]
      exact ih _ _ (by omega) ⟨i + 1, rfl, by omega, by simp [hsz], by simp [h1], by simp [hb], by simp [o, h1', h3], by simp⟩
  · obtain rfl : i = h.2.length := by omega
    rw [List.take_length] at h3
    simp [hsz, h1, hb, h3, h4]
end Go.Qz

/- What the functions come to: hunks of the reference; copies; comparisons. -/
namespace Go.Qz
open Go.Proofs

def hlS : List UInt8 → Bool
  | [] => false
  | c :: r => signB c && seenT r
theorem hlS_eq (l : List UInt8) : hlS l = hlOk l := by
  cases l with
  | nil => rfl
  | cons c r => simp only [hlS, hlOk, seen_plain]
def hunkS (h : Hk) : Bool := h.2.all hlS && (inI h.2.length 1 30 && inI h.1 1 999)

theorem l5Hunk_ev (h : Hk) (hl : h.2.length ≤ 140737488351232) (hx : ∀ x ∈ h.2, x.length ≤ 140737488351232) : C fn_s_l5Hunk [.ro (HD h)] [] = some (.one (.ro (.bool (hunkS h))), []) := by
  refine ctx_call Tryd.func55 conv_s_l5Hunk rfl ?_
  unfold hunkS
  simp
  refine loop_run (fun m e => ∃ i, m = h.2.length - i ∧ i ≤ h.2.length ∧ e.size = 49 ∧ e.get 1 = .one (.ptr 1 0) ∧ e.box 1 = some [.ro (I h.1), .ro (SS h.2)] ∧ e.get 3 = .one (.ro (N i)) ∧
    (h.2.drop i).all hlS = h.2.all hlS) ?_ h.2.length _ ⟨0, rfl, Nat.zero_le _, by simp, by simp, by simp, by simp, rfl⟩
  rintro m e ⟨i, rfl, hi, hsz, h1, hb, h3, hr⟩ ih
  rcases Nat.lt_or_ge i h.2.length with hlt | hge
  · have hwi : IntKind.i64.wrap ((i : Int) + 1) = ((i + 1 : Nat) : Int) := wrap64_succ (by omega)
    have hd : h.2.drop i = h.2[i] :: h.2.drop (i + 1) := List.drop_eq_getElem_cons hlt
    have hxl := hx h.2[i] (List.getElem_mem hlt)
    rw [hd, List.all_cons] at hr
    cases hq : h.2[i] with
    | nil =>
      rw [hq] at hr
      simp only [hlS, Bool.false_and] at hr
      simp [hsz, h1, hb, h3, hlt, hq, ← hr]
    | cons c r =>
      rw [hq] at hr hxl
      have hse := l5Seen_ev r (by simp at hxl; omega)
      have step : Run cx q_s_l5Hunk_l0 e (Fr.loop q_s_l5Hunk_l0 :: [Fr.blk 0, Fr.seq q_s_l5Hunk_c2, Fr.fn [(ResultVar.tmp 2, 4)] []]) = some (.one (.ro (.bool (h.2.all hlS && (inI h.2.length 1 30 && inI h.1 1 999)))), []) := by
        cases c1 : c == 32 <;> cases c2 : c == 45 <;> cases c3 : c == 43 <;> cases c4 : seenT r
        all_goals
          rw [c4] at hse
          simp only [hlS, signB, c1, c2, c3, c4, Bool.or_true, Bool.true_or, Bool.or_self, Bool.false_and, Bool.true_and, Bool.and_true, Bool.and_false, Bool.or_false, Bool.false_or] at hr
          first
          | (simp [hsz, h1, hb, h3, hlt, hq, c1, c2, c3, hse, ← hr]; done)
          | (simp [hsz, h1, hb, h3, hlt, hq, c1, c2, c3, hse, hwi]
             exact ih _ _ (by omega) ⟨i + 1, rfl, by omega, by simp [hsz], by simp [h1], by simp [hb], by simp, hr⟩)
      exact step
  · obtain rfl : i = h.2.length := by omega
    rw [List.drop_length, List.all_nil] at hr
    cases c1 : inI h.2.length 1 30
    · simp [hsz, h1, hb, h3, l1In_ev, c1, ← hr]
    · simp [hsz, h1, hb, h3, l1In_ev, c1, ← hr]

def goS : Option Hk → List Hk → Bool
  | _, [] => true
  | none, h :: r => hunkS h && goS (some h) r
  | some p, h :: r => (hunkS h && decide (p.1 + (oldL p.2).length ≤ h.1)) && goS (some h) r
def hunksOkS (hs : List Hk) : Bool := goS none hs && decide (hs.length ≤ 4)
end Go.Qz

/- What the functions come to: hunks ok of the reference. -/
namespace Go.Qz
open Go.Proofs

theorem hunkS_parts {h : Hk} (hh : hunkS h = true) : (∀ x ∈ h.2, x ≠ []) ∧ 1 ≤ h.2.length ∧ h.2.length ≤ 30 ∧ 1 ≤ h.1 ∧ h.1 ≤ 999 := by
  simp only [hunkS, inI, Bool.and_eq_true, decide_eq_true_eq] at hh
  obtain ⟨h1, ⟨h2, h3⟩, h4, h5⟩ := hh
  refine ⟨fun x hx => ?_, by omega, by omega, h4, h5⟩
  have := List.all_eq_true.1 h1 x hx
  rintro rfl
  cases this

theorem HunksOkS_ev (hs : List Hk) (hn : hs.length ≤ 140737488351232) (hl : ∀ h ∈ hs, h.2.length ≤ 140737488351232) (hx : ∀ h ∈ hs, ∀ x ∈ h.2, x.length ≤ 140737488351232) :
    C fn_s_HunksOk [.ro (HS hs)] [] = some (.one (.ro (.bool (hunksOkS hs))), []) := by
  refine ctx_call Tryd.func25 conv_s_HunksOk rfl ?_
  unfold hunksOkS
  simp
  refine loop_run (fun m e => ∃ i, m = hs.length - i ∧ i ≤ hs.length ∧ e.size = 45 ∧ e.get 0 = .one (.ro (HS hs)) ∧ e.get 3 = .one (.ro (N i)) ∧
    ((i = 0 ∧ goS none hs = goS none hs) ∨ ∃ k p, i = k + 1 ∧ hs[k]? = some p ∧ hunkS p = true ∧ goS (some p) (hs.drop i) = goS none hs)) ?_ hs.length _ ⟨0, rfl, Nat.zero_le _, by simp, by simp, by simp, .inl ⟨rfl, rfl⟩⟩
  rintro m e ⟨i, rfl, hi, hsz, h0, h3, hr⟩ ih
  rcases Nat.lt_or_ge i hs.length with hlt | hge
  · have hwi : IntKind.i64.wrap ((i : Int) + 1) = ((i + 1 : Nat) : Int) := wrap64_succ (by omega)
    have hd : hs.drop i = hs[i] :: hs.drop (i + 1) := List.drop_eq_getElem_cons hlt
    have hev := l5Hunk_ev hs[i] (hl _ (List.getElem_mem hlt)) (hx _ (List.getElem_mem hlt))
    rcases hr with ⟨rfl, hr⟩ | ⟨k, p, hik, hp, hps, hr⟩
    · have hd0 : hs = hs[0] :: hs.drop 1 := by simpa using hd
      cases c1 : hunkS hs[0] with
      | false =>
        have hr' : goS none hs = false := by rw [hd0, goS, c1]; rfl
        rw [c1] at hev
        simp [hsz, h0, h3, hlt, hev, hr']
      | true =>
        have hr' : goS (some hs[0]) (hs.drop 1) = goS none hs := by
          have : goS none hs = goS none (hs[0] :: hs.drop 1) := by rw [← hd0]
          rw [this, goS, c1, Bool.true_and]
        rw [c1] at hev
        simp [hsz, h0, h3, hlt, hev, hwi]
        exact ih _ _ (by omega) ⟨1, rfl, by omega, by simp [hsz], by simp [h0], by simp, .inr ⟨0, hs[0], rfl, by simp, c1, hr'⟩⟩
    · have hk : k < hs.length := by omega
      have hpk : hs[k] = p := Option.some.inj ((List.getElem?_eq_getElem hk).symm.trans hp)
      obtain ⟨q1, q2, q3, q4, q5⟩ := hunkS_parts hps
      have hold := l5Old_ev p q3 q1
      have holl := oldL_le p.2
      have hwk : IntKind.i64.wrap ((i : Int) - 1) = k := by rw [wrap64 (by omega) (by omega)]; omega
      have hwa : IntKind.i64.wrap (p.1 + (oldL p.2).length) = p.1 + (oldL p.2).length := wrap64 (by omega) (by omega)
      have hi0 : 0 < i := by omega
      rw [hd, goS] at hr
      cases c1 : hunkS hs[i] with
      | false =>
        rw [c1] at hev hr
        simp only [Bool.false_and] at hr
        simp [hsz, h0, h3, hlt, hev, ← hr]
      | true =>
        rw [c1] at hev hr
        simp only [Bool.true_and] at hr
        by_cases c2 : p.1 + (oldL p.2).length ≤ hs[i].1
        · have n2 : ¬ hs[i].1 < p.1 + (oldL p.2).length := by omega
          simp only [c2, decide_true, Bool.true_and] at hr
          simp [hsz, h0, h3, hlt, hev, hwi, hwk, hk, hpk, hold, hwa, n2, hi0]
          exact ih _ _ (by omega) ⟨i + 1, rfl, by omega, by simp [hsz], by simp [h0], by simp, .inr ⟨i, hs[i], rfl, by simp [hlt], c1, hr⟩⟩
        · have n2 : hs[i].1 < p.1 + (oldL p.2).length := by omega
          simp only [c2, decide_false, Bool.false_and] at hr
          simp [hsz, h0, h3, hlt, hev, hwk, hk, hpk, hold, hwa, n2, hi0, ← hr]
  · obtain rfl : i = hs.length := by omega
    have hr' : goS none hs = true := by
      rcases hr with ⟨h, _⟩ | ⟨k, p, h, hp, hps, hr⟩
      · rw [List.eq_nil_of_length_eq_zero h]; rfl
      · rw [← hr, List.drop_length]; rfl
    simp [hsz, h0, h3, hr']
end Go.Qz

/- What the functions come to: copies and comparisons. -/
namespace Go.Qz
open Go.Proofs

theorem eq_of_firsts {α : Type} {ys xs : List α} (h : ys.length = xs.length) (h' : ∀ j, j < xs.length → ys[j]? = xs[j]?) : ys = xs := by
  apply List.ext_getElem? 
  intro j
  rcases Nat.lt_or_ge j xs.length with hj | hj
  · exact h' j hj
  · rw [List.getElem?_eq_none hj, List.getElem?_eq_none (by omega)]

theorem toStringS_ev (xs : Lines) (hn : xs.length ≤ 1048576) : C fn_w_toStringS [.ro (SS xs)] [] = some (.one (.own (SS xs)), []) := by
  refine ctx_call Tryd.func58 conv_w_toStringS rfl ?_
  have ha : (xs.length : Int) ≤ appendMax := by simp [appendMax]; omega
  simp [ha]
  refine loop_run (fun m e => ∃ i yl, m = xs.length - i ∧ i ≤ xs.length ∧ e.size = 22 ∧ e.get 0 = .one (.ro (SS xs)) ∧ e.get 3 = .one (.own (SS yl)) ∧ e.get 4 = .one (.ro (N i)) ∧ yl.length = xs.length ∧ ∀ j, j < i → yl[j]? = xs[j]?)
    ?_ xs.length _ ⟨0, List.replicate xs.length [], rfl, Nat.zero_le _, by simp, by simp, by simp, by simp, by simp, fun j hj => by omega⟩
  rintro m e ⟨i, yl, rfl, hi, hsz, h0, h3, h4, hyl, hy⟩ ih
  rcases Nat.lt_or_ge i xs.length with hlt | hge
  · have hwi : IntKind.i64.wrap ((i : Int) + 1) = ((i + 1 : Nat) : Int) := wrap64_succ (by omega)
    have hlt' : i < yl.length := by omega
    simp [hsz, h0, h3, h4, hlt, hlt', hwi]
    exact ih _ _ (by omega) ⟨i + 1, yl.set i xs[i], rfl, by omega, by simp [hsz], by simp [h0], by simp, by simp, by simp [hyl], fun j hj => by
      by_cases e : j = i
      · subst e; simp [hlt, hlt']
      · rw [List.getElem?_set_ne (by omega)]; exact hy j (by omega)⟩
  · obtain rfl : i = xs.length := by omega
    obtain rfl := eq_of_firsts hyl hy
    simp [hsz, h0, h3, h4]

theorem toHunk_ev (h : Hk) (hn : h.2.length ≤ 1048576) : C fn_w_toHunk [.ro (HD h)] [] = some (.one (.own (HD h)), []) := by
  refine ctx_call Tryd.func27 conv_w_toHunk rfl ?_
  simp [toStringS_ev h.2 hn]

theorem toHunkS_ev (hs : List Hk) (hn : hs.length ≤ 1048576) (hl : ∀ h ∈ hs, h.2.length ≤ 1048576) : C fn_w_toHunkS [.ro (HS hs)] [] = some (.one (.own (HS hs)), []) := by
  refine ctx_call Tryd.func11 conv_w_toHunkS rfl ?_
  have ha : (hs.length : Int) ≤ appendMax := by simp [appendMax]; omega
  simp [ha]
  refine loop_run (fun m e => ∃ i yl, m = hs.length - i ∧ i ≤ hs.length ∧ e.size = 23 ∧ e.get 0 = .one (.ro (HS hs)) ∧ e.get 3 = .one (.own (HS yl)) ∧ e.get 4 = .one (.ro (N i)) ∧ yl.length = hs.length ∧ ∀ j, j < i → yl[j]? = hs[j]?)
    ?_ hs.length _ ⟨0, List.replicate hs.length (0, []), rfl, Nat.zero_le _, by simp, by simp, by simp, by simp, by simp, fun j hj => by omega⟩
  rintro m e ⟨i, yl, rfl, hi, hsz, h0, h3, h4, hyl, hy⟩ ih
  rcases Nat.lt_or_ge i hs.length with hlt | hge
  · have hwi : IntKind.i64.wrap ((i : Int) + 1) = ((i + 1 : Nat) : Int) := wrap64_succ (by omega)
    have hlt' : i < yl.length := by omega
    have hto := toHunk_ev hs[i] (hl _ (List.getElem_mem hlt))
    simp [hsz, h0, h3, h4, hlt, hlt', hwi, hto]
    exact ih _ _ (by omega) ⟨i + 1, yl.set i hs[i], rfl, by omega, by simp [hsz], by simp [h0], by simp, by simp, by simp [hyl], fun j hj => by
      by_cases e : j = i
      · subst e; simp [hlt, hlt']
      · rw [List.getElem?_set_ne (by omega)]; exact hy j (by omega)⟩
  · obtain rfl : i = hs.length := by omega
    obtain rfl := eq_of_firsts hyl hy
    simp [hsz, h0, h3, h4]
end Go.Qz

/- What the functions come to: comparisons of the same; sizes of hunks; the law. -/
namespace Go.Qz
open Go.Proofs

theorem eqStringS_self (xs : Lines) (hn : xs.length ≤ 140737488351232) : C fn_w_eqStringS [.ro (SS xs), .ro (SS xs)] [] = some (.one (.ro (.bool true)), []) := by
  refine ctx_call Tryd.func64 conv_w_eqStringS rfl ?_
  simp
  refine loop_run (fun m e => ∃ i, m = xs.length - i ∧ i ≤ xs.length ∧ e.size = 26 ∧ e.get 0 = .one (.ro (SS xs)) ∧ e.get 1 = .one (.ro (SS xs)) ∧ e.get 5 = .one (.ro (N i)))
    ?_ xs.length _ ⟨0, rfl, Nat.zero_le _, by simp, by simp, by simp, by simp⟩
  rintro m e ⟨i, rfl, hi, hsz, h0, h1, h5⟩ ih
  rcases Nat.lt_or_ge i xs.length with hlt | hge
  · have hwi : IntKind.i64.wrap ((i : Int) + 1) = ((i + 1 : Nat) : Int) := wrap64_succ (by omega)
    simp [hsz, h0, h1, h5, hlt, hwi]
    exact ih _ _ (by omega) ⟨i + 1, rfl, by omega, by simp [hsz], by simp [h0], by simp [h1], by simp⟩
  · obtain rfl : i = xs.length := by omega
    simp [hsz, h0, h1, h5]

theorem eqHunk_self (h : Hk) (hn : h.2.length ≤ 140737488351232) : C fn_w_eqHunk [.ro (HD h), .ro (HD h)] [] = some (.one (.ro (.bool true)), []) := by
  refine ctx_call Tryd.func32 conv_w_eqHunk rfl ?_
  simp [eqStringS_self h.2 hn]

theorem eqHunkS_self (hs : List Hk) (hn : hs.length ≤ 140737488351232) (hl : ∀ h ∈ hs, h.2.length ≤ 140737488351232) : C fn_w_eqHunkS [.ro (HS hs), .ro (HS hs)] [] = some (.one (.ro (.bool true)), []) := by
  refine ctx_call Tryd.func13 conv_w_eqHunkS rfl ?_
  simp
  refine loop_run (fun m e => ∃ i, m = hs.length - i ∧ i ≤ hs.length ∧ e.size = 27 ∧ e.get 0 = .one (.ro (HS hs)) ∧ e.get 1 = .one (.ro (HS hs)) ∧ e.get 5 = .one (.ro (N i)))
    ?_ hs.length _ ⟨0, rfl, Nat.zero_le _, by simp, by simp, by simp, by simp⟩
  rintro m e ⟨i, rfl, hi, hsz, h0, h1, h5⟩ ih
  rcases Nat.lt_or_ge i hs.length with hlt | hge
  · have hwi : IntKind.i64.wrap ((i : Int) + 1) = ((i + 1 : Nat) : Int) := wrap64_succ (by omega)
    have hev := eqHunk_self hs[i] (hl _ (List.getElem_mem hlt))
    simp [hsz, h0, h1, h5, hlt, hwi, hev]
    exact ih _ _ (by omega) ⟨i + 1, rfl, by omega, by simp [hsz], by simp [h0], by simp [h1], by simp⟩
  · obtain rfl : i = hs.length := by omega
    simp [hsz, h0, h1, h5]

/-! ### Sizes of hunks -/

theorem szL_le (xs : Lines) : ∀ l : Int, 0 ≤ l → szL xs l ≤ l ∧ -1 ≤ szL xs l := by
  induction xs with
  | nil => intro l hl; exact ⟨Int.le_refl _, by simp [szL]; omega⟩
  | cons x r ih =>
    intro l hl
    rw [szL]
    split
    · omega
    · have := ih (l - x.length) (by omega)
      omega
theorem szL_all (xs : Lines) : ∀ l : Int, 0 ≤ szL xs l → ∀ x ∈ xs, (x.length : Int) ≤ l := by
  induction xs with
  | nil => intro l _ x hx; cases hx
  | cons x r ih =>
    intro l hl y hy
    rw [szL] at hl
    split at hl
    · omega
    · rcases List.mem_cons.1 hy with rfl | hy
      · omega
      · have := ih _ hl y hy
        omega
theorem szSS_le (xs : Lines) (l : Int) (hl : 0 ≤ l) : szSS xs l ≤ l ∧ -1 ≤ szSS xs l := by
  unfold szSS
  split
  · omega
  · have := szL_le xs (l - xs.length) (by omega)
    omega
theorem szSS_all (xs : Lines) (l : Int) (h : 0 ≤ szSS xs l) : (xs.length : Int) ≤ l ∧ ∀ x ∈ xs, (x.length : Int) ≤ l := by
  unfold szSS at h
  split at h
  · omega
  · refine ⟨by omega, fun x hx => ?_⟩
    have := szL_all xs _ h x hx
    omega

def szHk (h : Hk) (l : Int) : Int := szSS h.2 l
def szHL : List Hk → Int → Int
  | [], l => l
  | h :: r, l => if szHk h l < 0 then -1 else szHL r (szHk h l)
def szHS (hs : List Hk) (l : Int) : Int := if l - hs.length < 0 then -1 else szHL hs (l - hs.length)

theorem szHunk_ev (h : Hk) (l : Int) (hl : 0 ≤ l) (hl2 : l ≤ 1048576) (hn : h.2.length ≤ 140737488351232) (hx : ∀ x ∈ h.2, x.length ≤ 140737488351232) :
    C fn_w_szHunk [.ro (HD h), .ro (I l)] [] = some (.one (.ro (I (szHk h l))), []) := by
  refine ctx_call Tryd.func24 conv_w_szHunk rfl ?_
  have hev := szStringS_ev h.2 l hl hl2 hn hx
  have hle := szSS_le h.2 l hl
  unfold szHk
  by_cases hneg : szSS h.2 l < 0
  · have : szSS h.2 l = -1 := by omega
    simp [hev, this]
  · simp [hev, hneg]

theorem szHunkS_ev (hs : List Hk) (l : Int) (hl : 0 ≤ l) (hl2 : l ≤ 1048576) (hn : hs.length ≤ 140737488351232) (hn2 : ∀ h ∈ hs, h.2.length ≤ 140737488351232) (hx : ∀ h ∈ hs, ∀ x ∈ h.2, x.length ≤ 140737488351232) :
    C fn_w_szHunkS [.ro (HS hs), .ro (I l)] [] = some (.one (.ro (I (szHS hs l))), []) := by
  refine ctx_call Tryd.func9 conv_w_szHunkS rfl ?_
  have h1 : IntKind.i64.wrap (l - hs.length) = l - hs.length := wrap64 (by omega) (by omega)
  unfold szHS
  by_cases hneg : l - hs.length < 0
  · simp [h1, hneg]
  · simp [h1, hneg]
    refine loop_run (fun m e => ∃ i l', m = hs.length - i ∧ i ≤ hs.length ∧ 0 ≤ l' ∧ l' ≤ 1048576 ∧ e.size = 27 ∧ e.get 0 = .one (.ro (HS hs)) ∧ e.get 1 = .one (.ro (I l')) ∧ e.get 5 = .one (.ro (N i)) ∧
      szHL (hs.drop i) l' = szHL hs (l - hs.length)) ?_ hs.length _ ⟨0, l - hs.length, rfl, Nat.zero_le _, by omega, by omega, by simp, by simp, by simp, by simp, rfl⟩
    rintro m e ⟨i, l', rfl, hi, hl0, hl1, hsz, h0, h1, h5, hr⟩ ih
    rcases Nat.lt_or_ge i hs.length with hlt | hge
    · have hd : hs.drop i = hs[i] :: hs.drop (i + 1) := List.drop_eq_getElem_cons hlt
      have hwi : IntKind.i64.wrap ((i : Int) + 1) = ((i + 1 : Nat) : Int) := wrap64_succ (by omega)
      have hev := szHunk_ev hs[i] l' hl0 hl1 (hn2 _ (List.getElem_mem hlt)) (hx _ (List.getElem_mem hlt))
      have hle := szSS_le hs[i].2 l' hl0
      rw [hd, szHL] at hr
      by_cases hc : szHk hs[i] l' < 0
      · rw [if_pos hc] at hr
        simp [hsz, h0, h1, h5, hlt, hev, hc, ← hr]
      · rw [if_neg hc] at hr
        simp [hsz, h0, h1, h5, hlt, hev, hc, hwi]
        exact ih _ _ (by omega) ⟨i + 1, _, rfl, by omega, by omega, by unfold szHk at hc ⊢; omega, by simp [hsz], by simp [h0], by simp, by simp, hr⟩
    · obtain rfl : i = hs.length := by omega
      rw [List.drop_length, szHL] at hr
      simp [hsz, h0, h1, h5, hr]

theorem szHL_all (hs : List Hk) : ∀ l : Int, 0 ≤ szHL hs l → ∀ h ∈ hs, (h.2.length : Int) ≤ l ∧ ∀ x ∈ h.2, (x.length : Int) ≤ l := by
  induction hs with
  | nil => intro l _ x hx; cases hx
  | cons h r ih =>
    intro l hl y hy
    rw [szHL] at hl
    split at hl
    · omega
    · rename_i hc
      have h0 : 0 ≤ szHk h l := by omega
      have ha := szSS_all h.2 l h0
      have hl0 : 0 ≤ l := by omega
      have hle := (szSS_le h.2 l hl0).1
      rcases List.mem_cons.1 hy with rfl | hy
      · exact ha
      · have := ih _ hl y hy
        unfold szHk at this
        exact ⟨by omega, fun x hx => by have := this.2 x hx; omega⟩
theorem szHS_all (hs : List Hk) (l : Int) (h : 0 ≤ szHS hs l) : (hs.length : Int) ≤ l ∧ ∀ h ∈ hs, (h.2.length : Int) ≤ l ∧ ∀ x ∈ h.2, (x.length : Int) ≤ l := by
  unfold szHS at h
  split at h
  · omega
  · refine ⟨by omega, fun y hy => ?_⟩
    have := szHL_all hs _ h y hy
    exact ⟨by omega, fun x hx => by have := this.2 x hx; omega⟩
end Go.Qz

/- The law of HunksOk, by the evaluator. -/
namespace Go.Qz
open Go.Proofs

theorem goI_goS : ∀ (hs : List Hk) (p : Hk), 1 ≤ p.1 → goI (p.1 + (oldL p.2).length) hs = goS (some p) hs := by
  intro hs
  induction hs with
  | nil => intro p _; rfl
  | cons h r ih =>
    intro p hp
    have hall : h.2.all hlS = h.2.all hlOk := by congr 1; funext x; exact hlS_eq x
    rw [goI, goS, Bool.eq_iff_iff]
    simp only [hunkS, inI, hall, Bool.and_eq_true, decide_eq_true_eq]
    constructor
    · rintro ⟨⟨⟨⟨⟨h1, h2⟩, h3⟩, h4⟩, h5⟩, h6⟩
      rw [ih h (by omega)] at h6
      exact ⟨⟨⟨h5, ⟨by omega, by omega⟩, by omega, h2⟩, h1⟩, h6⟩
    · rintro ⟨⟨⟨h5, ⟨h3, h4⟩, h7, h2⟩, h1⟩, h6⟩
      rw [← ih h (by omega)] at h6
      exact ⟨⟨⟨⟨⟨h1, h2⟩, by omega⟩, by omega⟩, h5⟩, h6⟩
theorem hunksOk_eq (hs : List Hk) : hunksOkI hs = hunksOkS hs := by
  unfold hunksOkI hunksOkS
  rw [Bool.and_comm]
  congr 1
  cases hs with
  | nil => rfl
  | cons h r =>
    have hall : h.2.all hlS = h.2.all hlOk := by congr 1; funext x; exact hlS_eq x
    rw [goI, goS, Bool.eq_iff_iff]
    simp only [hunkS, inI, hall, Bool.and_eq_true, decide_eq_true_eq]
    constructor
    · rintro ⟨⟨⟨⟨⟨h1, h2⟩, h3⟩, h4⟩, h5⟩, h6⟩
      rw [goI_goS r h (by omega)] at h6
      exact ⟨⟨h5, ⟨by omega, by omega⟩, by omega, h2⟩, h6⟩
    · rintro ⟨⟨h5, ⟨h3, h4⟩, h7, h2⟩, h6⟩
      rw [← goI_goS r h (by omega)] at h6
      exact ⟨⟨⟨⟨⟨by omega, h2⟩, by omega⟩, by omega⟩, h5⟩, h6⟩

end Go.Qz

/- What the functions come to: numbers in decimal, hunks as text. -/
namespace Go.Qz
open Go.Proofs

theorem dec_small (n : Nat) (h : n < 10) : Lib.decDigits n = [UInt8.ofNat (48 + n)] := by rw [Lib.decDigits, dif_pos h]
theorem dec_great (n : Nat) (h : 10 ≤ n) : Lib.decDigits n = Lib.decDigits (n / 10) ++ [UInt8.ofNat (48 + n % 10)] := by rw [Lib.decDigits, dif_neg (by omega)]
theorem dec_len : ∀ n : Nat, (Lib.decDigits n).length ≤ n + 1 := by
  intro n
  induction n using Nat.strongRecOn with
  | _ n ih =>
    rcases Nat.lt_or_ge n 10 with h | h
    · rw [dec_small n h]; simp
    · rw [dec_great n h, List.length_append]
      have := ih (n / 10) (by omega)
      simp only [List.length_singleton]
      omega
theorem dec_short : ∀ (k n : Nat), n < 10 ^ (k + 1) → (Lib.decDigits n).length ≤ k + 1
  | 0, n, h => by rw [dec_small n (by simpa using h)]; simp
  | k + 1, n, h => by
    rcases Nat.lt_or_ge n 10 with h1 | h1
    · rw [dec_small n h1]; simp
    · rw [dec_great n h1, List.length_append]
      have := dec_short k (n / 10) (by rw [Nat.pow_succ] at h; omega)
      simp only [List.length_singleton]
      omega

theorem l1Dec_ev : ∀ n : Nat, n ≤ 1099511627776 → C fn_s_l1Dec [.ro (N n)] [] = some (.one (.ro (T (Lib.decDigits n))), []) := by
  intro n
  induction n using Nat.strongRecOn with
  | _ n ih =>
    intro hn
    refine ctx_call Tryd.func57 conv_s_l1Dec rfl ?_
    have n1 : ¬ ((n : Int) < -9223372036854775807) := by omega
    have n2 : ¬ ((n : Int) < 0) := by omega
    rcases Nat.lt_or_ge n 10 with h | h
    · have hw1 : IntKind.i64.wrap (48 + (n : Int)) = ((48 + n : Nat) : Int) := by rw [wrap64 (by omega) (by omega)]; omega
      have hw3 : IntKind.u8.wrap ((48 + n : Nat) : Int) = ((48 + n : Nat) : Int) := by
        show ((48 + n : Nat) : Int) % 256 = _
        omega
      rw [dec_small n h]
      generalize hz : 48 + n = z at *
      simp [n1, n2, h, hw1, hw3]
    · have h3 : ¬ n < 10 := by omega
      have hr1 : ((n : Int)).tmod 10 = ((n % 10 : Nat) : Int) := by rw [Int.ofNat_tmod]; rfl
      have hq1 : ((n : Int)).tdiv 10 = ((n / 10 : Nat) : Int) := by rw [Int.ofNat_tdiv]; rfl
      have hi := ih (n / 10) (by omega) (by omega)
      have hl := dec_len (n / 10)
      rw [dec_great n h]
      have hrl : n % 10 < 10 := Nat.mod_lt _ (by omega)
      have hql : n / 10 < n := by omega
      generalize n % 10 = r at *
      generalize n / 10 = q at *
      have hw1 : IntKind.i64.wrap (48 + (r : Int)) = ((48 + r : Nat) : Int) := by rw [wrap64 (by omega) (by omega)]; omega
      have hw2 : IntKind.i64.wrap (q : Int) = (q : Int) := wrap64 (by omega) (by omega)
      have hw3 : IntKind.u8.wrap ((48 + r : Nat) : Int) = ((48 + r : Nat) : Int) := by
        show ((48 + r : Nat) : Int) % 256 = _
        omega
      have hms : (Lib.decDigits q).length + 1 ≤ maxStr := by simp [maxStr]; omega
      generalize 48 + r = z at *
      simp [n1, n2, h3, hr1, hq1, hw1, hw2, hw3, hi, hms]

def putLines : Lines → List UInt8
  | [] => []
  | x :: r => x ++ [10] ++ putLines r
def putHk (h : Hk) : List UInt8 := [64, 32] ++ Lib.decDigits h.1.toNat ++ [32] ++ Lib.decDigits h.2.length ++ [10] ++ putLines h.2
def putHs : List Hk → List UInt8
  | [] => []
  | h :: r => putHk h ++ putHs r

theorem putLines_len (xs : Lines) (b : Nat) (hx : ∀ x ∈ xs, x.length ≤ b) : (putLines xs).length ≤ xs.length * (b + 1) := by
  induction xs with
  | nil => simp [putLines]
  | cons x r ih =>
    have h1 := hx x List.mem_cons_self
    have h2 := ih (fun y hy => hx y (List.mem_cons_of_mem _ hy))
    simp only [putLines, List.length_append, List.length_cons, List.length_nil, Nat.add_mul, Nat.one_mul]
    omega
end Go.Qz

/- What the functions come to: strings.Builder's WriteString. -/
namespace Go.Qz
open Go.Proofs

theorem write1_ev (m l : List UInt8) (h : m.length + l.length ≤ appendMax) :
    C fn_strings_Builder_WriteString [.ptr 5000 0, .ro (T l)] [(5000, [.bnil 56, .own (.bs 5 ⟨m.toArray⟩)])] = some (.tup [.ro (N l.length), .ro .nili], [(5000, [.selfp, .own (.bs 5 ⟨(m ++ l).toArray⟩)])]) := by
  refine ctx_call Tryd.func29 conv_strings_Builder_WriteString rfl ?_
  have hc := copyNil_ev 5000 (.own (.bs 5 ⟨m.toArray⟩)) (by decide)
  simp [hc, h]
theorem write2_ev (m l : List UInt8) (h : m.length + l.length ≤ appendMax) :
    C fn_strings_Builder_WriteString [.ptr 5000 0, .ro (T l)] [(5000, [.selfp, .own (.bs 5 ⟨m.toArray⟩)])] = some (.tup [.ro (N l.length), .ro .nili], [(5000, [.selfp, .own (.bs 5 ⟨(m ++ l).toArray⟩)])]) := by
  refine ctx_call Tryd.func29 conv_strings_Builder_WriteString rfl ?_
  have hc := copySelf_ev 5000 (.own (.bs 5 ⟨m.toArray⟩)) (by decide)
  simp [hc, h]
end Go.Qz

/- What the functions come to: hunks as text. -/
namespace Go.Qz
open Go.Proofs

theorem l1DecI_ev (a : Int) (h0 : 0 ≤ a) (h1 : a ≤ 1099511627776) : C fn_s_l1Dec [.ro (.int .i64 a)] [] = some (.one (.ro (T (Lib.decDigits a.toNat))), []) := by
  obtain ⟨n, rfl⟩ := Int.eq_ofNat_of_zero_le h0
  exact l1Dec_ev n (by omega)

/-- Hunks whose numbers are small. -/
def fewHs (hs : List Hk) : Prop := hs.length ≤ 1000 ∧ ∀ h ∈ hs, 0 ≤ h.1 ∧ h.1 ≤ 1000000 ∧ h.2.length ≤ 1000000

theorem l5Put_ev (hs : List Hk) (hf : fewHs hs) (hB : (putHs hs).length ≤ 1099511627776) : C fn_s_l5Put [.ro (HS hs)] [] = some (.one (.ro (T (putHs hs))), []) := by
  refine ctx_call Tryd.func26 conv_s_l5Put rfl ?_
  simp
  have hN := hf.1
  refine loop_run (fun m e => ∃ i l, m = hs.length - i ∧ i ≤ hs.length ∧ e.size = 53 ∧ e.get 0 = .one (.ro (HS hs)) ∧ e.get 3 = .one (.ro (T l)) ∧ e.get 4 = .one (.ro (N i)) ∧ l ++ putHs (hs.drop i) = putHs hs)
    ?_ hs.length _ ⟨0, [], rfl, Nat.zero_le _, by simp, by simp, by simp, by simp, rfl⟩
  rintro m e ⟨i, l, rfl, hi, hsz, h0, h3, h4, hr⟩ ih
  rcases Nat.lt_or_ge i hs.length with hlt | hge
  · have hwi : IntKind.i64.wrap ((i : Int) + 1) = ((i + 1 : Nat) : Int) := wrap64_succ (by omega)
    have hd : hs.drop i = hs[i] :: hs.drop (i + 1) := List.drop_eq_getElem_cons hlt
    obtain ⟨f1, f2, f3⟩ := hf.2 _ (List.getElem_mem hlt)
    rw [hd, putHs] at hr
    have hlen := congrArg List.length hr
    simp only [List.length_append] at hlen
    have e1 := l1DecI_ev hs[i].1 f1 (by omega)
    have e2 := l1Dec_ev hs[i].2.length (by omega)
    have hp : (putHk hs[i]).length = 2 + (Lib.decDigits hs[i].1.toNat).length + 1 + (Lib.decDigits hs[i].2.length).length + 1 + (putLines hs[i].2).length := by
      simp only [putHk, List.length_append, List.length_cons, List.length_nil]
    have hpk : putHk hs[i] = ([64, 32] ++ Lib.decDigits hs[i].1.toNat ++ [32] ++ Lib.decDigits hs[i].2.length ++ [10]) ++ putLines hs[i].2 := rfl
    rw [hpk] at hr
    generalize Lib.decDigits hs[i].1.toNat = d1 at *
    generalize Lib.decDigits hs[i].2.length = d2 at *
    have m1 : l.length + 2 ≤ maxStr := by simp only [maxStr]; omega
    have m2 : l.length + (1 + 1) + d1.length ≤ maxStr := by simp only [maxStr]; omega
    have m3 : l.length + (d1.length + 1 + 1) + 1 ≤ maxStr := by simp only [maxStr]; omega
    have m4 : l.length + (d1.length + 1 + 1 + 1) + d2.length ≤ maxStr := by simp only [maxStr]; omega
    have m5 : l.length + (d1.length + (d2.length + 1) + 1 + 1) + 1 ≤ maxStr := by simp only [maxStr]; omega
    simp [hsz, h0, h3, h4, hlt, e1, e2, m1, m2, m3, m4, m5]
    refine loop_run (fun m e => ∃ k l', m = hs[i].2.length - k ∧ k ≤ hs[i].2.length ∧ e.size = 53 ∧ e.get 0 = .one (.ro (HS hs)) ∧ e.get 3 = .one (.ro (T l')) ∧ e.get 4 = .one (.ro (N i)) ∧ e.get 5 = .one (.ro (N k)) ∧ l' ++ (putLines (hs[i].2.drop k) ++ putHs (hs.drop (i + 1))) = putHs hs)
      ?_ hs[i].2.length _ ⟨0, l ++ 64 :: 32 :: (d1 ++ 32 :: (d2 ++ [10])), rfl, Nat.zero_le _, by simp [hsz], by simp [h0], by simp, by simp [h4], by simp, by rw [← hr]; simp⟩
    clear hr hlen hp hpk h0 h3 h4
    rintro m e' ⟨k, l', rfl, hk, hsz', h0, h3, h4, h5, hr⟩ ih2
    rcases Nat.lt_or_ge k hs[i].2.length with hlt2 | hge2
    · have hwk : IntKind.i64.wrap ((k : Int) + 1) = ((k + 1 : Nat) : Int) := wrap64_succ (by omega)
      have hd2 : hs[i].2.drop k = hs[i].2[k] :: hs[i].2.drop (k + 1) := List.drop_eq_getElem_cons hlt2
      rw [hd2, putLines] at hr
      have hlen := congrArg List.length hr
      simp only [List.length_append, List.length_cons, List.length_nil] at hlen
      have m6 : l'.length + hs[i].2[k].length ≤ maxStr := by simp only [maxStr]; omega
      have m7 : l'.length + hs[i].2[k].length + 1 ≤ maxStr := by simp only [maxStr]; omega
      simp [hsz', h0, h3, h4, h5, hlt, hlt2, hwk, m6, m7]
      exact ih2 _ _ (by omega) ⟨k + 1, l' ++ (hs[i].2[k] ++ [10]), rfl, by omega, by simp [hsz'], by simp [h0], by simp, by simp [h4], by simp, by rw [← hr]; simp⟩
    · obtain rfl : k = hs[i].2.length := by omega
      rw [List.drop_length] at hr
      simp [putLines] at hr
      simp [hsz', h0, h3, h4, h5, hlt, hwi]
      exact ih _ _ (by omega) ⟨i + 1, l', rfl, by omega, by simp [hsz'], by simp [h0], by simp [h3], by simp, hr⟩
  · obtain rfl : i = hs.length := by omega
    rw [List.drop_length] at hr
    simp [putHs] at hr
    simp [hsz, h0, h3, h4, hr]
end Go.Qz

/- What the functions come to: the program's HunksPut, the reference's. -/
namespace Go.Qz
open Go.Proofs

theorem itoaI_ev (a : Int) (h0 : 0 ≤ a) (h1 : a ≤ 1099511627776) : C fn_strconv_Itoa [.ro (.int .i64 a)] [] = some (.one (.ro (T (Lib.decDigits a.toNat))), []) := by
  have h := itoa_ev a (by omega) (by omega)
  have : ¬ a < 0 := by omega
  rw [Lib.itoa, if_neg this] at h
  exact h
theorem itoaN_ev (n : Nat) (h1 : n ≤ 1099511627776) : C fn_strconv_Itoa [.ro (N n)] [] = some (.one (.ro (T (Lib.decDigits n))), []) := itoaI_ev n (by omega) (by omega)
theorem write_ev {a0 : A} (ha : a0 = .bnil 56 ∨ a0 = .selfp) (m l : List UInt8) (h : m.length + l.length ≤ appendMax) :
    C fn_strings_Builder_WriteString [.ptr 5000 0, .ro (T l)] [(5000, [a0, .own (.bs 5 ⟨m.toArray⟩)])] = some (.tup [.ro (N l.length), .ro .nili], [(5000, [.selfp, .own (.bs 5 ⟨(m ++ l).toArray⟩)])]) := by
  rcases ha with rfl | rfl
  · exact write1_ev m l h
  · exact write2_ev m l h
theorem text_ev (a0 : A) (m : List UInt8) : C fn_strings_Builder_String [.ptr 5000 0] [(5000, [a0, .own (.bs 5 ⟨m.toArray⟩)])] = some (.one (.ro (T m)), [(5000, [a0, .dead])]) := string_ev 5000 a0 ⟨m.toArray⟩ (by decide)

theorem HunksPutS_ev (hs : List Hk) (b : Bool) (hok : C fn_s_HunksOk [.ro (HS hs)] [] = some (.one (.ro (.bool b)), [])) (hput : b = true → C fn_s_l5Put [.ro (HS hs)] [] = some (.one (.ro (T (putHs hs))), [])) :
    C fn_s_HunksPut [.ro (HS hs)] [] = some (.one (.ro (T (if b then putHs hs else []))), []) := by
  refine ctx_call Tryd.func10 conv_s_HunksPut rfl ?_
  cases b with
  | false => simp [hok]
  | true =>
    have h2 := hput rfl
    simp [hok, h2]

theorem HunksPutI_ev (hs : List Hk) (b : Bool) (hok : C fn_i_HunksOk [.ro (HS hs)] [] = some (.one (.ro (.bool b)), [])) (hf : b = true → fewHs hs ∧ (putHs hs).length ≤ 1073741824) :
    C fn_i_HunksPut [.ro (HS hs)] [] = some (.one (.ro (T (if b then putHs hs else []))), []) := by
  refine ctx_call Tryd.func12 conv_i_HunksPut rfl ?_
  cases b with
  | false => simp [hok]
  | true =>
    obtain ⟨hf, hB⟩ := hf rfl
    have hN := hf.1
    simp [hok]
    refine loop_run (fun m e => ∃ i l a0, m = hs.length - i ∧ i ≤ hs.length ∧ e.size = 42 ∧ e.get 3 = .one (.ptr 3 0) ∧ e.box 3 = some [a0, .own (.bs 5 ⟨l.toArray⟩)] ∧ (a0 = .bnil 56 ∨ a0 = .selfp) ∧ e.get 11 = .one (.ro (HS hs)) ∧ e.get 12 = .one (.ro (N hs.length)) ∧ e.get 13 = .one (.ro (N i)) ∧ l ++ putHs (hs.drop i) = putHs hs)
      ?_ hs.length _ ⟨0, [], .bnil 56, rfl, Nat.zero_le _, by simp, by simp, by simp; rfl, .inl rfl, by simp, by simp, by simp, rfl⟩
    rintro m e ⟨i, l, a0, rfl, hi, hsz, h3, hb3, ha0, h11, h12, h13, hr⟩ ih
    rcases Nat.lt_or_ge i hs.length with hlt | hge
    · have hwi : IntKind.i64.wrap ((i : Int) + 1) = ((i + 1 : Nat) : Int) := wrap64_succ (by omega)
      have hd : hs.drop i = hs[i] :: hs.drop (i + 1) := List.drop_eq_getElem_cons hlt
      obtain ⟨f1, f2, f3⟩ := hf.2 _ (List.getElem_mem hlt)
      rw [hd, putHs] at hr
      have hlen := congrArg List.length hr
      simp only [List.length_append] at hlen
      have e1 := itoaI_ev hs[i].1 f1 (by omega)
      have e2 := itoaN_ev hs[i].2.length (by omega)
      have hp : (putHk hs[i]).length = 2 + (Lib.decDigits hs[i].1.toNat).length + 1 + (Lib.decDigits hs[i].2.length).length + 1 + (putLines hs[i].2).length := by
        simp only [putHk, List.length_append, List.length_cons, List.length_nil]
      have hpk : putHk hs[i] = ([64, 32] ++ Lib.decDigits hs[i].1.toNat ++ [32] ++ Lib.decDigits hs[i].2.length ++ [10]) ++ putLines hs[i].2 := rfl
      rw [hpk] at hr
      generalize Lib.decDigits hs[i].1.toNat = d1 at *
      generalize Lib.decDigits hs[i].2.length = d2 at *
      have e3 := write_ev ha0 l (64 :: 32 :: (d1 ++ 32 :: (d2 ++ [10]))) (by simp [appendMax]; omega)
      have m2 : 2 + d1.length ≤ maxStr := by simp only [maxStr]; omega
      have m3 : d1.length + 1 + 1 + 1 ≤ maxStr := by simp only [maxStr]; omega
      have m4 : d1.length + 1 + 1 + 1 + d2.length ≤ maxStr := by simp only [maxStr]; omega
      have m5 : d1.length + (d2.length + 1) + 1 + 1 + 1 ≤ maxStr := by simp only [maxStr]; omega
      have go : ∀ e' : Env, e'.size = 42 → e'.get 3 = .one (.ptr 3 0) → e'.box 3 = some [.selfp, .own (.bs 5 ⟨(l ++ 64 :: 32 :: (d1 ++ 32 :: (d2 ++ [10]))).toArray⟩)] → e'.get 11 = .one (.ro (HS hs)) → e'.get 12 = .one (.ro (N hs.length)) → e'.get 13 = .one (.ro (N i)) →
          e'.get 30 = .one (.ro (SS hs[i].2)) → e'.get 31 = .one (.ro (N hs[i].2.length)) → e'.get 32 = .one (.ro (N 0)) →
          Run cx q_i_HunksPut_l0.loop e' [Fr.blk 2, Fr.blk 1, Fr.seq q_i_HunksPut_c2, Fr.loop q_i_HunksPut_l1, Fr.blk 0, Fr.seq q_i_HunksPut_c4, Fr.fn [(ResultVar.tmp 2, 9)] []] = some (V.one (A.ro (T (putHs hs))), []) := by
        intro e' hsz' h3' hb3' h11' h12' h13' h30' h31' h32'
        refine loop_run (fun m e => ∃ k l', m = hs[i].2.length - k ∧ k ≤ hs[i].2.length ∧ e.size = 42 ∧ e.get 3 = .one (.ptr 3 0) ∧ e.box 3 = some [.selfp, .own (.bs 5 ⟨l'.toArray⟩)] ∧ e.get 11 = .one (.ro (HS hs)) ∧ e.get 12 = .one (.ro (N hs.length)) ∧ e.get 13 = .one (.ro (N i)) ∧
            e.get 30 = .one (.ro (SS hs[i].2)) ∧ e.get 31 = .one (.ro (N hs[i].2.length)) ∧ e.get 32 = .one (.ro (N k)) ∧ l' ++ (putLines (hs[i].2.drop k) ++ putHs (hs.drop (i + 1))) = putHs hs)
          ?_ hs[i].2.length _ ⟨0, _, rfl, Nat.zero_le _, hsz', h3', hb3', h11', h12', h13', h30', h31', h32', by rw [← hr]; simp⟩
        clear hsz' h3' hb3' h11' h12' h13' h30' h31' h32' hr hlen hp hpk
        rintro m e' ⟨k, l', rfl, hk, hsz', h3', hb3', h11', h12', h13', h30', h31', h32', hr⟩ ih2
        rcases Nat.lt_or_ge k hs[i].2.length with hlt2 | hge2
        · have hwk : IntKind.i64.wrap ((k : Int) + 1) = ((k + 1 : Nat) : Int) := wrap64_succ (by omega)
          have hd2 : hs[i].2.drop k = hs[i].2[k] :: hs[i].2.drop (k + 1) := List.drop_eq_getElem_cons hlt2
          rw [hd2, putLines] at hr
          have hlen := congrArg List.length hr
          simp only [List.length_append, List.length_cons, List.length_nil] at hlen
          have m7 : hs[i].2[k].length + 1 ≤ maxStr := by simp only [maxStr]; omega
          have e5 := write2_ev l' (hs[i].2[k] ++ [10]) (by simp [appendMax]; omega)
          simp [hsz', h3', hb3', h11', h12', h13', h30', h31', h32', hlt2, hwk, m7, e5]
          exact ih2 _ _ (by omega) ⟨k + 1, l' ++ (hs[i].2[k] ++ [10]), rfl, by omega, by simp [hsz'], by simp [h3'], by simp, by simp [h11'], by simp [h12'], by simp [h13'], by simp [h30'], by simp [h31'], by simp, by rw [← hr]; simp⟩
        · obtain rfl : k = hs[i].2.length := by omega
          rw [List.drop_length] at hr
          simp [putLines] at hr
          simp [hsz', h3', hb3', h11', h12', h13', h30', h31', h32', hwi]
          exact ih _ _ (by omega) ⟨i + 1, l', .selfp, rfl, by omega, by simp [hsz'], by simp [h3'], by simp [hb3'], .inr rfl, by simp [h11'], by simp [h12'], by simp, hr⟩
      rcases ha0 with rfl | rfl
      all_goals
        simp [hsz, h3, hb3, h11, h12, h13, hlt, e1, e2, e3, m2, m3, m4, m5]
        exact go _ (by simp [hsz]) (by simp [h3]) (by simp) (by simp [h11]) (by simp [h12]) (by simp [h13]) (by simp) (by simp) (by simp)
    · obtain rfl : i = hs.length := by omega
      rw [List.drop_length] at hr
      simp [putHs] at hr
      subst hr
      have e4 := text_ev a0 (putHs hs)
      rcases ha0 with rfl | rfl <;> simp [hsz, h3, hb3, h11, h12, h13, e4]
end Go.Qz

/- What the functions come to: the law of HunksPut. -/
namespace Go.Qz
open Go.Proofs

theorem goS_all : ∀ (hs : List Hk) (p : Option Hk), goS p hs = true → ∀ h ∈ hs, hunkS h = true
  | [], _, _, h, hh => by cases hh
  | a :: r, p, hg, h, hh => by
    cases p with
    | none =>
      rw [goS, Bool.and_eq_true] at hg
      cases hh with
      | head => exact hg.1
      | tail _ hh => exact goS_all r _ hg.2 h hh
    | some q =>
      rw [goS] at hg
      simp only [Bool.and_eq_true] at hg
      cases hh with
      | head => simp_all
      | tail _ hh => exact goS_all r (some a) (by simp_all) h hh

theorem putHs_len (hs : List Hk) (b : Nat) (hb : ∀ h ∈ hs, (putHk h).length ≤ b) : (putHs hs).length ≤ hs.length * b := by
  induction hs with
  | nil => simp [putHs]
  | cons h r ih =>
    have h1 := hb h List.mem_cons_self
    have h2 := ih (fun y hy => hb y (List.mem_cons_of_mem _ hy))
    simp only [putHs, List.length_append, List.length_cons, Nat.add_mul, Nat.one_mul]
    omega

theorem few_of_ok (hs : List Hk) (hok : hunksOkS hs = true) (hx : ∀ h ∈ hs, ∀ x ∈ h.2, x.length ≤ 1048576) : fewHs hs ∧ (putHs hs).length ≤ 1073741824 := by
  unfold hunksOkS at hok
  simp only [Bool.and_eq_true, decide_eq_true_eq] at hok
  have hall := goS_all hs none (by simp_all)
  have hlen : hs.length ≤ 4 := by simp_all
  refine ⟨⟨by omega, fun h hh => ?_⟩, ?_⟩
  · obtain ⟨_, _, q3, q4, q5⟩ := hunkS_parts (hall h hh)
    exact ⟨by omega, by omega, by omega⟩
  · have hb : ∀ h ∈ hs, (putHk h).length ≤ 40000000 := by
      intro h hh
      obtain ⟨_, _, q3, q4, q5⟩ := hunkS_parts (hall h hh)
      have h1 := dec_len h.1.toNat
      have h2 := dec_len h.2.length
      have h3 := putLines_len h.2 1048576 (hx h hh)
      have h4 : h.2.length * (1048576 + 1) ≤ 30 * (1048576 + 1) := Nat.mul_le_mul_right _ q3
      simp only [putHk, List.length_append, List.length_cons, List.length_nil]
      omega
    have := putHs_len hs 40000000 hb
    have h5 : hs.length * 40000000 ≤ 4 * 40000000 := Nat.mul_le_mul_right _ hlen
    omega

theorem exactHunksPut_ev (hs : List Hk) (hn : hs.length ≤ 140737488351232) (hn2 : ∀ h ∈ hs, h.2.length ≤ 140737488351232) (hx : ∀ h ∈ hs, ∀ x ∈ h.2, x.length ≤ 140737488351232) :
    C fn_w_FnExactHunksPut [.ro (HS hs)] [] = some (.one (.ro (.bool true)), []) := by
  refine ctx_call Tryd.func3 conv_w_FnExactHunksPut rfl ?_
  have hsz := szHunkS_ev hs 1048576 (by omega) (by omega) hn hn2 hx
  by_cases hneg : szHS hs 1048576 < 0
  · simp [hsz, hneg]
  · obtain ⟨b1, b2⟩ := szHS_all hs 1048576 (by omega)
    have hto := toHunkS_ev hs (by omega) (fun h hh => by have := (b2 h hh).1; omega)
    have hS := HunksOkS_ev hs hn hn2 hx
    have hI := HunksOkI_ev hs hn2
    have heq := eqHunkS_self hs hn hn2
    rw [hunksOk_eq] at hI
    have hfew : hunksOkS hs = true → fewHs hs ∧ (putHs hs).length ≤ 1073741824 := fun h => few_of_ok hs h (fun h hh x hx => by have := (b2 h hh).2 x hx; omega)
    have pS := HunksPutS_ev hs _ hS (fun h => l5Put_ev hs (hfew h).1 (by have := (hfew h).2; omega))
    have pI := HunksPutI_ev hs _ hI hfew
    simp [hsz, hneg, hto, pS, pI, heq]
end Go.Qz
