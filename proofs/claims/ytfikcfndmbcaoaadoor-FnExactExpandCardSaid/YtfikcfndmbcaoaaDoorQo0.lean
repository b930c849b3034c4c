/- The evaluator of the claim and what it says, part Qo0 (several texts in one). -/
import Derived.Test.YtfikcfndmbcaoaaDoorQn0
import Derived.Test.YtfikcfndmbcaoaaDoorQl0
import Derived.Lib.IndexMore
/- The seat's context: what is lent to be written, what comes by contract. -/
namespace Go.Qz
open Go.Proofs

@[simp] def ioS : FuncId → List Nat := fun f => if f = 33 then [999] else []
@[simp] theorem opens_is (f : FuncId) : opensF ioS f = decide (f = 33) := by
  unfold opensF ioS
  by_cases h : f = 33 <;> simp [h]
/-- strings.Index, strings.Cut, codeOf, l1Open. -/
def XE : CallF := fun f us bx =>
  if f = 68 then (match us, bx with
    | [.ro (.str s), .ro (.str t)], [] => if s.size < 4294967281 then some (.one (.ro (.int .i64 (Lib.index s.data.toList t.data.toList))), []) else none
    | _, _ => none)
  else if f = 87 then (match us, bx with
    | [.ro (.str s), .ro (.str t)], [] => if s.size < 4294967281 then some (.tup [.ro (.str ⟨(Lib.cut s.data.toList t.data.toList).1.toArray⟩), .ro (.str ⟨(Lib.cut s.data.toList t.data.toList).2.1.toArray⟩), .ro (.bool (Lib.cut s.data.toList t.data.toList).2.2)], []) else none
    | _, _ => none)
  else if f = 43 then (match us, bx with
    | [.ro .nili], [] => some (.one (.ro (.int .i64 0)), [])
    | [.ro (.iface t (.agg [.int k c]))], [] => if t = 106 && k = .i64 then some (.one (.ro (.int .i64 c)), []) else none
    | _, _ => none)
  else if f = 33 then (match us, bx with
    | [.ro (.sl z xs)], [] => if z = 1 then some (.agg [.ro (.sl 1 (xs.take 2000)), .ro (.int .i64 0)], []) else none
    | _, _ => none)
  else none
noncomputable abbrev C : CallF := callLim Tryd.prog ioS XE
noncomputable abbrev cx : Ctx := ⟨Tryd.prog, ioS, C⟩

theorem index_str (s t : List UInt8) (h : s.length < 4294967281) : C 68 [.ro (.str ⟨s.toArray⟩), .ro (.str ⟨t.toArray⟩)] [] = some (.one (.ro (.int .i64 (Lib.index s t))), []) := callLim_x (by simp [XE, h])
theorem cut_str (s t : List UInt8) (h : s.length < 4294967281) : C 87 [.ro (.str ⟨s.toArray⟩), .ro (.str ⟨t.toArray⟩)] [] = some (.tup [.ro (.str ⟨(Lib.cut s t).1.toArray⟩), .ro (.str ⟨(Lib.cut s t).2.1.toArray⟩), .ro (.bool (Lib.cut s t).2.2)], []) := callLim_x (by simp [XE, h])
theorem code_nil : C 43 [.ro .nili] [] = some (.one (.ro (.int .i64 0)), []) := callLim_x (by simp [XE])
theorem code_err (c : Int) : C 43 [.ro (.iface 106 (.agg [.int .i64 c]))] [] = some (.one (.ro (.int .i64 c)), []) := callLim_x (by simp [XE])
theorem open_ev (xs : List D) : C 33 [.ro (.sl 1 xs)] [] = some (.agg [.ro (.sl 1 (xs.take 2000)), .ro (.int .i64 0)], []) := callLim_x (by simp [XE])
end Go.Qz

/- What the functions come to: sizes. -/
namespace Go.Qz
open Go.Proofs

abbrev Lines := List (List UInt8)
abbrev SS (xs : Lines) : D := .sl 1 (xs.map T)
abbrev I (n : Int) : D := .int .i64 n
abbrev N (n : Nat) : D := .int .i64 (n : Int)

@[simp] theorem flats_T (xs : Lines) : flats (xs.map T) = true := by
  induction xs with
  | nil => rfl
  | cons a r ih => simp [flats, D.flat, ih]

def szL : Lines → Int → Int
  | [], l => l
  | x :: r, l => if l - x.length < 0 then -1 else szL r (l - x.length)
def szSS (xs : Lines) (l : Int) : Int := if l - xs.length < 0 then -1 else szL xs (l - xs.length)

theorem szStringS_ev (xs : Lines) (l : Int) (hl : 0 ≤ l) (hl2 : l ≤ 1048576) (hn : xs.length ≤ 140737488351232) (hx : ∀ x ∈ xs, x.length ≤ 140737488351232) :
    C fn_w_szStringS [.ro (SS xs), .ro (I l)] [] = some (.one (.ro (I (szSS xs l))), []) := by
  refine ctx_call Tryd.func54 conv_w_szStringS rfl ?_
  have h1 : IntKind.i64.wrap (l - xs.length) = l - xs.length := wrap64 (by omega) (by omega)
  unfold szSS
  by_cases hneg : l - xs.length < 0
  · simp [h1, hneg]
  · simp [h1, hneg]
    refine loop_run (fun m e => ∃ i l', m = xs.length - i ∧ i ≤ xs.length ∧ 0 ≤ l' ∧ l' ≤ 1048576 ∧ e.size = 28 ∧ e.get 0 = .one (.ro (SS xs)) ∧ e.get 1 = .one (.ro (I l')) ∧ e.get 5 = .one (.ro (N i)) ∧
      szL (xs.drop i) l' = szL xs (l - xs.length)) ?_ xs.length _ ⟨0, l - xs.length, rfl, Nat.zero_le _, by omega, by omega, by simp, by simp, by simp, by simp, rfl⟩
    rintro m e ⟨i, l', rfl, hi, hl0, hl1, hsz, h0, h1, h5, hr⟩ ih
    rcases Nat.lt_or_ge i xs.length with hlt | hge
    · have hxl := hx xs[i] (List.getElem_mem hlt)
      have hd : xs.drop i = xs[i] :: xs.drop (i + 1) := List.drop_eq_getElem_cons hlt
      have hw : IntKind.i64.wrap (l' - xs[i].length) = l' - xs[i].length := wrap64 (by omega) (by omega)
      rw [hd, szL] at hr
      have hwi : IntKind.i64.wrap ((i : Int) + 1) = ((i + 1 : Nat) : Int) := wrap64_succ (by omega)
      simp [hsz, h0, h1, h5, hlt, hw, hwi]
      split
      · rename_i hc
        rw [if_pos hc] at hr
        simp [← hr]
      · rename_i hc
        rw [if_neg hc] at hr
        exact ih _ _ (by omega) ⟨i + 1, _, rfl, by omega, by omega, by omega, by simp [hsz], by simp [h0], by simp, by simp, hr⟩
    · obtain rfl : i = xs.length := by omega
      simp [szL] at hr
      simp [hsz, h0, h1, h5, hr]
end Go.Qz

/- What the functions come to: plain text. -/
namespace Go.Qz
open Go.Proofs

def plainB (b : UInt8) : Bool := decide (32 ≤ b.toNat) && decide (b.toNat ≤ 126)
def plainT (l : List UInt8) : Bool := decide (l.length ≤ 80) && l.all plainB
def seenT (l : List UInt8) : Bool := l.all plainB && decide (l.length ≤ 80)
theorem seen_plain (l : List UInt8) : seenT l = plainT l := by unfold seenT plainT; exact Bool.and_comm _ _
def inI (n a b : Int) : Bool := decide (a ≤ n) && decide (n ≤ b)

theorem plainByte_ev (b : UInt8) : C fn_i_plainByte [.ro (.int .u8 b.toNat)] [] = some (.one (.ro (.bool (plainB b))), []) := by
  refine ctx_call Tryd.func85 conv_i_plainByte rfl ?_
  unfold plainB
  by_cases h : 32 ≤ b.toNat <;> simp [h]

theorem l1In_ev (n a b : Int) : C fn_s_l1In [.ro (I n), .ro (I a), .ro (I b)] [] = some (.one (.ro (.bool (inI n a b))), []) := by
  refine ctx_call Tryd.func73 conv_s_l1In rfl ?_
  unfold inI
  by_cases h : a ≤ n <;> simp [h]

theorem in_plain (b : UInt8) : inI b.toNat 32 126 = plainB b := by
  unfold inI plainB
  congr 1
  · simp
  · simp

theorem plainText_ev (l : List UInt8) : C fn_i_plainText [.ro (T l)] [] = some (.one (.ro (.bool (plainT l))), []) := by
  refine ctx_call Tryd.func67 conv_i_plainText rfl ?_
  unfold plainT
  by_cases hs : l.length ≤ 80
  · have hs' : ¬ (80 : Int) < l.length := by omega
    simp [hs']
    refine loop_run (fun m e => ∃ i, m = l.length - i ∧ i ≤ l.length ∧ e.size = 18 ∧ e.get 0 = .one (.ro (T l)) ∧ e.get 8 = .one (.ro (N l.length)) ∧ e.get 9 = .one (.ro (N i)) ∧
      (l.drop i).all plainB = l.all plainB) ?_ l.length _ ⟨0, rfl, Nat.zero_le _, by simp, by simp, by simp, by simp, rfl⟩
    rintro m e ⟨i, rfl, hi, hsz, h0, h8, h9, hr⟩ ih
    rcases Nat.lt_or_ge i l.length with hlt | hge
    · have hd : l.drop i = l[i] :: l.drop (i + 1) := List.drop_eq_getElem_cons hlt
      have hwi : IntKind.i64.wrap ((i : Int) + 1) = ((i + 1 : Nat) : Int) := wrap64_succ (by omega)
      rw [hd, List.all_cons] at hr
      cases hp : plainB l[i] with
      | false =>
        rw [hp] at hr
        simp [plainByte_ev, hsz, h0, h8, h9, hlt, hp, hs, ← hr]
      | true =>
        rw [hp, Bool.true_and] at hr
        simp [plainByte_ev, hsz, h0, h8, h9, hlt, hwi, hp]
        exact ih _ _ (by omega) ⟨i + 1, rfl, by omega, by simp [hsz], by simp [h0], by simp [h8], by simp, hr⟩
    · obtain rfl : i = l.length := by omega
      rw [List.drop_length, List.all_nil] at hr
      simp [hsz, h0, h8, h9, hs, ← hr]
  · have hs' : 80 < l.length := by omega
    simp [hs', hs]

theorem l5Seen_ev (l : List UInt8) (hl : l.length ≤ 140737488351232) : C fn_s_l5Seen [.ro (T l)] [] = some (.one (.ro (.bool (seenT l))), []) := by
  refine ctx_call Tryd.func82 conv_s_l5Seen rfl ?_
  unfold seenT
  simp
  refine loop_run (fun m e => ∃ i, m = l.length - i ∧ i ≤ l.length ∧ e.size = 19 ∧ e.get 0 = .one (.ro (T l)) ∧ e.get 3 = .one (.ro (N i)) ∧
    (l.drop i).all plainB = l.all plainB) ?_ l.length _ ⟨0, rfl, Nat.zero_le _, by simp, by simp, by simp, rfl⟩
  rintro m e ⟨i, rfl, hi, hsz, h0, h3, hr⟩ ih
  rcases Nat.lt_or_ge i l.length with hlt | hge
  · have hd : l.drop i = l[i] :: l.drop (i + 1) := List.drop_eq_getElem_cons hlt
    have hwi : IntKind.i64.wrap ((i : Int) + 1) = ((i + 1 : Nat) : Int) := wrap64_succ (by omega)
    have hwb : IntKind.i64.wrap (l[i].toNat : Int) = l[i].toNat := by have := l[i].toNat_lt; exact wrap64 (by omega) (by omega)
    rw [hd, List.all_cons] at hr
    cases hp : plainB l[i] with
    | false =>
      rw [hp] at hr
      simp [l1In_ev, in_plain, hsz, h0, h3, hlt, hwb, hp, ← hr]
    | true =>
      rw [hp, Bool.true_and] at hr
      simp [l1In_ev, in_plain, hsz, h0, h3, hlt, hwi, hwb, hp]
      exact ih _ _ (by omega) ⟨i + 1, rfl, by omega, by simp [hsz], by simp [h0], by simp, hr⟩
  · obtain rfl : i = l.length := by omega
    rw [List.drop_length, List.all_nil] at hr
    simp [hsz, h0, h3, ← hr]
end Go.Qz

/- What the functions come to: names of packs. -/
namespace Go.Qz
open Go.Proofs

def smallB (b : UInt8) : Bool := decide (97 ≤ b.toNat) && decide (b.toNat ≤ 122)
def packB (b : UInt8) : Bool := smallB b || (decide (48 ≤ b.toNat) && decide (b.toNat ≤ 57))
def packOk : List UInt8 → Bool
  | [] => false
  | c :: r => decide (r.length + 1 ≤ 10) && (smallB c && (c :: r).all packB)

theorem packNameOk_ev (l : List UInt8) (hn : l.length ≤ 140737488351232) : C fn_i_packNameOk [.ro (T l)] [] = some (.one (.ro (.bool (packOk l))), []) := by
  refine ctx_call Tryd.func65 conv_i_packNameOk rfl ?_
  cases l with
  | nil => simp [packOk]
  | cons c r =>
    by_cases h1 : 10 < r.length + 1
    · have : ¬ r.length + 1 ≤ 10 := by omega
      have h1i : (10 : Int) < (r.length : Int) + 1 := by omega
      simp [packOk, h1i, this]
    · have h1' : r.length + 1 ≤ 10 := by omega
      have h1i : ¬ (10 : Int) < (r.length : Int) + 1 := by omega
      by_cases h2 : c.toNat < 97
      · have : ¬ 97 ≤ c.toNat := by omega
        simp [packOk, smallB, h1i, h1', h2, this]
      · have h2' : 97 ≤ c.toNat := by omega
        by_cases h3 : 122 < c.toNat
        · have : ¬ c.toNat ≤ 122 := by omega
          simp [packOk, smallB, h1i, h1', h2, h2', h3, this]
        · have h3' : c.toNat ≤ 122 := by omega
          have hp : packOk (c :: r) = (c :: r).all packB := by simp [packOk, smallB, h1', h2', h3']
          rw [hp]
          simp [h1i, h2, h3]
          generalize hl : c :: r = l at *
          have hlen : l.length = r.length + 1 := by rw [← hl]; rfl
          have hc : (r.length : Int) + 1 = (l.length : Int) := by rw [hlen]; rfl
          have hr0 : (packB c && r.all packB) = l.all packB := by rw [← hl]; rfl
          rw [hr0]
          refine loop_run (fun m e => ∃ i, m = l.length - i ∧ i ≤ l.length ∧ e.size = 49 ∧ e.get 0 = .one (.ro (T l)) ∧ e.get 22 = .one (.ro (N l.length)) ∧ e.get 23 = .one (.ro (N i)) ∧ (l.drop i).all packB = l.all packB)
            ?_ l.length _ ⟨0, rfl, Nat.zero_le _, by simp, by simp, by simp [hc], by simp, rfl⟩
          clear hl hp hr0 hc hlen
          rintro m e ⟨i, rfl, hi, hsz, h0, h22, h23, hr⟩ ih
          rcases Nat.lt_or_ge i l.length with hlt | hge
          · have hwi : IntKind.i64.wrap ((i : Int) + 1) = ((i + 1 : Nat) : Int) := wrap64_succ (by omega)
            have hd : l.drop i = l[i] :: l.drop (i + 1) := List.drop_eq_getElem_cons hlt
            rw [hd, List.all_cons] at hr
            have hb : packB l[i] = (decide (97 ≤ l[i].toNat) && decide (l[i].toNat ≤ 122) || (decide (48 ≤ l[i].toNat) && decide (l[i].toNat ≤ 57))) := rfl
            rw [hb] at hr
            by_cases hA : l[i].toNat < 97
            · have a1 : ¬ 97 ≤ l[i].toNat := by omega
              by_cases hC : l[i].toNat < 48
              · have c1 : ¬ 48 ≤ l[i].toNat := by omega
                simp [a1, c1] at hr
                simp [hsz, h0, h22, h23, hlt, hA, hC, hr]
              · have c1 : 48 ≤ l[i].toNat := by omega
                by_cases hD : 57 < l[i].toNat
                · have d1 : ¬ l[i].toNat ≤ 57 := by omega
                  simp [a1, c1, d1] at hr
                  simp [hsz, h0, h22, h23, hlt, hA, hC, hD, hr]
                · have d1 : l[i].toNat ≤ 57 := by omega
                  simp [a1, c1, d1] at hr
                  simp [hsz, h0, h22, h23, hlt, hA, hC, hD, hwi]
                  exact ih _ _ (by omega) ⟨i + 1, rfl, by omega, by simp [hsz], by simp [h0], by simp [h22], by simp, by simpa using hr⟩
            · have a1 : 97 ≤ l[i].toNat := by omega
              by_cases hB : 122 < l[i].toNat
              · have b1 : ¬ l[i].toNat ≤ 122 := by omega
                have c1 : ¬ l[i].toNat < 48 := by omega
                have d1 : 57 < l[i].toNat := by omega
                have d2 : ¬ l[i].toNat ≤ 57 := by omega
                simp [b1, d2] at hr
                simp [hsz, h0, h22, h23, hlt, hA, hB, c1, d1, hr]
              · have b1 : l[i].toNat ≤ 122 := by omega
                simp [a1, b1] at hr
                simp [hsz, h0, h22, h23, hlt, hA, hB, hwi]
                exact ih _ _ (by omega) ⟨i + 1, rfl, by omega, by simp [hsz], by simp [h0], by simp [h22], by simp, by simpa using hr⟩
          · obtain rfl : i = l.length := by omega
            rw [List.drop_length] at hr
            simp at hr
            simp [hsz, h0, h22, h23, hr]
            exact hr

def digB (b : UInt8) : Bool := decide (48 ≤ b.toNat) && decide (b.toNat ≤ 57)
def sufS (i : Nat) : List UInt8 → Bool
  | [] => true
  | c :: r => (smallB c || (decide (i ≠ 0) && digB c)) && r.all packB
def packS (l : List UInt8) : Bool := sufS 0 l && inI l.length 1 10
theorem sufS_pos (i : Nat) (hi : i ≠ 0) (l : List UInt8) : sufS i l = l.all packB := by
  cases l with
  | nil => rfl
  | cons c r => simp [sufS, hi, packB, digB]
theorem packS_eq (l : List UInt8) : packS l = packOk l := by
  cases l with
  | nil => rfl
  | cons c r =>
    have hp : (smallB c && (c :: r).all packB) = (smallB c && r.all packB) := by
      cases h : smallB c <;> simp [packB, h]
    show packS (c :: r) = (decide (r.length + 1 ≤ 10) && (smallB c && (c :: r).all packB))
    rw [hp]
    have hin : inI ((c :: r).length) 1 10 = decide (r.length + 1 ≤ 10) := by
      unfold inI
      have : ((1 : Int) ≤ ((c :: r).length : Nat)) = True := by simp
      simp [this]
      exact ⟨fun h => by omega, fun h => by omega⟩
    unfold packS sufS
    rw [hin, Bool.and_comm]
    simp

theorem l3Pack_ev (l : List UInt8) (hn : l.length ≤ 140737488351232) : C fn_s_l3Pack [.ro (T l)] [] = some (.one (.ro (.bool (packS l))), []) := by
  refine ctx_call Tryd.func72 conv_s_l3Pack rfl ?_
  simp
  unfold packS
  refine loop_run (fun m e => ∃ i, m = l.length - i ∧ i ≤ l.length ∧ e.size = 42 ∧ e.get 0 = .one (.ro (T l)) ∧ e.get 3 = .one (.ro (N i)) ∧ (sufS i (l.drop i) && inI l.length 1 10) = (sufS 0 l && inI l.length 1 10))
    ?_ l.length _ ⟨0, rfl, Nat.zero_le _, by simp, by simp, by simp, rfl⟩
  rintro m e ⟨i, rfl, hi, hsz, h0, h3, hr⟩ ih
  rcases Nat.lt_or_ge i l.length with hlt | hge
  · have hwi : IntKind.i64.wrap ((i : Int) + 1) = ((i + 1 : Nat) : Int) := wrap64_succ (by omega)
    have hd : l.drop i = l[i] :: l.drop (i + 1) := List.drop_eq_getElem_cons hlt
    rw [hd, sufS] at hr
    have hnx : sufS (i + 1) (l.drop (i + 1)) = (l.drop (i + 1)).all packB := sufS_pos _ (by omega) _
    by_cases hA : 97 ≤ l[i].toNat
    · by_cases hB : l[i].toNat ≤ 122
      · have hs : smallB l[i] = true := by simp [smallB, hA, hB]
        rw [hs] at hr
        simp only [Bool.true_or, Bool.true_and] at hr
        simp [hsz, h0, h3, hlt, hA, hB, hwi]
        exact ih _ _ (by omega) ⟨i + 1, rfl, by omega, by simp [hsz], by simp [h0], by simp, by rw [hnx]; exact hr⟩
      · have hs : smallB l[i] = false := by simp [smallB, hB]
        have c1 : ¬ l[i].toNat < 48 := by omega
        have d1 : 57 < l[i].toNat := by omega
        have hg : digB l[i] = false := by have : ¬ l[i].toNat ≤ 57 := by omega
                                          simp [digB, this]
        rw [hs, hg] at hr
        simp only [Bool.false_or, Bool.and_false, Bool.false_and] at hr
        by_cases hi0 : i = 0
        · subst hi0
          simp [hsz, h0, h3, hlt, hA, hB, ← hr]
        · have hb0 : (i == 0) = false := by simpa using hi0
          simp [hsz, h0, h3, hlt, hA, hB, hb0, c1, d1, ← hr]
    · have hs : smallB l[i] = false := by simp [smallB, hA]
      rw [hs] at hr
      simp only [Bool.false_or] at hr
      by_cases hi0 : i = 0
      · subst hi0
        simp at hr
        simp [hsz, h0, h3, hlt, hA]
        exact hr
      · have hb0 : (i == 0) = false := by simpa using hi0
        simp only [ne_eq, hi0, not_false_eq_true, decide_true, Bool.true_and] at hr
        by_cases hC : l[i].toNat < 48
        · have hg : digB l[i] = false := by have : ¬ 48 ≤ l[i].toNat := by omega
                                            simp [digB, this]
          rw [hg] at hr
          simp only [Bool.false_and] at hr
          simp [hsz, h0, h3, hlt, hA, hb0, hC, ← hr]
        · by_cases hD : 57 < l[i].toNat
          · have hg : digB l[i] = false := by have : ¬ l[i].toNat ≤ 57 := by omega
                                              simp [digB, this]
            rw [hg] at hr
            simp only [Bool.false_and] at hr
            simp [hsz, h0, h3, hlt, hA, hb0, hC, hD, ← hr]
          · have hg : digB l[i] = true := by
              have a1 : 48 ≤ l[i].toNat := by omega
              have a2 : l[i].toNat ≤ 57 := by omega
              simp [digB, a1, a2]
            rw [hg] at hr
            simp only [Bool.true_and] at hr
            simp [hsz, h0, h3, hlt, hA, hb0, hC, hD, hwi]
            exact ih _ _ (by omega) ⟨i + 1, rfl, by omega, by simp [hsz], by simp [h0], by simp, by rw [hnx]; exact hr⟩
  · obtain rfl : i = l.length := by omega
    rw [List.drop_length] at hr
    have e0 : sufS l.length ([] : List UInt8) = true := rfl
    rw [e0, Bool.true_and] at hr
    have hin := l1In_ev l.length 1 10
    simp [hsz, h0, h3, hin, ← hr]
end Go.Qz

/- What expansion comes to: a plain law. -/
namespace Go.Qz
open Go.Proofs

abbrev Fl := List UInt8 × List UInt8
abbrev FD (f : Fl) : D := .agg [T f.1, T f.2]
abbrev FS (fs : List Fl) : D := .sl 2 (fs.map FD)
@[simp] theorem flats_FD (fs : List Fl) : flats (fs.map FD) = true := by
  induction fs with
  | nil => rfl
  | cons a r ih => simp [flats, D.flat, ih]

/-- What stands ahead of the first closing brace, and behind it. -/
def cutB : List UInt8 → Option (List UInt8 × List UInt8)
  | [] => none
  | c :: r => if c == 125 then some ([], r) else (cutB r).map fun p => (c :: p.1, p.2)
theorem cutB_len : ∀ {d n r : List UInt8}, cutB d = some (n, r) → d.length = n.length + 1 + r.length
  | [], n, r, h => by cases h
  | c :: d, n, r, h => by
    unfold cutB at h
    split at h
    · cases h; simp; omega
    · obtain ⟨p, hp, he⟩ := Option.map_eq_some_iff.1 h
      cases he
      have := cutB_len hp
      simp at this ⊢
      omega
def isMark : List UInt8 → Bool
  | a :: b :: _ => a == 36 && b == 123
  | _ => false

/-- A text's names in the places of which stands what 'var' says: the code, and the text. -/
def exLoop (var : List UInt8 → Nat × List UInt8) (out : List UInt8) (text : List UInt8) : Nat × List UInt8 :=
  match text with
  | [] => if 80 < out.length then (5, []) else (0, out)
  | c :: r => if isMark (c :: r) then
      match h : cutB (r.drop 1) with
      | none => (1, [])
      | some p => if packOk p.1 then
          (if (var p.1).1 = 0 then (if 80 < (out ++ (var p.1).2).length then (5, []) else exLoop var (out ++ (var p.1).2) p.2) else ((var p.1).1, []))
        else (1, [])
    else exLoop var (out ++ [c]) r
termination_by text.length
decreasing_by
  · have := cutB_len h
    simp only [List.length_drop, List.length_cons] at this ⊢
    omega
  · simp

section
variable {var : List UInt8 → Nat × List UInt8} {out text : List UInt8}
theorem exLoop_nil : exLoop var out [] = if 80 < out.length then (5, []) else (0, out) := by rw [exLoop]
theorem exLoop_char {c : UInt8} {r : List UInt8} (h : isMark (c :: r) = false) : exLoop var out (c :: r) = exLoop var (out ++ [c]) r := by rw [exLoop]; simp [h]
theorem exLoop_none {a b : UInt8} {r : List UInt8} (h : isMark (a :: b :: r) = true) (hc : cutB r = none) : exLoop var out (a :: b :: r) = (1, []) := by
  rw [exLoop]
  simp only [h, if_true, List.drop_succ_cons, List.drop_zero]
  split
  · rfl
  · rename_i p hp
    have hp' : cutB r = some p := hp
    rw [hc] at hp'
    cases hp'
theorem exLoop_some {a b : UInt8} {r n rest : List UInt8} (h : isMark (a :: b :: r) = true) (hc : cutB r = some (n, rest)) : exLoop var out (a :: b :: r) =
    if packOk n then (if (var n).1 = 0 then (if 80 < (out ++ (var n).2).length then (5, []) else exLoop var (out ++ (var n).2) rest) else ((var n).1, [])) else (1, []) := by
  rw [exLoop]
  simp only [h, if_true, List.drop_succ_cons, List.drop_zero]
  split
  · rename_i hp
    have hp' : cutB r = none := hp
    rw [hc] at hp'
    cases hp'
  · rename_i p hp
    have hp' : cutB r = some p := hp
    rw [hc] at hp'
    cases hp'
    rfl
end

def idxN (n : List UInt8) : List Fl → Nat → Int
  | [], _ => -1
  | f :: r, i => if f.1 == n then i else idxN n r (i + 1)
def findT (n : List UInt8) : List Fl → Option (List UInt8)
  | [] => none
  | f :: r => if f.1 == n then some f.2 else findT n r
theorem idx_find (n : List UInt8) : ∀ (fs : List Fl) (i : Nat), (idxN n fs i = -1 ∧ findT n fs = none) ∨ ∃ k, idxN n fs i = ((i + k : Nat) : Int) ∧ ∃ h : k < fs.length, findT n fs = some fs[k].2 ∧ fs[k].1 = n
  | [], i => .inl ⟨rfl, rfl⟩
  | f :: r, i => by
    unfold idxN findT
    cases hf : f.1 == n with
    | true => exact .inr ⟨0, by simp, by simp, by simp, by simpa using hf⟩
    | false =>
      rcases idx_find n r (i + 1) with ⟨h1, h2⟩ | ⟨k, h1, h, h2, h3⟩
      · exact .inl ⟨by simpa using h1, by simpa using h2⟩
      · refine .inr ⟨k + 1, ?_, by simpa using h, by simpa using h2, by simpa using h3⟩
        simp only [Bool.false_eq_true, if_false, h1]
        omega

/-- What a name stands for, behind others that are being put: the code, and the text. 'd': how deep it may go on. -/
def exVar (lets : List Fl) : Nat → Lines → List UInt8 → Nat × List UInt8
  | 0, _, _ => (4, [])
  | d + 1, us, n => match findT n lets with
    | none => (3, [])
    | some t => if us.contains n then (4, []) else exLoop (exVar lets d (us ++ [n])) [] t

/-- Enough depth is left. -/
structure Deep (lets : List Fl) (d : Nat) (us : Lines) : Prop where
  nodup : us.Nodup
  sub : ∀ x ∈ us, x ∈ lets.map (·.1)
  enough : lets.length + 1 ≤ d + us.length
theorem nodup_len {α : Type} [BEq α] [LawfulBEq α] : ∀ {us l : List α}, us.Nodup → (∀ x ∈ us, x ∈ l) → us.length ≤ l.length
  | [], l, _, _ => Nat.zero_le _
  | a :: us, l, hn, hs => by
    rw [List.nodup_cons] at hn
    have ha := hs a List.mem_cons_self
    have := nodup_len (us := us) (l := l.erase a) hn.2 (fun x hx => (List.mem_erase_of_ne (fun e => by rw [e] at hx; exact hn.1 hx)).2 (hs x (List.mem_cons_of_mem _ hx)))
    rw [List.length_erase_of_mem ha] at this
    have := List.length_pos_of_mem ha
    simp
    omega
theorem Deep.pos {lets : List Fl} {d : Nat} {us : Lines} (h : Deep lets d us) : 0 < d := by
  rcases Nat.eq_zero_or_pos d with rfl | h0
  · have h1 := nodup_len h.nodup h.sub
    have := h.enough
    simp at h1
    omega
  · exact h0
theorem Deep.next {lets : List Fl} {d : Nat} {us : Lines} {n : List UInt8} (h : Deep lets (d + 1) us) (hn : us.contains n = false) (hm : n ∈ lets.map (·.1)) : Deep lets d (us ++ [n]) where
  nodup := by
    rw [List.nodup_append]
    refine ⟨h.nodup, by simp, fun a ha b hb => ?_⟩
    simp at hb
    subst hb
    rintro rfl
    simp at hn
    exact hn ha
  sub := fun x hx => by
    rcases List.mem_append.1 hx with h1 | h1
    · exact h.sub x h1
    · simp at h1; subst h1; exact hm
  enough := by have := h.enough; simp; omega
end Go.Qz

/- What the functions come to: names in texts, of the reference. -/
namespace Go.Qz
open Go.Proofs

/-- The answer about a name. -/
def nameV : Option (List UInt8 × List UInt8) → V
  | none => .tup [.ro (T []), .ro (T []), .ro (.bool false)]
  | some p => .tup [.ro (T p.1), .ro (T p.2), .ro (.bool (packOk p.1))]

theorem l4Name_ev (a b : UInt8) (d : List UInt8) (hn : d.length ≤ 1000000) : C fn_s_l4Name [.ro (T (a :: b :: d))] [] = some (nameV (cutB d), []) := by
  refine ctx_call Tryd.func74 conv_s_l4Name rfl ?_
  simp
  generalize ht : a :: b :: d = t at *
  have hd0 : t.drop 2 = d := by rw [← ht]; rfl
  have hlen : t.length = d.length + 2 := by rw [← ht]; rfl
  refine loop_run (fun m e => ∃ i, m = t.length - i ∧ 2 ≤ i ∧ i ≤ t.length ∧ e.size = 27 ∧ e.get 0 = .one (.ro (T t)) ∧ e.get 5 = .one (.ro (N i)) ∧ (cutB (t.drop i)).map (fun p => ((t.take i).drop 2 ++ p.1, p.2)) = cutB d)
    ?_ (t.length - 2) _ ⟨2, rfl, Nat.le_refl _, by omega, by simp, by simp, by simp, ?_⟩
  · rintro m e ⟨i, rfl, h2, hi, hsz, h0, h5, hr⟩ ih
    rcases Nat.lt_or_ge i t.length with hlt | hge
    · have hwi : IntKind.i64.wrap ((i : Int) + 1) = ((i + 1 : Nat) : Int) := wrap64_succ (by omega)
      have hd : t.drop i = t[i] :: t.drop (i + 1) := List.drop_eq_getElem_cons hlt
      rw [hd, cutB] at hr
      cases hc : t[i] == 125 with
      | true =>
        rw [hc] at hr
        simp at hr
        have hl := l3Pack_ev ((t.take i).drop 2) (by simp; omega)
        rw [packS_eq] at hl
        have h3i : (0 : Int) ≤ (i : Int) + 1 := by omega
        have h4i : (i : Int) + 1 ≤ (t.length : Int) := by omega
        have h5i : ((i : Int) + 1).toNat = i + 1 := by omega
        simp [hsz, h0, h5, hlt, hc, hwi, hl, ← hr, nameV, h2, hi, h3i, h4i, h5i]
      | false =>
        rw [hc] at hr
        simp at hr
        simp [hsz, h0, h5, hlt, hc, hwi]
        refine ih _ _ (by omega) ⟨i + 1, rfl, by omega, by omega, by simp [hsz], by simp [h0], by simp, ?_⟩
        rw [← hr]
        have ht2 : t.take (i + 1) = t.take i ++ [t[i]] := List.take_succ_eq_append_getElem hlt
        rw [ht2, List.drop_append_of_le_length (by simp; omega)]
        cases cutB (t.drop (i + 1)) <;> simp
    · obtain rfl : i = t.length := by omega
      rw [List.drop_length] at hr
      simp [cutB] at hr
      simp [hsz, h0, h5, ← hr, nameV]
  · rw [hd0]
    have : (t.take 2).drop 2 = [] := by rw [List.drop_eq_nil_iff]; simp; omega
    rw [this]
    cases cutB d <;> simp
end Go.Qz

/- What the functions come to: forms of expansion, of the reference. -/
namespace Go.Qz
open Go.Proofs

theorem l4Let_ev (fs : List Fl) (n : List UInt8) (hn : fs.length ≤ 1000000) : C fn_s_l4Let [.ro (FS fs), .ro (T n)] [] = some (.one (.ro (I (idxN n fs 0))), []) := by
  refine ctx_call Tryd.func75 conv_s_l4Let rfl ?_
  simp
  refine loop_run (fun m e => ∃ i, m = fs.length - i ∧ i ≤ fs.length ∧ e.size = 20 ∧ e.get 0 = .one (.ro (FS fs)) ∧ e.get 1 = .one (.ro (T n)) ∧ e.get 5 = .one (.ro (N i)) ∧ idxN n (fs.drop i) i = idxN n fs 0)
    ?_ fs.length _ ⟨0, rfl, Nat.zero_le _, by simp, by simp, by simp, by simp, rfl⟩
  rintro m e ⟨i, rfl, hi, hsz, h0, h1, h5, hr⟩ ih
  rcases Nat.lt_or_ge i fs.length with hlt | hge
  · have hwi : IntKind.i64.wrap ((i : Int) + 1) = ((i + 1 : Nat) : Int) := wrap64_succ (by omega)
    have hd : fs.drop i = fs[i] :: fs.drop (i + 1) := List.drop_eq_getElem_cons hlt
    rw [hd, idxN] at hr
    cases hc : fs[i].1 == n with
    | true =>
      rw [hc] at hr
      simp only [if_true] at hr
      simp [hsz, h0, h1, h5, hlt, hc, ← hr]
    | false =>
      rw [hc] at hr
      simp only [Bool.false_eq_true, if_false] at hr
      simp [hsz, h0, h1, h5, hlt, hc, hwi]
      exact ih _ _ (by omega) ⟨i + 1, rfl, by omega, by simp [hsz], by simp [h0], by simp [h1], by simp, hr⟩
  · obtain rfl : i = fs.length := by omega
    rw [List.drop_length, idxN] at hr
    simp [hsz, h0, h1, h5, ← hr]

/-- A line that may be in a recipe. -/
def lineB (l : List UInt8) : Bool := l.all plainB && inI l.length 1 80
theorem l4Plain_ev (l : List UInt8) (hn : l.length ≤ 140737488351232) : C fn_s_l4Plain [.ro (T l)] [] = some (.one (.ro (.bool (lineB l))), []) := by
  refine ctx_call Tryd.func45 conv_s_l4Plain rfl ?_
  simp
  unfold lineB
  refine loop_run (fun m e => ∃ i, m = l.length - i ∧ i ≤ l.length ∧ e.size = 19 ∧ e.get 0 = .one (.ro (T l)) ∧ e.get 3 = .one (.ro (N i)) ∧ ((l.drop i).all plainB && inI l.length 1 80) = (l.all plainB && inI l.length 1 80))
    ?_ l.length _ ⟨0, rfl, Nat.zero_le _, by simp, by simp, by simp, rfl⟩
  rintro m e ⟨i, rfl, hi, hsz, h0, h3, hr⟩ ih
  rcases Nat.lt_or_ge i l.length with hlt | hge
  · have hwi : IntKind.i64.wrap ((i : Int) + 1) = ((i + 1 : Nat) : Int) := wrap64_succ (by omega)
    have hd : l.drop i = l[i] :: l.drop (i + 1) := List.drop_eq_getElem_cons hlt
    have hin := l1In_ev l[i].toNat 32 126
    have hw : IntKind.i64.wrap (l[i].toNat : Int) = (l[i].toNat : Int) := wrap64 (by omega) (by have := l[i].toNat_lt; omega)
    rw [in_plain] at hin
    rw [hd, List.all_cons] at hr
    cases hc : plainB l[i] with
    | false =>
      rw [hc] at hin hr
      simp only [Bool.false_and] at hr
      simp [hsz, h0, h3, hlt, hin, hw, ← hr]
    | true =>
      rw [hc] at hin hr
      simp only [Bool.true_and] at hr
      simp [hsz, h0, h3, hlt, hin, hw, hwi]
      exact ih _ _ (by omega) ⟨i + 1, rfl, by omega, by simp [hsz], by simp [h0], by simp, hr⟩
  · obtain rfl : i = l.length := by omega
    rw [List.drop_length] at hr
    simp only [List.all_nil, Bool.true_and] at hr
    have hin := l1In_ev l.length 1 80
    simp [hsz, h0, h3, hin, ← hr]

def letB (f : Fl) : Bool := packOk f.1 && lineB f.2
def letsB (fs : List Fl) : Bool := fs.all letB && decide (fs.length ≤ 8)
theorem l4Lets_ev (fs : List Fl) (hn : fs.length ≤ 140737488351232) (hx : ∀ f ∈ fs, f.1.length ≤ 140737488351232 ∧ f.2.length ≤ 140737488351232) : C fn_s_l4Lets [.ro (FS fs)] [] = some (.one (.ro (.bool (letsB fs))), []) := by
  refine ctx_call Tryd.func44 conv_s_l4Lets rfl ?_
  simp
  unfold letsB
  refine loop_run (fun m e => ∃ i, m = fs.length - i ∧ i ≤ fs.length ∧ e.size = 29 ∧ e.get 0 = .one (.ro (FS fs)) ∧ e.get 3 = .one (.ro (N i)) ∧ ((fs.drop i).all letB && decide (fs.length ≤ 8)) = (fs.all letB && decide (fs.length ≤ 8)))
    ?_ fs.length _ ⟨0, rfl, Nat.zero_le _, by simp, by simp, by simp, rfl⟩
  rintro m e ⟨i, rfl, hi, hsz, h0, h3, hr⟩ ih
  rcases Nat.lt_or_ge i fs.length with hlt | hge
  · have hwi : IntKind.i64.wrap ((i : Int) + 1) = ((i + 1 : Nat) : Int) := wrap64_succ (by omega)
    have hd : fs.drop i = fs[i] :: fs.drop (i + 1) := List.drop_eq_getElem_cons hlt
    obtain ⟨x1, x2⟩ := hx _ (List.getElem_mem hlt)
    have hp := l3Pack_ev fs[i].1 x1
    rw [packS_eq] at hp
    have hl := l4Plain_ev fs[i].2 x2
    rw [hd, List.all_cons] at hr
    rw [show letB fs[i] = (packOk fs[i].1 && lineB fs[i].2) from rfl] at hr
    cases h1 : packOk fs[i].1 <;> cases h2 : lineB fs[i].2 <;> rw [h1] at hp <;> rw [h2] at hl <;> rw [h1, h2] at hr <;> simp only [Bool.false_and, Bool.true_and, Bool.and_false] at hr
    · simp [hsz, h0, h3, hlt, hp, ← hr]
    · simp [hsz, h0, h3, hlt, hp, ← hr]
    · simp [hsz, h0, h3, hlt, hp, hl, ← hr]
    · simp [hsz, h0, h3, hlt, hp, hl, hwi]
      exact ih _ _ (by omega) ⟨i + 1, rfl, by omega, by simp [hsz], by simp [h0], by simp, hr⟩
  · obtain rfl : i = fs.length := by omega
    rw [List.drop_length] at hr
    simp only [List.all_nil, Bool.true_and] at hr
    simp [hsz, h0, h3, ← hr]
end Go.Qz

/- What the functions come to: the reference's expansion. -/
namespace Go.Qz
open Go.Proofs

/-- Variables of which each is short. -/
structure Lets (lets : List Fl) : Prop where
  len : lets.length ≤ 8
  text : ∀ f ∈ lets, f.2.length ≤ 80

theorem isMark_two {t : List UInt8} (h : isMark t = true) : ∃ r, t = 36 :: 123 :: r := by
  match t, h with
  | a :: b :: r, h =>
    simp only [isMark, Bool.and_eq_true, beq_iff_eq] at h
    exact ⟨r, by rw [h.1, h.2]⟩

theorem exLoop_len (var : List UInt8 → Nat × List UInt8) : ∀ (k : Nat) (out text : List UInt8), text.length ≤ k → (exLoop var out text).2.length ≤ 80
  | k, out, [], _ => by rw [exLoop_nil]; split <;> simp; omega
  | 0, out, c :: r, h => by simp at h
  | k + 1, out, c :: r, h => by
    cases hm : isMark (c :: r) with
    | false =>
      rw [exLoop_char hm]
      exact exLoop_len var k _ _ (by simp at h; omega)
    | true =>
      obtain ⟨q, hq⟩ := isMark_two hm
      rw [hq] at hm h ⊢
      cases hc : cutB q with
      | none => rw [exLoop_none hm hc]; simp
      | some p =>
        have := cutB_len (n := p.1) (r := p.2) hc
        rw [exLoop_some hm hc]
        split
        · split
          · split
            · simp
            · exact exLoop_len var k _ _ (by simp at h; omega)
          · simp
        · simp
theorem exVar_len (lets : List Fl) : ∀ (d : Nat) (us : Lines) (n : List UInt8), (exVar lets d us n).2.length ≤ 80
  | 0, _, _ => by simp [exVar]
  | d + 1, us, n => by
    unfold exVar
    split
    · simp
    · split
      · simp
      · exact exLoop_len _ _ _ _ (Nat.le_refl _)

theorem l4Expand_ev (lets : List Fl) (hl : Lets lets) : ∀ (d : Nat) (us : Lines) (text : List UInt8), Deep lets d us → text.length ≤ 80 →
    C fn_s_l4Expand [.ro (FS lets), .ro (T text), .ro (SS us)] [] = some (.tup [.ro (T (exLoop (exVar lets d us) [] text).2), .ro (N (exLoop (exVar lets d us) [] text).1)], []) := by
  intro d
  induction d with
  | zero => intro us text hd; exact absurd hd.pos (Nat.lt_irrefl 0)
  | succ d ihd =>
    intro us text hd ht
    have hul : us.length ≤ 8 := by
      have := nodup_len hd.nodup hd.sub
      simp at this
      exact Nat.le_trans this hl.len
    refine ctx_call Tryd.func46 conv_s_l4Expand rfl ?_
    simp
    refine loop_run (fun m e => ∃ out t, m = t.length ∧ t.length ≤ 80 ∧ out.length + t.length ≤ 170 ∧ e.size = 89 ∧ e.get 0 = .one (.ro (FS lets)) ∧ e.get 1 = .one (.ro (T t)) ∧ e.get 2 = .one (.ro (SS us)) ∧ e.get 8 = .one (.ro (T out)) ∧
        exLoop (exVar lets (d + 1) us) out t = exLoop (exVar lets (d + 1) us) [] text)
      ?_ text.length _ ⟨[], text, rfl, ht, by simp; omega, by simp, by simp, by simp, by simp, by simp, rfl⟩
    rintro m e ⟨out, t, rfl, ht, hot, hsz, h0, h1, h2, h8, hr⟩ ih
    cases t with
    | nil =>
      rw [exLoop_nil] at hr
      by_cases hlo : 80 < out.length
      · rw [if_pos hlo] at hr
        simp [hsz, h0, h1, h2, h8, hlo, ← hr]
      · rw [if_neg hlo] at hr
        simp [hsz, h0, h1, h2, h8, hlo, ← hr]
    | cons c r =>
      have hms : out.length + 1 ≤ maxStr := by simp [maxStr]; simp at hot; omega
      cases r with
      | nil =>
        rw [exLoop_char (by rfl)] at hr
        simp [hsz, h0, h1, h2, h8, hms]
        exact ih _ _ (by simp) ⟨out ++ [c], [], rfl, by simp, by simp at hot ⊢; omega, by simp [hsz], by simp [h0], by simp; rfl, by simp [h2], by simp, hr⟩
      | cons b q =>
        have f1 : ¬ ((q.length : Int) + 1 + 1 < 2) := by omega
        have f2 : (2 : Int) ≤ (q.length : Int) + 1 + 1 := by omega
        have f3 : (1 : Int) ≤ (q.length : Int) + 1 + 1 := by omega
        cases hm : isMark (c :: b :: q) with
        | false =>
          rw [exLoop_char hm] at hr
          have hne : ([c, b] == [36, 123]) = false := by
            simp only [isMark] at hm
            simpa using hm
          simp [hsz, h0, h1, h2, h8, hms, hne, f1, f2, f3]
          exact ih _ _ (by simp) ⟨out ++ [c], b :: q, rfl, by simp at ht ⊢; omega, by simp at hot ⊢; omega, by simp [hsz], by simp [h0], by simp, by simp [h2], by simp, hr⟩
        | true =>
          obtain ⟨q', hq'⟩ := isMark_two hm
          simp only [List.cons.injEq] at hq'
          obtain ⟨rfl, rfl, rfl⟩ := hq'
          have hname := l4Name_ev 36 123 q (by simp at ht; omega)
          cases hc : cutB q with
          | none =>
            rw [exLoop_none hm hc] at hr
            rw [hc] at hname
            simp only [nameV] at hname
            have hlet := l4Let_ev lets [] (by have := hl.len; omega)
            simp [hsz, h0, h1, h2, h8, f1, f2, hname, hlet, ← hr]
          | some p =>
            obtain ⟨n, rest⟩ := p
            have hcl := cutB_len hc
            rw [exLoop_some hm hc] at hr
            rw [hc] at hname
            simp only [nameV] at hname
            have hlet := l4Let_ev lets n (by have := hl.len; omega)
            cases hp : packOk n with
            | false =>
              rw [hp] at hname hr
              simp only [Bool.false_eq_true, if_false] at hr
              simp [hsz, h0, h1, h2, h8, f1, f2, hname, hlet, ← hr]
            | true =>
              rw [hp] at hname hr
              simp only [if_true] at hr
              rcases idx_find n lets 0 with ⟨x1, x2⟩ | ⟨k, x1, hk, x2, x3⟩
              · rw [x1] at hlet
                have hv : exVar lets (d + 1) us n = (3, []) := by rw [exVar, x2]
                rw [hv] at hr
                simp at hr
                simp [hsz, h0, h1, h2, h8, f1, f2, hname, hlet, ← hr]
              · rw [x1] at hlet
                simp at hlet
                simp [hsz, h0, h1, h2, h8, f1, f2, hname, hlet]
                refine loop_run (fun m e => ∃ i, m = us.length - i ∧ i ≤ us.length ∧ e.size = 89 ∧ e.get 0 = .one (.ro (FS lets)) ∧ e.get 2 = .one (.ro (SS us)) ∧ e.get 8 = .one (.ro (T out)) ∧ e.get 9 = .one (.ro (T n)) ∧ e.get 10 = .one (.ro (T rest)) ∧ e.get 12 = .one (.ro (N k)) ∧ e.get 13 = .one (.ro (N i)) ∧
                    (us.drop i).contains n = us.contains n) ?_ us.length _ ⟨0, rfl, Nat.zero_le _, by simp [hsz], by simp [h0], by simp [h2], by simp [h8], by simp, by simp, by simp, by simp, rfl⟩
                clear h0 h1 h2 h8 hsz
                rintro m e' ⟨i, rfl, hi, hsz, h0, h2, h8, h9, h10, h12, h13, hcn⟩ ih2
                rcases Nat.lt_or_ge i us.length with hlt | hge
                · have hwi : IntKind.i64.wrap ((i : Int) + 1) = ((i + 1 : Nat) : Int) := wrap64_succ (by omega)
                  have hd' : us.drop i = us[i] :: us.drop (i + 1) := List.drop_eq_getElem_cons hlt
                  rw [hd', List.contains_cons] at hcn
                  cases he : us[i] == n with
                  | true =>
                    have he' : (n == us[i]) = true := by
                      have : us[i] = n := by simpa using he
                      simp [this]
                    rw [he', Bool.true_or] at hcn
                    have hv : exVar lets (d + 1) us n = (4, []) := by rw [exVar, x2]; simp only; rw [if_pos hcn.symm]
                    rw [hv] at hr
                    simp at hr
                    simp [hsz, h0, h2, h8, h9, h10, h12, h13, hlt, he, ← hr]
                  | false =>
                    have he' : (n == us[i]) = false := by
                      have : ¬ us[i] = n := by simpa using he
                      simpa using fun h => this h.symm
                    rw [he', Bool.false_or] at hcn
                    simp [hsz, h0, h2, h8, h9, h10, h12, h13, hlt, he, hwi]
                    exact ih2 _ _ (by omega) ⟨i + 1, rfl, by omega, by simp [hsz], by simp [h0], by simp [h2], by simp [h8], by simp [h9], by simp [h10], by simp [h12], by simp, hcn⟩
                · obtain rfl : i = us.length := by omega
                  rw [List.drop_length] at hcn
                  have hcn' : us.contains n = false := hcn.symm
                  have hv : exVar lets (d + 1) us n = exLoop (exVar lets d (us ++ [n])) [] lets[k].2 := by rw [exVar, x2]; simp only; rw [if_neg (by rw [hcn']; simp)]
                  have hrec := ihd (us ++ [n]) lets[k].2 (hd.next hcn' (by rw [← x3]; exact List.mem_map_of_mem (List.getElem_mem hk))) (hl.text _ (List.getElem_mem hk))
                  rw [← hv, show SS (us ++ [n]) = .sl 1 (us.map T ++ [T n]) by simp] at hrec
                  have hvl := exVar_len lets (d + 1) us n
                  generalize hxv : exVar lets (d + 1) us n = xv at *
                  obtain ⟨code, s⟩ := xv
                  simp only at hrec hr hvl
                  have ha : us.length + 1 ≤ appendMax := by simp [appendMax]; omega
                  have ha0 : us.length ≤ appendMax := by simp [appendMax]; omega
                  by_cases hcode : code = 0
                  · subst hcode
                    simp only [if_true] at hr
                    have hms2 : out.length + s.length ≤ maxStr := by simp [maxStr]; simp at hot; omega
                    by_cases hlo : 80 < (out ++ s).length
                    · rw [if_pos hlo] at hr
                      have hlo' : 80 < out.length + s.length := by simpa using hlo
                      have hloi : (80 : Int) < (out.length : Int) + (s.length : Int) := by omega
                      simp [hsz, h0, h2, h8, h9, h10, h12, h13, hk, ha, ha0, hrec, hms2, hloi, ← hr]
                    · rw [if_neg hlo] at hr
                      have hlo' : ¬ 80 < out.length + s.length := by simpa using hlo
                      have hloi : ¬ (80 : Int) < (out.length : Int) + (s.length : Int) := by omega
                      simp [hsz, h0, h2, h8, h9, h10, h12, h13, hk, ha, ha0, hrec, hms2, hloi]
                      exact ih _ _ (by simp only [List.length_cons]; omega) ⟨out ++ s, rest, rfl, by simp at ht; omega, by simp at ht hot ⊢; omega, by simp [hsz], by simp [h0], by simp, by simp [h2], by simp, hr⟩
                  · rw [if_neg hcode] at hr
                    have hcb : (code == 0) = false := by simpa using hcode
                    simp [hsz, h0, h2, h8, h9, h10, h12, h13, hk, ha, ha0, hrec, hcb, ← hr]
end Go.Qz

/- What the functions come to: names in texts, of the program. -/
namespace Go.Qz
open Go.Proofs

theorem cut_eq : ∀ d : List UInt8, Lib.cut d [125] = (match cutB d with | some p => (p.1, p.2, true) | none => (d, [], false))
  | [] => by simp [Lib.cut, Lib.index, cutB]
  | c :: r => by
    have ih := cut_eq r
    unfold cutB
    cases hc : c == 125 with
    | true =>
      have h1 : Lib.index (c :: r) [125] = 0 := by
        have : (125 == c) = true := by
          have : c = 125 := by simpa using hc
          simp [this]
        simp [Lib.index, List.isPrefixOf, this]
      simp [Lib.cut, h1]
    | false =>
      have hne : (125 == c) = false := by
        have : ¬ c = 125 := by simpa using hc
        simpa using fun h => this h.symm
      have h1 : Lib.index (c :: r) [125] = if Lib.index r [125] == -1 then -1 else Lib.index r [125] + 1 := by
        simp [Lib.index, List.isPrefixOf, hne]
      have hg := Lib.index_ge r [125]
      simp only [Bool.false_eq_true, if_false]
      cases hb : cutB r with
      | none =>
        rw [hb] at ih
        simp only [Lib.cut] at ih
        have hn : ¬ 0 ≤ Lib.index r [125] := by
          intro h0
          rw [if_pos h0] at ih
          simp at ih
        have hm : Lib.index r [125] = -1 := by omega
        rw [hm] at h1
        simp at h1
        simp [Lib.cut, h1]
      | some p =>
        rw [hb] at ih
        simp only [Lib.cut] at ih
        have hp : 0 ≤ Lib.index r [125] := by
          rcases Int.lt_or_le (Lib.index r [125]) 0 with h0 | h0
          · rw [if_neg (by omega)] at ih
            simp at ih
          · exact h0
        rw [if_pos hp] at ih
        have hm : (Lib.index r [125] == -1) = false := by
          have : Lib.index r [125] ≠ -1 := by omega
          simpa using this
        rw [hm] at h1
        simp only [Bool.false_eq_true, if_false] at h1
        have hp' : 0 ≤ Lib.index r [125] + 1 := by omega
        have ht : (Lib.index r [125] + 1).toNat = (Lib.index r [125]).toNat + 1 := by omega
        simp only [Prod.mk.injEq, List.length_singleton, and_true] at ih
        simp only [Lib.cut, h1, if_pos hp', ht, List.length_singleton, Option.map_some]
        rw [List.take_succ_cons, ih.1, Nat.add_right_comm, List.drop_succ_cons, ih.2]

/-- The answer about a name. -/
def refV : Option (List UInt8 × List UInt8) → V
  | none => .tup [.ro (T []), .ro (T []), .ro (.bool false)]
  | some p => if packOk p.1 then .tup [.ro (T p.1), .ro (T p.2), .ro (.bool true)] else .tup [.ro (T []), .ro (T []), .ro (.bool false)]

theorem hasPrefix_ev (d : List UInt8) (hn : d.length ≤ 1000000) : C fn_internal_stringslite_HasPrefix [.ro (T (36 :: 123 :: d)), .ro (T [36, 123])] [] = some (.one (.ro (.bool true)), []) := by
  refine ctx_call Tryd.func119 conv_internal_stringslite_HasPrefix rfl ?_
  have f2 : (2 : Int) ≤ (d.length : Int) + 1 + 1 := by omega
  simp [f2]
theorem trim1_ev (d : List UInt8) (hn : d.length ≤ 1000000) : C fn_internal_stringslite_TrimPrefix [.ro (T (36 :: 123 :: d)), .ro (T [36, 123])] [] = some (.one (.ro (T d)), []) := by
  refine ctx_call Tryd.func105 conv_internal_stringslite_TrimPrefix rfl ?_
  have h := hasPrefix_ev d hn
  have f2 : (2 : Int) ≤ (d.length : Int) + 1 + 1 := by omega
  simp [h, f2]
theorem trim_ev (d : List UInt8) (hn : d.length ≤ 1000000) : C fn_strings_TrimPrefix [.ro (T (36 :: 123 :: d)), .ro (T [36, 123])] [] = some (.one (.ro (T d)), []) := by
  refine ctx_call Tryd.func88 conv_strings_TrimPrefix rfl ?_
  have h := trim1_ev d hn
  simp [h]
theorem reference_ev (d : List UInt8) (hn : d.length ≤ 1000000) : C fn_i_reference [.ro (T (36 :: 123 :: d))] [] = some (refV (cutB d), []) := by
  refine ctx_call Tryd.func69 conv_i_reference rfl ?_
  have h1 := trim_ev d hn
  have h2 := cut_str d [125] (by omega)
  rw [cut_eq] at h2
  cases hc : cutB d with
  | none =>
    rw [hc] at h2
    simp only at h2
    simp [h1, h2, refV]
  | some p =>
    have hl := cutB_len (n := p.1) (r := p.2) hc
    rw [hc] at h2
    simp only at h2
    have h3 := packNameOk_ev p.1 (by omega)
    unfold refV
    cases hp : packOk p.1 <;> rw [hp] at h3 <;> simp [h1, h2, h3, hp]
end Go.Qz

/- What the functions come to: places in lists. -/
namespace Go.Qz
open Go.Proofs

def idxL (n : List UInt8) : Lines → Nat → Int
  | [], _ => -1
  | x :: r, i => if n == x then (i : Int) else idxL n r (i + 1)
theorem idxL_has (n : List UInt8) : ∀ (xs : Lines) (i : Nat), decide (idxL n xs i ≥ 0) = xs.contains n := by
  intro xs
  induction xs with
  | nil => intro i; rfl
  | cons x r ih =>
    intro i
    rw [idxL, List.contains_cons]
    cases h : n == x with
    | true => simp
    | false => simp [ih]

theorem index_ev (xs : Lines) (n : List UInt8) (hn : xs.length ≤ 140737488351232) : C fn_slices_Index_L_string_string [.ro (SS xs), .ro (T n)] [] = some (.one (.ro (I (idxL n xs 0))), []) := by
  refine ctx_call Tryd.func106 conv_slices_Index_L_string_string rfl ?_
  simp
  refine loop_run (fun m e => ∃ i, m = xs.length - i ∧ i ≤ xs.length ∧ e.size = 19 ∧ e.get 0 = .one (.ro (SS xs)) ∧ e.get 1 = .one (.ro (T n)) ∧ e.get 7 = .one (.ro (N xs.length)) ∧ e.get 8 = .one (.ro (N i)) ∧
    idxL n (xs.drop i) i = idxL n xs 0) ?_ xs.length _ ⟨0, rfl, Nat.zero_le _, by simp, by simp, by simp, by simp, by simp, rfl⟩
  rintro m e ⟨i, rfl, hi, hsz, h0, h1, h7, h8, hr⟩ ih
  rcases Nat.lt_or_ge i xs.length with hlt | hge
  · have hd : xs.drop i = xs[i] :: xs.drop (i + 1) := List.drop_eq_getElem_cons hlt
    have hwi : IntKind.i64.wrap ((i : Int) + 1) = ((i + 1 : Nat) : Int) := wrap64_succ (by omega)
    rw [hd, idxL] at hr
    cases hp : n == xs[i] with
    | true =>
      rw [hp, if_pos rfl] at hr
      simp [hsz, h0, h1, h7, h8, hlt, hp, ← hr]
    | false =>
      rw [hp] at hr
      simp only [Bool.false_eq_true, if_false] at hr
      simp [hsz, h0, h1, h7, h8, hlt, hwi, hp]
      exact ih _ _ (by omega) ⟨i + 1, rfl, by omega, by simp [hsz], by simp [h0], by simp [h1], by simp [h7], by simp, hr⟩
  · obtain rfl : i = xs.length := by omega
    rw [List.drop_length, idxL] at hr
    simp [hsz, h0, h1, h7, h8, ← hr]

theorem contains_ev (xs : Lines) (n : List UInt8) (hn : xs.length ≤ 140737488351232) : C fn_slices_Contains_L_string_string [.ro (SS xs), .ro (T n)] [] = some (.one (.ro (.bool (xs.contains n))), []) := by
  refine ctx_call Tryd.func90 conv_slices_Contains_L_string_string rfl ?_
  have h := index_ev xs n hn
  have h2 := idxL_has n xs 0
  generalize idxL n xs 0 = q at *
  rw [← h2]
  simp [h]

def twice : Lines → List Fl → Bool
  | _, [] => false
  | seen, f :: r => if seen.contains f.1 then true else twice (seen ++ [f.1]) r


theorem varName_ev (f : Fl) (n : List UInt8) (c : Nat) (hc : c < 10000) (hc2 : 5000 ≤ c) : C fn_i_expander_variable_cl1 [.ro (FD f), .ptr c 0] [(c, [.ro (T n)])] = some (.one (.ro (.bool (f.1 == n))), [(c, [.ro (T n)])]) := by
  refine ctx_call Tryd.func89 conv_i_expander_variable_cl1 rfl ?_
  have h1 : ¬ c = 2 := by omega
  simp [hc, h1]

theorem indexFunc_ev (fs : List Fl) (n : List UInt8) (hn : fs.length ≤ 1000000) : C fn_slices_IndexFunc_L_i_Let_i_Let [.ro (FS fs), .fn 89 [.ptr 5100]] [(5100, [.ro (T n)])] = some (.one (.ro (I (idxN n fs 0))), [(5100, [.ro (T n)])]) := by
  refine ctx_call Tryd.func66 conv_slices_IndexFunc_L_i_Let_i_Let rfl ?_
  simp
  refine loop_run (fun m e => ∃ i, m = fs.length - i ∧ i ≤ fs.length ∧ e.size = 19 ∧ e.get 0 = .one (.ro (FS fs)) ∧ e.get 1 = .one (.fn 89 [.ptr 5100]) ∧ e.box 5100 = some [.ro (T n)] ∧ e.get 7 = .one (.ro (N fs.length)) ∧ e.get 8 = .one (.ro (N i)) ∧ idxN n (fs.drop i) i = idxN n fs 0)
    ?_ fs.length _ ⟨0, rfl, Nat.zero_le _, by simp, by simp, by simp, by simp, by simp, by simp, rfl⟩
  rintro m e ⟨i, rfl, hi, hsz, h0, h1, hb, h7, h8, hr⟩ ih
  rcases Nat.lt_or_ge i fs.length with hlt | hge
  · have hwi : IntKind.i64.wrap ((i : Int) + 1) = ((i + 1 : Nat) : Int) := wrap64_succ (by omega)
    have hd : fs.drop i = fs[i] :: fs.drop (i + 1) := List.drop_eq_getElem_cons hlt
    have hv := varName_ev fs[i] n 5001 (by decide) (by decide)
    rw [hd, idxN] at hr
    cases hc : fs[i].1 == n with
    | true =>
      rw [hc] at hv hr
      simp only [if_true] at hr
      simp [hsz, h0, h1, hb, h7, h8, hlt, hv, ← hr]
    | false =>
      rw [hc] at hv hr
      simp only [Bool.false_eq_true, if_false] at hr
      simp [hsz, h0, h1, hb, h7, h8, hlt, hv, hwi]
      exact ih _ _ (by omega) ⟨i + 1, rfl, by omega, by simp [hsz], by simp [h0], by simp [h1], by simp [hb], by simp [h7], by simp, hr⟩
  · obtain rfl : i = fs.length := by omega
    rw [List.drop_length, idxN] at hr
    simp [hsz, h0, h1, hb, h7, h8, ← hr]
end Go.Qz

/- What the functions come to: the program's expansion. -/
namespace Go.Qz
open Go.Proofs

/-- An error that bears a code. -/
def errA (c : Nat) : A := if c = 0 then .ro .nili else .ro (.iface 106 (.agg [N c]))
theorem errA_zero : errA 0 = .ro .nili := rfl
theorem errA_pos {c : Nat} (h : c ≠ 0) : errA c = .ro (.iface 106 (.agg [N c])) := if_neg h

/-- What 'expand' comes to, so deep. -/
def ExpandAt (lets : List Fl) (d : Nat) : Prop := ∀ (us : Lines) (text : List UInt8), Deep lets d us → text.length ≤ 80 →
  C fn_i_expander_expand [.ptr 5000 0, .ro (T text)] [(5000, [.ro (FS lets), .own (SS us)])] = some (.tup [.ro (T (exLoop (exVar lets d us) [] text).2), errA (exLoop (exVar lets d us) [] text).1], [(5000, [.ro (FS lets), .own (SS us)])])

theorem variable_ev (lets : List Fl) (hl : Lets lets) (d : Nat) (hx : ExpandAt lets d) (us : Lines) (n : List UInt8) (hd : Deep lets (d + 1) us) (hn : n.length ≤ 1000000) :
    C fn_i_expander_variable [.ptr 5000 0, .ro (T n)] [(5000, [.ro (FS lets), .own (SS us)])] = some (.tup [.ro (T (exVar lets (d + 1) us n).2), errA (exVar lets (d + 1) us n).1], [(5000, [.ro (FS lets), .own (SS us)])]) := by
  have hul : us.length ≤ 8 := by
    have := nodup_len hd.nodup hd.sub
    simp at this
    exact Nat.le_trans this hl.len
  refine ctx_call Tryd.func70 conv_i_expander_variable rfl ?_
  have hix := indexFunc_ev lets n (by have := hl.len; omega)
  have hct := contains_ev us n (by omega)
  rcases idx_find n lets 0 with ⟨x1, x2⟩ | ⟨k, x1, hk, x2, x3⟩
  · have hv : exVar lets (d + 1) us n = (3, []) := by rw [exVar, x2]
    rw [x1] at hix
    rw [hv]
    simp [hix, errA]
  · rw [x1] at hix
    simp at hix
    cases hc : us.contains n with
    | true =>
      have hv : exVar lets (d + 1) us n = (4, []) := by rw [exVar, x2]; simp only; rw [if_pos hc]
      rw [hc] at hct
      rw [hv]
      simp [hix, hct, errA]
    | false =>
      have hv : exVar lets (d + 1) us n = exLoop (exVar lets d (us ++ [n])) [] lets[k].2 := by rw [exVar, x2]; simp only; rw [if_neg (by rw [hc]; simp)]
      have hrec := hx (us ++ [n]) lets[k].2 (hd.next hc (by rw [← x3]; exact List.mem_map_of_mem (List.getElem_mem hk))) (hl.text _ (List.getElem_mem hk))
      rw [show SS (us ++ [n]) = .sl 1 (us.map T ++ [T n]) by simp, ← hv] at hrec
      rw [hc] at hct
      have ha : us.length + 1 ≤ appendMax := by simp [appendMax]; omega
      have hw1 : IntKind.i64.wrap (us.length : Int) = us.length := wrap64 (by omega) (by omega)
      have hw3 : (us.length : Int) ≤ us.length + 1 := by omega
      generalize exVar lets (d + 1) us n = xv at *
      obtain ⟨code, s⟩ := xv
      simp only at hrec ⊢
      by_cases hcode : code = 0
      · subst hcode
        rw [errA_zero] at hrec ⊢
        simp [hix, hct, hk, ha, hrec, hw1, hw3]
      · rw [errA_pos hcode] at hrec ⊢
        simp [hix, hct, hk, ha, hrec, hw1, hw3]
end Go.Qz

/- What the functions come to: the program's expansion of a text. -/
namespace Go.Qz
open Go.Proofs

theorem mark_find : ∀ t : List UInt8, (Lib.index t [36, 123] = -1 ∧ ∀ var out, exLoop var out t = if 80 < (out ++ t).length then (5, []) else (0, out ++ t)) ∨
    ∃ pre r, t = pre ++ 36 :: 123 :: r ∧ Lib.index t [36, 123] = pre.length ∧ ∀ var out, exLoop var out t = exLoop var (out ++ pre) (36 :: 123 :: r)
  | [] => .inl ⟨by rfl, fun var out => by rw [exLoop_nil]; simp⟩
  | c :: r => by
    cases hm : isMark (c :: r) with
    | true =>
      obtain ⟨q, hq⟩ := isMark_two hm
      rw [hq]
      exact .inr ⟨[], q, rfl, by simp [Lib.index, List.isPrefixOf], fun var out => by simp⟩
    | false =>
      have hp : List.isPrefixOf [36, 123] (c :: r) = false := by
        cases r with
        | nil => simp [List.isPrefixOf]
        | cons b q =>
          simp only [isMark] at hm
          have h1 : (36 == c) = (c == 36) := Bool.beq_comm
          have h2 : (123 == b) = (b == 123) := Bool.beq_comm
          simp [List.isPrefixOf, h1, h2, hm]
      have hi : Lib.index (c :: r) [36, 123] = if Lib.index r [36, 123] == -1 then -1 else Lib.index r [36, 123] + 1 := by
        rw [Lib.index, hp]
        simp
      rcases mark_find r with ⟨h1, h2⟩ | ⟨pre, q, h1, h2, h3⟩
      · refine .inl ⟨by rw [hi, h1]; rfl, fun var out => ?_⟩
        rw [exLoop_char hm, h2]
        simp
      · refine .inr ⟨c :: pre, q, by rw [h1]; rfl, ?_, fun var out => ?_⟩
        · rw [hi, h2]
          have : ((pre.length : Int) == -1) = false := by rw [beq_eq_false_iff_ne]; omega
          rw [this]
          simp
        · rw [exLoop_char hm, h3]
          simp

theorem expand_ev (lets : List Fl) (hl : Lets lets) : ∀ d, ExpandAt lets d := by
  intro d
  induction d with
  | zero => intro us text hd; exact absurd hd.pos (Nat.lt_irrefl 0)
  | succ d ihd =>
    intro us text hd ht
    refine ctx_call Tryd.func42 conv_i_expander_expand rfl ?_
    simp
    refine loop_run (fun m e => ∃ out t, m = t.length ∧ t.length ≤ 80 ∧ out.length ≤ 80 ∧ e.size = 60 ∧ e.get 0 = .one (.ptr 5000 0) ∧ e.get 1 = .one (.ro (T t)) ∧ e.get 6 = .one (.ro (T out)) ∧ e.box 5000 = some [.ro (FS lets), .own (SS us)] ∧
        exLoop (exVar lets (d + 1) us) out t = exLoop (exVar lets (d + 1) us) [] text)
      ?_ text.length _ ⟨[], text, rfl, ht, by simp, by simp, by simp, by simp, by simp, by simp, rfl⟩
    rintro m e ⟨out, t, rfl, ht, ho, hsz, h0, h1, h6, hb, hr⟩ ih
    have hix := index_str t [36, 123] (by omega)
    rcases mark_find t with ⟨x1, x2⟩ | ⟨pre, r, x1, x2, x3⟩
    · rw [x1] at hix
      rw [x2] at hr
      have hms : out.length + t.length ≤ maxStr := by simp [maxStr]; omega
      by_cases hlo : 80 < out.length + t.length
      · rw [if_pos (by simpa using hlo)] at hr
        have hlo' : (80 : Int) < (out.length : Int) + t.length := by omega
        simp [hsz, h0, h1, h6, hb, hix, hms, hlo', ← hr, errA]
      · rw [if_neg (by simpa using hlo)] at hr
        have hlo' : ¬ (80 : Int) < (out.length : Int) + t.length := by omega
        simp [hsz, h0, h1, h6, hb, hix, hms, hlo', ← hr, errA]
    · subst x1
      rw [x2] at hix
      rw [x3] at hr
      simp only [List.length_append, List.length_cons] at ht
      have href := reference_ev r (by omega)
      have hpl : (pre.length : Int) ≤ (pre.length : Int) + ((r.length : Int) + 1 + 1) := by omega
      have hp0 : ¬ (pre.length : Int) < 0 := by omega
      have hmk : isMark (36 :: 123 :: r) = true := rfl
      have hdt : List.drop pre.length (List.take (pre.length + (r.length + 1 + 1)) (pre ++ 36 :: 123 :: r)) = 36 :: 123 :: r := by
        rw [List.take_of_length_le (by simp), List.drop_left]
      cases hc : cutB r with
      | none =>
        rw [exLoop_none hmk hc] at hr
        rw [hc] at href
        simp only [refV] at href
        simp [hsz, h0, h1, h6, hb, hix, hp0, hpl, hdt, href, ← hr, errA]
      | some p =>
        obtain ⟨n, rest⟩ := p
        have hcl := cutB_len hc
        rw [exLoop_some hmk hc] at hr
        rw [hc] at href
        simp only [refV] at href
        cases hp : packOk n with
        | false =>
          rw [hp] at href hr
          simp only [Bool.false_eq_true, if_false] at href hr
          simp [hsz, h0, h1, h6, hb, hix, hp0, hpl, hdt, href, ← hr, errA]
        | true =>
          rw [hp] at href hr
          simp only [if_true] at href hr
          have hv := variable_ev lets hl d ihd us n hd (by omega)
          have hvl := exVar_len lets (d + 1) us n
          generalize hxe : exVar lets (d + 1) us n = xv at hv hr hvl
          obtain ⟨code, s⟩ := xv
          simp only at hv hr hvl
          by_cases hcode : code = 0
          · subst hcode
            simp only [if_true] at hr
            rw [errA_zero] at hv
            have hm1 : pre.length + s.length ≤ maxStr := by simp [maxStr]; omega
            have hm2 : out.length + (pre.length + s.length) ≤ maxStr := by simp [maxStr]; omega
            by_cases hlo : 80 < (out ++ pre ++ s).length
            · rw [if_pos hlo] at hr
              simp at hlo
              have hlo' : (80 : Int) < (out.length : Int) + ((pre.length : Int) + s.length) := by omega
              simp [hsz, h0, h1, h6, hb, hix, hp0, hpl, hdt, href, hv, hm1, hm2, hlo', ← hr, errA]
            · rw [if_neg hlo] at hr
              simp at hlo
              have hlo' : ¬ (80 : Int) < (out.length : Int) + ((pre.length : Int) + s.length) := by omega
              simp [hsz, h0, h1, h6, hb, hix, hp0, hpl, hdt, href, hv, hm1, hm2, hlo']
              exact ih _ _ (by simp; omega) ⟨out ++ pre ++ s, rest, rfl, by omega, by simp; omega, by simp [hsz], by simp [h0], by simp, by simp, by simp [hb], hr⟩
          · rw [if_neg hcode] at hr
            rw [errA_pos hcode] at hv
            simp [hsz, h0, h1, h6, hb, hix, hp0, hpl, hdt, href, hv, ← hr, errA, hcode]
end Go.Qz

/- What the functions come to: expansion, of the program and of the reference. -/
namespace Go.Qz
open Go.Proofs

def lineI (l : List UInt8) : Bool := !l.isEmpty && plainT l
theorem line_eq (l : List UInt8) : lineI l = lineB l := by
  unfold lineI lineB plainT inI
  cases l with
  | nil => simp
  | cons c r =>
    simp only [List.isEmpty_cons, Bool.not_false, Bool.true_and, List.length_cons]
    rw [Bool.and_comm, show decide ((1 : Int) ≤ ((r.length + 1 : Nat) : Int)) = true by simp, Bool.true_and]
    congr 1
    rw [Bool.eq_iff_iff]
    simp
    omega
theorem lineOk_ev (l : List UInt8) : C fn_i_lineOk [.ro (T l)] [] = some (.one (.ro (.bool (lineB l))), []) := by
  refine ctx_call Tryd.func41 conv_i_lineOk rfl ?_
  have h := plainText_ev l
  rw [← line_eq, lineI]
  cases l with
  | nil => simp
  | cons c r => simp [h]
theorem letOk_ev (f : Fl) (hn : f.1.length ≤ 140737488351232) : C fn_i_letOk [.ro (FD f)] [] = some (.one (.ro (.bool (letB f))), []) := by
  refine ctx_call Tryd.func39 conv_i_letOk rfl ?_
  have h1 := packNameOk_ev f.1 hn
  have h2 := lineOk_ev f.2
  unfold letB
  cases hp : packOk f.1 <;> rw [hp] at h1 <;> simp [h1, h2]
theorem letBad_ev (f : Fl) (hn : f.1.length ≤ 140737488351232) : C fn_i_Expand_cl1 [.ro (FD f)] [] = some (.one (.ro (.bool (!letB f))), []) := by
  refine ctx_call Tryd.func38 conv_i_Expand_cl1 rfl ?_
  have h1 := letOk_ev f hn
  simp [h1]

def idxBad : List Fl → Nat → Int
  | [], _ => -1
  | f :: r, i => if letB f then idxBad r (i + 1) else i
theorem idxBad_has : ∀ (fs : List Fl) (i : Nat), decide (idxBad fs i ≥ 0) = !fs.all letB
  | [], i => rfl
  | f :: r, i => by
    unfold idxBad
    cases h : letB f
    · simp [h]
    · rw [if_pos rfl, idxBad_has r (i + 1)]
      simp [h]
theorem indexBad_ev (fs : List Fl) (hn : fs.length ≤ 2000000) (hx : ∀ f ∈ fs, f.1.length ≤ 140737488351232) : C fn_slices_IndexFunc_L_i_Let_i_Let [.ro (FS fs), .fn 38 []] [] = some (.one (.ro (I (idxBad fs 0))), []) := by
  refine ctx_call Tryd.func66 conv_slices_IndexFunc_L_i_Let_i_Let rfl ?_
  simp
  refine loop_run (fun m e => ∃ i, m = fs.length - i ∧ i ≤ fs.length ∧ e.size = 19 ∧ e.get 0 = .one (.ro (FS fs)) ∧ e.get 1 = .one (.fn 38 []) ∧ e.get 7 = .one (.ro (N fs.length)) ∧ e.get 8 = .one (.ro (N i)) ∧ idxBad (fs.drop i) i = idxBad fs 0)
    ?_ fs.length _ ⟨0, rfl, Nat.zero_le _, by simp, by simp, by simp, by simp, by simp, rfl⟩
  rintro m e ⟨i, rfl, hi, hsz, h0, h1, h7, h8, hr⟩ ih
  rcases Nat.lt_or_ge i fs.length with hlt | hge
  · have hwi : IntKind.i64.wrap ((i : Int) + 1) = ((i + 1 : Nat) : Int) := wrap64_succ (by omega)
    have hd : fs.drop i = fs[i] :: fs.drop (i + 1) := List.drop_eq_getElem_cons hlt
    have hv := letBad_ev fs[i] (hx _ (List.getElem_mem hlt))
    rw [hd, idxBad] at hr
    cases hc : letB fs[i] with
    | false =>
      rw [hc] at hv hr
      simp only [Bool.false_eq_true, if_false] at hr
      simp [hsz, h0, h1, h7, h8, hlt, hv, ← hr]
    | true =>
      rw [hc] at hv hr
      simp only [if_true] at hr
      simp [hsz, h0, h1, h7, h8, hlt, hv, hwi]
      exact ih _ _ (by omega) ⟨i + 1, rfl, by omega, by simp [hsz], by simp [h0], by simp [h1], by simp [h7], by simp, hr⟩
  · obtain rfl : i = fs.length := by omega
    rw [List.drop_length, idxBad] at hr
    simp [hsz, h0, h1, h7, h8, ← hr]
theorem containsBad_ev (fs : List Fl) (hn : fs.length ≤ 2000000) (hx : ∀ f ∈ fs, f.1.length ≤ 140737488351232) : C fn_slices_ContainsFunc_L_i_Let_i_Let [.ro (FS fs), .fn 38 []] [] = some (.one (.ro (.bool (!fs.all letB))), []) := by
  refine ctx_call Tryd.func40 conv_slices_ContainsFunc_L_i_Let_i_Let rfl ?_
  have h := indexBad_ev fs hn hx
  rw [← idxBad_has fs 0]
  simp [h]

/-- What expansion answers. -/
def exAll (fs : List Fl) (l : List UInt8) : Nat × List UInt8 := if letsB fs && lineB l then exLoop (exVar fs (fs.length + 1) []) [] l else (1, [])

theorem lineB_len {l : List UInt8} (h : lineB l = true) : l.length ≤ 80 := by
  unfold lineB inI at h
  simp at h
  omega
theorem letsB_lets {fs : List Fl} (h : letsB fs = true) : Lets fs := by
  unfold letsB at h
  simp only [Bool.and_eq_true, decide_eq_true_eq, List.all_eq_true] at h
  refine ⟨h.2, fun f hf => ?_⟩
  have := h.1 f hf
  unfold letB at this
  simp only [Bool.and_eq_true] at this
  exact lineB_len this.2
theorem deep_all (fs : List Fl) : Deep fs (fs.length + 1) [] := ⟨List.nodup_nil, fun x hx => by simp at hx, by simp⟩

theorem ExpandS_ev (fs : List Fl) (l : List UInt8) (hn : fs.length ≤ 2000000) (hx : ∀ f ∈ fs, f.1.length ≤ 140737488351232 ∧ f.2.length ≤ 140737488351232) (hl : l.length ≤ 140737488351232) :
    C fn_s_Expand [.ro (FS fs), .ro (T l)] [] = some (.tup [.ro (T (exAll fs l).2), .ro (N (exAll fs l).1)], []) := by
  refine ctx_call Tryd.func16 conv_s_Expand rfl ?_
  have h1 := l4Lets_ev fs (by omega) hx
  have h2 := l4Plain_ev l hl
  unfold exAll
  cases hb : letsB fs with
  | false => rw [hb] at h1; simp [h1]
  | true =>
    cases hc : lineB l with
    | false => rw [hb] at h1; rw [hc] at h2; simp [h1, h2]
    | true =>
      rw [hb] at h1; rw [hc] at h2
      have h3 := l4Expand_ev fs (letsB_lets hb) (fs.length + 1) [] l (deep_all fs) (lineB_len hc)
      rw [show SS [] = .sl 1 [] from rfl] at h3
      simp [h1, h2, h3]

theorem exLoop_err (var : List UInt8 → Nat × List UInt8) : ∀ (k : Nat) (out text : List UInt8), text.length ≤ k → (exLoop var out text).1 ≠ 0 → (exLoop var out text).2 = []
  | k, out, [], _ => by rw [exLoop_nil]; split <;> simp
  | 0, out, c :: r, h => by simp at h
  | k + 1, out, c :: r, h => by
    cases hm : isMark (c :: r) with
    | false =>
      rw [exLoop_char hm]
      exact exLoop_err var k _ _ (by simp at h; omega)
    | true =>
      obtain ⟨q, hq⟩ := isMark_two hm
      rw [hq] at hm h ⊢
      cases hc : cutB q with
      | none => rw [exLoop_none hm hc]; simp
      | some p =>
        have := cutB_len (n := p.1) (r := p.2) hc
        rw [exLoop_some hm hc]
        split
        · split
          · split
            · simp
            · exact exLoop_err var k _ _ (by simp at h; omega)
          · simp
        · simp

theorem ExpandI_ev (fs : List Fl) (l : List UInt8) (hn : fs.length ≤ 2000000) (hx : ∀ f ∈ fs, f.1.length ≤ 140737488351232 ∧ f.2.length ≤ 140737488351232) (hl : l.length ≤ 140737488351232) :
    C fn_i_Expand [.ro (FS fs), .ro (T l)] [] = some (.tup [.ro (T (exAll fs l).2), .ro (N (exAll fs l).1)], []) := by
  refine ctx_call Tryd.func15 conv_i_Expand rfl ?_
  have h1 := containsBad_ev fs hn (fun f hf => (hx f hf).1)
  have h2 := lineOk_ev l
  unfold exAll letsB
  by_cases h8 : fs.length ≤ 8
  · have h9 : ¬ 8 < fs.length := by omega
    cases hb : fs.all letB with
    | false => rw [hb] at h1; simp [h1, h8, h9]
    | true =>
      cases hc : lineB l with
      | false => rw [hb] at h1; rw [hc] at h2; simp [h1, h2, h8, h9]
      | true =>
        have hb' : letsB fs = true := by unfold letsB; rw [hb]; simp [h8]
        have h3 := expand_ev fs (letsB_lets hb') (fs.length + 1) [] l (deep_all fs) (lineB_len hc)
        rw [show SS [] = .sl 1 [] from rfl] at h3
        rw [hb] at h1; rw [hc] at h2
        have h4 := exLoop_err (exVar fs (fs.length + 1) []) l.length [] l (Nat.le_refl _)
        generalize exLoop (exVar fs (fs.length + 1) []) [] l = xv at *
        obtain ⟨code, s⟩ := xv
        simp only at h3 h4
        by_cases hcode : code = 0
        · subst hcode
          rw [errA_zero] at h3
          simp [h1, h2, h8, h9, h3]
        · rw [errA_pos hcode] at h3
          have h5 := h4 hcode
          subst h5
          have hce := code_err code
          simp [h1, h2, h8, h9, h3, hce, hcode]
  · have h9 : 8 < fs.length := by omega
    simp [h8, h9]
end Go.Qz

/- What the functions come to: copies, comparisons, sizes of variables; the law. -/
namespace Go.Qz
open Go.Proofs

theorem eq_of_firsts {α : Type} {ys xs : List α} (h : ys.length = xs.length) (h' : ∀ j, j < xs.length → ys[j]? = xs[j]?) : ys = xs := by
  apply List.ext_getElem? 
  intro j
  rcases Nat.lt_or_ge j xs.length with hj | hj
  · exact h' j hj
  · rw [List.getElem?_eq_none hj, List.getElem?_eq_none (by omega)]

theorem toLet_ev (f : Fl) : C fn_w_toLet [.ro (FD f)] [] = some (.one (.ro (FD f)), []) := by
  refine ctx_call Tryd.func48 conv_w_toLet rfl ?_
  simp

theorem toLetS_ev (fs : List Fl) (hn : fs.length ≤ 1048576) : C fn_w_toLetS [.ro (FS fs)] [] = some (.one (.own (FS fs)), []) := by
  refine ctx_call Tryd.func18 conv_w_toLetS rfl ?_
  have ha : (fs.length : Int) ≤ appendMax := by simp [appendMax]; omega
  simp [ha]
  refine loop_run (fun m e => ∃ i yl, m = fs.length - i ∧ i ≤ fs.length ∧ e.size = 23 ∧ e.get 0 = .one (.ro (FS fs)) ∧ e.get 3 = .one (.own (FS yl)) ∧ e.get 4 = .one (.ro (N i)) ∧ yl.length = fs.length ∧ ∀ j, j < i → yl[j]? = fs[j]?)
    ?_ fs.length _ ⟨0, List.replicate fs.length ([], []), rfl, Nat.zero_le _, by simp, by simp, by simp, by simp, by simp, fun j hj => by omega⟩
  rintro m e ⟨i, yl, rfl, hi, hsz, h0, h3, h4, hyl, hy⟩ ih
  rcases Nat.lt_or_ge i fs.length with hlt | hge
  · have hwi : IntKind.i64.wrap ((i : Int) + 1) = ((i + 1 : Nat) : Int) := wrap64_succ (by omega)
    have hlt' : i < yl.length := by omega
    have hto := toLet_ev fs[i]
    simp [hsz, h0, h3, h4, hlt, hlt', hwi, hto]
    exact ih _ _ (by omega) ⟨i + 1, yl.set i fs[i], rfl, by omega, by simp [hsz], by simp [h0], by simp [List.map_set], by simp, by simp [hyl], fun j hj => by
      by_cases e : j = i
      · subst e; simp [hlt, hlt']
      · rw [List.getElem?_set_ne (by omega)]; exact hy j (by omega)⟩
  · obtain rfl : i = fs.length := by omega
    obtain rfl := eq_of_firsts hyl hy
    simp [hsz, h0, h3, h4]

theorem eqLet_self (f : Fl) : C fn_w_eqLet [.ro (FD f), .ro (FD f)] [] = some (.one (.ro (.bool true)), []) := by
  refine ctx_call Tryd.func49 conv_w_eqLet rfl ?_
  simp

theorem eqLetS_self (fs : List Fl) (hn : fs.length ≤ 140737488351232) : C fn_w_eqLetS [.ro (FS fs), .ro (FS fs)] [] = some (.one (.ro (.bool true)), []) := by
  refine ctx_call Tryd.func19 conv_w_eqLetS rfl ?_
  simp
  refine loop_run (fun m e => ∃ i, m = fs.length - i ∧ i ≤ fs.length ∧ e.size = 27 ∧ e.get 0 = .one (.ro (FS fs)) ∧ e.get 1 = .one (.ro (FS fs)) ∧ e.get 5 = .one (.ro (N i)))
    ?_ fs.length _ ⟨0, rfl, Nat.zero_le _, by simp, by simp, by simp, by simp⟩
  rintro m e ⟨i, rfl, hi, hsz, h0, h1, h5⟩ ih
  rcases Nat.lt_or_ge i fs.length with hlt | hge
  · have hwi : IntKind.i64.wrap ((i : Int) + 1) = ((i + 1 : Nat) : Int) := wrap64_succ (by omega)
    have hev := eqLet_self fs[i]
    simp [hsz, h0, h1, h5, hlt, hwi, hev]
    exact ih _ _ (by omega) ⟨i + 1, rfl, by omega, by simp [hsz], by simp [h0], by simp [h1], by simp⟩
  · obtain rfl : i = fs.length := by omega
    simp [hsz, h0, h1, h5]

def szFl (f : Fl) (l : Int) : Int := if l - f.1.length < 0 then -1 else if l - f.1.length - f.2.length < 0 then -1 else l - f.1.length - f.2.length
def szFLs : List Fl → Int → Int
  | [], l => l
  | f :: r, l => if szFl f l < 0 then -1 else szFLs r (szFl f l)
def szFS (fs : List Fl) (l : Int) : Int := if l - fs.length < 0 then -1 else szFLs fs (l - fs.length)

theorem szLet_ev (f : Fl) (l : Int) (hl : 0 ≤ l) (hl2 : l ≤ 1048576) (h1 : f.1.length ≤ 140737488351232) (h2 : f.2.length ≤ 140737488351232) : C fn_w_szLet [.ro (FD f), .ro (I l)] [] = some (.one (.ro (I (szFl f l))), []) := by
  refine ctx_call Tryd.func47 conv_w_szLet rfl ?_
  have w1 : IntKind.i64.wrap (l - f.1.length) = l - f.1.length := wrap64 (by omega) (by omega)
  unfold szFl
  by_cases c1 : l - f.1.length < 0
  · simp [w1, c1]
  · have w2 : IntKind.i64.wrap (l - f.1.length - f.2.length) = l - f.1.length - f.2.length := wrap64 (by omega) (by omega)
    by_cases c2 : l - f.1.length - f.2.length < 0
    · simp [w1, w2, c1, c2]
    · simp [w1, w2, c1, c2]
theorem szFl_le (f : Fl) (l : Int) (hl : 0 ≤ l) : szFl f l ≤ l ∧ -1 ≤ szFl f l := by
  unfold szFl
  split
  · omega
  · split <;> omega

theorem szLetS_ev (fs : List Fl) (l : Int) (hl : 0 ≤ l) (hl2 : l ≤ 1048576) (hn : fs.length ≤ 140737488351232) (hx1 : ∀ f ∈ fs, f.1.length ≤ 140737488351232) (hx2 : ∀ f ∈ fs, f.2.length ≤ 140737488351232) :
    C fn_w_szLetS [.ro (FS fs), .ro (I l)] [] = some (.one (.ro (I (szFS fs l))), []) := by
  refine ctx_call Tryd.func17 conv_w_szLetS rfl ?_
  have h1 : IntKind.i64.wrap (l - fs.length) = l - fs.length := wrap64 (by omega) (by omega)
  unfold szFS
  by_cases hneg : l - fs.length < 0
  · simp [h1, hneg]
  · simp [h1, hneg]
    refine loop_run (fun m e => ∃ i l', m = fs.length - i ∧ i ≤ fs.length ∧ 0 ≤ l' ∧ l' ≤ 1048576 ∧ e.size = 27 ∧ e.get 0 = .one (.ro (FS fs)) ∧ e.get 1 = .one (.ro (I l')) ∧ e.get 5 = .one (.ro (N i)) ∧
      szFLs (fs.drop i) l' = szFLs fs (l - fs.length)) ?_ fs.length _ ⟨0, l - fs.length, rfl, Nat.zero_le _, by omega, by omega, by simp, by simp, by simp, by simp, rfl⟩
    rintro m e ⟨i, l', rfl, hi, hl0, hl1, hsz, h0, h1, h5, hr⟩ ih
    rcases Nat.lt_or_ge i fs.length with hlt | hge
    · have hd : fs.drop i = fs[i] :: fs.drop (i + 1) := List.drop_eq_getElem_cons hlt
      have hwi : IntKind.i64.wrap ((i : Int) + 1) = ((i + 1 : Nat) : Int) := wrap64_succ (by omega)
      have hev := szLet_ev fs[i] l' hl0 hl1 (hx1 _ (List.getElem_mem hlt)) (hx2 _ (List.getElem_mem hlt))
      have hle := szFl_le fs[i] l' hl0
      rw [hd, szFLs] at hr
      by_cases hc : szFl fs[i] l' < 0
      · rw [if_pos hc] at hr
        simp [hsz, h0, h1, h5, hlt, hev, hc, ← hr]
      · rw [if_neg hc] at hr
        simp [hsz, h0, h1, h5, hlt, hev, hc, hwi]
        exact ih _ _ (by omega) ⟨i + 1, _, rfl, by omega, by omega, by omega, by simp [hsz], by simp [h0], by simp, by simp, hr⟩
    · obtain rfl : i = fs.length := by omega
      rw [List.drop_length, szFLs] at hr
      simp [hsz, h0, h1, h5, hr]
theorem szFS_len (fs : List Fl) (l : Int) (h : 0 ≤ szFS fs l) : (fs.length : Int) ≤ l := by
  unfold szFS at h
  split at h <;> omega


theorem exactExpand_ev (fs : List Fl) (l : List UInt8) (hn : fs.length ≤ 140737488351232) (hx1 : ∀ f ∈ fs, f.1.length ≤ 140737488351232) (hx2 : ∀ f ∈ fs, f.2.length ≤ 140737488351232) (hl : l.length ≤ 140737488351232) :
    C fn_w_FnExactExpand [.ro (FS fs), .ro (T l)] [] = some (.one (.ro (.bool true)), []) := by
  refine ctx_call Tryd.func7 conv_w_FnExactExpand rfl ?_
  have hsz := szLetS_ev fs 1048576 (by omega) (by omega) hn hx1 hx2
  by_cases hlong : 1048576 < l.length
  · simp [hlong]
  by_cases hneg : szFS fs 1048576 < 0
  · simp [hlong, hsz, hneg]
  · have b1 := szFS_len fs 1048576 (by omega)
    have hto := toLetS_ev fs (by omega)
    have b2 : fs.length ≤ 1048576 := by omega
    have hS := ExpandS_ev fs l (by omega) (fun f hf => ⟨hx1 f hf, hx2 f hf⟩) hl
    have hI := ExpandI_ev fs l (by omega) (fun f hf => ⟨hx1 f hf, hx2 f hf⟩) hl
    have heq := eqLetS_self fs hn
    generalize exAll fs l = xv at *
    obtain ⟨code, s⟩ := xv
    simp [hlong, hsz, hneg, hto, hS, hI, heq]
end Go.Qz
