/- The evaluator of the claim and what it says, part Qo0 (several texts in one). -/
import Derived.Test.YtfikcfndmbcaoaaDoorQn0
import Derived.Test.YtfikcfndmbcaoaaDoorQl0
import Derived.Lib.IndexMore
/- The seat's context: what is lent to be written, what comes by contract. -/
namespace Go.Qz
open Go.Proofs

@[simp] def ioS : FuncId → List Nat := fun f => if f = 33 then [999] else []
@[simp] theorem opens_is (f : FuncId) : opensF ioS f = decide (f = 33) := by
  unfold opensF ioS
  by_cases h : f = 33 <;> simp [h]
/-- strings.Index, strings.Cut, codeOf, l1Open. -/
def XE : CallF := fun f us bx =>
  if f = 68 then (match us, bx with
    | [.ro (.str s), .ro (.str t)], [] => if s.size < 4294967281 then some (.one (.ro (.int .i64 (Lib.index s.data.toList t.data.toList))), []) else none
    | _, _ => none)
  else if f = 87 then (match us, bx with
    | [.ro (.str s), .ro (.str t)], [] => if s.size < 4294967281 then some (.tup [.ro (.str ⟨(Lib.cut s.data.toList t.data.toList).1.toArray⟩), .ro (.str ⟨(Lib.cut s.data.toList t.data.toList).2.1.toArray⟩), .ro (.bool (Lib.cut s.data.toList t.data.toList).2.2)], []) else none
    | _, _ => none)
  else if f = 43 then (match us, bx with
    | [.ro .nili], [] => some (.one (.ro (.int .i64 0)), [])
    | [.ro (.iface t (.agg [.int k c]))], [] => if t = 106 && k = .i64 then some (.one (.ro (.int .i64 c)), []) else none
    | _, _ => none)
  else if f = 33 then (match us, bx with
    | [.ro (.sl z xs)], [] => if z = 1 then some (.agg [.ro (.sl 1 (xs.take 2000)), .ro (.int .i64 0)], []) else none
    | _, _ => none)
  else none
noncomputable abbrev C : CallF := callLim Tryd.prog ioS XE
noncomputable abbrev cx : Ctx := ⟨Tryd.prog, ioS, C⟩

theorem index_str (s t : List UInt8) (h : s.length < 4294967281) : C 68 [.ro (.str ⟨s.toArray⟩), .ro (.str ⟨t.toArray⟩)] [] = some (.one (.ro (.int .i64 (Lib.index s t))), []) := callLim_x (by simp [XE, h])
theorem cut_str (s t : List UInt8) (h : s.length < 4294967281) : C 87 [.ro (.str ⟨s.toArray⟩), .ro (.str ⟨t.toArray⟩)] [] = some (.tup [.ro (.str ⟨(Lib.cut s t).1.toArray⟩), .ro (.str ⟨(Lib.cut s t).2.1.toArray⟩), .ro (.bool (Lib.cut s t).2.2)], []) := callLim_x (by simp [XE, h])
theorem code_nil : C 43 [.ro .nili] [] = some (.one (.ro (.int .i64 0)), []) := callLim_x (by simp [XE])
theorem code_err (c : Int) : C 43 [.ro (.iface 106 (.agg [.int .i64 c]))] [] = some (.one (.ro (.int .i64 c)), []) := callLim_x (by simp [XE])
theorem open_ev (xs : List D) : C 33 [.ro (.sl 1 xs)] [] = some (.agg [.ro (.sl 1 (xs.take 2000)), .ro (.int .i64 0)], []) := callLim_x (by simp [XE])
end Go.Qz

/- What the functions come to: sizes. -/
namespace Go.Qz
open Go.Proofs

abbrev Lines := List (List UInt8)
abbrev SS (xs : Lines) : D := .sl 1 (xs.map T)
abbrev I (n : Int) : D := .int .i64 n
abbrev N (n : Nat) : D := .int .i64 (n : Int)

@[simp] theorem flats_T (xs : Lines) : flats (xs.map T) = true := by
  induction xs with
  | nil => rfl
  | cons a r ih => simp [flats, D.flat, ih]

def szL : Lines → Int → Int
  | [], l => l
  | x :: r, l => if l - x.length < 0 then -1 else szL r (l - x.length)
def szSS (xs : Lines) (l : Int) : Int := if l - xs.length < 0 then -1 else szL xs (l - xs.length)

theorem szStringS_ev (xs : Lines) (l : Int) (hl : 0 ≤ l) (hl2 : l ≤ 1048576) (hn : xs.length ≤ 140737488351232) (hx : ∀ x ∈ xs, x.length ≤ 140737488351232) :
    C fn_w_szStringS [.ro (SS xs), .ro (I l)] [] = some (.one (.ro (I (szSS xs l))), []) := by
  refine ctx_call Tryd.func54 conv_w_szStringS rfl ?_
  have h1 : IntKind.i64.wrap (l - xs.length) = l - xs.length := wrap64 (by omega) (by omega)
  unfold szSS
  by_cases hneg : l - xs.length < 0
  · simp [h1, hneg]
  · simp [h1, hneg]
    refine loop_run (fun m e => ∃ i l', m = xs.length - i ∧ i ≤ xs.length ∧ 0 ≤ l' ∧ l' ≤ 1048576 ∧ e.size = 28 ∧ e.get 0 = .one (.ro (SS xs)) ∧ e.get 1 = .one (.ro (I l')) ∧ e.get 5 = .one (.ro (N i)) ∧
      szL (xs.drop i) l' = szL xs (l - xs.length)) ?_ xs.length _ ⟨0, l - xs.length, rfl, Nat.zero_le _, by omega, by omega, by simp, by simp, by simp, by simp, rfl⟩
    rintro m e ⟨i, l', rfl, hi, hl0, hl1, hsz, h0, h1, h5, hr⟩ ih
    rcases Nat.lt_or_ge i xs.length with hlt | hge
    · have hxl := hx xs[i] (List.getElem_mem hlt)
      have hd : xs.drop i = xs[i] :: xs.drop (i + 1) := List.drop_eq_getElem_cons hlt
      have hw : IntKind.i64.wrap (l' - xs[i].length) = l' - xs[i].length := wrap64 (by omega) (by omega)
      rw [hd, szL] at hr
      have hwi : IntKind.i64.wrap ((i : Int) + 1) = ((i + 1 : Nat) : Int) := wrap64_succ (by omega)
      simp [hsz, h0, h1, h5, hlt, hw, hwi]
      split
      · rename_i hc
        rw [if_pos hc] at hr
        simp [← hr]
      · rename_i hc
        rw [if_neg hc] at hr
        exact ih _ _ (by omega) ⟨i + 1, _, rfl, by omega, by omega, by omega, by simp [hsz], by simp [h0], by simp, by simp, hr⟩
    · obtain rfl : i = xs.length := by omega
      simp [szL] at hr
      simp [hsz, h0, h1, h5, hr]
end Go.Qz

/- What the functions come to: plain text. -/
namespace Go.Qz
open Go.Proofs

def plainB (b : UInt8) : Bool := decide (32 ≤ b.toNat) && decide (b.toNat ≤ 126)
def plainT (l : List UInt8) : Bool := decide (l.length ≤ 80) && l.all plainB
def seenT (l : List UInt8) : Bool := l.all plainB && decide (l.length ≤ 80)
theorem seen_plain (l : List UInt8) : seenT l = plainT l := by unfold seenT plainT; exact Bool.and_comm _ _
def inI (n a b : Int) : Bool := decide (a ≤ n) && decide (n ≤ b)

theorem plainByte_ev (b : UInt8) : C fn_i_plainByte [.ro (.int .u8 b.toNat)] [] = some (.one (.ro (.bool (plainB b))), []) := by
  refine ctx_call Tryd.func85 conv_i_plainByte rfl ?_
  unfold plainB
  by_cases h : 32 ≤ b.toNat <;> simp [h]

theorem l1In_ev (n a b : Int) : C fn_s_l1In [.ro (I n), .ro (I a), .ro (I b)] [] = some (.one (.ro (.bool (inI n a b))), []) := by
  refine ctx_call Tryd.func73 conv_s_l1In rfl ?_
  unfold inI
  by_cases h : a ≤ n <;> simp [h]

theorem in_plain (b : UInt8) : inI b.toNat 32 126 = plainB b := by
  unfold inI plainB
  congr 1
  · simp
  · simp

theorem plainText_ev (l : List UInt8) : C fn_i_plainText [.ro (T l)] [] = some (.one (.ro (.bool (plainT l))), []) := by
  refine ctx_call Tryd.func67 conv_i_plainText rfl ?_
  unfold plainT
  by_cases hs : l.length ≤ 80
  · have hs' : ¬ (80 : Int) < l.length := by omega
    simp [hs']
    refine loop_run (fun m e => ∃ i, m = l.length - i ∧ i ≤ l.length ∧ e.size = 18 ∧ e.get 0 = .one (.ro (T l)) ∧ e.get 8 = .one (.ro (N l.length)) ∧ e.get 9 = .one (.ro (N i)) ∧
      (l.drop i).all plainB = l.all plainB) ?_ l.length _ ⟨0, rfl, Nat.zero_le _, by simp, by simp, by simp, by simp, rfl⟩
    rintro m e ⟨i, rfl, hi, hsz, h0, h8, h9, hr⟩ ih
    rcases Nat.lt_or_ge i l.length with hlt | hge
    · have hd : l.drop i = l[i] :: l.drop (i + 1) := List.drop_eq_getElem_cons hlt
      have hwi : IntKind.i64.wrap ((i : Int) + 1) = ((i + 1 : Nat) : Int) := wrap64_succ (by omega)
      rw [hd, List.all_cons] at hr
      cases hp : plainB l[i] with
      | false =>
        rw [hp] at hr
        simp [plainByte_ev, hsz, h0, h8, h9, hlt, hp, hs, ← hr]
      | true =>
        rw [hp, Bool.true_and] at hr
        simp [plainByte_ev, hsz, h0, h8, h9, hlt, hwi, hp]
        exact ih _ _ (by omega) ⟨i + 1, rfl, by omega, by simp [hsz], by simp [h0], by simp [h8], by simp, hr⟩
    · obtain rfl : i = l.length := by omega
      rw [List.drop_length, List.all_nil] at hr
      simp [hsz, h0, h8, h9, hs, ← hr]
  · have hs' : 80 < l.length := by omega
    simp [hs', hs]

theorem l5Seen_ev (l : List UInt8) (hl : l.length ≤ 140737488351232) : C fn_s_l5Seen [.ro (T l)] [] = some (.one (.ro (.bool (seenT l))), []) := by
  refine ctx_call Tryd.func82 conv_s_l5Seen rfl ?_
  unfold seenT
  simp
  refine loop_run (fun m e => ∃ i, m = l.length - i ∧ i ≤ l.length ∧ e.size = 19 ∧ e.get 0 = .one (.ro (T l)) ∧ e.get 3 = .one (.ro (N i)) ∧
    (l.drop i).all plainB = l.all plainB) ?_ l.length _ ⟨0, rfl, Nat.zero_le _, by simp, by simp, by simp, rfl⟩
  rintro m e ⟨i, rfl, hi, hsz, h0, h3, hr⟩ ih
  rcases Nat.lt_or_ge i l.length with hlt | hge
  · have hd : l.drop i = l[i] :: l.drop (i + 1) := List.drop_eq_getElem_cons hlt
    have hwi : IntKind.i64.wrap ((i : Int) + 1) = ((i + 1 : Nat) : Int) := wrap64_succ (by omega)
    have hwb : IntKind.i64.wrap (l[i].toNat : Int) = l[i].toNat := by have := l[i].toNat_lt; exact wrap64 (by omega) (by omega)
    rw [hd, List.all_cons] at hr
    cases hp : plainB l[i] with
    | false =>
      rw [hp] at hr
      simp [l1In_ev, in_plain, hsz, h0, h3, hlt, hwb, hp, ← hr]
    | true =>
      rw [hp, Bool.true_and] at hr
      simp [l1In_ev, in_plain, hsz, h0, h3, hlt, hwi, hwb, hp]
      exact ih _ _ (by omega) ⟨i + 1, rfl, by omega, by simp [hsz], by simp [h0], by simp, hr⟩
  · obtain rfl : i = l.length := by omega
    rw [List.drop_length, List.all_nil] at hr
    simp [hsz, h0, h3, ← hr]
end Go.Qz

/- What the functions come to: names of packs. -/
namespace Go.Qz
open Go.Proofs

def smallB (b : UInt8) : Bool := decide (97 ≤ b.toNat) && decide (b.toNat ≤ 122)
def packB (b : UInt8) : Bool := smallB b || (decide (48 ≤ b.toNat) && decide (b.toNat ≤ 57))
def packOk : List UInt8 → Bool
  | [] => false
  | c :: r => decide (r.length + 1 ≤ 10) && (smallB c && (c :: r).all packB)

theorem packNameOk_ev (l : List UInt8) (hn : l.length ≤ 140737488351232) : C fn_i_packNameOk [.ro (T l)] [] = some (.one (.ro (.bool (packOk l))), []) := by
  refine ctx_call Tryd.func65 conv_i_packNameOk rfl ?_
  cases l with
  | nil => simp [packOk]
  | cons c r =>
    by_cases h1 : 10 < r.length + 1
    · have : ¬ r.length + 1 ≤ 10 := by omega
      have h1i : (10 : Int) < (r.length : Int) + 1 := by omega
      simp [packOk, h1i, this]
    · have h1' : r.length + 1 ≤ 10 := by omega
      have h1i : ¬ (10 : Int) < (r.length : Int) + 1 := by omega
      by_cases h2 : c.toNat < 97
      · have : ¬ 97 ≤ c.toNat := by omega
        simp [packOk, smallB, h1i, h1', h2, this]
      · have h2' : 97 ≤ c.toNat := by omega
        by_cases h3 : 122 < c.toNat
        · have : ¬ c.toNat ≤ 122 := by omega
          simp [packOk, smallB, h1i, h1', h2, h2', h3, this]
        · have h3' : c.toNat ≤ 122 := by omega
          have hp : packOk (c :: r) = (c :: r).all packB := by simp [packOk, smallB, h1', h2', h3']
          rw [hp]
          simp [h1i, h2, h3]
          generalize hl : c :: r = l at *
          have hlen : l.length = r.length + 1 := by rw [← hl]; rfl
          have hc : (r.length : Int) + 1 = (l.length : Int) := by rw [hlen]; rfl
          have hr0 : (packB c && r.all packB) = l.all packB := by rw [← hl]; rfl
          rw [hr0]
          refine loop_run (fun m e => ∃ i, m = l.length - i ∧ i ≤ l.length ∧ e.size = 49 ∧ e.get 0 = .one (.ro (T l)) ∧ e.get 22 = .one (.ro (N l.length)) ∧ e.get 23 = .one (.ro (N i)) ∧ (l.drop i).all packB = l.all packB)
            ?_ l.length _ ⟨0, rfl, Nat.zero_le _, by simp, by simp, by simp [hc], by simp, rfl⟩
          clear hl hp hr0 hc hlen
          rintro m e ⟨i, rfl, hi, hsz, h0, h22, h23, hr⟩ ih
          rcases Nat.lt_or_ge i l.length with hlt | hge
          · have hwi : IntKind.i64.wrap ((i : Int) + 1) = ((i + 1 : Nat) : Int) := wrap64_succ (by omega)
            have hd : l.drop i = l[i] :: l.drop (i + 1) := List.drop_eq_getElem_cons hlt
            rw [hd, List.all_cons] at hr
            have hb : packB l[i] = (decide (97 ≤ l[i].toNat) && decide (l[i].toNat ≤ 122) || (decide (48 ≤ l[i].toNat) && decide (l[i].toNat ≤ 57))) := rfl
            rw [hb] at hr
            by_cases hA : l[i].toNat < 97
            · have a1 : ¬ 97 ≤ l[i].toNat := by omega
              by_cases hC : l[i].toNat < 48
              · have c1 : ¬ 48 ≤ l[i].toNat := by omega
                simp [a1, c1] at hr
                simp [hsz, h0, h22, h23, hlt, hA, hC, hr]
              · have c1 : 48 ≤ l[i].toNat := by omega
                by_cases hD : 57 < l[i].toNat
                · have d1 : ¬ l[i].toNat ≤ 57 := by omega
                  simp [a1, c1, d1] at hr
                  simp [hsz, h0, h22, h23, hlt, hA, hC, hD, hr]
                · have d1 : l[i].toNat ≤ 57 := by omega
                  simp [a1, c1, d1] at hr
                  simp [hsz, h0, h22, h23, hlt, hA, hC, hD, hwi]
                  exact ih _ _ (by omega) ⟨i + 1, rfl, by omega, by simp [hsz], by simp [h0], by simp [h22], by simp, by simpa using hr⟩
            · have a1 : 97 ≤ l[i].toNat := by omega
              by_cases hB : 122 < l[i].toNat
              · have b1 : ¬ l[i].toNat ≤ 122 := by omega
                have c1 : ¬ l[i].toNat < 48 := by omega
                have d1 : 57 < l[i].toNat := by omega
                have d2 : ¬ l[i].toNat ≤ 57 := by omega
                simp [b1, d2] at hr
                simp [hsz, h0, h22, h23, hlt, hA, hB, c1, d1, hr]
              · have b1 : l[i].toNat ≤ 122 := by omega
                simp [a1, b1] at hr
                simp [hsz, h0, h22, h23, hlt, hA, hB, hwi]
                exact ih _ _ (by omega) ⟨i + 1, rfl, by omega, by simp [hsz], by simp [h0], by simp [h22], by simp, by simpa using hr⟩
          · obtain rfl : i = l.length := by omega
            rw [List.drop_length] at hr
            simp at hr
            simp [hsz, h0, h22, h23, hr]
            exact hr

def digB (b : UInt8) : Bool := decide (48 ≤ b.toNat) && decide (b.toNat ≤ 57)
def sufS (i : Nat) : List UInt8 → Bool
  | [] => true
  | c :: r => (smallB c || (decide (i ≠ 0) && digB c)) && r.all packB
def packS (l : List UInt8) : Bool := sufS 0 l && inI l.length 1 10
theorem sufS_pos (i : Nat) (hi : i ≠ 0) (l : List UInt8) : sufS i l = l.all packB := by
  cases l with
  | nil => rfl
  | cons c r => simp [sufS, hi, packB, digB]
theorem packS_eq (l : List UInt8) : packS l = packOk l := by
  cases l with
  | nil => rfl
  | cons c r =>
    have hp : (smallB c && (c :: r).all packB) = (smallB c && r.all packB) := by
      cases h : smallB c <;> simp [packB, h]
    show packS (c :: r) = (decide (r.length + 1 ≤ 10) && (smallB c && (c :: r).all packB))
    rw [hp]
    have hin : inI ((c :: r).length) 1 10 = decide (r.length + 1 ≤ 10) := by
      unfold inI
      have : ((1 : Int) ≤ ((c :: r).length : Nat)) = True := by simp
      simp [this]
      exact ⟨fun h => by omega, fun h => by omega⟩
    unfold packS sufS
    rw [hin, Bool.and_comm]
    simp

theorem l3Pack_ev (l : List UInt8) (hn : l.length ≤ 140737488351232) : C fn_s_l3Pack [.ro (T l)] [] = some (.one (.ro (.bool (packS l))), []) := by
  refine ctx_call Tryd.func72 conv_s_l3Pack rfl ?_
  simp
  unfold packS
  refine loop_run (fun m e => ∃ i, m = l.length - i ∧ i ≤ l.length ∧ e.size = 42 ∧ e.get 0 = .one (.ro (T l)) ∧ e.get 3 = .one (.ro (N i)) ∧ (sufS i (l.drop i) && inI l.length 1 10) = (sufS 0 l && inI l.length 1 10))
    ?_ l.length _ ⟨0, rfl, Nat.zero_le _, by simp, by simp, by simp, rfl⟩
  rintro m e ⟨i, rfl, hi, hsz, h0, h3, hr⟩ ih
  rcases Nat.lt_or_ge i l.length with hlt | hge
  · have hwi : IntKind.i64.wrap ((i : Int) + 1) = ((i + 1 : Nat) : Int) := wrap64_succ (by omega)
    have hd : l.drop i = l[i] :: l.drop (i + 1) := List.drop_eq_getElem_cons hlt
    rw [hd, sufS] at hr
    have hnx : sufS (i + 1) (l.drop (i + 1)) = (l.drop (i + 1)).all packB := sufS_pos _ (by omega) _
    by_cases hA : 97 ≤ l[i].toNat
    · by_cases hB : l[i].toNat ≤ 122
      · have hs : smallB l[i] = true := by simp [smallB, hA, hB]
        rw [hs] at hr
        simp only [Bool.true_or, Bool.true_and] at hr
        simp [hsz, h0, h3, hlt, hA, hB, hwi]
        exact ih _ _ (by omega) ⟨i + 1, rfl, by omega, by simp [hsz], by simp [h0], by simp, by rw [hnx]; exact hr⟩
      · have hs : smallB l[i] = false := by simp [smallB, hB]
        have c1 : ¬ l[i].toNat < 48 := by omega
        have d1 : 57 < l[i].toNat := by omega
        have hg : digB l[i] = false := by have : ¬ l[i].toNat ≤ 57 := by omega
                                          simp [digB, this]
        rw [hs, hg] at hr
        simp only [Bool.false_or, Bool.and_false, Bool.false_and] at hr
        by_cases hi0 : i = 0
        · subst hi0
          simp [hsz, h0, h3, hlt, hA, hB, ← hr]
        · have hb0 : (i == 0) = false := by simpa using hi0
          simp [hsz, h0, h3, hlt, hA, hB, hb0, c1, d1, ← hr]
    · have hs : smallB l[i] = false := by simp [smallB, hA]
      rw [hs] at hr
      simp only [Bool.false_or] at hr
      by_cases hi0 : i = 0
      · subst hi0
        simp at hr
        simp [hsz, h0, h3, hlt, hA]
        exact hr
      · have hb0 : (i == 0) = false := by simpa using hi0
        simp only [ne_eq, hi0, not_false_eq_true, decide_true, Bool.true_and] at hr
        by_cases hC : l[i].toNat < 48
        · have hg : digB l[i] = false := by have : ¬ 48 ≤ l[i].toNat := by omega
                                            simp [digB, this]
          rw [hg] at hr
          simp only [Bool.false_and] at hr
          simp [hsz, h0, h3, hlt, hA, hb0, hC, ← hr]
        · by_cases hD : 57 < l[i].toNat
          · have hg : digB l[i] = false := by have : ¬ l[i].toNat ≤ 57 := by omega
                                              simp [digB, this]
            rw [hg] at hr
            simp only [Bool.false_and] at hr
            simp [hsz, h0, h3, hlt, hA, hb0, hC, hD, ← hr]
          · have hg : digB l[i] = true := by
              have a1 : 48 ≤ l[i].toNat := by omega
              have a2 : l[i].toNat ≤ 57 := by omega
              simp [digB, a1, a2]
            rw [hg] at hr
            simp only [Bool.true_and] at hr
            simp [hsz, h0, h3, hlt, hA, hb0, hC, hD, hwi]
            exact ih _ _ (by omega) ⟨i + 1, rfl, by omega, by simp [hsz], by simp [h0], by simp, by rw [hnx]; exact hr⟩
  · obtain rfl : i = l.length := by omega
    rw [List.drop_length] at hr
    have e0 : sufS l.length ([] : List UInt8) = true := rfl
    rw [e0, Bool.true_and] at hr
    have hin := l1In_ev l.length 1 10
    simp [hsz, h0, h3, hin, ← hr]
end Go.Qz

/- What expansion comes to: a plain law. -/
namespace Go.Qz
open Go.Proofs

abbrev Fl := List UInt8 × List UInt8
abbrev FD (f : Fl) : D := .agg [T f.1, T f.2]
abbrev FS (fs : List Fl) : D := .sl 2 (fs.map FD)
@[simp] theorem flats_FD (fs : List Fl) : flats (fs.map FD) = true := by
  induction fs with
  | nil => rfl
  | cons a r ih => simp [flats, D.flat, ih]

/-- What stands ahead of the first closing brace, and behind it. -/
def cutB : List UInt8 → Option (List UInt8 × List UInt8)
  | [] => none
  | c :: r => if c == 125 then some ([], r) else (cutB r).map fun p => (c :: p.1, p.2)
theorem cutB_len : ∀ {d n r : List UInt8}, cutB d = some (n, r) → d.length = n.length + 1 + r.length
  | [], n, r, h => by cases h
  | c :: d, n, r, h => by
    unfold cutB at h
    split at h
    · cases h; simp; omega
    · obtain ⟨p, hp, he⟩ := Option.map_eq_some_iff.1 h
      cases he
      have := cutB_len hp
      simp at this ⊢
      omega
def isMark : List UInt8 → Bool
  | a :: b :: _ => a == 36 && b == 123
  | _ => false

/-- A text's names in the places of which stands what 'var' says: the code, and the text. -/
def exLoop (var : List UInt8 → Nat × List UInt8) (out : List UInt8) (text : List UInt8) : Nat × List UInt8 :=
  match text with
  | [] => if 80 < out.length then (5, []) else (0, out)
  | c :: r => if isMark (c :: r) then
      match h : cutB (r.drop 1) with
      | none => (1, [])
      | some p => if packOk p.1 then
          (if (var p.1).1 = 0 then (if 80 < (out ++ (var p.1).2).length then (5, []) else exLoop var (out ++ (var p.1).2) p.2) else ((var p.1).1, []))
        else (1, [])
    else exLoop var (out ++ [c]) r
termination_by text.length
decreasing_by
  · have := cutB_len h
    simp only [List.length_drop, List.length_cons] at this ⊢
    omega
  · simp

section
variable {var : List UInt8 → Nat × List UInt8} {out text : List UInt8}
theorem exLoop_nil : exLoop var out [] = if 80 < out.length then (5, []) else (0, out) := by rw [exLoop]
theorem exLoop_char {c : UInt8} {r : List UInt8} (h : isMark (c :: r) = false) : exLoop var out (c :: r) = exLoop var (out ++ [c]) r := by rw [exLoop]; simp [h]
theorem exLoop_none {a b : UInt8} {r : List UInt8} (h : isMark (a :: b :: r) = true) (hc : cutB r = none) : exLoop var out (a :: b :: r) = (1, []) := by
  rw [exLoop]
  simp only [h, if_true, List.drop_succ_cons, List.drop_zero]
  split
  · rfl
  · rename_i p hp
    have hp' : cutB r = some p := hp
    rw [hc] at hp'
    cases hp'
theorem exLoop_some {a b : UInt8} {r n rest : List UInt8} (h : isMark (a :: b :: r) = true) (hc : cutB r = some (n, rest)) : exLoop var out (a :: b :: r) =
    if packOk n then (if (var n).1 = 0 then (if 80 < (out ++ (var n).2).length then (5, []) else exLoop var (out ++ (var n).2) rest) else ((var n).1, [])) else (1, []) := by
  rw [exLoop]
  simp only [h, if_true, List.drop_succ_cons, List.drop_zero]
  split
  · rename_i hp
    have hp' : cutB r = none := hp
    rw [hc] at hp'
    cases hp'
  · rename_i p hp
    have hp' : cutB r = some p := hp
    rw [hc] at hp'
    cases hp'
    rfl
end

def idxN (n : List UInt8) : List Fl → Nat → Int
  | [], _ => -1
  | f :: r, i => if f.1 == n then i else idxN n r (i + 1)
def findT (n : List UInt8) : List Fl → Option (List UInt8)
  | [] => none
  | f :: r => if f.1 == n then some f.2 else findT n r
theorem idx_find (n : List UInt8) : ∀ (fs : List Fl) (i : Nat), (idxN n fs i = -1 ∧ findT n fs = none) ∨ ∃ k, idxN n fs i = ((i + k : Nat) : Int) ∧ ∃ h : k < fs.length, findT n fs = some fs[k].2 ∧ fs[k].1 = n
  | [], i => .inl ⟨rfl, rfl⟩
  | f :: r, i => by
    unfold idxN findT
    cases hf : f.1 == n with
    | true => exact .inr ⟨0, by simp, by simp, by simp, by simpa using hf⟩
    | false =>
      rcases idx_find n r (i + 1) with ⟨h1, h2⟩ | ⟨k, h1, h, h2, h3⟩
      · exact .inl ⟨by simpa using h1, by simpa using h2⟩
      · refine .inr ⟨k + 1, ?_, by simpa using h, by simpa using h2, by simpa using h3⟩
        simp only [Bool.false_eq_true, if_false, h1]
        omega

/-- What a name stands for, behind others that are being put: the code, and the text. 'd': how deep it may go on. -/
def exVar (lets : List Fl) : Nat → Lines → List UInt8 → Nat × List UInt8
  | 0, _, _ => (4, [])
  | d + 1, us, n => match findT n lets with
    | none => (3, [])
    | some t => if us.contains n then (4, []) else exLoop (exVar lets d (us ++ [n])) [] t

/-- Enough depth is left. -/
structure Deep (lets : List Fl) (d : Nat) (us : Lines) : Prop where
  nodup : us.Nodup
  sub : ∀ x ∈ us, x ∈ lets.map (·.1)
  enough : lets.length + 1 ≤ d + us.length
theorem nodup_len {α : Type} [BEq α] [LawfulBEq α] : ∀ {us l : List α}, us.Nodup → (∀ x ∈ us, x ∈ l) → us.length ≤ l.length
  | [], l, _, _ => Nat.zero_le _
  | a :: us, l, hn, hs => by
    rw [List.nodup_cons] at hn
    have ha := hs a List.mem_cons_self
    have := nodup_len (us := us) (l := l.erase a) hn.2 (fun x hx => (List.mem_erase_of_ne (fun e => by rw [e] at hx; exact hn.1 hx)).2 (hs x (List.mem_cons_of_mem _ hx)))
    rw [List.length_erase_of_mem ha] at this
    have := List.length_pos_of_mem ha
    simp
    omega
theorem Deep.pos {lets : List Fl} {d : Nat} {us : Lines} (h : Deep lets d us) : 0 < d := by
  rcases Nat.eq_zero_or_pos d with rfl | h0
  · have h1 := nodup_len h.nodup h.sub
    have := h.enough
    simp at h1
    omega
  · exact h0
theorem Deep.next {lets : List Fl} {d : Nat} {us : Lines} {n : List UInt8} (h : Deep lets (d + 1) us) (hn : us.contains n = false) (hm : n ∈ lets.map (·.1)) : Deep lets d (us ++ [n]) where
  nodup := by
    rw [List.nodup_append]
    refine ⟨h.nodup, by simp, fun a ha b hb => ?_⟩
    simp at hb
    subst hb
    rintro rfl
    simp at hn
    exact hn ha
  sub := fun x hx => by
    rcases List.mem_append.1 hx with h1 | h1
    · exact h.sub x h1
    · simp at h1; subst h1; exact hm
  enough := by have := h.enough; simp; omega
end Go.Qz

/- What the functions come to: names in texts, of the reference. -/
namespace Go.Qz
open Go.Proofs

/-- The answer about a name. -/
def nameV : Option (List UInt8 × List UInt8) → V
  | none => .tup [.ro (T []), .ro (T []), .ro (.bool false)]
  | some p => .tup [.ro (T p.1), .ro (T p.2), .ro (.bool (packOk p.1))]

theorem l4Name_ev (a b : UInt8) (d : List UInt8) (hn : d.length ≤ 1000000) : C fn_s_l4Name [.ro (T (a :: b :: d))] [] = some (nameV (cutB d), []) := by
  refine ctx_call Tryd.func74 conv_s_l4Name rfl ?_
  simp
  generalize ht : a :: b :: d = t at *
  have hd0 : t.drop 2 = d := by rw [← ht]; rfl
  have hlen : t.length = d.length + 2 := by rw [← ht]; rfl
  refine loop_run (fun m e => ∃ i, m = t.length - i ∧ 2 ≤ i ∧ i ≤ t.length ∧ e.size = 27 ∧ e.get 0 = .one (.ro (T t)) ∧ e.get 5 = .one (.ro (N i)) ∧ (cutB (t.drop i)).map (fun p => ((t.take i).drop 2 ++ p.1, p.2)) = cutB d)
    ?_ (t.length - 2) _ ⟨2, rfl, Nat.le_refl _, by omega, by simp, by simp, by simp, ?_⟩
  · rintro m e ⟨i, rfl, h2, hi, hsz, h0, h5, hr⟩ ih
    rcases Nat.lt_or_ge i t.length with hlt | hge
    · have hwi : IntKind.i64.wrap ((i : Int) + 1) = ((i + 1 : Nat) : Int) := wrap64_succ (by omega)
      have hd : t.drop i = t[i] :: t.drop (i + 1) := List.drop_eq_getElem_cons hlt
      rw [hd, cutB] at hr
      cases hc : t[i] == 125 with
      | true =>
        rw [hc] at hr
        simp at hr
        have hl := l3Pack_ev ((t.take i).drop 2) (by simp; omega)
        rw [packS_eq] at hl
        have h3i : (0 : Int) ≤ (i : Int) + 1 := by omega
        have h4i : (i : Int) + 1 ≤ (t.length : Int) := by omega
        have h5i : ((i : Int) + 1).toNat = i + 1 := by omega
        simp [hsz, h0, h5, hlt, hc, hwi, hl, ← hr, nameV, h2, hi, h3i, h4i, h5i]
      | false =>
        rw [hc] at hr
        simp at hr
        simp [hsz, h0, h5, hlt, hc, hwi]
        refine ih _ _ (by omega) ⟨i + 1, rfl, by omega, by omega, by simp [hsz], by simp [h0], by simp, ?_⟩
        rw [← hr]
        have ht2 : t.take (i + 1) = t.take i ++ [t[i]] := List.take_succ_eq_append_getElem hlt
        rw [ht2, List.drop_append_of_le_length (by simp; omega)]
        cases cutB (t.drop (i + 1)) <;> simp
    · obtain rfl : i = t.length := by omega
      rw [List.drop_length] at hr
      simp [cutB] at hr
      simp [hsz, h0, h5, ← hr, nameV]
  · rw [hd0]
    have : (t.take 2).drop 2 = [] := by rw [List.drop_eq_nil_iff]; simp; omega
    rw [this]
    cases cutB d <;> simp
end Go.Qz

/- What the functions come to: forms of expansion, of the reference. -/
namespace Go.Qz
open Go.Proofs

theorem l4Let_ev (fs : List Fl) (n : List UInt8) (hn : fs.length ≤ 1000000) : C fn_s_l4Let [.ro (FS fs), .ro (T n)] [] = some (.one (.ro (I (idxN n fs 0))), []) := by
  refine ctx_call Tryd.func75 conv_s_l4Let rfl ?_
  simp
  refine loop_run (fun m e => ∃ i, m = fs.length - i ∧ i ≤ fs.length ∧ e.size = 20 ∧ e.get 0 = .one (.ro (FS fs)) ∧ e.get 1 = .one (.ro (T n)) ∧ e.get 5 = .one (.ro (N i)) ∧ idxN n (fs.drop i) i = idxN n fs 0)
    ?_ fs.length _ ⟨0, rfl, Nat.zero_le _, by simp, by simp, by simp, by simp, rfl⟩
  rintro m e ⟨i, rfl, hi, hsz, h0, h1, h5, hr⟩ ih
  rcases Nat.lt_or_ge i fs.length with hlt | hge
  · have hwi : IntKind.i64.wrap ((i : Int) + 1) = ((i + 1 : Nat) : Int) := wrap64_succ (by omega)
    have hd : fs.drop i = fs[i] :: fs.drop (i + 1) := List.drop_eq_getElem_cons hlt
    rw [hd, idxN] at hr
    cases hc : fs[i].1 == n with
    | true =>
      rw [hc] at hr
      simp only [if_true] at hr
      simp [hsz, h0, h1, h5, hlt, hc, ← hr]
    | false =>
      rw [hc] at hr
      simp only [Bool.false_eq_true, if_false] at hr
      simp [hsz, h0, h1, h5, hlt, hc, hwi]
      exact ih _ _ (by omega) ⟨i + 1, rfl, by omega, by simp [hsz], by simp [h0], by simp [h1], by simp, hr⟩
  · obtain rfl : i = fs.length := by omega
    rw [List.drop_length, idxN] at hr
    simp [hsz, h0, h1, h5, ← hr]

/-- A line that may be in a recipe. -/
def lineB (l : List UInt8) : Bool := l.all plainB && inI l.length 1 80
theorem l4Plain_ev (l : List UInt8) (hn : l.length ≤ 140737488351232) : C fn_s_l4Plain [.ro (T l)] [] = some (.one (.ro (.bool (lineB l))), []) := by
  refine ctx_call Tryd.func45 conv_s_l4Plain rfl ?_
  simp
  unfold lineB
  refine loop_run (fun m e => ∃ i, m = l.length - i ∧ i ≤ l.length ∧ e.size = 19 ∧ e.get 0 = .one (.ro (T l)) ∧ e.get 3 = .one (.ro (N i)) ∧ ((l.drop i).all plainB && inI l.length 1 80) = (l.all plainB && inI l.length 1 80))
    ?_ l.length _ ⟨0, rfl, Nat.zero_le _, by simp, by simp, by simp, rfl⟩
  rintro m e ⟨i, rfl, hi, hsz, h0, h3, hr⟩ ih
  rcases Nat.lt_or_ge i l.length with hlt | hge
  · have hwi : IntKind.i64.wrap ((i : Int) + 1) = ((i + 1 : Nat) : Int) := wrap64_succ (by omega)
    have hd : l.drop i = l[i] :: l.drop (i + 1) := List.drop_eq_getElem_cons hlt
    have hin := l1In_ev l[i].toNat 32 126
    have hw : IntKind.i64.wrap (l[i].toNat : Int) = (l[i].toNat : Int) := wrap64 (by omega) (by have := l[i].toNat_lt; omega)
    rw [in_plain] at hin
    rw [hd, List.all_cons] at hr
    cases hc : plainB l[i] with
    | false =>
      rw [hc] at hin hr
      simp only [Bool.false_and] at hr
      simp [hsz, h0, h3, hlt, hin, hw, ← hr]
    | true =>
      rw [hc] at hin hr
      simp only [Bool.true_and] at hr
      simp [hsz, h0, h3, hlt, hin, hw, hwi]
      exact ih _ _ (by omega) ⟨i + 1, rfl, by omega, by simp [hsz], by simp [h0], by simp, hr⟩
  · obtain rfl : i = l.length := by omega
    rw [List.drop_length] at hr
    simp only [List.all_nil, Bool.true_and] at hr
    have hin := l1In_ev l.length 1 80
    simp [hsz, h0, h3, hin, ← hr]

def letB (f : Fl) : Bool := packOk f.1 && lineB f.2
def letsB (fs : List Fl) : Bool := fs.all letB && decide (fs.length ≤ 8)
theorem l4Lets_ev (fs : List Fl) (hn : fs.length ≤ 140737488351232) (hx : ∀ f ∈ fs, f.1.length ≤ 140737488351232 ∧ f.2.length ≤ 140737488351232) : C fn_s_l4Lets [.ro (FS fs)] [] = some (.one (.ro (.bool (letsB fs))), []) := by
  refine ctx_call Tryd.func44 conv_s_l4Lets rfl ?_
  simp
  unfold letsB
  refine loop_run (fun m e => ∃ i, m = fs.length - i ∧ i ≤ fs.length ∧ e.size = 29 ∧ e.get 0 = .one (.ro (FS fs)) ∧ e.get 3 = .one (.ro (N i)) ∧ ((fs.drop i).all letB && decide (fs.length ≤ 8)) = (fs.all letB && decide (fs.length ≤ 8)))
    ?_ fs.length _ ⟨0, rfl, Nat.zero_le _, by simp, by simp, by simp, rfl⟩
  rintro m e ⟨i, rfl, hi, hsz, h0, h3, hr⟩ ih
  rcases Nat.lt_or_ge i fs.length with hlt | hge
  · have hwi : IntKind.i64.wrap ((i : Int) + 1) = ((i + 1 : Nat) : Int) := wrap64_succ (by omega)
    have hd : fs.drop i = fs[i] :: fs.drop (i + 1) := List.drop_eq_getElem_cons hlt
    obtain ⟨x1, x2⟩ := hx _ (List.getElem_mem hlt)
    have hp := l3Pack_ev fs[i].1 x1
    rw [packS_eq] at hp
    have hl := l4Plain_ev fs[i].2 x2
    rw [hd, List.all_cons] at hr
    rw [show letB fs[i] = (packOk fs[i].1 && lineB fs[i].2) from rfl] at hr
    cases h1 : packOk fs[i].1 <;> cases h2 : lineB fs[i].2 <;> rw [h1] at hp <;> rw [h2] at hl <;> rw [h1, h2] at hr <;> simp only [Bool.false_and, Bool.true_and, Bool.and_false] at hr
    · simp [hsz, h0, h3, hlt, hp, ← hr]
    · simp [hsz, h0, h3, hlt, hp, ← hr]
    · simp [hsz, h0, h3, hlt, hp, hl, ← hr]
    · simp [hsz, h0, h3, hlt, hp, hl, hwi]
      exact ih _ _ (by omega) ⟨i + 1, rfl, by omega, by simp [hsz], by simp [h0], by simp, hr⟩
  · obtain rfl : i = fs.length := by omega
    rw [List.drop_length] at hr
    simp only [List.all_nil, Bool.true_and] at hr
    simp [hsz, h0, h3, ← hr]
end Go.Qz

/- What the functions come to: the reference's expansion. -/
namespace Go.Qz
open Go.Proofs

/-- Variables of which each is short. -/
structure Lets (lets : List Fl) : Prop where
  len : lets.length ≤ 8
  text : ∀ f ∈ lets, f.2.length ≤ 80

theorem isMark_two {t : List UInt8} (h : isMark t = true) : ∃ r, t = 36 :: 123 :: r := by
  match t, h with
  | a :: b :: r, h =>
    simp only [isMark, Bool.and_eq_true, beq_iff_eq] at h
    exact ⟨r, by rw [h.1, h.2]⟩

theorem exLoop_len (var : List UInt8 → Nat × List UInt8) : ∀ (k : Nat) (out text : List UInt8), text.length ≤ k → (exLoop var out text).2.length ≤ 80
  | k, out, [], _ => by rw [exLoop_nil]; split <;> simp; omega
  | 0, out, c :: r, h => by simp at h
  | k + 1, out, c :: r, h => by
    cases hm : isMark (c :: r) with
    | false =>
      rw [exLoop_char hm]
      exact exLoop_len var k _ _ (by simp at h; omega)
    | true =>
      obtain ⟨q, hq⟩ := isMark_two hm
      rw [hq] at hm h ⊢
      cases hc : cutB q with
      | none => rw [exLoop_none hm hc]; simp
      | some p =>
        have := cutB_len (n := p.1) (r := p.2) hc
        rw [exLoop_some hm hc]
        split
        · split
          · split
            · simp
            · exact exLoop_len var k _ _ (by simp at h; omega)
          · simp
        · simp
theorem exVar_len (lets : List Fl) : ∀ (d : Nat) (us : Lines) (n : List UInt8), (exVar lets d us n).2.length ≤ 80
  | 0, _, _ => by simp [exVar]
  | d + 1, us, n => by
    unfold exVar
    split
    · simp
    · split
      · simp
      · exact exLoop_len _ _ _ _ (Nat.le_refl _)

theorem l4Expand_ev (lets : List Fl) (hl : Lets lets) : ∀ (d : Nat) (us : Lines) (text : List UInt8), Deep lets d us → text.length ≤ 80 →
    C fn_s_l4Expand [.ro (FS lets), .ro (T text), .ro (SS us)] [] = some (.tup [.ro (T (exLoop (exVar lets d us) [] text).2), .ro (N (exLoop (exVar lets d us) [] text).1)], []) := by
  intro d
  induction d with
  | zero => intro us text hd; exact absurd hd.pos (Nat.lt_irrefl 0)
  | succ d ihd =>
    intro us text hd ht
    have hul : us.length ≤ 8 := by
      have := nodup_len hd.nodup hd.sub
      simp at this
      exact Nat.le_trans this hl.len
    refine ctx_call Tryd.func46 conv_s_l4Expand rfl ?_
    simp
    refine loop_run (fun m e => ∃ out t, m = t.length ∧ t.length ≤ 80 ∧ out.length + t.length ≤ 170 ∧ e.size = 89 ∧ e.get 0 = .one (.ro (FS lets)) ∧ e.get 1 = .one (.ro (T t)) ∧ e.get 2 = .one (.ro (SS us)) ∧ e.get 8 = .one (.ro (T out)) ∧
        exLoop (exVar lets (d + 1) us) out t = exLoop (exVar lets (d + 1) us) [] text)
      ?_ text.length _ ⟨[], text, rfl, ht, by simp; omega, by simp, by simp, by simp, by simp, by simp, rfl⟩
    rintro m e ⟨out, t, rfl, ht, hot, hsz, h0, h1, h2, h8, hr⟩ ih
    cases t with
    | nil =>
      rw [exLoop_nil] at hr
      by_cases hlo : 80 < out.length
      · rw [if_pos hlo] at hr
        simp [hsz, h0, h1, h2, h8, hlo, ← hr]
      · rw [if_neg hlo] at hr
        simp [hsz, h0, h1, h2, h8, hlo, ← hr]
    | cons c r =>
      have hms : out.length + 1 ≤ maxStr := by simp [maxStr]; simp at hot; omega
      cases r with
      | nil =>
        rw [exLoop_char (by rfl)] at hr
        simp [hsz, h0, h1, h2, h8, hms]
        exact ih _ _ (by simp) ⟨out ++ [c], [], rfl, by simp, by simp at hot ⊢; omega, by simp [hsz], by simp [h0], by simp; rfl, by simp [h2], by simp, hr⟩
      | cons b q =>
        have f1 : ¬ ((q.length : Int) + 1 + 1 < 2) := by omega
        have f2 : (2 : Int) ≤ (q.length : Int) + 1 + 1 := by omega
        have f3 : (1 : Int) ≤ (q.length : Int) + 1 + 1 := by omega
        cases hm : isMark (c :: b :: q) with
        | false =>
          rw [exLoop_char hm] at hr
          have hne : ([c, b] == [36, 123]) = false := by
            simp only [isMark] at hm
            simpa using hm
          simp [hsz, h0, h1, h2, h8, hms, hne, f1, f2, f3]
          exact ih _ _ (by simp) ⟨out ++ [c], b :: q, rfl, by simp at ht ⊢; omega, by simp at hot ⊢; omega, by simp [hsz], by simp [h0], by simp, by simp [h2], by simp, hr⟩
        | true =>
          obtain ⟨q', hq'⟩ := isMark_two hm
          simp only [List.cons.injEq] at hq'
          obtain ⟨rfl, rfl, rfl⟩ := hq'
          have hname := l4Name_ev 36 123 q (by simp at ht; omega)
          cases hc : cutB q with
          | none =>
            rw [exLoop_none hm hc] at hr
            rw [hc] at hname
            simp only [nameV] at hname
            have hlet := l4Let_ev lets [] (by have := hl.len; omega)
            simp [hsz, h0, h1, h2, h8, f1, f2, hname, hlet, ← hr]
          | some p =>
            obtain ⟨n, rest⟩ := p
            have hcl := cutB_len hc
            rw [exLoop_some hm hc] at hr
            rw [hc] at hname
            simp only [nameV] at hname
            have hlet := l4Let_ev lets n (by have := hl.len; omega)
            cases hp : packOk n with
            | false =>
              rw [hp] at hname hr
              simp only [Bool.false_eq_true, if_false] at hr
              simp [hsz, h0, h1, h2, h8, f1, f2, hname, hlet, ← hr]
            | true =>
              rw [hp] at hname hr
              simp only [if_true] at hr
              rcases idx_find n lets 0 with ⟨x1, x2⟩ | ⟨k, x1, hk, x2, x3⟩
              · rw [x1] at hlet
                have hv : exVar lets (d + 1) us n = (3, []) := by rw [exVar, x2]
                rw [hv] at hr
                simp at hr
                simp [hsz, h0, h1, h2, h8, f1, f2, hname, hlet, ← hr]
              · rw [x1] at hlet
                simp at hlet
                simp [hsz, h0, h1, h2, h8, f1, f2, hname, hlet]
                refine loop_run (fun m e => ∃ i, m = us.length - i ∧ i ≤ us.length ∧ e.size = 89 ∧ e.get 0 = .one (.ro (FS lets)) ∧ e.get 2 = .one (.ro (SS us)) ∧ e.get 8 = .one (.ro (T out)) ∧ e.get 9 = .one (.ro (T n)) ∧ e.get 10 = .one (.ro (T rest)) ∧ e.get 12 = .one (.ro (N k)) ∧ e.get 13 = .one (.ro (N i)) ∧
                    (us.drop i).contains n = us.contains n) ?_ us.length _ ⟨0, rfl, Nat.zero_le _, by simp [hsz], by simp [h0], by simp [h2], by simp [h8], by simp, by simp, by simp, by simp, rfl⟩
                clear h0 h1 h2 h8 hsz
                rintro m e' ⟨i, rfl, hi, hsz, h0, h2, h8, h9, h10, h12, h13, hcn⟩ ih2
                rcases Nat.lt_or_ge i us.length with hlt | hge
                · have hwi : IntKind.i64.wrap ((i : Int) + 1) = ((i + 1 : Nat) : Int) := wrap64_succ (by omega)
                  have hd' : us.drop i = us[i] :: us.drop (i + 1) := List.drop_eq_getElem_cons hlt
                  rw [hd', List.contains_cons] at hcn
                  cases he : us[i] == n with
                  | true =>
                    have he' : (n == us[i]) = true := by
                      have : us[i] = n := by simpa using he
                      simp [this]
                    rw [he', Bool.true_or] at hcn
                    have hv : exVar lets (d + 1) us n = (4, []) := by rw [exVar, x2]; simp only; rw [if_pos hcn.symm]
                    rw [hv] at hr
                    simp at hr
                    simp [hsz, h0, h2, h8, h9, h10, h12, h13, hlt, he, ← hr]
                  | false =>
                    have he' : (n == us[i]) = false := by
                      have : ¬ us[i] = n := by simpa using he
                      simpa using fun h => this h.symm
                    rw [he', Bool.false_or] at hcn
                    simp [hsz, h0, h2, h8, h9, h10, h12, h13, hlt, he, hwi]
                    exact ih2 _ _ (by omega) ⟨i + 1, rfl, by omega, by simp [hsz], by simp [h0], by simp [h2], by simp [h8], by simp [h9], by simp [h10], by simp [h12], by simp, hcn⟩
                · obtain rfl : i = us.length := by omega
                  rw [List.drop_length] at hcn
                  have hcn' : us.contains n = false := hcn.symm
                  have hv : exVar lets (d + 1) us n = exLoop (exVar lets d (us ++ [n])) [] lets[k].2 := by rw [exVar, x2]; simp only; rw [if_neg (by rw [hcn']; simp)]
                  have hrec := ihd (us ++ [n]) lets[k].2 (hd.next hcn' (by rw [← x3]; exact List.mem_map_of_mem (List.getElem_mem hk))) (hl.text _ (List.getElem_mem hk))
                  rw [← hv, show SS (us ++ [n]) = .sl 1 (us.map T ++ [T n]) by simp] at hrec
                  have hvl := exVar_len lets (d + 1) us n
                  generalize hxv : exVar lets (d + 1) us n = xv at *
                  obtain ⟨code, s⟩ := xv
                  simp only at hrec hr hvl
                  have ha : us.length + 1 ≤ appendMax := by simp [appendMax]; omega
                  have ha0 : us.length ≤ appendMax := by simp [appendMax]; omega
                  by_cases hcode : code = 0
                  · subst hcode
                    simp only [if_true] at hr
                    have hms2 : out.length + s.length ≤ maxStr := by simp [maxStr]; simp at hot; omega
                    by_cases hlo : 80 < (out ++ s).length
                    · rw [if_pos hlo] at hr
                      have hlo' : 80 < out.length + s.length := by simpa using hlo
                      have hloi : (80 : Int) < (out.length : Int) + (s.length : Int) := by omega
                      simp [hsz, h0, h2, h8, h9, h10, h12, h13, hk, ha, ha0, hrec, hms2, hloi, ← hr]
                    · rw [if_neg hlo] at hr
                      have hlo' : ¬ 80 < out.length + s.length := by simpa using hlo
                      have hloi : ¬ (80 : Int) < (out.length : Int) + (s.length : Int) := by omega
                      simp [hsz, h0, h2, h8, h9, h10, h12, h13, hk, ha, ha0, hrec, hms2, hloi]
                      exact ih _ _ (by simp only [List.length_cons]; omega) ⟨out ++ s, rest, rfl, by simp at ht; omega, by simp at ht hot ⊢; omega, by simp [hsz], by simp [h0], by simp, by simp [h2], by simp, hr⟩
                  · rw [if_neg hcode] at hr
                    have hcb : (code == 0) = false := by simpa using hcode
                    simp [hsz, h0, h2, h8, h9, h10, h12, h13, hk, ha, ha0, hrec, hcb, ← hr]
end Go.Qz

/- What the functions come to: names in texts, of the program. -/
namespace Go.Qz
open Go.Proofs

theorem cut_eq : ∀ d : List UInt8, Lib.cut d [125] = (match cutB d with | some p => (p.1, p.2, true) | none => (d, [], false))
  | [] => by simp [Lib.cut, Lib.index, cutB]
  | c :: r => by
    have ih := cut_eq r
    unfold cutB
    cases hc : c == 125 with
    | true =>
      have h1 : Lib.index (c :: r) [125] = 0 := by
        have : (125 == c) = true := by
          have : c = 125 := by simpa using hc
          simp [this]
        simp [Lib.index, List.isPrefixOf, this]
      simp [Lib.cut, h1]
    | false =>
      have hne : (125 == c) = false := by
        have : ¬ c = 125 := by simpa using hc
        simpa using fun h => this h.symm
      have h1 : Lib.index (c :: r) [125] = if Lib.index r [125] == -1 then -1 else Lib.index r [125] + 1 := by
        simp [Lib.index, List.isPrefixOf, hne]
      have hg := Lib.index_ge r [125]
      simp only [Bool.false_eq_true, if_false]
      cases hb : cutB r with
      | none =>
        rw [hb] at ih
        simp only [Lib.cut] at ih
        have hn : ¬ 0 ≤ Lib.index r [125] := by
          intro h0
          rw [if_pos h0] at ih
          simp at ih
        have hm : Lib.index r [125] = -1 := by omega
        rw [hm] at h1
        simp at h1
        simp [Lib.cut, h1]
      | some p =>
        rw [hb] at ih
        simp only [Lib.cut] at ih
        have hp : 0 ≤ Lib.index r [125] := by
          rcases Int.lt_or_le (Lib.index r [125]) 0 with h0 | h0
          · rw [if_neg (by omega)] at ih
            simp at ih
          · exact h0
        rw [if_pos hp] at ih
        have hm : (Lib.index r [125] == -1) = false := by
          have : Lib.index r [125] ≠ -1 := by omega
          simpa using this
        rw [hm] at h1
        simp only [Bool.false_eq_true, if_false] at h1
        have hp' : 0 ≤ Lib.index r [125] + 1 := by omega
        have ht : (Lib.index r [125] + 1).toNat = (Lib.index r [125]).toNat + 1 := by omega
        simp only [Prod.mk.injEq, List.length_singleton, and_true] at ih
        simp only [Lib.cut, h1, if_pos hp', ht, List.length_singleton, Option.map_some]
        rw [List.take_succ_cons, ih.1, Nat.add_right_comm, List.drop_succ_cons, ih.2]

/-- The answer about a name. -/
def refV : Option (List UInt8 × List UInt8) → V
  | none => .tup [.ro (T []), .ro (T []), .ro (.bool false)]
  | some p => if packOk p.1 then .tup [.ro (T p.1), .ro (T p.2), .ro (.bool true)] else .tup [.ro (T []), .ro (T []), .ro (.bool false)]

theorem hasPrefix_ev (d : List UInt8) (hn : d.length ≤ 1000000) : C fn_internal_stringslite_HasPrefix [.ro (T (36 :: 123 :: d)), .ro (T [36, 123])] [] = some (.one (.ro (.bool true)), []) := by
  refine ctx_call Tryd.func119 conv_internal_stringslite_HasPrefix rfl ?_
  have f2 : (2 : Int) ≤ (d.length : Int) + 1 + 1 := by omega
  simp [f2]
theorem trim1_ev (d : List UInt8) (hn : d.length ≤ 1000000) : C fn_internal_stringslite_TrimPrefix [.ro (T (36 :: 123 :: d)), .ro (T [36, 123])] [] = some (.one (.ro (T d)), []) := by
  refine ctx_call Tryd.func105 conv_internal_stringslite_TrimPrefix rfl ?_
  have h := hasPrefix_ev d hn
  have f2 : (2 : Int) ≤ (d.length : Int) + 1 + 1 := by omega
  simp [h, f2]
theorem trim_ev (d : List UInt8) (hn : d.length ≤ 1000000) : C fn_strings_TrimPrefix [.ro (T (36 :: 123 :: d)), .ro (T [36, 123])] [] = some (.one (.ro (T d)), []) := by
  refine ctx_call Tryd.func88 conv_strings_TrimPrefix rfl ?_
  have h := trim1_ev d hn
  simp [h]
theorem reference_ev (d : List UInt8) (hn : d.length ≤ 1000000) : C fn_i_reference [.ro (T (36 :: 123 :: d))] [] = some (refV (cutB d), []) := by
  refine ctx_call Tryd.func69 conv_i_reference rfl ?_
  have h1 := trim_ev d hn
  have h2 := cut_str d [125] (by omega)
  rw [cut_eq] at h2
  cases hc : cutB d with
  | none =>
    rw [hc] at h2
    simp only at h2
    simp [h1, h2, refV]
  | some p =>
    have hl := cutB_len (n := p.1) (r := p.2) hc
    rw [hc] at h2
    simp only at h2
    have h3 := packNameOk_ev p.1 (by omega)
    unfold refV
    cases hp : packOk p.1 <;> rw [hp] at h3 <;> simp [h1, h2, h3, hp]
end Go.Qz

/- What the functions come to: places in lists. -/
namespace Go.Qz
open Go.Proofs

def idxL (n : List UInt8) : Lines → Nat → Int
  | [], _ => -1
  | x :: r, i => if n == x then (i : Int) else idxL n r (i + 1)
theorem idxL_has (n : List UInt8) : ∀ (xs : Lines) (i : Nat), decide (idxL n xs i ≥ 0) = xs.contains n := by
  intro xs
  induction xs with
  | nil => intro i; rfl
  | cons x r ih =>
    intro i
    rw [idxL, List.contains_cons]
    cases h : n == x with
    | true => simp
    | false => simp [ih]

theorem index_ev (xs : Lines) (n : List UInt8) (hn : xs.length ≤ 140737488351232) : C fn_slices_Index_L_string_string [.ro (SS xs), .ro (T n)] [] = some (.one (.ro (I (idxL n xs 0))), []) := by
  refine ctx_call Tryd.func106 conv_slices_Index_L_string_string rfl ?_
  simp
  refine loop_run (fun m e => ∃ i, m = xs.length - i ∧ i ≤ xs.length ∧ e.size = 19 ∧ e.get 0 = .one (.ro (SS xs)) ∧ e.get 1 = .one (.ro (T n)) ∧ e.get 7 = .one (.ro (N xs.length)) ∧ e.get 8 = .one (.ro (N i)) ∧
    idxL n (xs.drop i) i = idxL n xs 0) ?_ xs.length _ ⟨0, rfl, Nat.zero_le _, by simp, by simp, by simp, by simp, by simp, rfl⟩
  rintro m e ⟨i, rfl, hi, hsz, h0, h1, h7, h8, hr⟩ ih
  rcases Nat.lt_or_ge i xs.length with hlt | hge
  · have hd : xs.drop i = xs[i] :: xs.drop (i + 1) := List.drop_eq_getElem_cons hlt
    have hwi : IntKind.i64.wrap ((i : Int) + 1) = ((i + 1 : Nat) : Int) := wrap64_succ (by omega)
    rw [hd, idxL] at hr
    cases hp : n == xs[i] with
    | true =>
      rw [hp, if_pos rfl] at hr
      simp [hsz, h0, h1, h7, h8, hlt, hp, ← hr]
    | false =>
      rw [hp] at hr
      simp only [Bool.false_eq_true, if_false] at hr
      simp [hsz, h0, h1, h7, h8, hlt, hwi, hp]
      exact ih _ _ (by omega) ⟨i + 1, rfl, by omega, by simp [hsz], by simp [h0], by simp [h1], by simp [h7], by simp, hr⟩
  · obtain rfl : i = xs.length := by omega
    rw [List.drop_length, idxL] at hr
    simp [hsz, h0, h1, h7, h8, ← hr]

theorem contains_ev (xs : Lines) (n : List UInt8) (hn : xs.length ≤ 140737488351232) : C fn_slices_Contains_L_string_string [.ro (SS xs), .ro (T n)] [] = some (.one (.ro (.bool (xs.contains n))), []) := by
  refine ctx_call Tryd.func90 conv_slices_Contains_L_string_string rfl ?_
  have h := index_ev xs n hn
  have h2 := idxL_has n xs 0
  generalize idxL n xs 0 = q at *
  rw [← h2]
  simp [h]

def twice : Lines → List Fl → Bool
  | _, [] => false
  | seen, f :: r => if seen.contains f.1 then true else twice (seen ++ [f.1]) r


theorem varName_ev (f : Fl) (n : List UInt8) (c : Nat) (hc : c < 10000) (hc2 : 5000 ≤ c) : C fn_i_expander_variable_cl1 [.ro (FD f), .ptr c 0] [(c, [.ro (T n)])] = some (.one (.ro (.bool (f.1 == n))), [(c, [.ro (T n)])]) := by
  refine ctx_call Tryd.func89 conv_i_expander_variable_cl1 rfl ?_
  have h1 : ¬ c = 2 := by omega
  simp [hc, h1]

theorem indexFunc_ev (fs : List Fl) (n : List UInt8) (hn : fs.length ≤ 1000000) : C fn_slices_IndexFunc_L_i_Let_i_Let [.ro (FS fs), .fn 89 [.ptr 5100]] [(5100, [.ro (T n)])] = some (.one (.ro (I (idxN n fs 0))), [(5100, [.ro (T n)])]) := by
  refine ctx_call Tryd.func66 conv_slices_IndexFunc_L_i_Let_i_Let rfl ?_
  simp
  refine loop_run (fun m e => ∃ i, m = fs.length - i ∧ i ≤ fs.length ∧ e.size = 19 ∧ e.get 0 = .one (.ro (FS fs)) ∧ e.get 1 = .one (.fn 89 [.ptr 5100]) ∧ e.box 5100 = some [.ro (T n)] ∧ e.get 7 = .one (.ro (N fs.length)) ∧ e.get 8 = .one (.ro (N i)) ∧ idxN n (fs.drop i) i = idxN n fs 0)
    ?_ fs.length _ ⟨0, rfl, Nat.zero_le _, by simp, by simp, by simp, by simp, by simp, by simp, rfl⟩
  rintro m e ⟨i, rfl, hi, hsz, h0, h1, hb, h7, h8, hr⟩ ih
  rcases Nat.lt_or_ge i fs.length with hlt | hge
  · have hwi : IntKind.i64.wrap ((i : Int) + 1) = ((i + 1 : Nat) : Int) := wrap64_succ (by omega)
    have hd : fs.drop i = fs[i] :: fs.drop (i + 1) := List.drop_eq_getElem_cons hlt
    have hv := varName_ev fs[i] n 5001 (by decide) (by decide)
    rw [hd, idxN] at hr
    cases hc : fs[i].1 == n with
    | true =>
      rw [hc] at hv hr
      simp only [if_true] at hr
      simp [hsz, h0, h1, hb, h7, h8, hlt, hv, ← hr]
    | false =>
      rw [hc] at hv hr
      simp only [Bool.false_eq_true, if_false] at hr
      simp [hsz, h0, h1, hb, h7, h8, hlt, hv, hwi]
      exact ih _ _ (by omega) ⟨i + 1, rfl, by omega, by simp [hsz], by simp [h0], by simp [h1], by simp [hb], by simp [h7], by simp, hr⟩
  · obtain rfl : i = fs.length := by omega
    rw [List.drop_length, idxN] at hr
    simp [hsz, h0, h1, hb, h7, h8, ← hr]
end Go.Qz

/- What the functions come to: the program's expansion. -/
namespace Go.Qz
open Go.Proofs

/-- An error that bears a code. -/
def errA (c : Nat) : A := if c = 0 then .ro .nili else .ro (.iface 106 (.agg [N c]))
theorem errA_zero : errA 0 = .ro .nili := rfl
theorem errA_pos {c : Nat} (h : c ≠ 0) : errA c = .ro (.iface 106 (.agg [N c])) := if_neg h

/-- What 'expand' comes to, so deep. -/
def ExpandAt (lets : List Fl) (d : Nat) : Prop := ∀ (us : Lines) (text : List UInt8), Deep lets d us → text.length ≤ 80 →
  C fn_i_expander_expand [.ptr 5000 0, .ro (T text)] [(5000, [.ro (FS lets), .own (SS us)])] = some (.tup [.ro (T (exLoop (exVar lets d us) [] text).2), errA (exLoop (exVar lets d us) [] text).1], [(5000, [.ro (FS lets), .own (SS us)])])

theorem variable_ev (lets : List Fl) (hl : Lets lets) (d : Nat) (hx : ExpandAt lets d) (us : Lines) (n : List UInt8) (hd : Deep lets (d + 1) us) (hn : n.length ≤ 1000000) :
    C fn_i_expander_variable [.ptr 5000 0, .ro (T n)] [(5000, [.ro (FS lets), .own (SS us)])] = some (.tup [.ro (T (exVar lets (d + 1) us n).2), errA (exVar lets (d + 1) us n).1], [(5000, [.ro (FS lets), .own (SS us)])]) := by
  have hul : us.length ≤ 8 := by
    have := nodup_len hd.nodup hd.sub
    simp at this
    exact Nat.le_trans this hl.len
  refine ctx_call Tryd.func70 conv_i_expander_variable rfl ?_
  have hix := indexFunc_ev lets n (by have := hl.len; omega)
  have hct := contains_ev us n (by omega)
  rcases idx_find n lets 0 with ⟨x1, x2⟩ | ⟨k, x1, hk, x2, x3⟩
  · have hv : exVar lets (d + 1) us n = (3, []) := by rw [exVar, x2]
    rw [x1] at hix
    rw [hv]
    simp [hix, errA]
  · rw [x1] at hix
    simp at hix
    cases hc : us.contains n with
    | true =>
      have hv : exVar lets (d + 1) us n = (4, []) := by rw [exVar, x2]; simp only; rw [if_pos hc]
      rw [hc] at hct
      rw [hv]
      simp [hix, hct, errA]
    | false =>
      have hv : exVar lets (d + 1) us n = exLoop (exVar lets d (us ++ [n])) [] lets[k].2 := by rw [exVar, x2]; simp only; rw [if_neg (by rw [hc]; simp)]
      have hrec := hx (us ++ [n]) lets[k].2 (hd.next hc (by rw [← x3]; exact List.mem_map_of_mem (List.getElem_mem hk))) (hl.text _ (List.getElem_mem hk))
      rw [show SS (us ++ [n]) = .sl 1 (us.map T ++ [T n]) by simp, ← hv] at hrec
      rw [hc] at hct
      have ha : us.length + 1 ≤ appendMax := by simp [appendMax]; omega
      have hw1 : IntKind.i64.wrap (us.length : Int) = us.length := wrap64 (by omega) (by omega)
      have hw3 : (us.length : Int) ≤ us.length + 1 := by omega
      generalize exVar lets (d + 1) us n = xv at *
      obtain ⟨code, s⟩ := xv
      simp only at hrec ⊢
      by_cases hcode : code = 0
      · subst hcode
        rw [errA_zero] at hrec ⊢
        simp [hix, hct, hk, ha, hrec, hw1, hw3]
      · rw [errA_pos hcode] at hrec ⊢
        simp [hix, hct, hk, ha, hrec, hw1, hw3]
end Go.Qz

/- What the functions come to: the program's expansion of a text. -/
namespace Go.Qz
open Go.Proofs

theorem mark_find : ∀ t : List UInt8, (Lib.index t [36, 123] = -1 ∧ ∀ var out, exLoop var out t = if 80 < (out ++ t).length then (5, []) else (0, out ++ t)) ∨
    ∃ pre r, t = pre ++ 36 :: 123 :: r ∧ Lib.index t [36, 123] = pre.length ∧ ∀ var out, exLoop var out t = exLoop var (out ++ pre) (36 :: 123 :: r)
  | [] => .inl ⟨by rfl, fun var out => by rw [exLoop_nil]; simp⟩
  | c :: r => by
    cases hm : isMark (c :: r) with
    | true =>
      obtain ⟨q, hq⟩ := isMark_two hm
      rw [hq]
      exact .inr ⟨[], q, rfl, by simp [Lib.index, List.isPrefixOf], fun var out => by simp⟩
    | false =>
      have hp : List.isPrefixOf [36, 123] (c :: r) = false := by
        cases r with
        | nil => simp [List.isPrefixOf]
        | cons b q =>
          simp only [isMark] at hm
          have h1 : (36 == c) = (c == 36) := Bool.beq_comm
          have h2 : (123 == b) = (b == 123) := Bool.beq_comm
          simp [List.isPrefixOf, h1, h2, hm]
      have hi : Lib.index (c :: r) [36, 123] = if Lib.index r [36, 123] == -1 then -1 else Lib.index r [36, 123] + 1 := by
        rw [Lib.index, hp]
        simp
      rcases mark_find r with ⟨h1, h2⟩ | ⟨pre, q, h1, h2, h3⟩
      · refine .inl ⟨by rw [hi, h1]; rfl, fun var out => ?_⟩
        rw [exLoop_char hm, h2]
        simp
      · refine .inr ⟨c :: pre, q, by rw [h1]; rfl, ?_, fun var out => ?_⟩
        · rw [hi, h2]
          have : ((pre.length : Int) == -1) = false := by rw [beq_eq_false_iff_ne]; omega
          rw [this]
          simp
        · rw [exLoop_char hm, h3]
          simp

theorem expand_ev (lets : List Fl) (hl : Lets lets) : ∀ d, ExpandAt lets d := by
  intro d
  induction d with
  | zero => intro us text hd; exact absurd hd.pos (Nat.lt_irrefl 0)
  | succ d ihd =>
    intro us text hd ht
    refine ctx_call Tryd.func42 conv_i_expander_expand rfl ?_
    simp
    refine loop_run (fun m e => ∃ out t, m = t.length ∧ t.length ≤ 80 ∧ out.length ≤ 80 ∧ e.size = 60 ∧ e.get 0 = .one (.ptr 5000 0) ∧ e.get 1 = .one (.ro (T t)) ∧ e.get 6 = .one (.ro (T out)) ∧ e.box 5000 = some [.ro (FS lets), .own (SS us)] ∧
        exLoop (exVar lets (d + 1) us) out t = exLoop (exVar lets (d + 1) us) [] text)
      ?_ text.length _ ⟨[], text, rfl, ht, by simp, by simp, by simp, by simp, by simp, by simp, rfl⟩
    rintro m e ⟨out, t, rfl, ht, ho, hsz, h0, h1, h6, hb, hr⟩ ih
    have hix := index_str t [36, 123] (by omega)
    rcases mark_find t with ⟨x1, x2⟩ | ⟨pre, r, x1, x2, x3⟩
    · rw [x1] at hix
      rw [x2] at hr
      have hms : out.length + t.length ≤ maxStr := by simp [maxStr]; omega
      by_cases hlo : 80 < out.length + t.length
      · rw [if_pos (by simpa using hlo)] at hr
        have hlo' : (80 : Int) < (out.length : Int) + t.length := by omega
        simp [hsz, h0, h1, h6, hb, hix, hms, hlo', ← hr, errA]
      · rw [if_neg (by simpa using hlo)] at hr
        have hlo' : ¬ (80 : Int) < (out.length : Int) + t.length := by omega
        simp [hsz, h0, h1, h6, hb, hix, hms, hlo', ← hr, errA]
    · subst x1
      rw [x2] at hix
      rw [x3] at hr
      simp only [List.length_append, List.length_cons] at ht
      have href := reference_ev r (by omega)
      have hpl : (pre.length : Int) ≤ (pre.length : Int) + ((r.length : Int) + 1 + 1) := by omega
      have hp0 : ¬ (pre.length : Int) < 0 := by omega
      have hmk : isMark (36 :: 123 :: r) = true := rfl
      have hdt : List.drop pre.length (List.take (pre.length + (r.length + 1 + 1)) (pre ++ 36 :: 123 :: r)) = 36 :: 123 :: r := by
        rw [List.take_of_length_le (by simp), List.drop_left]
      cases hc : cutB r with
      | none =>
        rw [exLoop_none hmk hc] at hr
        rw [hc] at href
        simp only [refV] at href
        simp [hsz, h0, h1, h6, hb, hix, hp0, hpl, hdt, href, ← hr, errA]
      | some p =>
        obtain ⟨n, rest⟩ := p
        have hcl := cutB_len hc
        rw [exLoop_some hmk hc] at hr
        rw [hc] at href
        simp only [refV] at href
        cases hp : packOk n with
        | false =>
          rw [hp] at href hr
          simp only [Bool.false_eq_true, if_false] at href hr
          simp [hsz, h0, h1, h6, hb, hix, hp0, hpl, hdt, href, ← hr, errA]
        | true =>
          rw [hp] at href hr
          simp only [if_true] at href hr
          have hv := variable_ev lets hl d ihd us n hd (by omega)
          have hvl := exVar_len lets (d + 1) us n
          generalize hxe : exVar lets (d + 1) us n = xv at hv hr hvl
          obtain ⟨code, s⟩ := xv
          simp only at hv hr hvl
          by_cases hcode : code = 0
          · subst hcode
            simp only [if_true] at hr
            rw [errA_zero] at hv
            have hm1 : pre.length + s.length ≤ maxStr := by simp [maxStr]; omega
            have hm2 : out.length + (pre.length + s.length) ≤ maxStr := by simp [maxStr]; omega
            by_cases hlo : 80 < (out ++ pre ++ s).length
            · rw [if_pos hlo] at hr
              simp at hlo
              have hlo' : (80 : Int) < (out.length : Int) + ((pre.length : Int) + s.length) := by omega
              simp [hsz, h0, h1, h6, hb, hix, hp0, hpl, hdt, href, hv, hm1, hm2, hlo', ← hr, errA]
            · rw [if_neg hlo] at hr
              simp at hlo
              have hlo' : ¬ (80 : Int) < (out.length : Int) + ((pre.length : Int) + s.length) := by omega
              simp [hsz, h0, h1, h6, hb, hix, hp0, hpl, hdt, href, hv, hm1, hm2, hlo']
              exact ih _ _ (by simp; omega) ⟨out ++ pre ++ s, rest, rfl, by omega, by simp; omega, by simp [hsz], by simp [h0], by simp, by simp, by simp [hb], hr⟩
          · rw [if_neg hcode] at hr
            rw [errA_pos hcode] at hv
            simp [hsz, h0, h1, h6, hb, hix, hp0, hpl, hdt, href, hv, ← hr, errA, hcode]
end Go.Qz

/- What the functions come to: expansion, of the program and of the reference. -/
namespace Go.Qz
open Go.Proofs

def lineI (l : List UInt8) : Bool := !l.isEmpty && plainT l
theorem line_eq (l : List UInt8) : lineI l = lineB l := by
  unfold lineI lineB plainT inI
  cases l with
  | nil => simp
  | cons c r =>
    simp only [List.isEmpty_cons, Bool.not_false, Bool.true_and, List.length_cons]
    rw [Bool.and_comm, show decide ((1 : Int) ≤ ((r.length + 1 : Nat) : Int)) = true by simp, Bool.true_and]
    congr 1
    rw [Bool.eq_iff_iff]
    simp
    omega
theorem lineOk_ev (l : List UInt8) : C fn_i_lineOk [.ro (T l)] [] = some (.one (.ro (.bool (lineB l))), []) := by
  refine ctx_call Tryd.func41 conv_i_lineOk rfl ?_
  have h := plainText_ev l
  rw [← line_eq, lineI]
  cases l with
  | nil => simp
  | cons c r => simp [h]
theorem letOk_ev (f : Fl) (hn : f.1.length ≤ 140737488351232) : C fn_i_letOk [.ro (FD f)] [] = some (.one (.ro (.bool (letB f))), []) := by
  refine ctx_call Tryd.func39 conv_i_letOk rfl ?_
  have h1 := packNameOk_ev f.1 hn
  have h2 := lineOk_ev f.2
  unfold letB
  cases hp : packOk f.1 <;> rw [hp] at h1 <;> simp [h1, h2]
theorem letBad_ev (f : Fl) (hn : f.1.length ≤ 140737488351232) : C fn_i_Expand_cl1 [.ro (FD f)] [] = some (.one (.ro (.bool (!letB f))), []) := by
  refine ctx_call Tryd.func38 conv_i_Expand_cl1 rfl ?_
  have h1 := letOk_ev f hn
  simp [h1]

def idxBad : List Fl → Nat → Int
  | [], _ => -1
  | f :: r, i => if letB f then idxBad r (i + 1) else i
theorem idxBad_has : ∀ (fs : List Fl) (i : Nat), decide (idxBad fs i ≥ 0) = !fs.all letB
  | [], i => rfl
  | f :: r, i => by
    unfold idxBad
    cases h : letB f
    · simp [h]
    · rw [if_pos rfl, idxBad_has r (i + 1)]
      simp [h]
theorem indexBad_ev (fs : List Fl) (hn : fs.length ≤ 2000000) (hx : ∀ f ∈ fs, f.1.length ≤ 140737488351232) : C fn_slices_IndexFunc_L_i_Let_i_Let [.ro (FS fs), .fn 38 []] [] = some (.one (.ro (I (idxBad fs 0))), []) := by
  refine ctx_call Tryd.func66 conv_slices_IndexFunc_L_i_Let_i_Let rfl ?_
  simp
  refine loop_run (fun m e => ∃ i, m = fs.length - i ∧ i ≤ fs.length ∧ e.size = 19 ∧ e.get 0 = .one (.ro (FS fs)) ∧ e.get 1 = .one (.fn 38 []) ∧ e.get 7 = .one (.ro (N fs.length)) ∧ e.get 8 = .one (.ro (N i)) ∧ idxBad (fs.drop i) i = idxBad fs 0)
    ?_ fs.length _ ⟨0, rfl, Nat.zero_le _, by simp, by simp, by simp, by simp, by simp, rfl⟩
  rintro m e ⟨i, rfl, hi, hsz, h0, h1, h7, h8, hr⟩ ih
  rcases Nat.lt_or_ge i fs.length with hlt | hge
  · have hwi : IntKind.i64.wrap ((i : Int) + 1) = ((i + 1 : Nat) : Int) := wrap64_succ (by omega)
    have hd : fs.drop i = fs[i] :: fs.drop (i + 1) := List.drop_eq_getElem_cons hlt
    have hv := letBad_ev fs[i] (hx _ (List.getElem_mem hlt))
    rw [hd, idxBad] at hr
    cases hc : letB fs[i] with
    | false =>
      rw [hc] at hv hr
      simp only [Bool.false_eq_true, if_false] at hr
      simp [hsz, h0, h1, h7, h8, hlt, hv, ← hr]
    | true =>
      rw [hc] at hv hr
      simp only [if_true] at hr
      simp [hsz, h0, h1, h7, h8, hlt, hv, hwi]
      exact ih _ _ (by omega) ⟨i + 1, rfl, by omega, by simp [hsz], by simp [h0], by simp [h1], by simp [h7], by simp, hr⟩
  · obtain rfl : i = fs.length := by omega
    rw [List.drop_length, idxBad] at hr
    simp [hsz, h0, h1, h7, h8, ← hr]
theorem containsBad_ev (fs : List Fl) (hn : fs.length ≤ 2000000) (hx : ∀ f ∈ fs, f.1.length ≤ 140737488351232) : C fn_slices_ContainsFunc_L_i_Let_i_Let [.ro (FS fs), .fn 38 []] [] = some (.one (.ro (.bool (!fs.all letB))), []) := by
  refine ctx_call Tryd.func40 conv_slices_ContainsFunc_L_i_Let_i_Let rfl ?_
  have h := indexBad_ev fs hn hx
  rw [← idxBad_has fs 0]
  simp [h]

/-- What expansion answers. -/
def exAll (fs : List Fl) (l : List UInt8) : Nat × List UInt8 := if letsB fs && lineB l then exLoop (exVar fs (fs.length + 1) []) [] l else (1, [])

theorem lineB_len {l : List UInt8} (h : lineB l = true) : l.length ≤ 80 := by
  unfold lineB inI at h
  simp at h
  omega
theorem letsB_lets {fs : List Fl} (h : letsB fs = true) : Lets fs := by
  unfold letsB at h
  simp only [Bool.and_eq_true, decide_eq_true_eq, List.all_eq_true] at h
  refine ⟨h.2, fun f hf => ?_⟩
  have := h.1 f hf
  unfold letB at this
  simp only [Bool.and_eq_true] at this
  exact lineB_len this.2
theorem deep_all (fs : List Fl) : Deep fs (fs.length + 1) [] := ⟨List.nodup_nil, fun x hx => by simp at hx, by simp⟩

theorem ExpandS_ev (fs : List Fl) (l : List UInt8) (hn : fs.length ≤ 2000000) (hx : ∀ f ∈ fs, f.1.length ≤ 140737488351232 ∧ f.2.length ≤ 140737488351232) (hl : l.length ≤ 140737488351232) :
    C fn_s_Expand [.ro (FS fs), .ro (T l)] [] = some (.tup [.ro (T (exAll fs l).2), .ro (N (exAll fs l).1)], []) := by
  refine ctx_call Tryd.func16 conv_s_Expand rfl ?_
  have h1 := l4Lets_ev fs (by omega) hx
  have h2 := l4Plain_ev l hl
  unfold exAll
  cases hb : letsB fs with
  | false => rw [hb] at h1; simp [h1]
  | true =>
    cases hc : lineB l with
    | false => rw [hb] at h1; rw [hc] at h2; simp [h1, h2]
    | true =>
      rw [hb] at h1; rw [hc] at h2
      have h3 := l4Expand_ev fs (letsB_lets hb) (fs.length + 1) [] l (deep_all fs) (lineB_len hc)
      rw [show SS [] = .sl 1 [] from rfl] at h3
      simp [h1, h2, h3]

theorem exLoop_err (var : List UInt8 → Nat × List UInt8) : ∀ (k : Nat) (out text : List UInt8), text.length ≤ k → (exLoop var out text).1 ≠ 0 → (exLoop var out text).2 = []
  | k, out, [], _ => by rw [exLoop_nil]; split <;> simp
  | 0, out, c :: r, h => by simp at h
  | k + 1, out, c :: r, h => by
    cases hm : isMark (c :: r) with
    | false =>
      rw [exLoop_char hm]
      exact exLoop_err var k _ _ (by simp at h; omega)
    | true =>
      obtain ⟨q, hq⟩ := isMark_two hm
      rw [hq] at hm h ⊢
      cases hc : cutB q with
      | none => rw [exLoop_none hm hc]; simp
      | some p =>
        have := cutB_len (n := p.1) (r := p.2) hc
        rw [exLoop_some hm hc]
        split
        · split
          · split
            · simp
            · exact exLoop_err var k _ _ (by simp at h; omega)
          · simp
        · simp

theorem ExpandI_ev (fs : List Fl) (l : List UInt8) (hn : fs.length ≤ 2000000) (hx : ∀ f ∈ fs, f.1.length ≤ 140737488351232 ∧ f.2.length ≤ 140737488351232) (hl : l.length ≤ 140737488351232) :
    C fn_i_Expand [.ro (FS fs), .ro (T l)] [] = some (.tup [.ro (T (exAll fs l).2), .ro (N (exAll fs l).1)], []) := by
  refine ctx_call Tryd.func15 conv_i_Expand rfl ?_
  have h1 := containsBad_ev fs hn (fun f hf => (hx f hf).1)
  have h2 := lineOk_ev l
  unfold exAll letsB
  by_cases h8 : fs.length ≤ 8
  · have h9 : ¬ 8 < fs.length := by omega
    cases hb : fs.all letB with
    | false => rw [hb] at h1; simp [h1, h8, h9]
    | true =>
      cases hc : lineB l with
      | false => rw [hb] at h1; rw [hc] at h2; simp [h1, h2, h8, h9]
      | true =>
        have hb' : letsB fs = true := by unfold letsB; rw [hb]; simp [h8]
        have h3 := expand_ev fs (letsB_lets hb') (fs.length + 1) [] l (deep_all fs) (lineB_len hc)
        rw [show SS [] = .sl 1 [] from rfl] at h3
        rw [hb] at h1; rw [hc] at h2
        have h4 := exLoop_err (exVar fs (fs.length + 1) []) l.length [] l (Nat.le_refl _)
        generalize exLoop (exVar fs (fs.length + 1) []) [] l = xv at *
        obtain ⟨code, s⟩ := xv
        simp only at h3 h4
        by_cases hcode : code = 0
        · subst hcode
          rw [errA_zero] at h3
          simp [h1, h2, h8, h9, h3]
        · rw [errA_pos hcode] at h3
          have h5 := h4 hcode
          subst h5
          have hce := code_err code
          simp [h1, h2, h8, h9, h3, hce, hcode]
  · have h9 : 8 < fs.length := by omega
    simp [h8, h9]
end Go.Qz

/- What the functions come to: copies, comparisons, sizes of variables; the law. -/
namespace Go.Qz
open Go.Proofs

theorem eq_of_firsts {α : Type} {ys xs : List α} (h : ys.length = xs.length) (h' : ∀ j, j < xs.length → ys[j]? = xs[j]?) : ys = xs := by
  apply List.ext_getElem? 
  intro j
  rcases Nat.lt_or_ge j xs.length with hj | hj
  · exact h' j hj
  · rw [List.getElem?_eq_none hj, List.getElem?_eq_none (by omega)]

theorem toLet_ev (f : Fl) : C fn_w_toLet [.ro (FD f)] [] = some (.one (.ro (FD f)), []) := by
  refine ctx_call Tryd.func48 conv_w_toLet rfl ?_
  simp

theorem toLetS_ev (fs : List Fl) (hn : fs.length ≤ 1048576) : C fn_w_toLetS [.ro (FS fs)] [] = some (.one (.own (FS fs)), []) := by
  refine ctx_call Tryd.func18 conv_w_toLetS rfl ?_
  have ha : (fs.length : Int) ≤ appendMax := by simp [appendMax]; omega
  simp [ha]
  refine loop_run (fun m e => ∃ i yl, m = fs.length - i ∧ i ≤ fs.length ∧ e.size = 23 ∧ e.get 0 = .one (.ro (FS fs)) ∧ e.get 3 = .one (.own (FS yl)) ∧ e.get 4 = .one (.ro (N i)) ∧ yl.length = fs.length ∧ ∀ j, j < i → yl[j]? = fs[j]?)
    ?_ fs.length _ ⟨0, List.replicate fs.length ([], []), rfl, Nat.zero_le _, by simp, by simp, by simp, by simp, by simp, fun j hj => by omega⟩
  rintro m e ⟨i, yl, rfl, hi, hsz, h0, h3, h4, hyl, hy⟩ ih
  rcases Nat.lt_or_ge i fs.length with hlt | hge
  · have hwi : IntKind.i64.wrap ((i : Int) + 1) = ((i + 1 : Nat) : Int) := wrap64_succ (by omega)
    have hlt' : i < yl.length := by omega
    have hto := toLet_ev fs[i]
    simp [hsz, h0, h3, h4, hlt, hlt', hwi, hto]
    exact ih _ _ (by omega) ⟨i + 1, yl.set i fs[i], rfl, by omega, by simp [hsz], by simp [h0], by simp [List.map_set], by simp, by simp [hyl], fun j hj => by
      by_cases e : j = i
      · subst e; simp [hlt, hlt']
      · rw [List.getElem?_set_ne (by omega)]; exact hy j (by omega)⟩
  · obtain rfl : i = fs.length := by omega
    obtain rfl := eq_of_firsts hyl hy
    simp [hsz, h0, h3, h4]

theorem eqLet_self (f : Fl) : C fn_w_eqLet [.ro (FD f), .ro (FD f)] [] = some (.one (.ro (.bool true)), []) := by
  refine ctx_call Tryd.func49 conv_w_eqLet rfl ?_
  simp

theorem eqLetS_self (fs : List Fl) (hn : fs.length ≤ 140737488351232) : C fn_w_eqLetS [.ro (FS fs), .ro (FS fs)] [] = some (.one (.ro (.bool true)), []) := by
  refine ctx_call Tryd.func19 conv_w_eqLetS rfl ?_
  simp
  refine loop_run (fun m e => ∃ i, m = fs.length - i ∧ i ≤ fs.length ∧ e.size = 27 ∧ e.get 0 = .one (.ro (FS fs)) ∧ e.get 1 = .one (.ro (FS fs)) ∧ e.get 5 = .one (.ro (N i)))
    ?_ fs.length _ ⟨0, rfl, Nat.zero_le _, by simp, by simp, by simp, by simp⟩
  rintro m e ⟨i, rfl, hi, hsz, h0, h1, h5⟩ ih
  rcases Nat.lt_or_ge i fs.length with hlt | hge
  · have hwi : IntKind.i64.wrap ((i : Int) + 1) = ((i + 1 : Nat) : Int) := wrap64_succ (by omega)
    have hev := eqLet_self fs[i]
    simp [hsz, h0, h1, h5, hlt, hwi, hev]
    exact ih _ _ (by omega) ⟨i + 1, rfl, by omega, by simp [hsz], by simp [h0], by simp [h1], by simp⟩
  · obtain rfl : i = fs.length := by omega
    simp [hsz, h0, h1, h5]

def szFl (f : Fl) (l : Int) : Int := if l - f.1.length < 0 then -1 else if l - f.1.length - f.2.length < 0 then -1 else l - f.1.length - f.2.length
def szFLs : List Fl → Int → Int
  | [], l => l
  | f :: r, l => if szFl f l < 0 then -1 else szFLs r (szFl f l)
def szFS (fs : List Fl) (l : Int) : Int := if l - fs.length < 0 then -1 else szFLs fs (l - fs.length)

theorem szLet_ev (f : Fl) (l : Int) (hl : 0 ≤ l) (hl2 : l ≤ 1048576) (h1 : f.1.length ≤ 140737488351232) (h2 : f.2.length ≤ 140737488351232) : C fn_w_szLet [.ro (FD f), .ro (I l)] [] = some (.one (.ro (I (szFl f l))), []) := by
  refine ctx_call Tryd.func47 conv_w_szLet rfl ?_
  have w1 : IntKind.i64.wrap (l - f.1.length) = l - f.1.length := wrap64 (by omega) (by omega)
  unfold szFl
  by_cases c1 : l - f.1.length < 0
  · simp [w1, c1]
  · have w2 : IntKind.i64.wrap (l - f.1.length - f.2.length) = l - f.1.length - f.2.length := wrap64 (by omega) (by omega)
    by_cases c2 : l - f.1.length - f.2.length < 0
    · simp [w1, w2, c1, c2]
    · simp [w1, w2, c1, c2]
theorem szFl_le (f : Fl) (l : Int) (hl : 0 ≤ l) : szFl f l ≤ l ∧ -1 ≤ szFl f l := by
  unfold szFl
  split
  · omega
  · split <;> omega

theorem szLetS_ev (fs : List Fl) (l : Int) (hl : 0 ≤ l) (hl2 : l ≤ 1048576) (hn : fs.length ≤ 140737488351232) (hx1 : ∀ f ∈ fs, f.1.length ≤ 140737488351232) (hx2 : ∀ f ∈ fs, f.2.length ≤ 140737488351232) :
    C fn_w_szLetS [.ro (FS fs), .ro (I l)] [] = some (.one (.ro (I (szFS fs l))), []) := by
  refine ctx_call Tryd.func17 conv_w_szLetS rfl ?_
  have h1 : IntKind.i64.wrap (l - fs.length) = l - fs.length := wrap64 (by omega) (by omega)
  unfold szFS
  by_cases hneg : l - fs.length < 0
  · simp [h1, hneg]
  · simp [h1, hneg]
    refine loop_run (fun m e => ∃ i l', m = fs.length - i ∧ i ≤ fs.length ∧ 0 ≤ l' ∧ l' ≤ 1048576 ∧ e.size = 27 ∧ e.get 0 = .one (.ro (FS fs)) ∧ e.get 1 = .one (.ro (I l')) ∧ e.get 5 = .one (.ro (N i)) ∧
      szFLs (fs.drop i) l' = szFLs fs (l - fs.length)) ?_ fs.length _ ⟨0, l - fs.length, rfl, Nat.zero_le _, by omega, by omega, by simp, by simp, by simp, by simp, rfl⟩
    rintro m e ⟨i, l', rfl, hi, hl0, hl1, hsz, h0, h1, h5, hr⟩ ih
    rcases Nat.lt_or_ge i fs.length with hlt | hge
    · have hd : fs.drop i = fs[i] :: fs.drop (i + 1) := List.drop_eq_getElem_cons hlt
      have hwi : IntKind.i64.wrap ((i : Int) + 1) = ((i + 1 : Nat) : Int) := wrap64_succ (by omega)
      have hev := szLet_ev fs[i] l' hl0 hl1 (hx1 _ (List.getElem_mem hlt)) (hx2 _ (List.getElem_mem hlt))
      have hle := szFl_le fs[i] l' hl0
      rw [hd, szFLs] at hr
      by_cases hc : szFl fs[i] l' < 0
      · rw [if_pos hc] at hr
        simp [hsz, h0, h1, h5, hlt, hev, hc, ← hr]
      · rw [if_neg hc] at hr
        simp [hsz, h0, h1, h5, hlt, hev, hc, hwi]
        exact ih _ _ (by omega) ⟨i + 1, _, rfl, by omega, by omega, by omega, by simp [hsz], by simp [h0], by simp, by simp, hr⟩
    · obtain rfl : i = fs.length := by omega
      rw [List.drop_length, szFLs] at hr
      simp [hsz, h0, h1, h5, hr]
theorem szFS_len (fs : List Fl) (l : Int) (h : 0 ≤ szFS fs l) : (fs.length : Int) ≤ l := by
  unfold szFS at h
  split at h <;> omega


theorem exactExpand_ev (fs : List Fl) (l : List UInt8) (hn : fs.length ≤ 140737488351232) (hx1 : ∀ f ∈ fs, f.1.length ≤ 140737488351232) (hx2 : ∀ f ∈ fs, f.2.length ≤ 140737488351232) (hl : l.length ≤ 140737488351232) :
    C fn_w_FnExactExpand [.ro (FS fs), .ro (T l)] [] = some (.one (.ro (.bool true)), []) := by
  refine ctx_call Tryd.func7 conv_w_FnExactExpand rfl ?_
  have hsz := szLetS_ev fs 1048576 (by omega) (by omega) hn hx1 hx2
  by_cases hlong : 1048576 < l.length
  · simp [hlong]
  by_cases hneg : szFS fs 1048576 < 0
  · simp [hlong, hsz, hneg]
  · have b1 := szFS_len fs 1048576 (by omega)
    have hto := toLetS_ev fs (by omega)
    have b2 : fs.length ≤ 1048576 := by omega
    have hS := ExpandS_ev fs l (by omega) (fun f hf => ⟨hx1 f hf, hx2 f hf⟩) hl
    have hI := ExpandI_ev fs l (by omega) (fun f hf => ⟨hx1 f hf, hx2 f hf⟩) hl
    have heq := eqLetS_self fs hn
    generalize exAll fs l = xv at *
    obtain ⟨code, s⟩ := xv
    simp [hlong, hsz, hneg, hto, hS, hI, heq]
end Go.Qz

/- What the functions come to: what the reference draws. -/
namespace Go.Qz
open Go.Proofs

abbrev BS (bs : List Int) : D := .sl 1 (bs.map (D.int .u8))

theorem xor_small {a b : Nat} (ha : a < 4611686018427387904) (hb : b < 4611686018427387904) : ∃ x : Nat, x < 4611686018427387904 ∧ IntKind.i64.wrap ((a % 2 ^ IntKind.i64.bits ^^^ b % 2 ^ IntKind.i64.bits : Nat) : Int) = x := by
  refine ⟨a ^^^ b, Nat.xor_lt_two_pow (n := 62) ha hb, ?_⟩
  have h2 : a ^^^ b < 2 ^ 62 := Nat.xor_lt_two_pow (n := 62) ha hb
  rw [show 2 ^ IntKind.i64.bits = 18446744073709551616 from rfl, Nat.mod_eq_of_lt (by omega), Nat.mod_eq_of_lt (by omega)]
  exact wrap64 (by omega) (by omega)

theorem pick_ev (bs : List Int) (hb : ∀ b ∈ bs, 0 ≤ b ∧ b ≤ 255) (hl : bs.length ≤ 2000) (i : Nat) (hi : i ≤ 100000) (n : Nat) (hn0 : 0 < n) (hn : n ≤ 100000) :
    ∃ r : Nat, r < n ∧ C fn_s_l1Rd_pick [.ptr 5000 0, .ro (N n)] [(5000, [.ro (BS bs), .ro (N i)])] = some (.one (.ro (N r)), [(5000, [.ro (BS bs), .ro (N (i + 1))])]) := by
  have w1 : IntKind.i64.wrap ((i : Int) + 1) = ((i + 1 : Nat) : Int) := wrap64_succ (by omega)
  have w2 : IntKind.i64.wrap (i : Int) = i := wrap64 (by omega) (by omega)
  have n1 : ¬ (n : Int) < 1 := by omega
  by_cases h0 : bs = []
  · subst h0
    refine ⟨0, hn0, ctx_call Tryd.func35 conv_s_l1Rd_pick rfl ?_⟩
    simp [w1, w2, n1]
  · by_cases hlt : i < bs.length
    · obtain ⟨b, hbe⟩ : ∃ b : Nat, bs[i] = (b : Int) := ⟨bs[i].toNat, by have := hb _ (List.getElem_mem hlt); omega⟩
      have hb255 := hb _ (List.getElem_mem hlt)
      rw [hbe] at hb255
      have w3 : IntKind.i64.wrap (b : Int) = b := wrap64 (by omega) (by omega)
      have hn' : n ≠ 0 := by omega
      obtain ⟨r, hr⟩ : ∃ r : Nat, (b : Int).tmod n = r := ⟨b % n, (Int.ofNat_tmod b n).symm⟩
      have hrn : r < n := by
        have h1 : ((b % n : Nat) : Int) = r := (Int.ofNat_tmod b n).trans hr
        have := Nat.mod_lt b hn0
        omega
      refine ⟨r, hrn, ctx_call Tryd.func35 conv_s_l1Rd_pick rfl ?_⟩
      simp [w1, w2, w3, n1, h0, hlt, hbe, hn', hr]
    · have hL : 0 < bs.length := List.length_pos_iff.2 h0
      have hL' : bs.length ≠ 0 := by omega
      have hn' : n ≠ 0 := by omega
      have md : ∀ a c : Nat, 0 < c → ∃ r : Nat, (a : Int).tmod c = r ∧ r < c := fun a c hc => ⟨a % c, (Int.ofNat_tmod a c).symm, Nat.mod_lt a hc⟩
      have dv : ∀ a c : Nat, ∃ r : Nat, (a : Int).tdiv c = r ∧ r ≤ a := fun a c => ⟨a / c, (Int.ofNat_tdiv a c).symm, Nat.div_le_self a c⟩
      obtain ⟨p, hp, hpL⟩ := md i bs.length hL
      obtain ⟨q, hq, hqL⟩ := md (i * 7 + 3) bs.length hL
      obtain ⟨d, hd, hdi⟩ := dv i bs.length
      have hq' : ((i : Int) * 7 + 3).tmod (bs.length : Int) = q := by rw [← hq]; congr 1
      obtain ⟨b1, hb1⟩ : ∃ b : Nat, bs[p] = (b : Int) := ⟨bs[p].toNat, by have := hb _ (List.getElem_mem hpL); omega⟩
      obtain ⟨b2, hb2⟩ : ∃ b : Nat, bs[q] = (b : Int) := ⟨bs[q].toNat, by have := hb _ (List.getElem_mem hqL); omega⟩
      have k1 := hb _ (List.getElem_mem hpL)
      have k2 := hb _ (List.getElem_mem hqL)
      rw [hb1] at k1
      rw [hb2] at k2
      have w3 : IntKind.i64.wrap ((i : Int) * 7) = (i : Int) * 7 := wrap64 (by omega) (by omega)
      have w4 : IntKind.i64.wrap ((i : Int) * 7 + 3) = (i : Int) * 7 + 3 := wrap64 (by omega) (by omega)
      have w5 : IntKind.i64.wrap (b1 : Int) = b1 := wrap64 (by omega) (by omega)
      have w6 : IntKind.i64.wrap (b2 : Int) = b2 := wrap64 (by omega) (by omega)
      have w7 : IntKind.i64.wrap ((b1 : Int) * 131) = (b1 : Int) * 131 := wrap64 (by omega) (by omega)
      have w8 : IntKind.i64.wrap ((b2 : Int) * 1117) = (b2 : Int) * 1117 := wrap64 (by omega) (by omega)
      have w9 : IntKind.i64.wrap ((b1 : Int) * 131 + (b2 : Int) * 1117) = (b1 : Int) * 131 + (b2 : Int) * 1117 := wrap64 (by omega) (by omega)
      have w10 : IntKind.i64.wrap ((i : Int) * 29) = (i : Int) * 29 := wrap64 (by omega) (by omega)
      have w11 : IntKind.i64.wrap ((b1 : Int) * 131 + (b2 : Int) * 1117 + (i : Int) * 29) = (b1 : Int) * 131 + (b2 : Int) * 1117 + (i : Int) * 29 := wrap64 (by omega) (by omega)
      have w12 : IntKind.i64.wrap (d : Int) = d := wrap64 (by omega) (by omega)
      have w13 : IntKind.i64.wrap ((d : Int) * 53) = (d : Int) * 53 := wrap64 (by omega) (by omega)
      obtain ⟨V, hV⟩ : ∃ V : Nat, (V : Int) = (b1 : Int) * 131 + (b2 : Int) * 1117 + (i : Int) * 29 + (d : Int) * 53 := ⟨b1 * 131 + b2 * 1117 + i * 29 + d * 53, by omega⟩
      have w14 : IntKind.i64.wrap ((b1 : Int) * 131 + (b2 : Int) * 1117 + (i : Int) * 29 + (d : Int) * 53) = V := by rw [hV]; exact wrap64 (by omega) (by omega)
      obtain ⟨V2, hV2, hV2V⟩ := dv V 64
      have hV2' : (V : Int).tdiv 64 = V2 := hV2
      have w15 : IntKind.i64.wrap (V2 : Int) = V2 := wrap64 (by omega) (by omega)
      obtain ⟨x, hx, w16⟩ := xor_small (a := V) (b := V2) (by omega) (by omega)
      obtain ⟨r, hr, hrn⟩ := md x n hn0
      refine ⟨r, hrn, ctx_call Tryd.func35 conv_s_l1Rd_pick rfl ?_⟩
      simp [w1, w2, w3, w4, w5, w6, w7, w8, w9, w10, w11, w12, w13, w14, w15, w16, n1, h0, hlt, hn', hr, hL', hp, hq', hpL, hqL, hb1, hb2, hd, hV2']
end Go.Qz

/- What the functions come to: what the reference draws of strings. -/
namespace Go.Qz
open Go.Proofs

structure Seed (bs : List Int) : Prop where
  byte : ∀ b ∈ bs, 0 ≤ b ∧ b ≤ 255
  len : bs.length ≤ 2000
/-- A reader's box. -/
abbrev RB (bs : List Int) (i : Nat) : List A := [.ro (BS bs), .ro (N i)]

theorem of_ev (bs : List Int) (hb : Seed bs) (i : Nat) (hi : i ≤ 100000) (xs : Lines) (h0 : 0 < xs.length) (hn : xs.length ≤ 100000) :
    ∃ x ∈ xs, C fn_s_l1Rd_of [.ptr 5000 0, .ro (SS xs)] [(5000, RB bs i)] = some (.one (.ro (T x)), [(5000, RB bs (i + 1))]) := by
  obtain ⟨r, hr, hp⟩ := pick_ev bs hb.byte hb.len i hi xs.length h0 hn
  refine ⟨xs[r], List.getElem_mem hr, ctx_call Tryd.func36 conv_s_l1Rd_of rfl ?_⟩
  simp [hp, hr]

def many (out s : List UInt8) (n : Nat) : List UInt8 := if n = 0 then out else many (if n % 2 = 1 then out ++ s else out) (s ++ s) (n / 2)
termination_by n
decreasing_by exact Nat.div_lt_self (by omega) (by omega)
theorem many_len : ∀ (n : Nat) (out s : List UInt8), (many out s n).length = out.length + s.length * n := by
  intro n
  induction n using Nat.strongRecOn with
  | _ n ih =>
    intro out s
    rw [many]
    split
    · rename_i h; subst h; simp
    · rename_i h
      rw [ih (n / 2) (Nat.div_lt_self (by omega) (by omega)), List.length_append]
      have h2 : n = 2 * (n / 2) + n % 2 := (Nat.div_add_mod n 2).symm
      split
      · rename_i h1
        rw [List.length_append]
        rw [h1] at h2
        generalize n / 2 = k at *
        subst h2
        rw [Nat.mul_add, Nat.add_mul, ← Nat.mul_assoc, Nat.mul_one, Nat.mul_two, Nat.add_mul]
        omega
      · have h1 : n % 2 = 0 := by omega
        rw [h1] at h2
        generalize n / 2 = k at *
        subst h2
        rw [Nat.add_zero, Nat.add_mul, ← Nat.mul_assoc, Nat.mul_two, Nat.add_mul]

theorem many_ev (s : List UInt8) (n : Nat) (hn : n ≤ 100000) (hs : s.length ≤ 100000) : C fn_s_l1Many [.ro (T s), .ro (N n)] [] = some (.one (.ro (T (many [] s n))), []) := by
  refine ctx_call Tryd.func37 conv_s_l1Many rfl ?_
  simp
  have htot : s.length * n ≤ 10000000000 := Nat.le_trans (Nat.mul_le_mul hs hn) (by decide)
  refine loop_run (fun m e => ∃ out s' : List UInt8, out.length + s'.length * m = s.length * n ∧ m ≤ n ∧ e.size = 20 ∧ e.get 0 = .one (.ro (T s')) ∧ e.get 1 = .one (.ro (N m)) ∧ e.get 5 = .one (.ro (T out)) ∧ many out s' m = many [] s n)
    ?_ n _ ⟨[], s, by simp, Nat.le_refl _, by simp, by simp, by simp, by simp, rfl⟩
  rintro m e ⟨out, s', hos, hmn, hsz, h0, h1, h5, hr⟩ ih
  by_cases hm : m = 0
  · subst hm
    rw [many] at hr
    simp at hr
    simp [hsz, h0, h1, h5, hr]
  · rw [many, if_neg hm] at hr
    have hm0 : 0 < m := by omega
    have hsl : s'.length ≤ s'.length * m := Nat.le_mul_of_pos_right _ hm0
    have m1 : out.length + s'.length ≤ maxStr := by simp [maxStr]; omega
    have m2 : s'.length + s'.length ≤ maxStr := by simp [maxStr]; omega
    obtain ⟨k, hk⟩ : ∃ k, m / 2 = k := ⟨_, rfl⟩
    have t2 : (m : Int).tdiv 2 = (k : Int) := by rw [← hk]; exact (Int.ofNat_tdiv m 2).symm
    have w2 : IntKind.i64.wrap (k : Int) = k := wrap64 (by omega) (by omega)
    have h2 : m = 2 * k + m % 2 := by rw [← hk]; exact (Nat.div_add_mod m 2).symm
    have hkm : k < m := by omega
    rw [hk] at hr
    have hlen2 : (s' ++ s').length * k = s'.length * (2 * k) := by
      rw [List.length_append, ← Nat.two_mul, Nat.mul_comm 2 s'.length, Nat.mul_assoc]
    rcases Nat.mod_two_eq_zero_or_one m with hmod | hmod
    · have t1 : (m : Int).tmod 2 = 0 := by rw [show (m : Int).tmod 2 = ((m % 2 : Nat) : Int) from (Int.ofNat_tmod m 2).symm, hmod]; rfl
      rw [hmod] at hr
      simp only [show ¬ (0 : Nat) = 1 by decide, if_false] at hr
      rw [hmod] at h2
      simp [hsz, h0, h1, h5, hm0, t1, t2, w2, m1, m2]
      refine ih k _ hkm ⟨out, s' ++ s', ?_, by omega, by simp [hsz], by simp, by simp, by simp [h5], hr⟩
      rw [hlen2, ← hos, show 2 * k = m by omega]
    · have t1 : (m : Int).tmod 2 = 1 := by rw [show (m : Int).tmod 2 = ((m % 2 : Nat) : Int) from (Int.ofNat_tmod m 2).symm, hmod]; rfl
      rw [hmod] at hr
      simp only [if_true] at hr
      rw [hmod] at h2
      simp [hsz, h0, h1, h5, hm0, t1, t2, w2, m1, m2]
      refine ih k _ hkm ⟨out ++ s', s' ++ s', ?_, by omega, by simp [hsz], by simp, by simp, by simp, hr⟩
      rw [hlen2, List.length_append, ← hos]
      have : m = 2 * k + 1 := by omega
      rw [this, Nat.mul_add, Nat.mul_one]
      omega
/-- Draws, as the law's texts call them. -/
theorem draw_pick {bs : List Int} (hb : Seed bs) {i : Nat} (hi : i ≤ 100000) (n : Nat) (m : Int) (hm : m = n) (hn0 : 0 < n) (hn : n ≤ 100000) :
    ∃ r j : Nat, r < n ∧ j ≤ i + 1 ∧ C fn_s_l1Rd_pick [.ptr 5000 0, .ro (.int .i64 m)] [(5000, RB bs i)] = some (.one (.ro (N r)), [(5000, RB bs j)]) := by
  subst hm
  obtain ⟨r, hr, h⟩ := pick_ev bs hb.byte hb.len i hi n hn0 hn
  exact ⟨r, i + 1, hr, Nat.le_refl _, h⟩
theorem draw_of {bs : List Int} (hb : Seed bs) {i : Nat} (hi : i ≤ 100000) (xs : Lines) (h0 : 0 < xs.length) (hn : xs.length ≤ 100000) :
    ∃ x j, x ∈ xs ∧ j ≤ i + 1 ∧ C fn_s_l1Rd_of [.ptr 5000 0, .ro (.sl 1 (xs.map T))] [(5000, RB bs i)] = some (.one (.ro (T x)), [(5000, RB bs j)]) := by
  obtain ⟨x, hx, h⟩ := of_ev bs hb i hi xs h0 hn
  exact ⟨x, i + 1, hx, Nat.le_refl _, h⟩
theorem draw_many (s : List UInt8) (n : Nat) (m : Int) (hm : m = n) (hn : n ≤ 100000) (hs : s.length ≤ 100000) : ∃ t : List UInt8, t.length = s.length * n ∧ C fn_s_l1Many [.ro (T s), .ro (.int .i64 m)] [] = some (.one (.ro (T t)), []) := by
  subst hm
  exact ⟨_, by rw [many_len]; simp, many_ev s n hn hs⟩
end Go.Qz

/- What the functions come to: the variables and the text that the reference draws. -/
namespace Go.Qz
open Go.Proofs

/-- Few and short variables. -/
structure Small (fs : List Fl) : Prop where
  len : fs.length ≤ 10
  each : ∀ f ∈ fs, f.1.length ≤ 1000 ∧ f.2.length ≤ 1000
theorem Small.nil : Small [] := ⟨by simp, fun f hf => by simp at hf⟩

theorem lets_ev (bs : List Int) (hb : Seed bs) (i : Nat) (hi : i ≤ 1000) :
    ∃ fs j, fs.length ≤ 2 ∧ Small fs ∧ j ≤ i + 4 ∧ C fn_s_l11Lets [.ptr 5000 0] [(5000, RB bs i)] = some (.one (.own (FS fs)), [(5000, RB bs j)]) := by
  obtain ⟨big, hml, hm⟩ := draw_many [108] 80 80 rfl (by omega) (by simp)
  obtain ⟨r1, j1, q1, b1, p1⟩ := draw_pick hb (i := i) (by omega) 2 2 rfl (by omega) (by omega)
  have a1 : 1 ≤ appendMax := by simp [appendMax]
  have a2 : 2 ≤ appendMax := by simp [appendMax]
  have two : ∀ r : Nat, r < 2 → r = 0 ∨ r = 1 := fun r h => by omega
  rcases two r1 q1 with rfl | rfl
  · obtain ⟨x1, j2, g1, b2, o1⟩ := draw_of hb (i := j1) (by omega) [[108, 105, 98], [97], [36, 123, 98, 97, 115, 101, 125], [36, 123, 110, 97, 109, 101, 125]] (by decide) (by decide)
    obtain ⟨r3, j3, q3, b3, p3⟩ := draw_pick hb (i := j2) (by omega) 2 2 rfl (by omega) (by omega)
    have k1 : x1.length ≤ 1000 := by simp at g1; rcases g1 with rfl | rfl | rfl | rfl <;> simp
    rcases two r3 q3 with rfl | rfl
    · obtain ⟨x3, j4, g3, b4, o3⟩ := draw_of hb (i := j3) (by omega) [[100, 111, 99], [108, 105, 98, 47, 36, 123, 110, 97, 109, 101, 125], [36, 123, 100, 105, 114, 125], [120], big] (by simp) (by simp)
      have k3 : x3.length ≤ 1000 := by simp at g3; rcases g3 with rfl | rfl | rfl | rfl | rfl <;> simp [hml]
      refine ⟨[([100, 105, 114], x1), ([98, 97, 115, 101], x3)], j4, by simp, ⟨by simp, by simp [k1, k3]⟩, by omega, ctx_call Tryd.func34 conv_s_l11Lets rfl ?_⟩
      simp only [List.map_cons, List.map_nil] at o1 o3
      simp [a1, a2, p1, o1, p3, o3, hm]
    · refine ⟨[([100, 105, 114], x1)], j3, by simp, ⟨by simp, by simp [k1]⟩, by omega, ctx_call Tryd.func34 conv_s_l11Lets rfl ?_⟩
      simp only [List.map_cons, List.map_nil] at o1
      simp [a1, a2, p1, o1, p3]
  · obtain ⟨r3, j3, q3, b3, p3⟩ := draw_pick hb (i := j1) (by omega) 2 2 rfl (by omega) (by omega)
    rcases two r3 q3 with rfl | rfl
    · obtain ⟨x3, j4, g3, b4, o3⟩ := draw_of hb (i := j3) (by omega) [[100, 111, 99], [108, 105, 98, 47, 36, 123, 110, 97, 109, 101, 125], [36, 123, 100, 105, 114, 125], [120], big] (by simp) (by simp)
      have k3 : x3.length ≤ 1000 := by simp at g3; rcases g3 with rfl | rfl | rfl | rfl | rfl <;> simp [hml]
      refine ⟨[([98, 97, 115, 101], x3)], j4, by simp, ⟨by simp, by simp [k3]⟩, by omega, ctx_call Tryd.func34 conv_s_l11Lets rfl ?_⟩
      simp only [List.map_cons, List.map_nil] at o3
      simp [a1, a2, p1, p3, o3, hm]
    · refine ⟨[], j3, by simp, Small.nil, by omega, ctx_call Tryd.func34 conv_s_l11Lets rfl ?_⟩
      simp [a1, a2, p1, p3]
end Go.Qz

/- What the functions come to: the variables and the text that the reference draws. -/
namespace Go.Qz
open Go.Proofs

theorem seed_take {bs : List Int} (hb : ∀ b ∈ bs, 0 ≤ b ∧ b ≤ 255) : Seed (bs.take 2000) := ⟨fun b h => hb b (List.mem_of_mem_take h), by rw [List.length_take]; omega⟩
theorem open_bytes (bs : List Int) : C fn_s_l1Open [.ro (BS bs)] [] = some (.agg [.ro (BS (bs.take 2000)), .ro (.int .i64 0)], []) := by
  have h := open_ev (bs.map (D.int .u8))
  rw [← List.map_take] at h
  exact h

theorem DrawExpand_ev (bs : List Int) (hb : ∀ b ∈ bs, 0 ≤ b ∧ b ≤ 255) :
    ∃ fs t, Small fs ∧ t.length ≤ 1000 ∧ C fn_s_DrawExpand [.ro (BS bs)] [] = some (.tup [.own (FS fs), .ro (T t)], []) := by
  have hs := seed_take hb
  have ho := open_bytes bs
  generalize bs.take 2000 = cs at hs ho
  obtain ⟨big, hml, hm⟩ := draw_many [36, 123, 98, 97, 115, 101, 125] 9 9 rfl (by omega) (by simp)
  obtain ⟨fs, j0, l0, sm, b0, hl⟩ := lets_ev cs hs 0 (by omega)
  replace hl : C fn_s_l11Lets [.ptr 5000 0] [(5000, [.ro (BS cs), .ro (.int .i64 0)])] = some (.one (.own (FS fs)), [(5000, RB cs j0)]) := hl
  obtain ⟨r1, j1, q1, b1, p1⟩ := draw_pick hs (i := j0) (by omega) 12 12 rfl (by omega) (by omega)
  have a1 : fs.length + 1 ≤ appendMax := by simp [appendMax]; omega
  by_cases c1 : r1 = 0
  · subst c1
    obtain ⟨x1, j2, g1, b2, o1⟩ := draw_of hs (i := j1) (by omega) [[], [100, 105, 114], [122]] (by decide) (by decide)
    obtain ⟨x2, j3, g2, b3, o2⟩ := draw_of hs (i := j2) (by omega) [[], [122]] (by decide) (by decide)
    obtain ⟨x3, j4, g3, b4, o3⟩ := draw_of hs (i := j3) (by omega) [[112, 108, 97, 105, 110], [36, 123, 100, 105, 114, 125], [36, 123, 100, 105, 114, 125, 47, 36, 123, 98, 97, 115, 101, 125], [36, 123, 110, 111, 110, 101, 125], [36, 123], [36, 123, 125], [36, 120, 32, 123, 121, 125], [36, 123, 100, 105, 114, 125, 36, 123, 100, 105, 114, 125, 36, 123, 100, 105, 114, 125], [], big] (by simp) (by simp)
    have k1 : x1.length ≤ 1000 := by simp at g1; rcases g1 with rfl | rfl | rfl <;> simp
    have k2 : x2.length ≤ 1000 := by simp at g2; rcases g2 with rfl | rfl <;> simp
    have k3 : x3.length ≤ 1000 := by simp at g3; rcases g3 with rfl | rfl | rfl | rfl | rfl | rfl | rfl | rfl | rfl | rfl <;> simp [hml]
    refine ⟨fs ++ [(x1, x2)], x3, ⟨by simp; omega, fun f hf => ?_⟩, k3, ctx_call Tryd.func14 conv_s_DrawExpand rfl ?_⟩
    · rcases List.mem_append.1 hf with h | h
      · exact sm.each f h
      · simp at h; subst h; exact ⟨k1, k2⟩
    · simp only [List.map_cons, List.map_nil] at o1 o2 o3
      simp [a1, ho, hl, p1, o1, o2, o3, hm]
  · obtain ⟨x3, j4, g3, b4, o3⟩ := draw_of hs (i := j1) (by omega) [[112, 108, 97, 105, 110], [36, 123, 100, 105, 114, 125], [36, 123, 100, 105, 114, 125, 47, 36, 123, 98, 97, 115, 101, 125], [36, 123, 110, 111, 110, 101, 125], [36, 123], [36, 123, 125], [36, 120, 32, 123, 121, 125], [36, 123, 100, 105, 114, 125, 36, 123, 100, 105, 114, 125, 36, 123, 100, 105, 114, 125], [], big] (by simp) (by simp)
    have k3 : x3.length ≤ 1000 := by simp at g3; rcases g3 with rfl | rfl | rfl | rfl | rfl | rfl | rfl | rfl | rfl | rfl <;> simp [hml]
    refine ⟨fs, x3, sm, k3, ctx_call Tryd.func14 conv_s_DrawExpand rfl ?_⟩
    simp only [List.map_cons, List.map_nil] at o3
    simp [ho, hl, p1, c1, o3, hm]
end Go.Qz

/- Plain laws of expansion. -/
namespace Go.Qz
open Go.Proofs

/-! ### Without variables -/
theorem none_loop {var : List UInt8 → Nat × List UInt8} (hv : ∀ n, (var n).1 ≠ 0) : ∀ (k : Nat) (out t : List UInt8), t.length ≤ k → (exLoop var out t).1 = 0 → (exLoop var out t).2 = out ++ t
  | k, out, [], _ => by rw [exLoop_nil]; split <;> simp
  | 0, out, c :: r, h => by simp at h
  | k + 1, out, c :: r, h => by
    cases hm : isMark (c :: r) with
    | false =>
      rw [exLoop_char hm]
      intro h0
      rw [none_loop hv k _ _ (by simp at h; omega) h0]
      simp
    | true =>
      obtain ⟨q, hq⟩ := isMark_two hm
      rw [hq] at hm ⊢
      cases hc : cutB q with
      | none => rw [exLoop_none hm hc]; simp
      | some p =>
        rw [exLoop_some hm hc, if_neg (hv p.1)]
        split
        · intro h0; exact absurd h0 (hv p.1)
        · simp
theorem exAll_none (l : List UInt8) (h : (exAll [] l).1 = 0) : (exAll [] l).2 = l := by
  unfold exAll at h ⊢
  split
  · rename_i hc
    rw [if_pos hc] at h
    have := none_loop (var := exVar [] ([].length + 1) []) (fun n => by simp [exVar, findT]) l.length [] l (Nat.le_refl _) h
    simpa using this
  · rename_i hc
    rw [if_neg hc] at h
    simp at h

theorem exAll_err (fs : List Fl) (l : List UInt8) (h : (exAll fs l).1 ≠ 0) : (exAll fs l).2 = [] := by
  unfold exAll at h ⊢
  split
  · rename_i hc
    rw [if_pos hc] at h
    exact exLoop_err _ l.length [] l (Nat.le_refl _) h
  · rfl
theorem exAll_ok {fs : List Fl} {l : List UInt8} (h : (exAll fs l).1 ≠ 1) : letsB fs = true ∧ lineB l = true := by
  unfold exAll at h
  split at h
  · rename_i hc
    simpa using hc
  · simp at h
theorem exAll_is {fs : List Fl} {l : List UInt8} (h1 : letsB fs = true) (h2 : lineB l = true) : exAll fs l = exLoop (exVar fs (fs.length + 1) []) [] l := by
  unfold exAll
  rw [h1, h2]
  rfl

/-! ### What comes is a line -/
theorem lineB_iff {l : List UInt8} : lineB l = true ↔ l.all plainB = true ∧ 1 ≤ l.length ∧ l.length ≤ 80 := by
  unfold lineB inI
  simp only [Bool.and_eq_true, decide_eq_true_eq]
  constructor
  · rintro ⟨h1, h2, h3⟩; exact ⟨h1, by omega, by omega⟩
  · rintro ⟨h1, h2, h3⟩; exact ⟨h1, by omega, by omega⟩
theorem cutB_app : ∀ {d n r : List UInt8}, cutB d = some (n, r) → d = n ++ 125 :: r
  | [], n, r, h => by cases h
  | c :: d, n, r, h => by
    unfold cutB at h
    split at h
    · rename_i hc
      cases h
      have : c = 125 := by simpa using hc
      rw [this]; rfl
    · obtain ⟨p, hp, he⟩ := Option.map_eq_some_iff.1 h
      cases he
      rw [cutB_app (n := p.1) (r := p.2) hp]
      rfl
theorem exLoop_plain {var : List UInt8 → Nat × List UInt8} (hv : ∀ n, (var n).1 = 0 → lineB (var n).2 = true) : ∀ (k : Nat) (out t : List UInt8), t.length ≤ k → out.all plainB = true → t.all plainB = true → 0 < out.length + t.length → (exLoop var out t).1 = 0 → lineB (exLoop var out t).2 = true
  | k, out, [], _, ho, ht, h0 => by
    rw [exLoop_nil]
    split
    · simp
    · intro _
      simp at h0
      exact lineB_iff.2 ⟨ho, by simp; omega, by simp; omega⟩
  | 0, out, c :: r, h, _, _, _ => by simp at h
  | k + 1, out, c :: r, h, ho, ht, h0 => by
    cases hm : isMark (c :: r) with
    | false =>
      rw [exLoop_char hm]
      simp only [List.all_cons, Bool.and_eq_true] at ht
      exact exLoop_plain hv k _ _ (by simp at h; omega) (by simp [List.all_append, ho, ht.1]) ht.2 (by simp; omega)
    | true =>
      obtain ⟨q, hq⟩ := isMark_two hm
      rw [hq] at hm h ht ⊢
      cases hc : cutB q with
      | none => rw [exLoop_none hm hc]; simp
      | some p =>
        have hl := cutB_len (n := p.1) (r := p.2) hc
        have ha := cutB_app (n := p.1) (r := p.2) hc
        rw [exLoop_some hm hc]
        split
        · split
          · rename_i hv0
            split
            · simp
            · have h1 := lineB_iff.1 (hv _ hv0)
              have ht2 : p.2.all plainB = true := by
                rw [ha] at ht
                simp only [List.all_cons, List.all_append, Bool.and_eq_true] at ht
                exact ht.2.2.2.2
              exact exLoop_plain hv k _ _ (by simp at h; omega) (by rw [List.all_append, ho, h1.1]; rfl) ht2 (by rw [List.length_append]; omega)
          · intro h2; rename_i h3; exact absurd h2 h3
        · simp
theorem findT_mem {n : List UInt8} {t : List UInt8} : ∀ {fs : List Fl}, findT n fs = some t → ∃ f ∈ fs, f.2 = t
  | [], h => by cases h
  | f :: r, h => by
    unfold findT at h
    split at h
    · cases h; exact ⟨f, by simp, rfl⟩
    · obtain ⟨g, hg, e⟩ := findT_mem h
      exact ⟨g, by simp [hg], e⟩
theorem exVar_line {fs : List Fl} (hf : letsB fs = true) : ∀ (d : Nat) (us : Lines) (n : List UInt8), (exVar fs d us n).1 = 0 → lineB (exVar fs d us n).2 = true
  | 0, _, _, h => by simp [exVar] at h
  | d + 1, us, n, h => by
    unfold exVar at h ⊢
    split
    · rename_i hn; rw [hn] at h; simp at h
    · rename_i t hn
      rw [hn] at h
      simp only at h
      split
      · rename_i hc; rw [if_pos hc] at h; simp at h
      · rename_i hc
        rw [if_neg hc] at h
        obtain ⟨f, hm, rfl⟩ := findT_mem hn
        have hl : lineB f.2 = true := by
          unfold letsB at hf
          simp only [Bool.and_eq_true, List.all_eq_true] at hf
          have := hf.1 f hm
          unfold letB at this
          simp only [Bool.and_eq_true] at this
          exact this.2
        have h1 := lineB_iff.1 hl
        exact exLoop_plain (fun n => exVar_line hf d _ n) f.2.length [] f.2 (Nat.le_refl _) rfl h1.1 (by simp; omega) h
theorem exAll_line {fs : List Fl} {l : List UInt8} (h : (exAll fs l).1 = 0) : lineB (exAll fs l).2 = true := by
  obtain ⟨h1, h2⟩ := exAll_ok (fs := fs) (l := l) (by omega)
  rw [exAll_is h1 h2] at h ⊢
  have h3 := lineB_iff.1 h2
  exact exLoop_plain (fun n => exVar_line h1 _ _ n) l.length [] l (Nat.le_refl _) rfl h3.1 (by simp; omega) h

/-! ### Without marks -/
def noMark : List UInt8 → Bool
  | [] => true
  | c :: r => !isMark (c :: r) && noMark r
theorem exLoop_noMark {var : List UInt8 → Nat × List UInt8} : ∀ (t out : List UInt8), noMark t = true → exLoop var out t = if 80 < (out ++ t).length then (5, []) else (0, out ++ t)
  | [], out, _ => by rw [exLoop_nil]; simp
  | c :: r, out, h => by
    unfold noMark at h
    simp only [Bool.and_eq_true, Bool.not_eq_true'] at h
    rw [exLoop_char h.1, exLoop_noMark r _ h.2]
    simp
theorem exAll_noMark {fs : List Fl} {s : List UInt8} (h1 : letsB fs = true) (h2 : lineB s = true) (h3 : noMark s = true) : exAll fs s = (0, s) := by
  rw [exAll_is h1 h2, exLoop_noMark s [] h3]
  have := (lineB_iff.1 h2).2.2
  rw [if_neg (by simp; omega)]
  rfl

/-! ### One name -/
theorem exLoop_more {var var' : List UInt8 → Nat × List UInt8} (h : ∀ n s, var n = (0, s) → var' n = (0, s)) : ∀ (k : Nat) (out t s : List UInt8), t.length ≤ k → exLoop var out t = (0, s) → exLoop var' out t = (0, s)
  | k, out, [], s, _ => by rw [exLoop_nil, exLoop_nil]; exact id
  | 0, out, c :: r, s, hk => by simp at hk
  | k + 1, out, c :: r, s, hk => by
    cases hm : isMark (c :: r) with
    | false =>
      rw [exLoop_char hm, exLoop_char hm]
      exact exLoop_more h k _ _ _ (by simp at hk; omega)
    | true =>
      obtain ⟨q, hq⟩ := isMark_two hm
      rw [hq] at hm hk ⊢
      cases hc : cutB q with
      | none => rw [exLoop_none hm hc]; simp
      | some p =>
        have hl := cutB_len (n := p.1) (r := p.2) hc
        rw [exLoop_some hm hc, exLoop_some hm hc]
        split
        · split
          · rename_i hv0
            have e : var p.1 = (0, (var p.1).2) := by rw [← hv0]
            have e' := h p.1 _ e
            rw [e']
            simp only [if_true]
            split
            · simp
            · exact exLoop_more h k _ _ _ (by simp at hk; omega)
          · intro h2
            rename_i h3
            simp only [Prod.mk.injEq] at h2
            exact absurd h2.1 h3
        · simp
theorem exVar_more {fs : List Fl} : ∀ (d d' : Nat) (us us' : Lines) (n s : List UInt8), d ≤ d' → (∀ x ∈ us', x ∈ us) → exVar fs d us n = (0, s) → exVar fs d' us' n = (0, s)
  | 0, _, _, _, _, _, _, _, h => by simp [exVar] at h
  | d + 1, 0, _, _, _, _, hd, _, _ => by omega
  | d + 1, d' + 1, us, us', n, s, hd, hu, h => by
    unfold exVar at h ⊢
    split
    · rename_i hn; rw [hn] at h; simp at h
    · rename_i t hn
      rw [hn] at h
      simp only at h
      split at h
      · simp at h
      · rename_i hc
        have hc' : us'.contains n = false := by
          cases hh : us'.contains n with
          | false => rfl
          | true =>
            rw [List.contains_iff_mem] at hh
            exact absurd (List.contains_iff_mem.2 (hu _ hh)) (by simpa using hc)
        rw [if_neg (by rw [hc']; simp)]
        refine exLoop_more (fun m r hm => exVar_more d d' _ _ m r (by omega) ?_ hm) t.length [] t s (Nat.le_refl _) h
        intro x hx
        rcases List.mem_append.1 hx with h1 | h1
        · exact List.mem_append_left _ (hu _ h1)
        · exact List.mem_append_right _ h1

theorem packB_plain {b : UInt8} (h : packB b = true) : plainB b = true ∧ b ≠ 125 ∧ b ≠ 36 := by
  unfold packB smallB at h
  unfold plainB
  simp only [Bool.or_eq_true, Bool.and_eq_true, decide_eq_true_eq] at h ⊢
  refine ⟨by omega, ?_, ?_⟩
  · rintro rfl; rcases h with h | h <;> simp at h
  · rintro rfl; rcases h with h | h <;> simp at h
theorem packOk_all {n : List UInt8} (h : packOk n = true) : (∀ b ∈ n, packB b = true) ∧ n.length ≤ 10 := by
  cases n with
  | nil => simp [packOk] at h
  | cons c r =>
    unfold packOk at h
    simp only [Bool.and_eq_true, decide_eq_true_eq, List.all_eq_true] at h
    exact ⟨h.2.2, by simp; omega⟩
theorem cutB_name : ∀ {n : List UInt8} (r : List UInt8), (∀ b ∈ n, b ≠ 125) → cutB (n ++ 125 :: r) = some (n, r)
  | [], r, _ => by simp [cutB]
  | c :: n, r, h => by
    have hc : (c == 125) = false := by have := h c (by simp); simpa using this
    rw [List.cons_append, cutB, hc, cutB_name r (fun b hb => h b (by simp [hb]))]
    rfl

/-- A name's text, in a text: behind 'out', ahead of the rest that bears no mark. -/
theorem exLoop_name {var : List UInt8 → Nat × List UInt8} {n : List UInt8} (hn : packOk n = true) (out rest : List UInt8) : exLoop var out (36 :: 123 :: (n ++ 125 :: rest)) =
    if (var n).1 = 0 then (if 80 < (out ++ (var n).2).length then (5, []) else exLoop var (out ++ (var n).2) rest) else ((var n).1, []) := by
  have hc := cutB_name (n := n) rest (fun b hb => (packB_plain ((packOk_all hn).1 b hb)).2.1)
  rw [exLoop_some rfl hc]
  simp only [hn, if_true]
theorem name_line {n : List UInt8} (hn : packOk n = true) (a b : List UInt8) (ha : a.all plainB = true) (hb : b.all plainB = true) (hab : a.length + b.length ≤ 10) : lineB (a ++ (36 :: 123 :: (n ++ 125 :: b))) = true := by
  obtain ⟨h1, h2⟩ := packOk_all hn
  refine lineB_iff.2 ⟨?_, by simp; omega, by simp; omega⟩
  have h3 : n.all plainB = true := List.all_eq_true.2 (fun x hx => (packB_plain (h1 x hx)).1)
  simp only [List.all_append, List.all_cons, ha, hb, h3, Bool.and_true, Bool.true_and]
  decide

/-- One variable: its name's text comes to what its own text comes to. -/
theorem one_var {fs : List Fl} (hf : letsB fs = true) {n v : List UInt8} (hfind : findT n fs = some v) (hn : packOk n = true) (hv : lineB v = true) :
    ∃ c r, exAll fs (36 :: 123 :: (n ++ [125])) = (c, r) ∧ r.length ≤ 80 ∧ (c = 0 → exAll fs v = (0, r)) ∧ (c = 0 → r.length + 2 ≤ 80 → exAll fs ([120, 36, 123] ++ (n ++ [125, 121])) = (0, 120 :: (r ++ [121]))) := by
  have l1 : lineB (36 :: 123 :: (n ++ [125])) = true := name_line hn [] [] rfl rfl (by simp)
  have l2 := name_line hn [120] [121] (by decide) (by decide) (by simp)
  have hlen := exVar_len fs (fs.length + 1) [] n
  have herr := exLoop_err (exVar fs fs.length [n]) v.length [] v (Nat.le_refl _)
  have hxv : exVar fs (fs.length + 1) [] n = exLoop (exVar fs fs.length [n]) [] v := by rw [exVar, hfind]; rfl
  have hmore : ∀ r, exVar fs (fs.length + 1) [] n = (0, r) → exLoop (exVar fs (fs.length + 1) []) [] v = (0, r) := fun r hr => by
    rw [hxv] at hr
    exact exLoop_more (fun m s hm => exVar_more _ _ _ _ m s (by omega) (fun x hx => by simp at hx) hm) v.length [] v r (Nat.le_refl _) hr
  rw [← hxv] at herr
  have e1 : exAll fs (36 :: 123 :: (n ++ [125])) = exVar fs (fs.length + 1) [] n := by
    rw [exAll_is hf l1, exLoop_name hn [] []]
    generalize exVar fs (fs.length + 1) [] n = xv at *
    obtain ⟨c, r⟩ := xv
    simp only at hlen herr ⊢
    by_cases hc : c = 0
    · subst hc
      rw [if_pos rfl, if_neg (by simp; omega), exLoop_nil, if_neg (by simp; omega)]
      rfl
    · rw [if_neg hc, herr hc]
  refine ⟨(exVar fs (fs.length + 1) [] n).1, (exVar fs (fs.length + 1) [] n).2, e1, hlen, fun h0 => ?_, fun h0 h80 => ?_⟩
  · rw [exAll_is hf hv]
    exact hmore _ (by rw [← h0])
  · have e2 : ([120, 36, 123] ++ (n ++ [125, 121]) : List UInt8) = [120] ++ (36 :: 123 :: (n ++ 125 :: [121])) := by simp
    rw [e2, exAll_is hf l2, List.singleton_append, exLoop_char rfl, exLoop_name hn _ [121], if_pos h0, if_neg (by simp; omega), exLoop_char rfl, exLoop_nil, if_neg (by simp; omega)]
    simp
end Go.Qz

/- The drawn laws of expansion come to true. -/
namespace Go.Qz
open Go.Proofs

theorem Small.long {fs : List Fl} (h : Small fs) : ∀ f ∈ fs, f.1.length ≤ 140737488351232 ∧ f.2.length ≤ 140737488351232 := fun f hf => by
  have := h.each f hf
  omega
theorem expandNone_ev (bs : List Int) (hb : ∀ b ∈ bs, 0 ≤ b ∧ b ≤ 255) (hl : bs.length ≤ 140737488351232) : C fn_w_FnExpandNone [.ro (BS bs)] [] = some (.one (.ro (.bool true)), []) := by
  refine ctx_call Tryd.func5 conv_w_FnExpandNone rfl ?_
  obtain ⟨fs, t, sm, ht, hd⟩ := DrawExpand_ev bs hb
  by_cases hlong : 1048576 < bs.length
  · have h1 : (1048576 : Int) < bs.length := by omega
    simp [h1]
  have h1 : ¬ (1048576 : Int) < bs.length := by omega
  have hI := ExpandI_ev [] t (by simp) (fun f hf => by simp at hf) (by omega)
  have hS := ExpandS_ev [] t (by simp) (fun f hf => by simp at hf) (by omega)
  have e1 := exAll_none t
  have e2 := exAll_err [] t
  generalize exAll [] t = xv at *
  obtain ⟨code, s⟩ := xv
  simp only at hI hS e1 e2
  rw [show FS [] = .sl 2 [] from rfl] at hI hS
  by_cases hc : code = 0
  · subst hc
    have e3 := e1 rfl
    subst e3
    simp [h1, hd, hI, hS]
  · have e3 := e2 hc
    subst e3
    have hc' : (code == 0) = false := by rw [beq_eq_false_iff_ne]; exact hc
    simp [h1, hd, hI, hS, hc']

theorem expandLaw_ev (bs : List Int) (hb : ∀ b ∈ bs, 0 ≤ b ∧ b ≤ 255) (hl : bs.length ≤ 140737488351232) : C fn_w_FnExpand [.ro (BS bs)] [] = some (.one (.ro (.bool true)), []) := by
  refine ctx_call Tryd.func4 conv_w_FnExpand rfl ?_
  obtain ⟨fs, t, sm, ht, hd⟩ := DrawExpand_ev bs hb
  by_cases hlong : 1048576 < bs.length
  · have h1 : (1048576 : Int) < bs.length := by omega
    simp [h1]
  have h1 : ¬ (1048576 : Int) < bs.length := by omega
  have hfs := sm.len
  have hI := ExpandI_ev fs t (by omega) sm.long (by omega)
  have hS := ExpandS_ev fs t (by omega) sm.long (by omega)
  have e2 := exAll_err fs t
  have e1 := exAll_line (fs := fs) (l := t)
  have e0 := exAll_ok (fs := fs) (l := t)
  generalize exAll fs t = xv at *
  obtain ⟨code, s⟩ := xv
  simp only at hI hS e1 e2 e0
  by_cases hc : code = 0
  · subst hc
    have hline := e1 rfl
    have hlets := (e0 (by omega)).1
    have hs80 := (lineB_iff.1 hline).2.2
    have hs80' : (s.length : Int) ≤ 80 := by omega
    simp [h1, hd, hI, hS]
    refine loop_run (fun m e => ∃ i, m = s.length - i ∧ i ≤ s.length ∧ e.size = 99 ∧ e.get 3 = .one (.own (FS fs)) ∧ e.get 5 = .one (.ro (T s)) ∧ e.get 9 = .one (.ro (N i)) ∧ noMark (s.drop i) = noMark s)
      ?_ s.length _ ⟨0, rfl, Nat.zero_le _, by simp, by simp, by simp, by simp, rfl⟩
    rintro m e ⟨i, rfl, hi, hsz, h3, h5, h9, hnm⟩ ih
    have hwi : IntKind.i64.wrap ((i : Int) + 1) = ((i + 1 : Nat) : Int) := wrap64_succ (by omega)
    by_cases hlt : i + 1 < s.length
    · have hlt0 : i < s.length := by omega
      have hd1 : s.drop i = s[i] :: s[i + 1] :: s.drop (i + 1 + 1) := by
        rw [List.drop_eq_getElem_cons hlt0, List.drop_eq_getElem_cons hlt]
      have hi1 : (i : Int) + 1 < s.length := by omega
      have hi0 : (0 : Int) ≤ (i : Int) + 1 := by omega
      have hst : noMark (s.drop i) = (!(s[i] == 36 && s[i + 1] == 123) && noMark (s.drop (i + 1))) := by
        rw [hd1, noMark, isMark, List.drop_eq_getElem_cons hlt]
      rw [hst] at hnm
      cases c1 : s[i] == 36 with
      | false =>
        rw [c1] at hnm
        simp [hsz, h3, h5, h9, hi0, hi1, hwi, hlt0, hlt, c1]
        exact ih _ _ (by omega) ⟨i + 1, rfl, by omega, by simp [hsz], by simp [h3], by simp [h5], by simp, by simpa using hnm⟩
      | true =>
        cases c2 : s[i + 1] == 123 with
        | false =>
          rw [c1, c2] at hnm
          simp [hsz, h3, h5, h9, hi0, hi1, hwi, hlt0, hlt, c1, c2]
          exact ih _ _ (by omega) ⟨i + 1, rfl, by omega, by simp [hsz], by simp [h3], by simp [h5], by simp, by simpa using hnm⟩
        | true =>
          simp [hsz, h3, h5, h9, hi0, hi1, hwi, hlt0, hlt, c1, c2, hs80']
    · have hi1 : ¬ (i : Int) + 1 < s.length := by omega
      have hm : noMark s = true := by
        rw [← hnm]
        match hdr : s.drop i with
        | [] => rfl
        | [c] => simp [noMark, isMark]
        | a :: b :: r =>
          have := congrArg List.length hdr
          simp at this
          omega
      have h2 := ExpandI_ev fs s (by omega) sm.long (by omega)
      rw [exAll_noMark hlets hline hm] at h2
      simp [hsz, h3, h5, h9, hi1, hwi, h2, hs80']
  · have e3 := e2 hc
    subst e3
    have hc' : (code == 0) = false := by rw [beq_eq_false_iff_ne]; exact hc
    simp [h1, hd, hI, hS, hc, hc']
end Go.Qz

/- The drawn law of one variable comes to true. -/
namespace Go.Qz
open Go.Proofs

theorem findT_first : ∀ {fs : List Fl} {i : Nat} (hi : i < fs.length), (∀ k (hk : k < i), (fs[k].1 == fs[i].1) = false) → findT fs[i].1 fs = some fs[i].2
  | [], i, hi, _ => by simp at hi
  | f :: r, 0, _, _ => by simp [findT]
  | f :: r, i + 1, hi, h => by
    have h0 := h 0 (by omega)
    simp only [List.getElem_cons_zero, List.getElem_cons_succ] at h0 ⊢
    unfold findT
    rw [h0]
    simp only [Bool.false_eq_true, if_false]
    exact findT_first (by simpa using hi) (fun k hk => by
      have := h (k + 1) (by omega)
      simpa using this)

theorem expandOne_ev (bs : List Int) (hb : ∀ b ∈ bs, 0 ≤ b ∧ b ≤ 255) (hl : bs.length ≤ 140737488351232) : C fn_w_FnExpandOne [.ro (BS bs)] [] = some (.one (.ro (.bool true)), []) := by
  refine ctx_call Tryd.func6 conv_w_FnExpandOne rfl ?_
  obtain ⟨fs, t, sm, ht, hd⟩ := DrawExpand_ev bs hb
  by_cases hlong : 1048576 < bs.length
  · have h1 : (1048576 : Int) < bs.length := by omega
    simp [h1]
  have h1 : ¬ (1048576 : Int) < bs.length := by omega
  have hfs := sm.len
  have hI := ExpandI_ev fs t (by omega) sm.long (by omega)
  have hS := ExpandS_ev fs t (by omega) sm.long (by omega)
  have e0 := exAll_ok (fs := fs) (l := t)
  generalize exAll fs t = xv at *
  obtain ⟨code, s⟩ := xv
  simp only at hI hS e0
  by_cases hc : code = 1
  · subst hc
    simp [h1, hd, hI, hS]
  · have hc' : (code == 1) = false := by rw [beq_eq_false_iff_ne]; exact hc
    have hlets := (e0 hc).1
    simp [h1, hd, hI, hS, hc, hc']
    refine loop_run (fun m e => ∃ i, m = fs.length - i ∧ i ≤ fs.length ∧ e.size = 135 ∧ e.get 3 = .one (.own (FS fs)) ∧ e.get 9 = .one (.ro (N i)))
      ?_ fs.length _ ⟨0, rfl, Nat.zero_le _, by simp, by simp, by simp⟩
    rintro m e ⟨i, rfl, hi, hsz, h3, h9⟩ ih
    have hwi : IntKind.i64.wrap ((i : Int) + 1) = ((i + 1 : Nat) : Int) := wrap64_succ (by omega)
    by_cases hlt : i < fs.length
    · simp [hsz, h3, h9, hlt]
      refine loop_run (fun m e => ∃ j, m = i - j ∧ j ≤ i ∧ e.size = 135 ∧ e.get 3 = .one (.own (FS fs)) ∧ e.get 9 = .one (.ro (N i)) ∧ e.get 10 = .one (.ro (N j)) ∧ ∀ k (hk : k < j), ∃ hk' : k < fs.length, (fs[k].1 == fs[i].1) = false)
        ?_ i _ ⟨0, rfl, Nat.zero_le _, by simp [hsz], by simp [h3], by simp [h9], by simp, fun k hk => by omega⟩
      clear hsz h3 h9
      rintro m e' ⟨j, rfl, hj, hsz, h3, h9, h10, hne⟩ ih2
      have hwj : IntKind.i64.wrap ((j : Int) + 1) = ((j + 1 : Nat) : Int) := wrap64_succ (by omega)
      by_cases hji : j < i
      · have hjl : j < fs.length := by omega
        cases hcmp : fs[j].1 == fs[i].1 with
        | true =>
          simp [hsz, h3, h9, h10, hji, hlt, hjl, hcmp]
        | false =>
          simp [hsz, h3, h9, h10, hji, hlt, hjl, hcmp, hwj]
          exact ih2 _ _ (by omega) ⟨j + 1, rfl, by omega, by simp [hsz], by simp [h3], by simp [h9], by simp, fun k hk => by
            by_cases hkj : k = j
            · subst hkj; exact ⟨hjl, hcmp⟩
            · exact hne k (by omega)⟩
      · obtain rfl : j = i := by omega
        have hfind := findT_first hlt (fun k hk => (hne k hk).2)
        have hlet : letB fs[j] = true := by
          unfold letsB at hlets
          simp only [Bool.and_eq_true, List.all_eq_true] at hlets
          exact hlets.1 _ (List.getElem_mem hlt)
        unfold letB at hlet
        simp only [Bool.and_eq_true] at hlet
        obtain ⟨c, r, eA, hr80, eB, eC⟩ := one_var hlets hfind hlet.1 hlet.2
        have nlen := (packOk_all hlet.1).2
        have vlen := (lineB_iff.1 hlet.2).2.2
        have hA := ExpandI_ev fs (36 :: 123 :: (fs[j].1 ++ [125])) (by omega) sm.long (by simp; omega)
        have hB := ExpandI_ev fs fs[j].2 (by omega) sm.long (by omega)
        have hC := ExpandI_ev fs ([120, 36, 123] ++ (fs[j].1 ++ [125, 121])) (by omega) sm.long (by simp; omega)
        rw [eA] at hA
        simp only at hA
        have m1 : 2 + fs[j].1.length ≤ maxStr := by simp [maxStr]; omega
        have m2 : fs[j].1.length + 1 + 1 + 1 ≤ maxStr := by simp [maxStr]; omega
        have m3 : 3 + fs[j].1.length ≤ maxStr := by simp [maxStr]; omega
        have m4 : fs[j].1.length + 1 + 1 + 1 + 2 ≤ maxStr := by simp [maxStr]; omega
        have m5 : 1 + r.length ≤ maxStr := by simp [maxStr]; omega
        have m6 : r.length + 1 + 1 ≤ maxStr := by simp [maxStr]; omega
        have wr : IntKind.i64.wrap ((r.length : Int) + 2) = (r.length : Int) + 2 := wrap64 (by omega) (by omega)
        by_cases hc0 : c = 0
        · subst hc0
          rw [eB rfl] at hB
          simp only at hB
          by_cases h80 : r.length + 2 ≤ 80
          · have h80i : (r.length : Int) + 2 ≤ 80 := by omega
            rw [eC rfl h80] at hC
            simp only [List.cons_append, List.nil_append] at hC
            simp [hsz, h3, h9, h10, hlt, hA, hB, hC, m1, m2, m3, m4, m5, m6, wr, h80i, hwi]
            exact ih _ _ (by omega) ⟨j + 1, rfl, by omega, by simp [hsz], by simp [h3], by simp⟩
          · have h80i : ¬ (r.length : Int) + 2 ≤ 80 := by omega
            simp only [List.cons_append, List.nil_append] at hC
            simp [hsz, h3, h9, h10, hlt, hA, hB, hC, m1, m2, m3, m4, m5, m6, wr, h80i, hwi]
            exact ih _ _ (by omega) ⟨j + 1, rfl, by omega, by simp [hsz], by simp [h3], by simp⟩
        · have hc0' : (c == 0) = false := by rw [beq_eq_false_iff_ne]; exact hc0
          generalize exAll fs fs[j].2 = vB at *
          generalize exAll fs ([120, 36, 123] ++ (fs[j].1 ++ [125, 121])) = vC at *
          simp only [List.cons_append, List.nil_append] at hC
          simp [hsz, h3, h9, h10, hlt, hA, hB, hC, m1, m2, m3, m4, m5, m6, wr, hc0, hc0', hwi]
          exact ih _ _ (by omega) ⟨j + 1, rfl, by omega, by simp [hsz], by simp [h3], by simp⟩
    · simp [hsz, h3, h9, hlt]
end Go.Qz
