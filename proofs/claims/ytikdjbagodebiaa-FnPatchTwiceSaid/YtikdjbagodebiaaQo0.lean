/- The evaluator of the claim and what it says, part Qo0 (several texts in one). -/
import Derived.Test.YtikdjbagodebiaaQm0
import Derived.Test.YtikdjbagodebiaaQl0
/- The seat's context: what is lent to be written, what comes by contract. -/
namespace Go.Qz
open Go.Proofs

@[simp] def ioS : FuncId → List Nat := fun f => if f = fn_slices_Replace_L_string_string then [0, 3] else if f = fn_s_l1Open then [999] else []
attribute [simp] fn_slices_Replace_L_string_string fn_s_l1Open
@[simp] theorem opens_is (f : FuncId) : opensF ioS f = decide (f = 19) := by
  unfold opensF ioS
  by_cases h : f = 19
  · subst h; rfl
  · rw [decide_eq_false h]
    repeat (split; rfl)
    simp
/-- slices.Clone at an empty slice: whether nil or not, an empty slice comes. l1Open. slices.Replace: it takes over its first row. -/
def XS : CallF := fun f us bx =>
  if f = fn_slices_Clone_L_string_string then (match us, bx with
    | [.ro (.sl _ [])], [] => some (.one (.own (.sl 1 [])), [])
    | _, _ => none)
  else if f = fn_s_l1Open then (match us, bx with
    | [.ro (.sl z xs)], [] => if z = 1 then some (.agg [.ro (.sl 1 (xs.take 2000)), .ro (.int .i64 0)], []) else none
    | _, _ => none)
  else if f = fn_slices_Replace_L_string_string then (match us, bx with
    | [.view l0, .ro (.int .i64 i), .ro (.int .i64 j), .view l3], [(n, [.own (.sl z xs)]), (m, [.own (.sl z' ys)])] =>
      if l0 = ⟨.cell 10000 0, []⟩ ∧ l3 = ⟨.cell 10003 0, []⟩ ∧ n = 10000 ∧ m = 10003 ∧ z = 1 ∧ z' = 1 ∧ flats xs = true ∧ flats ys = true ∧ 0 ≤ i ∧ i ≤ j ∧ j ≤ xs.length ∧ (xs.length + ys.length) * 16 ≤ 140737488355328 then
        some (.one (.own (.sl 1 (xs.take i.toNat ++ ys ++ xs.drop j.toNat))), [(10000, [.dead]), (10003, [.own (.sl 1 ys)])]) else none
    | _, _ => none)
  else none
noncomputable abbrev C : CallF := callLim Try.prog ioS XS
noncomputable abbrev cx : Ctx := ⟨Try.prog, ioS, C⟩
theorem open_ev (xs : List D) : C fn_s_l1Open [.ro (.sl 1 xs)] [] = some (.agg [.ro (.sl 1 (xs.take 2000)), .ro (.int .i64 0)], []) := callLim_x (by simp [XS, fn_slices_Clone_L_string_string])
theorem replace_ev (xs ys : List D) (i j : Nat) (hx : flats xs = true) (hy : flats ys = true) (hi : i ≤ j) (hj : j ≤ xs.length) (hb : (xs.length + ys.length) * 16 ≤ 140737488355328) :
    C 52 [.view ⟨.cell 10000 0, []⟩, .ro (.int .i64 i), .ro (.int .i64 j), .view ⟨.cell 10003 0, []⟩] [(10000, [.own (.sl 1 xs)]), (10003, [.own (.sl 1 ys)])] = some (.one (.own (.sl 1 (xs.take i ++ ys ++ xs.drop j))), [(10000, [.dead]), (10003, [.own (.sl 1 ys)])]) := by
  have h1 : (i : Int) ≤ j := by omega
  have h2 : (j : Int) ≤ xs.length := by omega
  exact callLim_x (by simp [XS, fn_slices_Clone_L_string_string, hx, hy, hi, hj, hb])
end Go.Qz

/- What the functions come to: sizes. -/
namespace Go.Qz
open Go.Proofs

abbrev Lines := List (List UInt8)
abbrev SS (xs : Lines) : D := .sl 1 (xs.map T)
abbrev I (n : Int) : D := .int .i64 n
abbrev N (n : Nat) : D := .int .i64 (n : Int)

@[simp] theorem flats_T (xs : Lines) : flats (xs.map T) = true := by
  induction xs with
  | nil => rfl
  | cons a r ih => simp [flats, D.flat, ih]

def szL : Lines → Int → Int
  | [], l => l
  | x :: r, l => if l - x.length < 0 then -1 else szL r (l - x.length)
def szSS (xs : Lines) (l : Int) : Int := if l - xs.length < 0 then -1 else szL xs (l - xs.length)

end Go.Qz

/- What the functions come to: plain text. -/
namespace Go.Qz
open Go.Proofs

def plainB (b : UInt8) : Bool := decide (32 ≤ b.toNat) && decide (b.toNat ≤ 126)
def plainT (l : List UInt8) : Bool := decide (l.length ≤ 80) && l.all plainB
def seenT (l : List UInt8) : Bool := l.all plainB && decide (l.length ≤ 80)
theorem seen_plain (l : List UInt8) : seenT l = plainT l := by unfold seenT plainT; exact Bool.and_comm _ _
def inI (n a b : Int) : Bool := decide (a ≤ n) && decide (n ≤ b)

theorem plainByte_ev (b : UInt8) : C fn_i_plainByte [.ro (.int .u8 b.toNat)] [] = some (.one (.ro (.bool (plainB b))), []) := by
  refine ctx_call Try.func48 conv_i_plainByte rfl ?_
  unfold plainB
  by_cases h : 32 ≤ b.toNat <;> simp [h]

theorem l1In_ev (n a b : Int) : C fn_s_l1In [.ro (I n), .ro (I a), .ro (I b)] [] = some (.one (.ro (.bool (inI n a b))), []) := by
  refine ctx_call Try.func36 conv_s_l1In rfl ?_
  unfold inI
  by_cases h : a ≤ n <;> simp [h]

theorem in_plain (b : UInt8) : inI b.toNat 32 126 = plainB b := by
  unfold inI plainB
  congr 1
  · simp
  · simp

theorem plainText_ev (l : List UInt8) : C fn_i_plainText [.ro (T l)] [] = some (.one (.ro (.bool (plainT l))), []) := by
  refine ctx_call Try.func41 conv_i_plainText rfl ?_
  unfold plainT
  by_cases hs : l.length ≤ 80
  · have hs' : ¬ (80 : Int) < l.length := by omega
    simp [hs']
    refine loop_run (fun m e => ∃ i, m = l.length - i ∧ i ≤ l.length ∧ e.size = 18 ∧ e.get 0 = .one (.ro (T l)) ∧ e.get 8 = .one (.ro (N l.length)) ∧ e.get 9 = .one (.ro (N i)) ∧
      (l.drop i).all plainB = l.all plainB) ?_ l.length _ ⟨0, rfl, Nat.zero_le _, by simp, by simp, by simp, by simp, rfl⟩
    rintro m e ⟨i, rfl, hi, hsz, h0, h8, h9, hr⟩ ih
    rcases Nat.lt_or_ge i l.length with hlt | hge
    · have hd : l.drop i = l[i] :: l.drop (i + 1) := List.drop_eq_getElem_cons hlt
      have hwi : IntKind.i64.wrap ((i : Int) + 1) = ((i + 1 : Nat) : Int) := wrap64_succ (by omega)
      rw [hd, List.all_cons] at hr
      cases hp : plainB l[i] with
      | false =>
        rw [hp] at hr
        simp [plainByte_ev, hsz, h0, h8, h9, hlt, hp, hs, ← hr]
      | true =>
        rw [hp, Bool.true_and] at hr
        simp [plainByte_ev, hsz, h0, h8, h9, hlt, hwi, hp]
        exact ih _ _ (by omega) ⟨i + 1, rfl, by omega, by simp [hsz], by simp [h0], by simp [h8], by simp, hr⟩
    · obtain rfl : i = l.length := by omega
      rw [List.drop_length, List.all_nil] at hr
      simp [hsz, h8, h9, hs, ← hr]
  · have hs' : 80 < l.length := by omega
    simp [hs', hs]

theorem l5Seen_ev (l : List UInt8) (hl : l.length ≤ 140737488351232) : C fn_s_l5Seen [.ro (T l)] [] = some (.one (.ro (.bool (seenT l))), []) := by
  refine ctx_call Try.func42 conv_s_l5Seen rfl ?_
  unfold seenT
  simp
  refine loop_run (fun m e => ∃ i, m = l.length - i ∧ i ≤ l.length ∧ e.size = 19 ∧ e.get 0 = .one (.ro (T l)) ∧ e.get 3 = .one (.ro (N i)) ∧
    (l.drop i).all plainB = l.all plainB) ?_ l.length _ ⟨0, rfl, Nat.zero_le _, by simp, by simp, by simp, rfl⟩
  rintro m e ⟨i, rfl, hi, hsz, h0, h3, hr⟩ ih
  rcases Nat.lt_or_ge i l.length with hlt | hge
  · have hd : l.drop i = l[i] :: l.drop (i + 1) := List.drop_eq_getElem_cons hlt
    have hwi : IntKind.i64.wrap ((i : Int) + 1) = ((i + 1 : Nat) : Int) := wrap64_succ (by omega)
    have hwb : IntKind.i64.wrap (l[i].toNat : Int) = l[i].toNat := by have := l[i].toNat_lt; exact wrap64 (by omega) (by omega)
    rw [hd, List.all_cons] at hr
    cases hp : plainB l[i] with
    | false =>
      rw [hp] at hr
      simp [l1In_ev, in_plain, hsz, h0, h3, hlt, hwb, hp, ← hr]
    | true =>
      rw [hp, Bool.true_and] at hr
      simp [l1In_ev, in_plain, hsz, h0, h3, hlt, hwi, hwb, hp]
      exact ih _ _ (by omega) ⟨i + 1, rfl, by omega, by simp [hsz], by simp [h0], by simp, hr⟩
  · obtain rfl : i = l.length := by omega
    rw [List.drop_length, List.all_nil] at hr
    simp [hsz, h0, h3, ← hr]
end Go.Qz

/- What the functions come to: what the reference draws. -/
namespace Go.Qz
open Go.Proofs

abbrev BS (bs : List Int) : D := .sl 1 (bs.map (D.int .u8))

theorem xor_small {a b : Nat} (ha : a < 4611686018427387904) (hb : b < 4611686018427387904) : ∃ x : Nat, x < 4611686018427387904 ∧ IntKind.i64.wrap ((a % 2 ^ IntKind.i64.bits ^^^ b % 2 ^ IntKind.i64.bits : Nat) : Int) = x := by
  refine ⟨a ^^^ b, Nat.xor_lt_two_pow (n := 62) ha hb, ?_⟩
  have h2 : a ^^^ b < 2 ^ 62 := Nat.xor_lt_two_pow (n := 62) ha hb
  rw [show 2 ^ IntKind.i64.bits = 18446744073709551616 from rfl, Nat.mod_eq_of_lt (by omega), Nat.mod_eq_of_lt (by omega)]
  exact wrap64 (by omega) (by omega)

theorem pick_ev (bs : List Int) (hb : ∀ b ∈ bs, 0 ≤ b ∧ b ≤ 255) (hl : bs.length ≤ 2000) (i : Nat) (hi : i ≤ 100000) (n : Nat) (hn0 : 0 < n) (hn : n ≤ 100000) :
    ∃ r : Nat, r < n ∧ C fn_s_l1Rd_pick [.ptr 5000 0, .ro (N n)] [(5000, [.ro (BS bs), .ro (N i)])] = some (.one (.ro (N r)), [(5000, [.ro (BS bs), .ro (N (i + 1))])]) := by
  have w1 : IntKind.i64.wrap ((i : Int) + 1) = ((i + 1 : Nat) : Int) := wrap64_succ (by omega)
  have w2 : IntKind.i64.wrap (i : Int) = i := wrap64 (by omega) (by omega)
  have n1 : ¬ (n : Int) < 1 := by omega
  by_cases h0 : bs = []
  · subst h0
    refine ⟨0, hn0, ctx_call Try.func21 conv_s_l1Rd_pick rfl ?_⟩
    simp [w1, n1]
  · by_cases hlt : i < bs.length
    · obtain ⟨b, hbe⟩ : ∃ b : Nat, bs[i] = (b : Int) := ⟨bs[i].toNat, by have := hb _ (List.getElem_mem hlt); omega⟩
      have hb255 := hb _ (List.getElem_mem hlt)
      rw [hbe] at hb255
      have w3 : IntKind.i64.wrap (b : Int) = b := wrap64 (by omega) (by omega)
      have hn' : n ≠ 0 := by omega
      obtain ⟨r, hr⟩ : ∃ r : Nat, (b : Int).tmod n = r := ⟨b % n, (Int.ofNat_tmod b n).symm⟩
      have hrn : r < n := by
        have h1 : ((b % n : Nat) : Int) = r := (Int.ofNat_tmod b n).trans hr
        have := Nat.mod_lt b hn0
        omega
      refine ⟨r, hrn, ctx_call Try.func21 conv_s_l1Rd_pick rfl ?_⟩
      simp [w1, w2, w3, n1, h0, hlt, hbe, hn', hr]
    · have hL : 0 < bs.length := List.length_pos_iff.2 h0
      have hL' : bs.length ≠ 0 := by omega
      have hn' : n ≠ 0 := by omega
      have md : ∀ a c : Nat, 0 < c → ∃ r : Nat, (a : Int).tmod c = r ∧ r < c := fun a c hc => ⟨a % c, (Int.ofNat_tmod a c).symm, Nat.mod_lt a hc⟩
      have dv : ∀ a c : Nat, ∃ r : Nat, (a : Int).tdiv c = r ∧ r ≤ a := fun a c => ⟨a / c, (Int.ofNat_tdiv a c).symm, Nat.div_le_self a c⟩
      obtain ⟨p, hp, hpL⟩ := md i bs.length hL
      obtain ⟨q, hq, hqL⟩ := md (i * 7 + 3) bs.length hL
      obtain ⟨d, hd, hdi⟩ := dv i bs.length
      have hq' : ((i : Int) * 7 + 3).tmod (bs.length : Int) = q := by rw [← hq]; congr 1
      obtain ⟨b1, hb1⟩ : ∃ b : Nat, bs[p] = (b : Int) := ⟨bs[p].toNat, by have := hb _ (List.getElem_mem hpL); omega⟩
      obtain ⟨b2, hb2⟩ : ∃ b : Nat, bs[q] = (b : Int) := ⟨bs[q].toNat, by have := hb _ (List.getElem_mem hqL); omega⟩
      have k1 := hb _ (List.getElem_mem hpL)
      have k2 := hb _ (List.getElem_mem hqL)
      rw [hb1] at k1
      rw [hb2] at k2
      have w3 : IntKind.i64.wrap ((i : Int) * 7) = (i : Int) * 7 := wrap64 (by omega) (by omega)
      have w4 : IntKind.i64.wrap ((i : Int) * 7 + 3) = (i : Int) * 7 + 3 := wrap64 (by omega) (by omega)
      have w5 : IntKind.i64.wrap (b1 : Int) = b1 := wrap64 (by omega) (by omega)
      have w6 : IntKind.i64.wrap (b2 : Int) = b2 := wrap64 (by omega) (by omega)
      have w7 : IntKind.i64.wrap ((b1 : Int) * 131) = (b1 : Int) * 131 := wrap64 (by omega) (by omega)
      have w8 : IntKind.i64.wrap ((b2 : Int) * 1117) = (b2 : Int) * 1117 := wrap64 (by omega) (by omega)
      have w9 : IntKind.i64.wrap ((b1 : Int) * 131 + (b2 : Int) * 1117) = (b1 : Int) * 131 + (b2 : Int) * 1117 := wrap64 (by omega) (by omega)
      have w10 : IntKind.i64.wrap ((i : Int) * 29) = (i : Int) * 29 := wrap64 (by omega) (by omega)
      have w11 : IntKind.i64.wrap ((b1 : Int) * 131 + (b2 : Int) * 1117 + (i : Int) * 29) = (b1 : Int) * 131 + (b2 : Int) * 1117 + (i : Int) * 29 := wrap64 (by omega) (by omega)
      have w12 : IntKind.i64.wrap (d : Int) = d := wrap64 (by omega) (by omega)
      have w13 : IntKind.i64.wrap ((d : Int) * 53) = (d : Int) * 53 := wrap64 (by omega) (by omega)
      obtain ⟨V, hV⟩ : ∃ V : Nat, (V : Int) = (b1 : Int) * 131 + (b2 : Int) * 1117 + (i : Int) * 29 + (d : Int) * 53 := ⟨b1 * 131 + b2 * 1117 + i * 29 + d * 53, by omega⟩
      have w14 : IntKind.i64.wrap ((b1 : Int) * 131 + (b2 : Int) * 1117 + (i : Int) * 29 + (d : Int) * 53) = V := by rw [hV]; exact wrap64 (by omega) (by omega)
      obtain ⟨V2, hV2, hV2V⟩ := dv V 64
      have hV2' : (V : Int).tdiv 64 = V2 := hV2
      have w15 : IntKind.i64.wrap (V2 : Int) = V2 := wrap64 (by omega) (by omega)
      obtain ⟨x, hx, w16⟩ := xor_small (a := V) (b := V2) (by omega) (by omega)
      obtain ⟨r, hr, hrn⟩ := md x n hn0
      refine ⟨r, hrn, ctx_call Try.func21 conv_s_l1Rd_pick rfl ?_⟩
      simp [w1, w2, w3, w4, w5, w6, w7, w8, w9, w10, w11, w12, w13, w14, w15, w16, n1, hlt, hn', hr, hL', hp, hq', hpL, hqL, hb1, hb2, hd, hV2']
end Go.Qz

/- What the functions come to: what the reference draws of strings. -/
namespace Go.Qz
open Go.Proofs

structure Seed (bs : List Int) : Prop where
  byte : ∀ b ∈ bs, 0 ≤ b ∧ b ≤ 255
  len : bs.length ≤ 2000
/-- A reader's box. -/
abbrev RB (bs : List Int) (i : Nat) : List A := [.ro (BS bs), .ro (N i)]

theorem of_ev (bs : List Int) (hb : Seed bs) (i : Nat) (hi : i ≤ 100000) (xs : Lines) (h0 : 0 < xs.length) (hn : xs.length ≤ 100000) :
    ∃ x ∈ xs, C fn_s_l1Rd_of [.ptr 5000 0, .ro (SS xs)] [(5000, RB bs i)] = some (.one (.ro (T x)), [(5000, RB bs (i + 1))]) := by
  obtain ⟨r, hr, hp⟩ := pick_ev bs hb.byte hb.len i hi xs.length h0 hn
  refine ⟨xs[r], List.getElem_mem hr, ctx_call Try.func40 conv_s_l1Rd_of rfl ?_⟩
  simp [hp, hr]

/-- Draws, as the law's texts call them. -/
theorem draw_pick {bs : List Int} (hb : Seed bs) {i : Nat} (hi : i ≤ 100000) (n : Nat) (m : Int) (hm : m = n) (hn0 : 0 < n) (hn : n ≤ 100000) :
    ∃ r j : Nat, r < n ∧ j ≤ i + 1 ∧ C fn_s_l1Rd_pick [.ptr 5000 0, .ro (.int .i64 m)] [(5000, RB bs i)] = some (.one (.ro (N r)), [(5000, RB bs j)]) := by
  subst hm
  obtain ⟨r, hr, h⟩ := pick_ev bs hb.byte hb.len i hi n hn0 hn
  exact ⟨r, i + 1, hr, Nat.le_refl _, h⟩
theorem draw_of {bs : List Int} (hb : Seed bs) {i : Nat} (hi : i ≤ 100000) (xs : Lines) (h0 : 0 < xs.length) (hn : xs.length ≤ 100000) :
    ∃ x j, x ∈ xs ∧ j ≤ i + 1 ∧ C fn_s_l1Rd_of [.ptr 5000 0, .ro (.sl 1 (xs.map T))] [(5000, RB bs i)] = some (.one (.ro (T x)), [(5000, RB bs j)]) := by
  obtain ⟨x, hx, h⟩ := of_ev bs hb i hi xs h0 hn
  exact ⟨x, i + 1, hx, Nat.le_refl _, h⟩
end Go.Qz

/- What the functions come to: lines that the reference draws. -/
namespace Go.Qz
open Go.Proofs

/-- It ends, and well. -/
def Ends (Good : V × Boxes → Prop) (x : Option (V × Boxes)) : Prop := ∃ r, Good r ∧ x = some r
theorem Ends.of {Good : V × Boxes → Prop} {r : V × Boxes} (h : Good r) : Ends Good (some r) := ⟨r, h, rfl⟩
section
variable {c : Ctx} {a : QCode} {ks : List Fr}
theorem loop_ex {Good : V × Boxes → Prop} (Inv : Nat → Env → Prop) (step : ∀ m e, Inv m e → (∀ m' e', m' < m → Inv m' e' → Ends Good (Run c (.loop a) e' ks)) → Ends Good (Run c a e (.loop a :: ks))) (m : Nat) (e : Env) (h : Inv m e) :
    Ends Good (Run c (.loop a) e ks) := by
  induction m using Nat.strongRecOn generalizing e with
  | _ m ih =>
    rw [run_loop]
    exact step m e h (fun m' e' hm hi => ih m' hm e' hi)
end
theorem call_ex {P : Program} {io : FuncId → List Nat} {X : CallF} {f : FuncId} {us : List A} {bx : Boxes} {fn : Func} {q : QFn} {Good : V × Boxes → Prop} (hf : P.funcs[f]? = some fn) (hq : convF fn = some q) (hX : X f us bx = none)
    (h : Ends Good (Run ⟨P, io, callLim P io X⟩ q.body (startEnv q.n us bx) [.fn q.res bx])) : Ends Good (callLim P io X f us bx) := by
  obtain ⟨r, h1, h2⟩ := h
  exact ⟨r, h1, ctx_call hf hq hX h2⟩

/-- Few and short lines. -/
structure Short (xs : Lines) (n : Nat) : Prop where
  len : xs.length ≤ n
  each : ∀ x ∈ xs, x.length ≤ 1000
def LinesOut (bs : List Int) (n i : Nat) (r : V × Boxes) : Prop := ∃ xs j, Short xs n ∧ j ≤ i ∧ r = (.one (.own (SS xs)), [(5000, RB bs j)])

theorem lines_ev (bs : List Int) (hb : Seed bs) (i : Nat) (hi : i ≤ 1000) : Ends (LinesOut bs 8 (i + 9)) (C fn_s_l11Lines [.ptr 5000 0] [(5000, RB bs i)]) := by
  refine call_ex Try.func20 conv_s_l11Lines rfl ?_
  obtain ⟨n, j0, hn, hj0, hp⟩ := draw_pick hb (i := i) (by omega) 9 9 rfl (by omega) (by omega)
  simp [hp]
  refine loop_ex (fun m e => ∃ (xs : Lines) (j : Nat), Short xs (8 - m) ∧ m ≤ 8 ∧ j + m ≤ i + 9 ∧ e.size = 19 ∧ e.get 0 = .one (.ptr 5000 0) ∧ e.get 3 = .one (.own (SS xs)) ∧ e.get 4 = .one (.ro (N m)) ∧ e.box 5000 = some (RB bs j))
    ?_ n _ ⟨[], j0, ⟨by simp, by simp⟩, by omega, by omega, by simp, by simp, by simp, by simp, by simp⟩
  rintro m e ⟨xs, j, hs, hm8, hj, hsz, h0, h3, h4, b5⟩ ih
  have hsl := hs.len
  by_cases hm : m = 0
  · subst hm
    simp [hsz, h3, h4, b5]
    exact .of ⟨xs, j, ⟨by omega, hs.each⟩, by omega, rfl⟩
  · have hm0 : 0 < m := by omega
    have ha : xs.length + 1 ≤ appendMax := by simp [appendMax]; omega
    have hwm : IntKind.i64.wrap ((m : Int) - 1) = ((m - 1 : Nat) : Int) := by rw [wrap64 (by omega) (by omega)]; omega
    obtain ⟨x, j1, hx, hj1, ho⟩ := draw_of hb (i := j) (by omega) [[97], [98], [99], [100], [], [115, 97, 109, 101], [115, 97, 109, 101]] (by simp) (by simp)
    simp only [List.map_cons, List.map_nil] at ho
    have hxl : x.length ≤ 1000 := by simp at hx; rcases hx with rfl | rfl | rfl | rfl | rfl | rfl <;> simp
    simp [hsz, h0, h3, h4, b5, hm0, ho, ha, hwm]
    exact ih (m - 1) _ (by omega) ⟨xs ++ [x], j1, ⟨by simp; omega, fun y hy => by
      rcases List.mem_append.1 hy with h | h
      · exact hs.each y h
      · simp at h; subst h; exact hxl⟩, by omega, by omega, by simp [hsz], by simp [h0], by simp, by simp, by simp⟩
end Go.Qz

/- What the functions come to: lines near others that the reference draws. -/
namespace Go.Qz
open Go.Proofs

theorem near_ev (bs : List Int) (hb : Seed bs) (i : Nat) (hi : i ≤ 1000) (list : Lines) (n : Nat) (hl : Short list n) (hn : n ≤ 100) : Ends (LinesOut bs (n + 2) (i + 7)) (C fn_s_l11Near [.ptr 5000 0, .ro (SS list)] [(5000, RB bs i)]) := by
  refine call_ex Try.func22 conv_s_l11Near rfl ?_
  obtain ⟨r0, j0, hr0, hj0, hp⟩ := draw_pick hb (i := i) (by omega) 3 3 rfl (by omega) (by omega)
  have hll := hl.len
  have a0 : list.length ≤ appendMax := by simp [appendMax]; omega
  simp [hp, a0]
  refine loop_ex (fun m e => ∃ (xs : Lines) (j : Nat), Short xs (n + 2 - m) ∧ m ≤ 2 ∧ j + 3 * m ≤ i + 7 ∧ e.size = 66 ∧ e.get 0 = .one (.ptr 5000 0) ∧ e.get 5 = .one (.own (SS xs)) ∧ e.get 6 = .one (.ro (N m)) ∧ e.box 5000 = some (RB bs j))
    ?_ r0 _ ⟨list, j0, ⟨by omega, hl.each⟩, by omega, by omega, by simp, by simp, by simp, by simp, by simp⟩
  rintro m e ⟨xs, j, hs, hm2, hj, hsz, h0, h5, h6, b5⟩ ih
  have hsl := hs.len
  by_cases hm : m = 0
  · subst hm
    simp [hsz, h5, h6, b5]
    exact .of ⟨xs, j, ⟨by omega, hs.each⟩, by omega, rfl⟩
  · have hm0 : 0 < m := by omega
    have hwm : IntKind.i64.wrap ((m : Int) - 1) = ((m - 1 : Nat) : Int) := by rw [wrap64 (by omega) (by omega)]; omega
    have hw1 : IntKind.i64.wrap ((xs.length : Int) + 1) = (xs.length : Int) + 1 := wrap64 (by omega) (by omega)
    obtain ⟨k, j1, hk, hj1, hp1⟩ := draw_pick hb (i := j) (by omega) (xs.length + 1) ((xs.length : Int) + 1) (by omega) (by omega) (by omega)
    obtain ⟨s, j2, hs3, hj2, hp2⟩ := draw_pick hb (i := j1) (by omega) 3 3 rfl (by omega) (by omega)
    have three : s = 0 ∨ s = 1 ∨ s = 2 := by omega
    have hkl : k ≤ xs.length := by omega
    have hkl' : (k : Int) ≤ xs.length := by omega
    have hf1 : flats (List.take k (List.map T xs)) = true := by rw [← List.map_take]; exact flats_T _
    have hf2 : flats (List.drop k (List.map T xs)) = true := by rw [← List.map_drop]; exact flats_T _
    have hf3 : flats (List.drop (k + 1) (List.map T xs)) = true := by rw [← List.map_drop]; exact flats_T _
    have ht : List.take xs.length (List.map T xs) = List.map T xs := by rw [← List.map_take, List.take_length]
    have a1 : k ≤ appendMax := by simp [appendMax]; omega
    have a2 : k + 1 ≤ appendMax := by simp [appendMax]; omega
    have a3 : k + 1 + (xs.length - k) ≤ appendMax := by simp [appendMax]; omega
    rcases three with rfl | rfl | rfl
    · obtain ⟨x, j3, hx, hj3, ho⟩ := draw_of hb (i := j2) (by omega) [[110, 101, 119], [97]] (by simp) (by simp)
      simp only [List.map_cons, List.map_nil] at ho
      have hxl : x.length ≤ 1000 := by simp at hx; rcases hx with rfl | rfl <;> simp
      simp [hsz, h0, h5, h6, b5, hm0, hw1, hp1, hp2, ho, hkl, hkl', ht, hf1, hf2, a1, a2, a3, hwm]
      exact ih (m - 1) _ (by omega) ⟨xs.take k ++ x :: xs.drop k, j3, ⟨by simp; omega, fun y hy => by
        rcases List.mem_append.1 hy with h | h
        · exact hs.each y (List.mem_of_mem_take h)
        · rcases List.mem_cons.1 h with rfl | h
          · exact hxl
          · exact hs.each y (List.mem_of_mem_drop h)⟩, by omega, by omega, by simp [hsz], by simp [h0], by simp, by simp, by simp⟩
    · by_cases hk1 : k < xs.length
      · have b1 : (0 : Int) ≤ (k : Int) + 1 := by omega
        have b2 : (k : Int) + 1 ≤ xs.length := by omega
        have a4 : k + (xs.length - (k + 1)) ≤ appendMax := by simp [appendMax]; omega
        have hwk : IntKind.i64.wrap ((k : Int) + 1) = ((k + 1 : Nat) : Int) := wrap64_succ (by omega)
        simp [hsz, h0, h5, h6, b5, hm0, hw1, hp1, hp2, hkl, hkl', ht, hf1, hf3, b1, b2, a4, a1, hwm, hk1, hwk]
        exact ih (m - 1) _ (by omega) ⟨xs.take k ++ xs.drop (k + 1), j2, ⟨by simp; omega, fun y hy => by
          rcases List.mem_append.1 hy with h | h
          · exact hs.each y (List.mem_of_mem_take h)
          · exact hs.each y (List.mem_of_mem_drop h)⟩, by omega, by omega, by simp [hsz], by simp [h0], by simp, by simp, by simp⟩
      · simp [hsz, h0, h5, h6, b5, hm0, hw1, hp1, hp2, hwm, hk1]
        exact ih (m - 1) _ (by omega) ⟨xs, j2, ⟨by omega, hs.each⟩, by omega, by omega, by simp [hsz], by simp [h0], by simp [h5], by simp, by simp⟩
    · by_cases hk1 : k < xs.length
      · simp [hsz, h0, h5, h6, b5, hm0, hw1, hp1, hp2, hwm, hk1]
        exact ih (m - 1) _ (by omega) ⟨xs.set k [116, 117, 114, 110, 101, 100], j2, ⟨by simp; omega, fun y hy => by
          rcases List.mem_or_eq_of_mem_set hy with h | h
          · exact hs.each y h
          · subst h; simp⟩, by omega, by omega, by simp [hsz], by simp [h0], by simp [List.map_set], by simp, by simp⟩
      · simp [hsz, h0, h5, h6, b5, hm0, hw1, hp1, hp2, hwm, hk1]
        exact ih (m - 1) _ (by omega) ⟨xs, j2, ⟨by omega, hs.each⟩, by omega, by omega, by simp [hsz], by simp [h0], by simp [h5], by simp, by simp⟩
end Go.Qz

/- What the functions come to: hunks, as the program has them. -/
namespace Go.Qz
open Go.Proofs

abbrev Hk := Int × Lines
abbrev HD (h : Hk) : D := .agg [I h.1, SS h.2]
abbrev HS (hs : List Hk) : D := .sl 2 (hs.map HD)

def signB (b : UInt8) : Bool := b == 32 || b == 45 || b == 43
def hlOk : List UInt8 → Bool
  | [] => false
  | c :: r => signB c && plainT r
def oldL (xs : Lines) : Lines := (xs.filter (fun x => !(x.head? == some 43))).map List.tail
def newL (xs : Lines) : Lines := (xs.filter (fun x => !(x.head? == some 45))).map List.tail
def goI : Int → List Hk → Bool
  | _, [] => true
  | least, h :: r => decide (least ≤ h.1) && decide (h.1 ≤ 999) && decide (1 ≤ h.2.length) && decide (h.2.length ≤ 30) && h.2.all hlOk && goI (h.1 + (oldL h.2).length) r
def hunksOkI (hs : List Hk) : Bool := decide (hs.length ≤ 4) && goI 1 hs

theorem hunkLineOk_ev (l : List UInt8) : C fn_i_hunkLineOk [.ro (T l)] [] = some (.one (.ro (.bool (hlOk l))), []) := by
  refine ctx_call Try.func32 conv_i_hunkLineOk rfl ?_
  cases l with
  | nil => simp [hlOk]
  | cons c r =>
    unfold hlOk signB
    cases h1 : c == 32
    · cases h2 : c == 45
      · cases h3 : c == 43
        · simp [h1, h2, h3]
        · simp [h1, h2, h3, plainText_ev]
      · simp [h1, h2, plainText_ev]
    · simp [h1, plainText_ev]

theorem SS_get (xs : Lines) (i : Nat) (h : i < xs.length) : (xs.map T)[i]? = some (T xs[i]) := by simp [h]

theorem allStr_ev (xs : Lines) (f : FuncId) (p : List UInt8 → Bool) (h60 : f ≠ 19) (hn : xs.length ≤ 140737488351232) (hf : ∀ x ∈ xs, C f [.ro (T x)] [] = some (.one (.ro (.bool (p x))), [])) :
    C fn_i_all_string [.ro (SS xs), .fn f []] [] = some (.one (.ro (.bool (xs.all p))), []) := by
  refine ctx_call Try.func31 conv_i_all_string rfl ?_
  simp
  refine loop_run (fun m e => ∃ i, m = xs.length - i ∧ i ≤ xs.length ∧ e.size = 18 ∧ e.get 1 = .one (.fn f []) ∧ e.get 7 = .one (.ro (SS xs)) ∧ e.get 8 = .one (.ro (N xs.length)) ∧ e.get 9 = .one (.ro (N i)) ∧
    (xs.drop i).all p = xs.all p) ?_ xs.length _ ⟨0, rfl, Nat.zero_le _, by simp, by simp, by simp, by simp, by simp, rfl⟩
  rintro m e ⟨i, rfl, hi, hsz, h1, h7, h8, h9, hr⟩ ih
  rcases Nat.lt_or_ge i xs.length with hlt | hge
  · have hd : xs.drop i = xs[i] :: xs.drop (i + 1) := List.drop_eq_getElem_cons hlt
    have hwi : IntKind.i64.wrap ((i : Int) + 1) = ((i + 1 : Nat) : Int) := wrap64_succ (by omega)
    have hfx := hf xs[i] (List.getElem_mem hlt)
    rw [hd, List.all_cons] at hr
    cases hp : p xs[i] with
    | false =>
      rw [hp] at hr hfx
      simp [hfx, h60, hsz, h1, h7, h8, h9, hlt, ← hr]
    | true =>
      rw [hp] at hr hfx
      rw [Bool.true_and] at hr
      simp [hfx, h60, hsz, h1, h7, h8, h9, hlt, hwi]
      exact ih _ _ (by omega) ⟨i + 1, rfl, by omega, by simp [hsz], by simp [h1], by simp [h7], by simp [h8], by simp, hr⟩
  · obtain rfl : i = xs.length := by omega
    rw [List.drop_length, List.all_nil] at hr
    simp [hsz, h8, h9, ← hr]

theorem sides_ev (xs : Lines) (hn : xs.length ≤ 30) (hne : ∀ x ∈ xs, x ≠ []) :
    C fn_i_sides [.ro (SS xs)] [] = some (.tup [.own (SS (oldL xs)), .own (SS (newL xs))], []) := by
  refine ctx_call Try.func33 conv_i_sides rfl ?_
  simp
  refine loop_run (fun m e => ∃ i, m = xs.length - i ∧ i ≤ xs.length ∧ e.size = 33 ∧ e.get 4 = .one (.own (SS (oldL (xs.take i)))) ∧ e.get 5 = .one (.own (SS (newL (xs.take i)))) ∧ e.get 8 = .one (.ro (SS xs)) ∧ e.get 9 = .one (.ro (N xs.length)) ∧ e.get 10 = .one (.ro (N i)))
    ?_ xs.length _ ⟨0, rfl, Nat.zero_le _, by simp, by simp [oldL], by simp [newL], by simp, by simp, by simp⟩
  rintro m e ⟨i, rfl, hi, hsz, h4, h5, h8, h9, h10⟩ ih
  rcases Nat.lt_or_ge i xs.length with hlt | hge
  · have hwi : IntKind.i64.wrap ((i : Int) + 1) = ((i + 1 : Nat) : Int) := wrap64_succ (by omega)
    have hl1 : (oldL (xs.take i)).length ≤ 30 := by
      unfold oldL; rw [List.length_map]
      exact Nat.le_trans (List.length_filter_le _ _) (by simp; omega)
    have hl2 : (newL (xs.take i)).length ≤ 30 := by
      unfold newL; rw [List.length_map]
      exact Nat.le_trans (List.length_filter_le _ _) (by simp; omega)
    obtain ⟨c, r, hcr⟩ : ∃ c r, xs[i] = c :: r := by
      cases hq : xs[i] with
      | nil => exact absurd hq (hne _ (List.getElem_mem hlt))
      | cons c r => exact ⟨c, r, rfl⟩
    have ht : xs.take (i + 1) = xs.take i ++ [c :: r] := by rw [List.take_succ_eq_append_getElem hlt, hcr]
    have o : oldL (xs.take (i + 1)) = oldL (xs.take i) ++ if c == 43 then [] else [r] := by
      rw [ht]; unfold oldL; rw [List.filter_append, List.map_append]; cases h : c == 43 <;> simp [h]
    have n : newL (xs.take (i + 1)) = newL (xs.take i) ++ if c == 45 then [] else [r] := by
      rw [ht]; unfold newL; rw [List.filter_append, List.map_append]; cases h : c == 45 <;> simp [h]
    have ha1 : (oldL (xs.take i)).length + 1 ≤ appendMax := by simp [appendMax]; omega
    have ha2 : (newL (xs.take i)).length + 1 ≤ appendMax := by simp [appendMax]; omega
    cases h1 : c == 43 <;> cases h2 : c == 45
    all_goals
      simp [hsz, h4, h5, h8, h9, h10, hlt, hcr, h1, h2, ha1, ha2, hwi]
      exact ih _ _ (by omega) ⟨i + 1, rfl, by omega, by simp [hsz], by simp [o, h1, h4], by simp [n, h2, h5], by simp [h8], by simp [h9], by simp⟩
  · obtain rfl : i = xs.length := by omega
    rw [List.take_length] at h4 h5
    simp [hsz, h4, h5, h9, h10]
end Go.Qz

/- What the functions come to: hunks ok, by the program and by the reference. -/
namespace Go.Qz
open Go.Proofs

theorem oldL_le (xs : Lines) : (oldL xs).length ≤ xs.length := by
  unfold oldL
  rw [List.length_map]
  exact List.length_filter_le _ _
theorem newL_le (xs : Lines) : (newL xs).length ≤ xs.length := by
  unfold newL
  rw [List.length_map]
  exact List.length_filter_le _ _
theorem hlOk_ne {x : List UInt8} (h : hlOk x = true) : x ≠ [] := by
  rintro rfl
  cases h

theorem HunksOkI_ev (hs : List Hk) (hb : ∀ h ∈ hs, h.2.length ≤ 140737488351232) : C fn_i_HunksOk [.ro (HS hs)] [] = some (.one (.ro (.bool (hunksOkI hs))), []) := by
  refine ctx_call Try.func14 conv_i_HunksOk rfl ?_
  unfold hunksOkI
  by_cases hn : hs.length ≤ 4
  · have hn' : ¬ 4 < hs.length := by omega
    simp [hn', hn]
    refine loop_run (fun m e => ∃ (i : Nat) (l : Int), m = hs.length - i ∧ i ≤ hs.length ∧ -1000 ≤ l ∧ l ≤ 2000 ∧ e.size = 54 ∧ e.get 3 = .one (.ro (I l)) ∧ e.get 11 = .one (.ro (HS hs)) ∧ e.get 12 = .one (.ro (N hs.length)) ∧ e.get 13 = .one (.ro (N i)) ∧
      goI l (hs.drop i) = goI 1 hs) ?_ hs.length _ ⟨0, 1, rfl, Nat.zero_le _, by omega, by omega, by simp, by simp, by simp, by simp, by simp, rfl⟩
    rintro m e ⟨i, l, rfl, hi, hl1, hl2, hsz, h3, h11, h12, h13, hr⟩ ih
    rcases Nat.lt_or_ge i hs.length with hlt | hge
    · have hd : hs.drop i = hs[i] :: hs.drop (i + 1) := List.drop_eq_getElem_cons hlt
      have hwi : IntKind.i64.wrap ((i : Int) + 1) = ((i + 1 : Nat) : Int) := wrap64_succ (by omega)
      have hbl := hb hs[i] (List.getElem_mem hlt)
      rw [hd, goI] at hr
      have hall := allStr_ev hs[i].2 fn_i_hunkLineOk hlOk (by decide) hbl (fun x _ => hunkLineOk_ev x)
      by_cases c1 : hs[i].1 < l
      · have n1 : ¬ l ≤ hs[i].1 := by omega
        simp only [n1, decide_false, Bool.false_and] at hr
        simp [hsz, h3, h11, h12, h13, hlt, c1, ← hr]
      have n1 : l ≤ hs[i].1 := by omega
      by_cases c2 : 999 < hs[i].1
      · have n2 : ¬ hs[i].1 ≤ 999 := by omega
        simp only [n2, decide_false, Bool.false_and, Bool.and_false] at hr
        simp [hsz, h3, h11, h12, h13, hlt, c1, c2, ← hr]
      have n2 : hs[i].1 ≤ 999 := by omega
      by_cases c3 : hs[i].2 = []
      · simp only [c3, List.length_nil] at hr
        simp [hsz, h3, h11, h12, h13, hlt, c1, c2, c3, ← hr]
      have n3 : 1 ≤ hs[i].2.length := by
        cases hq : hs[i].2 with
        | nil => exact absurd hq c3
        | cons a b => simp
      by_cases c4 : 30 < hs[i].2.length
      · have n4 : ¬ hs[i].2.length ≤ 30 := by omega
        simp only [n4, decide_false, Bool.false_and, Bool.and_false] at hr
        simp [hsz, h3, h11, h12, h13, hlt, c1, c2, c3, c4, ← hr]
      have n4 : hs[i].2.length ≤ 30 := by omega
      cases c5 : hs[i].2.all hlOk with
      | false =>
        rw [c5] at hall
        simp only [c5, Bool.false_and, Bool.and_false] at hr
        simp [hsz, h3, h11, h12, h13, hlt, c1, c2, c3, c4, hall, ← hr]
      | true =>
        rw [c5] at hall
        simp only [c5, n1, n2, n3, n4, decide_true, Bool.true_and] at hr
        have hsd := sides_ev hs[i].2 n4 (fun x hx => hlOk_ne (List.all_eq_true.1 c5 x hx))
        have hol := oldL_le hs[i].2
        have hwa : IntKind.i64.wrap (hs[i].1 + (oldL hs[i].2).length) = hs[i].1 + (oldL hs[i].2).length := wrap64 (by omega) (by omega)
        simp [hsz, h3, h11, h12, h13, hlt, c1, c2, c3, c4, hall, hsd, hwi, hwa]
        exact ih _ _ (by omega) ⟨i + 1, _, rfl, by omega, by omega, by omega, by simp [hsz], by simp, by simp [h11], by simp [h12], by simp, hr⟩
    · obtain rfl : i = hs.length := by omega
      rw [List.drop_length, goI] at hr
      simp [hsz, h12, h13, ← hr]
  · have hn' : 4 < hs.length := by omega
    simp [hn, hn']

theorem l5Old_ev (h : Hk) (hl : h.2.length ≤ 30) (hne : ∀ x ∈ h.2, x ≠ []) : C fn_s_l5Old [.ro (HD h)] [] = some (.one (.own (SS (oldL h.2))), []) := by
  refine ctx_call Try.func39 conv_s_l5Old rfl ?_
  simp
  refine loop_run (fun m e => ∃ i, m = h.2.length - i ∧ i ≤ h.2.length ∧ e.size = 30 ∧ e.get 1 = .one (.ptr 1 0) ∧ e.box 1 = some [.ro (I h.1), .ro (SS h.2)] ∧ e.get 3 = .one (.own (SS (oldL (h.2.take i)))) ∧ e.get 4 = .one (.ro (N i)))
    ?_ h.2.length _ ⟨0, rfl, Nat.zero_le _, by simp, by simp, by simp, by simp [oldL], by simp⟩
  rintro m e ⟨i, rfl, hi, hsz, h1, hb, h3, h4⟩ ih
  rcases Nat.lt_or_ge i h.2.length with hlt | hge
  · have hwi : IntKind.i64.wrap ((i : Int) + 1) = ((i + 1 : Nat) : Int) := wrap64_succ (by omega)
    have hl1 : (oldL (h.2.take i)).length ≤ 30 := Nat.le_trans (oldL_le _) (by simp; omega)
    obtain ⟨c, r, hcr⟩ : ∃ c r, h.2[i] = c :: r := by
      cases hq : h.2[i] with
      | nil => exact absurd hq (hne _ (List.getElem_mem hlt))
      | cons c r => exact ⟨c, r, rfl⟩
    have ht : h.2.take (i + 1) = h.2.take i ++ [c :: r] := by rw [List.take_succ_eq_append_getElem hlt, hcr]
    have o : oldL (h.2.take (i + 1)) = oldL (h.2.take i) ++ if c == 43 then [] else [r] := by
      rw [ht]; unfold oldL; rw [List.filter_append, List.map_append]; cases h : c == 43 <;> simp [h]
    have ha1 : (oldL (h.2.take i)).length + 1 ≤ appendMax := by simp [appendMax]; omega
    cases h1' : c == 43
    all_goals
      simp [hsz, h1, hb, h3, h4, hlt, hcr, h1', ha1, hwi]
      exact ih _ _ (by omega) ⟨i + 1, rfl, by omega, by simp [hsz], by simp [h1], by simp [hb], by simp [o, h1', h3], by simp⟩
  · obtain rfl : i = h.2.length := by omega
    rw [List.take_length] at h3
    simp [hsz, h1, hb, h3, h4]
end Go.Qz

/- What the functions come to: hunks of the reference; copies; comparisons. -/
namespace Go.Qz
open Go.Proofs

def hlS : List UInt8 → Bool
  | [] => false
  | c :: r => signB c && seenT r
theorem hlS_eq (l : List UInt8) : hlS l = hlOk l := by
  cases l with
  | nil => rfl
  | cons c r => simp only [hlS, hlOk, seen_plain]
def hunkS (h : Hk) : Bool := h.2.all hlS && (inI h.2.length 1 30 && inI h.1 1 999)

theorem l5Hunk_ev (h : Hk) (hl : h.2.length ≤ 140737488351232) (hx : ∀ x ∈ h.2, x.length ≤ 140737488351232) : C fn_s_l5Hunk [.ro (HD h)] [] = some (.one (.ro (.bool (hunkS h))), []) := by
  refine ctx_call Try.func28 conv_s_l5Hunk rfl ?_
  unfold hunkS
  simp
  refine loop_run (fun m e => ∃ i, m = h.2.length - i ∧ i ≤ h.2.length ∧ e.size = 49 ∧ e.get 1 = .one (.ptr 1 0) ∧ e.box 1 = some [.ro (I h.1), .ro (SS h.2)] ∧ e.get 3 = .one (.ro (N i)) ∧
    (h.2.drop i).all hlS = h.2.all hlS) ?_ h.2.length _ ⟨0, rfl, Nat.zero_le _, by simp, by simp, by simp, by simp, rfl⟩
  rintro m e ⟨i, rfl, hi, hsz, h1, hb, h3, hr⟩ ih
  rcases Nat.lt_or_ge i h.2.length with hlt | hge
  · have hwi : IntKind.i64.wrap ((i : Int) + 1) = ((i + 1 : Nat) : Int) := wrap64_succ (by omega)
    have hd : h.2.drop i = h.2[i] :: h.2.drop (i + 1) := List.drop_eq_getElem_cons hlt
    have hxl := hx h.2[i] (List.getElem_mem hlt)
    rw [hd, List.all_cons] at hr
    cases hq : h.2[i] with
    | nil =>
      rw [hq] at hr
      simp only [hlS, Bool.false_and] at hr
      simp [hsz, h1, hb, h3, hlt, hq, ← hr]
    | cons c r =>
      rw [hq] at hr hxl
      have hse := l5Seen_ev r (by simp at hxl; omega)
      have step : Run cx q_s_l5Hunk_l0 e (Fr.loop q_s_l5Hunk_l0 :: [Fr.blk 0, Fr.seq q_s_l5Hunk_c2, Fr.fn [(ResultVar.tmp 2, 4)] []]) = some (.one (.ro (.bool (h.2.all hlS && (inI h.2.length 1 30 && inI h.1 1 999)))), []) := by
        cases c1 : c == 32 <;> cases c2 : c == 45 <;> cases c3 : c == 43 <;> cases c4 : seenT r
        all_goals
          rw [c4] at hse
          simp only [hlS, signB, c1, c2, c3, c4, Bool.or_true, Bool.or_self, Bool.false_and, Bool.true_and, Bool.and_true, Bool.and_false, Bool.or_false] at hr
          first
          | (simp [hsz, h1, hb, h3, hlt, hq, c1, c2, c3, hse, ← hr]; done)
          | (simp [hsz, h1, hb, h3, hlt, hq, c1, c2, c3, hse, hwi]
             exact ih _ _ (by omega) ⟨i + 1, rfl, by omega, by simp [hsz], by simp [h1], by simp [hb], by simp, hr⟩)
      exact step
  · obtain rfl : i = h.2.length := by omega
    rw [List.drop_length, List.all_nil] at hr
    cases c1 : inI h.2.length 1 30
    · simp [hsz, h1, hb, h3, l1In_ev, c1, ← hr]
    · simp [hsz, h1, hb, h3, l1In_ev, c1, ← hr]

def goS : Option Hk → List Hk → Bool
  | _, [] => true
  | none, h :: r => hunkS h && goS (some h) r
  | some p, h :: r => (hunkS h && decide (p.1 + (oldL p.2).length ≤ h.1)) && goS (some h) r
def hunksOkS (hs : List Hk) : Bool := goS none hs && decide (hs.length ≤ 4)
end Go.Qz

/- What the functions come to: hunks ok of the reference. -/
namespace Go.Qz
open Go.Proofs

theorem hunkS_parts {h : Hk} (hh : hunkS h = true) : (∀ x ∈ h.2, x ≠ []) ∧ 1 ≤ h.2.length ∧ h.2.length ≤ 30 ∧ 1 ≤ h.1 ∧ h.1 ≤ 999 := by
  simp only [hunkS, inI, Bool.and_eq_true, decide_eq_true_eq] at hh
  obtain ⟨h1, ⟨h2, h3⟩, h4, h5⟩ := hh
  refine ⟨fun x hx => ?_, by omega, by omega, h4, h5⟩
  have := List.all_eq_true.1 h1 x hx
  rintro rfl
  cases this

theorem HunksOkS_ev (hs : List Hk) (hn : hs.length ≤ 140737488351232) (hl : ∀ h ∈ hs, h.2.length ≤ 140737488351232) (hx : ∀ h ∈ hs, ∀ x ∈ h.2, x.length ≤ 140737488351232) :
    C fn_s_HunksOk [.ro (HS hs)] [] = some (.one (.ro (.bool (hunksOkS hs))), []) := by
  refine ctx_call Try.func35 conv_s_HunksOk rfl ?_
  unfold hunksOkS
  simp
  refine loop_run (fun m e => ∃ i, m = hs.length - i ∧ i ≤ hs.length ∧ e.size = 45 ∧ e.get 0 = .one (.ro (HS hs)) ∧ e.get 3 = .one (.ro (N i)) ∧
    ((i = 0 ∧ goS none hs = goS none hs) ∨ ∃ k p, i = k + 1 ∧ hs[k]? = some p ∧ hunkS p = true ∧ goS (some p) (hs.drop i) = goS none hs)) ?_ hs.length _ ⟨0, rfl, Nat.zero_le _, by simp, by simp, by simp, .inl ⟨rfl, rfl⟩⟩
  rintro m e ⟨i, rfl, hi, hsz, h0, h3, hr⟩ ih
  rcases Nat.lt_or_ge i hs.length with hlt | hge
  · have hwi : IntKind.i64.wrap ((i : Int) + 1) = ((i + 1 : Nat) : Int) := wrap64_succ (by omega)
    have hd : hs.drop i = hs[i] :: hs.drop (i + 1) := List.drop_eq_getElem_cons hlt
    have hev := l5Hunk_ev hs[i] (hl _ (List.getElem_mem hlt)) (hx _ (List.getElem_mem hlt))
    rcases hr with ⟨rfl, hr⟩ | ⟨k, p, hik, hp, hps, hr⟩
    · have hd0 : hs = hs[0] :: hs.drop 1 := by simpa using hd
      cases c1 : hunkS hs[0] with
      | false =>
        have hr' : goS none hs = false := by rw [hd0, goS, c1]; rfl
        rw [c1] at hev
        simp [hsz, h0, h3, hlt, hev, hr']
      | true =>
        have hr' : goS (some hs[0]) (hs.drop 1) = goS none hs := by
          have : goS none hs = goS none (hs[0] :: hs.drop 1) := by rw [← hd0]
          rw [this, goS, c1, Bool.true_and]
        rw [c1] at hev
        simp [hsz, h0, h3, hlt, hev]
        exact ih _ _ (by omega) ⟨1, rfl, by omega, by simp [hsz], by simp [h0], by simp, .inr ⟨0, hs[0], rfl, by simp, c1, hr'⟩⟩
    · have hk : k < hs.length := by omega
      have hpk : hs[k] = p := Option.some.inj ((List.getElem?_eq_getElem hk).symm.trans hp)
      obtain ⟨q1, q2, q3, q4, q5⟩ := hunkS_parts hps
      have hold := l5Old_ev p q3 q1
      have holl := oldL_le p.2
      have hwk : IntKind.i64.wrap ((i : Int) - 1) = k := by rw [wrap64 (by omega) (by omega)]; omega
      have hwa : IntKind.i64.wrap (p.1 + (oldL p.2).length) = p.1 + (oldL p.2).length := wrap64 (by omega) (by omega)
      have hi0 : 0 < i := by omega
      rw [hd, goS] at hr
      cases c1 : hunkS hs[i] with
      | false =>
        rw [c1] at hev hr
        simp only [Bool.false_and] at hr
        simp [hsz, h0, h3, hlt, hev, ← hr]
      | true =>
        rw [c1] at hev hr
        simp only [Bool.true_and] at hr
        by_cases c2 : p.1 + (oldL p.2).length ≤ hs[i].1
        · have n2 : ¬ hs[i].1 < p.1 + (oldL p.2).length := by omega
          simp only [c2, decide_true, Bool.true_and] at hr
          simp [hsz, h0, h3, hlt, hev, hwi, hwk, hk, hpk, hold, hwa, n2, hi0]
          exact ih _ _ (by omega) ⟨i + 1, rfl, by omega, by simp [hsz], by simp [h0], by simp, .inr ⟨i, hs[i], rfl, by simp [hlt], c1, hr⟩⟩
        · have n2 : hs[i].1 < p.1 + (oldL p.2).length := by omega
          simp only [c2, decide_false, Bool.false_and] at hr
          simp [hsz, h0, h3, hlt, hev, hwk, hk, hpk, hold, hwa, n2, hi0, ← hr]
  · obtain rfl : i = hs.length := by omega
    have hr' : goS none hs = true := by
      rcases hr with ⟨h, _⟩ | ⟨k, p, h, hp, hps, hr⟩
      · rw [List.eq_nil_of_length_eq_zero h]; rfl
      · rw [← hr, List.drop_length]; rfl
    simp [hsz, h0, h3, hr']
end Go.Qz

/- What the functions come to: copies and comparisons. -/
namespace Go.Qz
open Go.Proofs

theorem eq_of_firsts {α : Type} {ys xs : List α} (h : ys.length = xs.length) (h' : ∀ j, j < xs.length → ys[j]? = xs[j]?) : ys = xs := by
  apply List.ext_getElem? 
  intro j
  rcases Nat.lt_or_ge j xs.length with hj | hj
  · exact h' j hj
  · rw [List.getElem?_eq_none hj, List.getElem?_eq_none (by omega)]

end Go.Qz

/- What the functions come to: comparisons of the same; sizes of hunks; the law. -/
namespace Go.Qz
open Go.Proofs

/-! ### Sizes of hunks -/

theorem szL_le (xs : Lines) : ∀ l : Int, 0 ≤ l → szL xs l ≤ l ∧ -1 ≤ szL xs l := by
  induction xs with
  | nil => intro l hl; exact ⟨Int.le_refl _, by simp [szL]; omega⟩
  | cons x r ih =>
    intro l hl
    rw [szL]
    split
    · omega
    · have := ih (l - x.length) (by omega)
      omega
theorem szL_all (xs : Lines) : ∀ l : Int, 0 ≤ szL xs l → ∀ x ∈ xs, (x.length : Int) ≤ l := by
  induction xs with
  | nil => intro l _ x hx; cases hx
  | cons x r ih =>
    intro l hl y hy
    rw [szL] at hl
    split at hl
    · omega
    · rcases List.mem_cons.1 hy with rfl | hy
      · omega
      · have := ih _ hl y hy
        omega
theorem szSS_le (xs : Lines) (l : Int) (hl : 0 ≤ l) : szSS xs l ≤ l ∧ -1 ≤ szSS xs l := by
  unfold szSS
  split
  · omega
  · have := szL_le xs (l - xs.length) (by omega)
    omega
theorem szSS_all (xs : Lines) (l : Int) (h : 0 ≤ szSS xs l) : (xs.length : Int) ≤ l ∧ ∀ x ∈ xs, (x.length : Int) ≤ l := by
  unfold szSS at h
  split at h
  · omega
  · refine ⟨by omega, fun x hx => ?_⟩
    have := szL_all xs _ h x hx
    omega

def szHk (h : Hk) (l : Int) : Int := szSS h.2 l
def szHL : List Hk → Int → Int
  | [], l => l
  | h :: r, l => if szHk h l < 0 then -1 else szHL r (szHk h l)
def szHS (hs : List Hk) (l : Int) : Int := if l - hs.length < 0 then -1 else szHL hs (l - hs.length)

theorem szHL_all (hs : List Hk) : ∀ l : Int, 0 ≤ szHL hs l → ∀ h ∈ hs, (h.2.length : Int) ≤ l ∧ ∀ x ∈ h.2, (x.length : Int) ≤ l := by
  induction hs with
  | nil => intro l _ x hx; cases hx
  | cons h r ih =>
    intro l hl y hy
    rw [szHL] at hl
    split at hl
    · omega
    · rename_i hc
      have h0 : 0 ≤ szHk h l := by omega
      have ha := szSS_all h.2 l h0
      have hl0 : 0 ≤ l := by omega
      have hle := (szSS_le h.2 l hl0).1
      rcases List.mem_cons.1 hy with rfl | hy
      · exact ha
      · have := ih _ hl y hy
        unfold szHk at this
        exact ⟨by omega, fun x hx => by have := this.2 x hx; omega⟩
theorem szHS_all (hs : List Hk) (l : Int) (h : 0 ≤ szHS hs l) : (hs.length : Int) ≤ l ∧ ∀ h ∈ hs, (h.2.length : Int) ≤ l ∧ ∀ x ∈ h.2, (x.length : Int) ≤ l := by
  unfold szHS at h
  split at h
  · omega
  · refine ⟨by omega, fun y hy => ?_⟩
    have := szHL_all hs _ h y hy
    exact ⟨by omega, fun x hx => by have := this.2 x hx; omega⟩
end Go.Qz

/- The law of HunksOk, by the evaluator. -/
namespace Go.Qz
open Go.Proofs

theorem goI_goS : ∀ (hs : List Hk) (p : Hk), 1 ≤ p.1 → goI (p.1 + (oldL p.2).length) hs = goS (some p) hs := by
  intro hs
  induction hs with
  | nil => intro p _; rfl
  | cons h r ih =>
    intro p hp
    have hall : h.2.all hlS = h.2.all hlOk := by congr 1; funext x; exact hlS_eq x
    rw [goI, goS, Bool.eq_iff_iff]
    simp only [hunkS, inI, hall, Bool.and_eq_true, decide_eq_true_eq]
    constructor
    · rintro ⟨⟨⟨⟨⟨h1, h2⟩, h3⟩, h4⟩, h5⟩, h6⟩
      rw [ih h (by omega)] at h6
      exact ⟨⟨⟨h5, ⟨by omega, by omega⟩, by omega, h2⟩, h1⟩, h6⟩
    · rintro ⟨⟨⟨h5, ⟨h3, h4⟩, h7, h2⟩, h1⟩, h6⟩
      rw [← ih h (by omega)] at h6
      exact ⟨⟨⟨⟨⟨h1, h2⟩, by omega⟩, by omega⟩, h5⟩, h6⟩
theorem hunksOk_eq (hs : List Hk) : hunksOkI hs = hunksOkS hs := by
  unfold hunksOkI hunksOkS
  rw [Bool.and_comm]
  congr 1
  cases hs with
  | nil => rfl
  | cons h r =>
    have hall : h.2.all hlS = h.2.all hlOk := by congr 1; funext x; exact hlS_eq x
    rw [goI, goS, Bool.eq_iff_iff]
    simp only [hunkS, inI, hall, Bool.and_eq_true, decide_eq_true_eq]
    constructor
    · rintro ⟨⟨⟨⟨⟨h1, h2⟩, h3⟩, h4⟩, h5⟩, h6⟩
      rw [goI_goS r h (by omega)] at h6
      exact ⟨⟨h5, ⟨by omega, by omega⟩, by omega, h2⟩, h6⟩
    · rintro ⟨⟨h5, ⟨h3, h4⟩, h7, h2⟩, h6⟩
      rw [← goI_goS r h (by omega)] at h6
      exact ⟨⟨⟨⟨⟨by omega, h2⟩, by omega⟩, by omega⟩, h5⟩, h6⟩

end Go.Qz

/- What the functions come to: lines, and whether they are the same. -/
namespace Go.Qz
open Go.Proofs

def linesI (xs : Lines) : Bool := decide (xs.length ≤ 30) && xs.all plainT
def linesS (xs : Lines) : Bool := xs.all seenT && decide (xs.length ≤ 30)
theorem lines_eq (xs : Lines) : linesS xs = linesI xs := by
  unfold linesS linesI
  rw [Bool.and_comm]
  congr 2
  funext x
  exact seen_plain x

theorem linesOk_ev (xs : Lines) (hn : xs.length ≤ 140737488351232) : C fn_i_linesOk [.ro (SS xs)] [] = some (.one (.ro (.bool (linesI xs))), []) := by
  refine ctx_call Try.func23 conv_i_linesOk rfl ?_
  have hall := allStr_ev xs fn_i_plainText plainT (by decide) hn (fun x _ => plainText_ev x)
  unfold linesI
  by_cases h : xs.length ≤ 30 <;> simp [h, hall]

theorem l5Lines_ev (xs : Lines) (hn : xs.length ≤ 140737488351232) (hx : ∀ x ∈ xs, x.length ≤ 140737488351232) : C fn_s_l5Lines [.ro (SS xs)] [] = some (.one (.ro (.bool (linesS xs))), []) := by
  refine ctx_call Try.func26 conv_s_l5Lines rfl ?_
  unfold linesS
  simp
  refine loop_run (fun m e => ∃ i, m = xs.length - i ∧ i ≤ xs.length ∧ e.size = 19 ∧ e.get 0 = .one (.ro (SS xs)) ∧ e.get 3 = .one (.ro (N i)) ∧
    (xs.drop i).all seenT = xs.all seenT) ?_ xs.length _ ⟨0, rfl, Nat.zero_le _, by simp, by simp, by simp, rfl⟩
  rintro m e ⟨i, rfl, hi, hsz, h0, h3, hr⟩ ih
  rcases Nat.lt_or_ge i xs.length with hlt | hge
  · have hd : xs.drop i = xs[i] :: xs.drop (i + 1) := List.drop_eq_getElem_cons hlt
    have hwi : IntKind.i64.wrap ((i : Int) + 1) = ((i + 1 : Nat) : Int) := wrap64_succ (by omega)
    have hev := l5Seen_ev xs[i] (hx _ (List.getElem_mem hlt))
    rw [hd, List.all_cons] at hr
    cases hp : seenT xs[i] with
    | false =>
      rw [hp] at hr hev
      simp [hev, hsz, h0, h3, hlt, ← hr]
    | true =>
      rw [hp] at hr hev
      rw [Bool.true_and] at hr
      simp [hev, hsz, h0, h3, hlt, hwi]
      exact ih _ _ (by omega) ⟨i + 1, rfl, by omega, by simp [hsz], by simp [h0], by simp, hr⟩
  · obtain rfl : i = xs.length := by omega
    rw [List.drop_length, List.all_nil] at hr
    simp [hsz, h0, h3, ← hr]

/-- Whether the rest from i on is the same. -/
def sameFrom (xs ys : Lines) : Bool := xs == ys

theorem equal_ev (xs ys : Lines) (hn : xs.length ≤ 140737488351232) : C fn_slices_Equal_L_string_string [.ro (SS xs), .ro (SS ys)] [] = some (.one (.ro (.bool (xs == ys))), []) := by
  refine ctx_call Try.func24 conv_slices_Equal_L_string_string rfl ?_
  by_cases hl : xs.length = ys.length
  · simp [hl]
    refine loop_run (fun m e => ∃ i, m = xs.length - i ∧ i ≤ xs.length ∧ e.size = 26 ∧ e.get 0 = .one (.ro (SS xs)) ∧ e.get 1 = .one (.ro (SS ys)) ∧ e.get 12 = .one (.ro (N xs.length)) ∧ e.get 13 = .one (.ro (N i)) ∧
      (xs.drop i == ys.drop i) = (xs == ys)) ?_ xs.length _ ⟨0, rfl, Nat.zero_le _, by simp, by simp, by simp, by simp [hl], by simp, rfl⟩
    rintro m e ⟨i, rfl, hi, hsz, h0, h1, h12, h13, hr⟩ ih
    rcases Nat.lt_or_ge i xs.length with hlt | hge
    · have hlt' : i < ys.length := by omega
      have hd : xs.drop i = xs[i] :: xs.drop (i + 1) := List.drop_eq_getElem_cons hlt
      have hd' : ys.drop i = ys[i] :: ys.drop (i + 1) := List.drop_eq_getElem_cons hlt'
      have hwi : IntKind.i64.wrap ((i : Int) + 1) = ((i + 1 : Nat) : Int) := wrap64_succ (by omega)
      have hc : (xs.drop i == ys.drop i) = ((xs[i] == ys[i]) && (xs.drop (i + 1) == ys.drop (i + 1))) := by rw [hd, hd']; rfl
      rw [hc] at hr
      cases hp : xs[i] == ys[i] with
      | false =>
        rw [hp, Bool.false_and] at hr
        simp [hsz, h0, h1, h12, h13, hlt, hlt', hp, ← hr]
      | true =>
        rw [hp, Bool.true_and] at hr
        simp [hsz, h0, h1, h12, h13, hlt, hlt', hp, hwi]
        exact ih _ _ (by omega) ⟨i + 1, rfl, by omega, by simp [hsz], by simp [h0], by simp [h1], by simp [h12], by simp, hr⟩
    · obtain rfl : i = xs.length := by omega
      have : (xs == ys) = true := by rw [← hr, List.drop_length, hl, List.drop_length]; rfl
      simp [hsz, h12, h13, this]
  · have hne : (xs == ys) = false := by
      cases h : xs == ys with
      | false => rfl
      | true => exact absurd (congrArg List.length (eq_of_beq h)) hl
    have hb : (xs.length == ys.length) = false := by simp [hl]
    simp [hb, hne]

def signL (s : List UInt8) (xs : Lines) : Lines := xs.map (s ++ ·)
theorem signed_ev (s : List UInt8) (xs : Lines) (hs : s.length ≤ 10) (hn : xs.length ≤ 1048576) (hx : ∀ x ∈ xs, x.length ≤ 1048576) : C fn_i_signed [.ro (T s), .ro (SS xs)] [] = some (.one (.own (SS (signL s xs))), []) := by
  refine ctx_call Try.func25 conv_i_signed rfl ?_
  simp
  refine loop_run (fun m e => ∃ i, m = xs.length - i ∧ i ≤ xs.length ∧ e.size = 22 ∧ e.get 0 = .one (.ro (T s)) ∧ e.get 5 = .one (.own (SS (signL s (xs.take i)))) ∧ e.get 8 = .one (.ro (SS xs)) ∧ e.get 9 = .one (.ro (N xs.length)) ∧ e.get 10 = .one (.ro (N i)))
    ?_ xs.length _ ⟨0, rfl, Nat.zero_le _, by simp, by simp, by simp [signL], by simp, by simp, by simp⟩
  rintro m e ⟨i, rfl, hi, hsz, h0, h5, h8, h9, h10⟩ ih
  rcases Nat.lt_or_ge i xs.length with hlt | hge
  · have hwi : IntKind.i64.wrap ((i : Int) + 1) = ((i + 1 : Nat) : Int) := wrap64_succ (by omega)
    have hxl := hx _ (List.getElem_mem hlt)
    have hl1 : (signL s (xs.take i)).length = i := by simp [signL]; omega
    have ha1 : (signL s (xs.take i)).length + 1 ≤ appendMax := by simp [appendMax]; omega
    have hms : s.length + xs[i].length ≤ maxStr := by simp [maxStr]; omega
    have o : signL s (xs.take (i + 1)) = signL s (xs.take i) ++ [s ++ xs[i]] := by
      unfold signL; rw [List.take_succ_eq_append_getElem hlt, List.map_append]; rfl
    simp [hsz, h0, h5, h8, h9, h10, hlt, hwi, ha1, hms]
    exact ih _ _ (by omega) ⟨i + 1, rfl, by omega, by simp [hsz], by simp [h0], by simp [o], by simp [h8], by simp [h9], by simp⟩
  · obtain rfl : i = xs.length := by omega
    rw [List.take_length] at h5
    simp [hsz, h5, h9, h10]
end Go.Qz

/- What the functions come to: DiffOf of the program. -/
namespace Go.Qz
open Go.Proofs

/-- How much both begin with, from p on, at most so much. -/
def headFrom (a b : Lines) : Nat → Nat → Nat
  | 0, p => p
  | f + 1, p => match a[p]?, b[p]? with
    | some x, some y => if x == y then headFrom a b f (p + 1) else p
    | _, _ => p
/-- The same at the ends: s so far, at most m. -/
def tailFrom (a b : Lines) (m : Nat) : Nat → Nat → Nat
  | 0, s => s
  | f + 1, s => if s < m then match a[a.length - 1 - s]?, b[b.length - 1 - s]? with
      | some x, some y => if x == y then tailFrom a b m f (s + 1) else s
      | _, _ => s
    else s
def headL (a b : Lines) : Nat := headFrom a b (min a.length b.length) 0
def tailL (a b : Lines) : Nat := tailFrom a b (min a.length b.length - headL a b) (min a.length b.length) 0
def diffHunk (a b : Lines) : Hk :=
  let p := headL a b
  let s := tailL a b
  let f := p - 2
  let e := a.length - s
  ((f : Int) + 1, signL [32] ((a.take p).drop f) ++ signL [45] ((a.take e).drop p) ++ signL [43] ((b.take (b.length - s)).drop p) ++ signL [32] ((a.take (min (e + 2) a.length)).drop e))
def diffI (a b : Lines) : List Hk := if !linesI a || !linesI b || a == b then [] else if hunksOkI [diffHunk a b] then [diffHunk a b] else []

theorem headFrom_le (a b : Lines) : ∀ f p, p + f ≤ min a.length b.length → p ≤ headFrom a b f p ∧ headFrom a b f p ≤ p + f := by
  intro f
  induction f with
  | zero => intro p _; exact ⟨Nat.le_refl _, Nat.le_refl _⟩
  | succ f ih =>
    intro p hp
    rw [headFrom]
    split
    · split
      · have := ih (p + 1) (by omega)
        omega
      · omega
    · omega
theorem tailFrom_le (a b : Lines) (m : Nat) : ∀ f s, s ≤ m → s ≤ tailFrom a b m f s ∧ tailFrom a b m f s ≤ m := by
  intro f
  induction f with
  | zero => intro s hs; exact ⟨Nat.le_refl _, hs⟩
  | succ f ih =>
    intro s hs
    rw [tailFrom]
    split
    · split
      · split
        · have := ih (s + 1) (by omega)
          omega
        · omega
      · omega
    · omega

set_option maxHeartbeats 2000000 in
theorem diffOf_ev (a b : Lines) (ha : a.length ≤ 1048576) (hb : b.length ≤ 1048576) (hxa : ∀ x ∈ a, x.length ≤ 1048576) (hxb : ∀ x ∈ b, x.length ≤ 1048576) :
    C fn_i_DiffOf [.ro (SS a), .ro (SS b)] [] = some (.one (.own (HS (diffI a b))), []) := by
  refine ctx_call Try.func10 conv_i_DiffOf rfl ?_
  have hla := linesOk_ev a (by omega)
  have hlb := linesOk_ev b (by omega)
  have heq := equal_ev a b (by omega)
  unfold diffI
  cases c1 : linesI a with
  | false => rw [c1] at hla; simp [hla]
  | true =>
  cases c2 : linesI b with
  | false => rw [c1] at hla; rw [c2] at hlb; simp [hla, hlb]
  | true =>
  cases c3 : a == b with
  | true => rw [c1] at hla; rw [c2] at hlb; rw [c3] at heq; simp [hla, hlb, heq]
  | false =>
  rw [c1] at hla; rw [c2] at hlb; rw [c3] at heq
  have hmin : (if a.length ≤ b.length then (a.length : Int) else (b.length : Int)) = ((min a.length b.length : Nat) : Int) := by split <;> omega
  have hma : min a.length b.length ≤ a.length := Nat.min_le_left _ _
  have hmb : min a.length b.length ≤ b.length := Nat.min_le_right _ _
  -- behind both loops
  have rest2 : ∀ e : Env, e.size = 121 → e.get 0 = .one (.ro (SS a)) → e.get 1 = .one (.ro (SS b)) → e.get 6 = .one (.ro (N (headL a b))) → e.get 7 = .one (.ro (N (tailL a b))) →
      Run cx q_i_DiffOf_c3 e [.fn [(.tmp 4, 26)] []] = some (.one (.own (HS (if hunksOkI [diffHunk a b] then [diffHunk a b] else []))), []) := by
    intro e hsz h0 h1 h6 h7
    have hhl := headFrom_le a b (min a.length b.length) 0 (by omega)
    have hP : headL a b ≤ min a.length b.length := by unfold headL; omega
    have htl := tailFrom_le a b (min a.length b.length - headL a b) (min a.length b.length) 0 (by omega)
    have hS : tailL a b ≤ min a.length b.length - headL a b := by unfold tailL; omega
    generalize hgm : min a.length b.length = m at *
    have hdh : diffHunk a b = (((headL a b - 2 : Nat) : Int) + 1, signL [32] ((a.take (headL a b)).drop (headL a b - 2)) ++ signL [45] ((a.take (a.length - tailL a b)).drop (headL a b)) ++ signL [43] ((b.take (b.length - tailL a b)).drop (headL a b)) ++ signL [32] ((a.take (min (a.length - tailL a b + 2) a.length)).drop (a.length - tailL a b))) := rfl
    have hok := HunksOkI_ev [diffHunk a b] (fun h hh => by
      simp only [List.mem_singleton] at hh
      subst hh
      rw [hdh]
      simp [signL]
      omega)
    generalize headL a b = p at *
    generalize tailL a b = s at *
    have hw2 : IntKind.i64.wrap ((p : Int) - 2) = (p : Int) - 2 := wrap64 (by omega) (by omega)
    have hmax : (if (p : Int) - 2 ≤ 0 then (0 : Int) else (p : Int) - 2) = ((p - 2 : Nat) : Int) := by split <;> omega
    have hwe : IntKind.i64.wrap ((a.length : Int) - (s : Nat)) = ((a.length - s : Nat) : Int) := by rw [wrap64 (by omega) (by omega)]; omega
    have hwb : IntKind.i64.wrap ((b.length : Int) - (s : Nat)) = ((b.length - s : Nat) : Int) := by rw [wrap64 (by omega) (by omega)]; omega
    generalize hge : a.length - s = q at *
    generalize hgb : b.length - s = q' at *
    generalize hgf : p - 2 = f at *
    have hwq : IntKind.i64.wrap ((q : Int) + 2) = ((q + 2 : Nat) : Int) := by rw [wrap64 (by omega) (by omega)]; omega
    have hwf : IntKind.i64.wrap ((f : Int) + 1) = (f : Int) + 1 := wrap64 (by omega) (by omega)
    have hmin2 : (if (q : Int) + 2 ≤ (a.length : Int) then (q : Int) + 2 else (a.length : Int)) = ((min (q + 2) a.length : Nat) : Int) := by split <;> omega
    generalize hgq : min (q + 2) a.length = q2 at *
    have hs1 := signed_ev [32] ((a.take p).drop f) (by simp) (by simp; omega) (fun x hx => hxa x (List.mem_of_mem_take (List.mem_of_mem_drop hx)))
    have hs2 := signed_ev [45] ((a.take q).drop p) (by simp) (by simp; omega) (fun x hx => hxa x (List.mem_of_mem_take (List.mem_of_mem_drop hx)))
    have hs3 := signed_ev [43] ((b.take q').drop p) (by simp) (by simp; omega) (fun x hx => hxb x (List.mem_of_mem_take (List.mem_of_mem_drop hx)))
    have hs4 := signed_ev [32] ((a.take q2).drop q) (by simp) (by simp; omega) (fun x hx => hxa x (List.mem_of_mem_take (List.mem_of_mem_drop hx)))
    have l1 : (signL [32] ((a.take p).drop f)).length ≤ 1048576 := by simp [signL]; omega
    have l2 : (signL [45] ((a.take q).drop p)).length ≤ 1048576 := by simp [signL]; omega
    have l3 : (signL [43] ((b.take q').drop p)).length ≤ 1048576 := by simp [signL]; omega
    have l4 : (signL [32] ((a.take q2).drop q)).length ≤ 1048576 := by simp [signL]; omega
    generalize signL [32] ((a.take p).drop f) = x1 at *
    generalize signL [45] ((a.take q).drop p) = x2 at *
    generalize signL [43] ((b.take q').drop p) = x3 at *
    generalize signL [32] ((a.take q2).drop q) = x4 at *
    rw [hdh]
    have c1 : f ≤ p := by omega
    have c2 : p ≤ a.length := by omega
    have c3 : p ≤ q := by omega
    have c4 : q ≤ a.length := by omega
    have c5 : p ≤ q' := by omega
    have c6 : q' ≤ b.length := by omega
    have c7 : q ≤ q2 := by omega
    have c8 : q2 ≤ a.length := by omega
    have a1 : x1.length + x2.length ≤ appendMax := by simp [appendMax]; omega
    have a2 : x1.length + x2.length + x3.length ≤ appendMax := by simp [appendMax]; omega
    have a3 : x1.length + (x2.length + x3.length) + x4.length ≤ appendMax := by simp [appendMax]; omega
    cases hk : hunksOkI [((f : Int) + 1, x1 ++ x2 ++ x3 ++ x4)] with
    | false =>
      rw [hdh, hk] at hok
      simp only [HS, HD, SS, List.map_cons, List.map_nil, List.map_append, List.append_assoc] at hok
      simp [hsz, h0, h1, h6, h7, hw2, hmax, hwe, hwb, hwq, hwf, hmin2, hs1, hs2, hs3, hs4, hok, c1, c2, c3, c4, c5, c6, c7, c8, a1, a2, a3, -List.map_take, -List.map_drop, ← List.map_take, ← List.map_drop]
    | true =>
      rw [hdh, hk] at hok
      simp only [HS, HD, SS, List.map_cons, List.map_nil, List.map_append, List.append_assoc] at hok
      simp [hsz, h0, h1, h6, h7, hw2, hmax, hwe, hwb, hwq, hwf, hmin2, hs1, hs2, hs3, hs4, hok, c1, c2, c3, c4, c5, c6, c7, c8, a1, a2, a3, -List.map_take, -List.map_drop, ← List.map_take, ← List.map_drop]
  have rest1 : ∀ e : Env, e.size = 121 → e.get 0 = .one (.ro (SS a)) → e.get 1 = .one (.ro (SS b)) → e.get 5 = .one (.ro (N (min a.length b.length))) → e.get 6 = .one (.ro (N (headL a b))) →
      Run cx q_i_DiffOf_c4 e [.fn [(.tmp 4, 26)] []] = some (.one (.own (HS (if hunksOkI [diffHunk a b] then [diffHunk a b] else []))), []) := by
    intro e hsz h0 h1 h5 h6
    have hhl := headFrom_le a b (min a.length b.length) 0 (by omega)
    have hP : headL a b ≤ min a.length b.length := by unfold headL; omega
    have hw1 : IntKind.i64.wrap (((min a.length b.length : Nat) : Int) - (headL a b : Nat)) = ((min a.length b.length - headL a b : Nat) : Int) := by rw [wrap64 (by omega) (by omega)]; omega
    simp [hsz]
    refine loop_run (fun m e => ∃ s, m = min a.length b.length - headL a b - s ∧ s ≤ min a.length b.length - headL a b ∧ e.size = 121 ∧ e.get 0 = .one (.ro (SS a)) ∧ e.get 1 = .one (.ro (SS b)) ∧ e.get 5 = .one (.ro (N (min a.length b.length))) ∧ e.get 6 = .one (.ro (N (headL a b))) ∧ e.get 7 = .one (.ro (N s)) ∧
      tailFrom a b (min a.length b.length - headL a b) (min a.length b.length - s) s = tailL a b) ?_ (min a.length b.length - headL a b) _ ⟨0, rfl, Nat.zero_le _, by simp [hsz], by simp [h0], by simp [h1], by simp [h5], by simp [h6], by simp, rfl⟩
    rintro m e ⟨s, rfl, hs, hsz, h0, h1, h5, h6, h7, hr⟩ ih
    rcases Nat.lt_or_ge s (min a.length b.length - headL a b) with hlt | hge
    · obtain ⟨f, hf⟩ : ∃ f, min a.length b.length - s = f + 1 := ⟨min a.length b.length - s - 1, by omega⟩
      have hia : a.length - 1 - s < a.length := by omega
      have hib : b.length - 1 - s < b.length := by omega
      have hga : a[a.length - 1 - s]? = some a[a.length - 1 - s] := List.getElem?_eq_getElem hia
      have hgb : b[b.length - 1 - s]? = some b[b.length - 1 - s] := List.getElem?_eq_getElem hib
      have hwa1 : IntKind.i64.wrap ((a.length : Int) - 1) = ((a.length - 1 : Nat) : Int) := by rw [wrap64 (by omega) (by omega)]; omega
      have hwb1 : IntKind.i64.wrap ((b.length : Int) - 1) = ((b.length - 1 : Nat) : Int) := by rw [wrap64 (by omega) (by omega)]; omega
      have hwa : IntKind.i64.wrap (((a.length - 1 : Nat) : Int) - (s : Nat)) = ((a.length - 1 - s : Nat) : Int) := by rw [wrap64 (by omega) (by omega)]; omega
      have hwb : IntKind.i64.wrap (((b.length - 1 : Nat) : Int) - (s : Nat)) = ((b.length - 1 - s : Nat) : Int) := by rw [wrap64 (by omega) (by omega)]; omega
      have hwi : IntKind.i64.wrap ((s : Int) + 1) = ((s + 1 : Nat) : Int) := wrap64_succ (by omega)
      rw [hf, tailFrom, if_pos hlt, hga, hgb] at hr
      dsimp only at hr
      generalize hA : a.length - 1 = la at *
      generalize hB : b.length - 1 = lb at *
      generalize hIA : la - s = ia at *
      generalize hIB : lb - s = ib at *
      cases hp : a[ia] == b[ib] with
      | false =>
        rw [hp] at hr
        simp only [Bool.false_eq_true, if_false] at hr
        simp [hsz, h0, h1, h5, h6, h7, hw1, hlt, hwa1, hwb1, hwa, hwb, hia, hib, hp, -q_i_DiffOf_c3_run]
        exact rest2 _ (by simp [hsz]) (by simp [h0]) (by simp [h1]) (by simp [h6]) (by simp [h7, hr])
      | true =>
        rw [hp, if_pos rfl] at hr
        simp [hsz, h0, h1, h5, h6, h7, hw1, hlt, hwa1, hwb1, hwa, hwb, hia, hib, hp, hwi]
        exact ih _ _ (by omega) ⟨s + 1, rfl, by omega, by simp [hsz], by simp [h0], by simp [h1], by simp [h5], by simp [h6], by simp, by rw [← hr]; congr 1; omega⟩
    · obtain rfl : s = min a.length b.length - headL a b := by omega
      have hr' : tailL a b = min a.length b.length - headL a b := by
        rw [← hr]
        cases hf : min a.length b.length - (min a.length b.length - headL a b) with
        | zero => rfl
        | succ f => rw [tailFrom, if_neg (by omega)]
      simp [hsz, h0, h1, h5, h6, h7, hw1, -q_i_DiffOf_c3_run]
      exact rest2 _ (by simp [hsz]) (by simp [h0]) (by simp [h1]) (by simp [h6]) (by simp [h7, hr'])
  simp [hla, hlb, heq, hmin]
  refine loop_run (fun m e => ∃ i, m = min a.length b.length - i ∧ i ≤ min a.length b.length ∧ e.size = 121 ∧ e.get 0 = .one (.ro (SS a)) ∧ e.get 1 = .one (.ro (SS b)) ∧ e.get 5 = .one (.ro (N (min a.length b.length))) ∧ e.get 6 = .one (.ro (N i)) ∧
      headFrom a b (min a.length b.length - i) i = headL a b) ?_ (min a.length b.length) _ ⟨0, rfl, Nat.zero_le _, by simp, by simp, by simp, by simp, by simp, rfl⟩
  rintro m e ⟨i, rfl, hi, hsz, h0, h1, h5, h6, hr⟩ ih
  rcases Nat.lt_or_ge i (min a.length b.length) with hlt | hge
  · obtain ⟨f, hf⟩ : ∃ f, min a.length b.length - i = f + 1 := ⟨min a.length b.length - i - 1, by omega⟩
    have hia : i < a.length := by omega
    have hib : i < b.length := by omega
    have hwi : IntKind.i64.wrap ((i : Int) + 1) = ((i + 1 : Nat) : Int) := wrap64_succ (by omega)
    rw [hf, headFrom, List.getElem?_eq_getElem hia, List.getElem?_eq_getElem hib] at hr
    dsimp only at hr
    cases hp : a[i] == b[i] with
    | false =>
      rw [hp] at hr
      simp only [Bool.false_eq_true, if_false] at hr
      simp [hsz, h0, h1, h5, h6, hlt, hia, hib, hp, -q_i_DiffOf_c4_run]
      exact rest1 _ (by simp [hsz]) (by simp [h0]) (by simp [h1]) (by simp [h5]) (by simp [h6, hr])
    | true =>
      rw [hp, if_pos rfl] at hr
      simp [hsz, h0, h1, h5, h6, hlt, hia, hib, hp, hwi]
      exact ih _ _ (by omega) ⟨i + 1, rfl, by omega, by simp [hsz], by simp [h0], by simp [h1], by simp [h5], by simp, by rw [← hr]; congr 1; omega⟩
  · obtain rfl : i = min a.length b.length := by omega
    have hr' : headL a b = min a.length b.length := by
      rw [← hr, Nat.sub_self]; rfl
    simp [hsz, h0, h1, h5, h6, -q_i_DiffOf_c4_run]
    exact rest1 _ (by simp [hsz]) (by simp [h0]) (by simp [h1]) (by simp [h5]) (by simp [h6, hr'])
end Go.Qz

/- What the functions come to: DiffOf of the reference. -/
namespace Go.Qz
open Go.Proofs

theorem l5Same0_ev (xs ys : Lines) (hl : xs.length = ys.length) (hn : xs.length ≤ 140737488351232) : C fn_s_l5Same [.ro (SS xs), .ro (I 0), .ro (SS ys)] [] = some (.one (.ro (.bool (xs == ys))), []) := by
  refine ctx_call Try.func27 conv_s_l5Same rfl ?_
  have hw0 : IntKind.i64.wrap (0 + (ys.length : Int)) = ys.length := by rw [wrap64 (by omega) (by omega)]; omega
  have hw0' : IntKind.i64.wrap (ys.length : Int) = ys.length := wrap64 (by omega) (by omega)
  simp [hw0', hl]
  refine loop_run (fun m e => ∃ i, m = xs.length - i ∧ i ≤ xs.length ∧ e.size = 36 ∧ e.get 0 = .one (.ro (SS xs)) ∧ e.get 1 = .one (.ro (I 0)) ∧ e.get 2 = .one (.ro (SS ys)) ∧ e.get 7 = .one (.ro (N i)) ∧
    (xs.drop i == ys.drop i) = (xs == ys)) ?_ xs.length _ ⟨0, rfl, Nat.zero_le _, by simp, by simp, by simp, by simp, by simp, rfl⟩
  rintro m e ⟨i, rfl, hi, hsz, h0, h1, h2, h7, hr⟩ ih
  rcases Nat.lt_or_ge i xs.length with hlt | hge
  · have hlt' : i < ys.length := by omega
    have hd : xs.drop i = xs[i] :: xs.drop (i + 1) := List.drop_eq_getElem_cons hlt
    have hd' : ys.drop i = ys[i] :: ys.drop (i + 1) := List.drop_eq_getElem_cons hlt'
    have hwi : IntKind.i64.wrap ((i : Int) + 1) = ((i + 1 : Nat) : Int) := wrap64_succ (by omega)
    have hw : IntKind.i64.wrap (0 + (i : Int)) = i := by rw [wrap64 (by omega) (by omega)]; omega
    have hw' : IntKind.i64.wrap (i : Int) = i := wrap64 (by omega) (by omega)
    have hc : (xs.drop i == ys.drop i) = ((xs[i] == ys[i]) && (xs.drop (i + 1) == ys.drop (i + 1))) := by rw [hd, hd']; rfl
    rw [hc] at hr
    cases hp : xs[i] == ys[i] with
    | false =>
      rw [hp, Bool.false_and] at hr
      simp [hsz, h0, h1, h2, h7, hlt, hlt', hp, hw', ← hr]
    | true =>
      rw [hp, Bool.true_and] at hr
      simp [hsz, h0, h1, h2, h7, hlt, hlt', hp, hwi, hw']
      exact ih _ _ (by omega) ⟨i + 1, rfl, by omega, by simp [hsz], by simp [h0], by simp [h1], by simp [h2], by simp, hr⟩
  · obtain rfl : i = xs.length := by omega
    have : (xs == ys) = true := by rw [← hr, List.drop_length, hl, List.drop_length]; rfl
    simp [hsz, h2, h7, hl, this]

def diffS (a b : Lines) : List Hk := if !linesS a || !linesS b || a == b then [] else if hunkS (diffHunk a b) then [diffHunk a b] else []

theorem signL_snoc (c : UInt8) (xs : Lines) (i0 i : Nat) (h : i0 ≤ i) (hlt : i < xs.length) : signL [c] ((xs.take (i + 1)).drop i0) = signL [c] ((xs.take i).drop i0) ++ [c :: xs[i]] := by
  rw [List.take_succ_eq_append_getElem hlt, List.drop_append_of_le_length (by simp; omega)]
  unfold signL
  rw [List.map_append]
  rfl
theorem signL_len (s : List UInt8) (xs : Lines) : (signL s xs).length = xs.length := by simp [signL]

/-- What is known of the frame in the second half. -/
def DiffEnv (a b : Lines) (p s : Nat) (at_ : Int) (ys : Lines) (e : Env) : Prop :=
  e.size = 188 ∧ e.get 0 = .one (.ro (SS a)) ∧ e.get 1 = .one (.ro (SS b)) ∧ e.get 5 = .one (.ro (N p)) ∧ e.get 6 = .one (.ro (N s)) ∧ e.get 8 = .one (.ptr 8 0) ∧ e.box 8 = some [.ro (I at_), .own (SS ys)]

theorem diffS_loop2 (a b : Lines) (p s : Nat) (at_ : Int) (ys : Lines) (i0 j : Nat) (hij : i0 ≤ j) (hjp : j = p) (hj : j ≤ a.length) (ha : a.length ≤ 1048576) (_ : b.length ≤ 1048576) (hp : p ≤ a.length) (hx : ∀ x ∈ a, x.length ≤ 1048576) (hys : ys.length ≤ 4194304) {ks : List Fr} {r : Option (V × Boxes)}
    (hk : ∀ e, DiffEnv a b p s at_ (ys ++ signL [32] ((a.take j).drop i0)) e → Run cx q_s_DiffOf_c14 e ks = r) :
    ∀ e, DiffEnv a b p s at_ ys e → e.get 9 = .one (.ro (N i0)) → Run cx (.loop q_s_DiffOf_l2) e (.blk 4 :: .seq q_s_DiffOf_c14 :: ks) = r := by
  intro e ⟨hsz, h0, h1, h5, h6, h8, hbx⟩ hv
  refine loop_run (fun m e => ∃ i, m = j - i ∧ i0 ≤ i ∧ i ≤ j ∧ DiffEnv a b p s at_ (ys ++ signL [32] ((a.take i).drop i0)) e ∧ e.get 9 = .one (.ro (N i))) ?_ (j - i0) _ ⟨i0, rfl, Nat.le_refl _, hij, ⟨hsz, h0, h1, h5, h6, h8, by rw [hbx]; simp [signL]⟩, hv⟩
  rintro m e ⟨i, rfl, hi0, hij', ⟨hsz, h0, h1, h5, h6, h8, hbx⟩, hv⟩ ih
  have hll : (signL [32] ((a.take i).drop i0)).length ≤ 1048576 := by rw [signL_len]; simp; omega
  subst hjp
  rcases Nat.lt_or_ge i j with hlt | hge
  · have hlx : i < a.length := by omega
    have hxl := hx _ (List.getElem_mem hlx)
    have hwi : IntKind.i64.wrap ((i : Int) + 1) = ((i + 1 : Nat) : Int) := wrap64_succ (by omega)
    have hap : ys.length + (signL [32] ((a.take i).drop i0)).length + 1 ≤ appendMax := by simp only [appendMax]; omega
    have hms : 1 + a[i].length ≤ maxStr := by simp only [maxStr]; omega
    have o := signL_snoc 32 a i0 i hi0 hlx
    generalize hz : signL [32] ((a.take i).drop i0) = z at *
    simp [hsz, h0, h5, h8, hbx, hv, hlt, hlx, hwi, hap, hms]
    exact ih _ _ (by omega) ⟨i + 1, rfl, by omega, by omega, ⟨by simp [hsz], by simp [h0], by simp [h1], by simp [h5], by simp [h6], by simp [h8], by simp [o]⟩, by simp⟩
  · obtain rfl : i = j := by omega
    simp [hsz, h5, hv, -q_s_DiffOf_c14_run]
    exact hk _ ⟨by simp [hsz], by simp [h0], by simp [h1], by simp [h5], by simp [h6], by simp [h8], by simp [hbx]⟩

theorem diffS_loop3 (a b : Lines) (p s : Nat) (at_ : Int) (ys : Lines) (i0 j : Nat) (hij : i0 ≤ j) (hjq : a.length - s = j) (hs : s ≤ a.length) (hj : j ≤ a.length) (ha : a.length ≤ 1048576) (_ : b.length ≤ 1048576) (_ : p ≤ a.length) (hx : ∀ x ∈ a, x.length ≤ 1048576) (hys : ys.length ≤ 4194304) {ks : List Fr} {r : Option (V × Boxes)}
    (hk : ∀ e, DiffEnv a b p s at_ (ys ++ signL [45] ((a.take j).drop i0)) e → Run cx q_s_DiffOf_c13 e ks = r) :
    ∀ e, DiffEnv a b p s at_ ys e → e.get 10 = .one (.ro (N i0)) → Run cx (.loop q_s_DiffOf_l3) e (.blk 6 :: .seq q_s_DiffOf_c13 :: ks) = r := by
  intro e ⟨hsz, h0, h1, h5, h6, h8, hbx⟩ hv
  refine loop_run (fun m e => ∃ i, m = j - i ∧ i0 ≤ i ∧ i ≤ j ∧ DiffEnv a b p s at_ (ys ++ signL [45] ((a.take i).drop i0)) e ∧ e.get 10 = .one (.ro (N i))) ?_ (j - i0) _ ⟨i0, rfl, Nat.le_refl _, hij, ⟨hsz, h0, h1, h5, h6, h8, by rw [hbx]; simp [signL]⟩, hv⟩
  rintro m e ⟨i, rfl, hi0, hij', ⟨hsz, h0, h1, h5, h6, h8, hbx⟩, hv⟩ ih
  have hll : (signL [45] ((a.take i).drop i0)).length ≤ 1048576 := by rw [signL_len]; simp; omega
  have hwe : IntKind.i64.wrap ((a.length : Int) - (s : Nat)) = (j : Int) := by rw [wrap64 (by omega) (by omega)]; omega
  rcases Nat.lt_or_ge i j with hlt | hge
  · have hlx : i < a.length := by omega
    have hxl := hx _ (List.getElem_mem hlx)
    have hwi : IntKind.i64.wrap ((i : Int) + 1) = ((i + 1 : Nat) : Int) := wrap64_succ (by omega)
    have hap : ys.length + (signL [45] ((a.take i).drop i0)).length + 1 ≤ appendMax := by simp only [appendMax]; omega
    have hms : 1 + a[i].length ≤ maxStr := by simp only [maxStr]; omega
    have o := signL_snoc 45 a i0 i hi0 hlx
    generalize hz : signL [45] ((a.take i).drop i0) = z at *
    simp [hsz, h0, h6, h8, hbx, hv, hlt, hlx, hwi, hap, hms, hwe]
    exact ih _ _ (by omega) ⟨i + 1, rfl, by omega, by omega, ⟨by simp [hsz], by simp [h0], by simp [h1], by simp [h5], by simp [h6], by simp [h8], by simp [o]⟩, by simp⟩
  · obtain rfl : i = j := by omega
    simp [hsz, h0, h6, hv, hwe, -q_s_DiffOf_c13_run]
    exact hk _ ⟨by simp [hsz], by simp [h0], by simp [h1], by simp [h5], by simp [h6], by simp [h8], by simp [hbx]⟩

theorem diffS_loop4 (a b : Lines) (p s : Nat) (at_ : Int) (ys : Lines) (i0 j : Nat) (hij : i0 ≤ j) (hjq : b.length - s = j) (hs : s ≤ b.length) (hj : j ≤ b.length) (_ : a.length ≤ 1048576) (hb : b.length ≤ 1048576) (_ : p ≤ a.length) (hx : ∀ x ∈ b, x.length ≤ 1048576) (hys : ys.length ≤ 4194304) {ks : List Fr} {r : Option (V × Boxes)}
    (hk : ∀ e, DiffEnv a b p s at_ (ys ++ signL [43] ((b.take j).drop i0)) e → Run cx q_s_DiffOf_c12 e ks = r) :
    ∀ e, DiffEnv a b p s at_ ys e → e.get 11 = .one (.ro (N i0)) → Run cx (.loop q_s_DiffOf_l4) e (.blk 8 :: .seq q_s_DiffOf_c12 :: ks) = r := by
  intro e ⟨hsz, h0, h1, h5, h6, h8, hbx⟩ hv
  refine loop_run (fun m e => ∃ i, m = j - i ∧ i0 ≤ i ∧ i ≤ j ∧ DiffEnv a b p s at_ (ys ++ signL [43] ((b.take i).drop i0)) e ∧ e.get 11 = .one (.ro (N i))) ?_ (j - i0) _ ⟨i0, rfl, Nat.le_refl _, hij, ⟨hsz, h0, h1, h5, h6, h8, by rw [hbx]; simp [signL]⟩, hv⟩
  rintro m e ⟨i, rfl, hi0, hij', ⟨hsz, h0, h1, h5, h6, h8, hbx⟩, hv⟩ ih
  have hll : (signL [43] ((b.take i).drop i0)).length ≤ 1048576 := by rw [signL_len]; simp; omega
  have hwe : IntKind.i64.wrap ((b.length : Int) - (s : Nat)) = (j : Int) := by rw [wrap64 (by omega) (by omega)]; omega
  rcases Nat.lt_or_ge i j with hlt | hge
  · have hlx : i < b.length := by omega
    have hxl := hx _ (List.getElem_mem hlx)
    have hwi : IntKind.i64.wrap ((i : Int) + 1) = ((i + 1 : Nat) : Int) := wrap64_succ (by omega)
    have hap : ys.length + (signL [43] ((b.take i).drop i0)).length + 1 ≤ appendMax := by simp only [appendMax]; omega
    have hms : 1 + b[i].length ≤ maxStr := by simp only [maxStr]; omega
    have o := signL_snoc 43 b i0 i hi0 hlx
    generalize hz : signL [43] ((b.take i).drop i0) = z at *
    simp [hsz, h1, h6, h8, hbx, hv, hlt, hlx, hwi, hap, hms, hwe]
    exact ih _ _ (by omega) ⟨i + 1, rfl, by omega, by omega, ⟨by simp [hsz], by simp [h0], by simp [h1], by simp [h5], by simp [h6], by simp [h8], by simp [o]⟩, by simp⟩
  · obtain rfl : i = j := by omega
    simp [hsz, h1, h6, hv, hwe, -q_s_DiffOf_c12_run]
    exact hk _ ⟨by simp [hsz], by simp [h0], by simp [h1], by simp [h5], by simp [h6], by simp [h8], by simp [hbx]⟩

theorem diffS_loop5 (a b : Lines) (p s : Nat) (at_ : Int) (ys : Lines) (i0 j : Nat) (hij : i0 ≤ j) (q : Nat) (hq : a.length - s = q) (hs : s ≤ a.length) (hjm : min (q + 2) a.length = j) (hj : j ≤ a.length) (ha : a.length ≤ 1048576) (_ : b.length ≤ 1048576) (_ : p ≤ a.length) (hx : ∀ x ∈ a, x.length ≤ 1048576) (hys : ys.length ≤ 4194304) {ks : List Fr} {r : Option (V × Boxes)}
    (hk : ∀ e, DiffEnv a b p s at_ (ys ++ signL [32] ((a.take j).drop i0)) e → Run cx q_s_DiffOf_c11 e ks = r) :
    ∀ e, DiffEnv a b p s at_ ys e → e.get 12 = .one (.ro (N i0)) → Run cx (.loop q_s_DiffOf_l5) e (.blk 10 :: .seq q_s_DiffOf_c11 :: ks) = r := by
  intro e ⟨hsz, h0, h1, h5, h6, h8, hbx⟩ hv
  refine loop_run (fun m e => ∃ i, m = j - i ∧ i0 ≤ i ∧ i ≤ j ∧ DiffEnv a b p s at_ (ys ++ signL [32] ((a.take i).drop i0)) e ∧ e.get 12 = .one (.ro (N i))) ?_ (j - i0) _ ⟨i0, rfl, Nat.le_refl _, hij, ⟨hsz, h0, h1, h5, h6, h8, by rw [hbx]; simp [signL]⟩, hv⟩
  rintro m e ⟨i, rfl, hi0, hij', ⟨hsz, h0, h1, h5, h6, h8, hbx⟩, hv⟩ ih
  have hll : (signL [32] ((a.take i).drop i0)).length ≤ 1048576 := by rw [signL_len]; simp; omega
  have hwe : IntKind.i64.wrap ((a.length : Int) - (s : Nat)) = (q : Int) := by rw [wrap64 (by omega) (by omega)]; omega
  have hwq : IntKind.i64.wrap ((q : Int) + 2) = (q : Int) + 2 := wrap64 (by omega) (by omega)
  rcases Nat.lt_or_ge i j with hlt | hge
  · have hlx : i < a.length := by omega
    have hq2 : (i : Int) < (q : Int) + 2 := by omega
    have hxl := hx _ (List.getElem_mem hlx)
    have hwi : IntKind.i64.wrap ((i : Int) + 1) = ((i + 1 : Nat) : Int) := wrap64_succ (by omega)
    have hap : ys.length + (signL [32] ((a.take i).drop i0)).length + 1 ≤ appendMax := by simp only [appendMax]; omega
    have hms : 1 + a[i].length ≤ maxStr := by simp only [maxStr]; omega
    have o := signL_snoc 32 a i0 i hi0 hlx
    generalize hz : signL [32] ((a.take i).drop i0) = z at *
    simp [hsz, h0, h6, h8, hbx, hv, hq2, hlx, hwi, hap, hms, hwe, hwq]
    exact ih _ _ (by omega) ⟨i + 1, rfl, by omega, by omega, ⟨by simp [hsz], by simp [h0], by simp [h1], by simp [h5], by simp [h6], by simp [h8], by simp [o]⟩, by simp⟩
  · obtain rfl : i = j := by omega
    rcases Nat.lt_or_ge i a.length with hla | hla
    · have hq2 : ¬ (i : Int) < (q : Int) + 2 := by omega
      simp [hsz, h0, h6, hv, hwe, hwq, hla, hq2, -q_s_DiffOf_c11_run]
      exact hk _ ⟨by simp [hsz], by simp [h0], by simp [h1], by simp [h5], by simp [h6], by simp [h8], by simp [hbx]⟩
    · have hla' : ¬ i < a.length := by omega
      simp [hsz, h0, h6, hv, hla', -q_s_DiffOf_c11_run]
      exact hk _ ⟨by simp [hsz], by simp [h0], by simp [h1], by simp [h5], by simp [h6], by simp [h8], by simp [hbx]⟩

set_option maxHeartbeats 2000000 in
theorem diffOfS_ev (a b : Lines) (ha : a.length ≤ 1048576) (hb : b.length ≤ 1048576) (hxa : ∀ x ∈ a, x.length ≤ 1048576) (hxb : ∀ x ∈ b, x.length ≤ 1048576) :
    C fn_s_DiffOf [.ro (SS a), .ro (SS b)] [] = some (.one (.own (HS (diffS a b))), []) := by
  refine ctx_call Try.func12 conv_s_DiffOf rfl ?_
  have hla := l5Lines_ev a (by omega) (fun x hx => by have := hxa x hx; omega)
  have hlb := l5Lines_ev b (by omega) (fun x hx => by have := hxb x hx; omega)
  have hma : min a.length b.length ≤ a.length := Nat.min_le_left _ _
  have hmb : min a.length b.length ≤ b.length := Nat.min_le_right _ _
  have hhl := headFrom_le a b (min a.length b.length) 0 (by omega)
  have hP : headL a b ≤ min a.length b.length := by unfold headL; omega
  have htl := tailFrom_le a b (min a.length b.length - headL a b) (min a.length b.length) 0 (by omega)
  have hS : tailL a b ≤ min a.length b.length - headL a b := by unfold tailL; omega
  -- behind the two loops that compare
  have rest2 : ∀ e : Env, e.size = 188 → e.get 0 = .one (.ro (SS a)) → e.get 1 = .one (.ro (SS b)) → e.get 5 = .one (.ro (N (headL a b))) → e.get 6 = .one (.ro (N (tailL a b))) →
      Run cx q_s_DiffOf_c16 e [.fn [(.tmp 4, 26)] []] = some (.one (.own (HS (if hunkS (diffHunk a b) then [diffHunk a b] else []))), []) := by
    intro e hsz h0 h1 h5 h6
    have hdh : diffHunk a b = (((headL a b - 2 : Nat) : Int) + 1, signL [32] ((a.take (headL a b)).drop (headL a b - 2)) ++ signL [45] ((a.take (a.length - tailL a b)).drop (headL a b)) ++ signL [43] ((b.take (b.length - tailL a b)).drop (headL a b)) ++ signL [32] ((a.take (min (a.length - tailL a b + 2) a.length)).drop (a.length - tailL a b))) := rfl
    have hok := l5Hunk_ev (diffHunk a b) (by
      rw [hdh]
      simp [signL_len]
      omega) (by
      rw [hdh]
      intro x hx
      simp only [List.mem_append, signL, List.mem_map] at hx
      rcases hx with ((⟨y, hy, rfl⟩ | ⟨y, hy, rfl⟩) | ⟨y, hy, rfl⟩) | ⟨y, hy, rfl⟩
      · have := hxa y (List.mem_of_mem_take (List.mem_of_mem_drop hy)); simp; omega
      · have := hxa y (List.mem_of_mem_take (List.mem_of_mem_drop hy)); simp; omega
      · have := hxb y (List.mem_of_mem_take (List.mem_of_mem_drop hy)); simp; omega
      · have := hxa y (List.mem_of_mem_take (List.mem_of_mem_drop hy)); simp; omega)
    generalize hgp : headL a b = p at *
    generalize hgs : tailL a b = s at *
    generalize min a.length b.length = m at *
    rw [hdh] at hok ⊢
    have l1 := signL_len [32] ((a.take p).drop (p - 2))
    have l2 := signL_len [45] ((a.take (a.length - s)).drop p)
    have l3 := signL_len [43] ((b.take (b.length - s)).drop p)
    have l4 := signL_len [32] ((a.take (min (a.length - s + 2) a.length)).drop (a.length - s))
    simp only [List.length_drop, List.length_take] at l1 l2 l3 l4
    -- the end
    have rend : ∀ e, DiffEnv a b p s (((p - 2 : Nat) : Int) + 1) (signL [32] ((a.take p).drop (p - 2)) ++ signL [45] ((a.take (a.length - s)).drop p) ++ signL [43] ((b.take (b.length - s)).drop p) ++ signL [32] ((a.take (min (a.length - s + 2) a.length)).drop (a.length - s))) e →
        Run cx q_s_DiffOf_c11 e [.fn [(.tmp 4, 26)] []] = some (.one (.own (HS (if hunkS (((p - 2 : Nat) : Int) + 1, signL [32] ((a.take p).drop (p - 2)) ++ signL [45] ((a.take (a.length - s)).drop p) ++ signL [43] ((b.take (b.length - s)).drop p) ++ signL [32] ((a.take (min (a.length - s + 2) a.length)).drop (a.length - s))) then [(((p - 2 : Nat) : Int) + 1, signL [32] ((a.take p).drop (p - 2)) ++ signL [45] ((a.take (a.length - s)).drop p) ++ signL [43] ((b.take (b.length - s)).drop p) ++ signL [32] ((a.take (min (a.length - s + 2) a.length)).drop (a.length - s)))] else []))), []) := by
      intro e ⟨hsz, h0, h1, h5, h6, h8, hbx⟩
      generalize signL [32] ((a.take p).drop (p - 2)) ++ signL [45] ((a.take (a.length - s)).drop p) ++ signL [43] ((b.take (b.length - s)).drop p) ++ signL [32] ((a.take (min (a.length - s + 2) a.length)).drop (a.length - s)) = x at *
      generalize ((p - 2 : Nat) : Int) + 1 = f1 at *
      cases hk : hunkS (f1, x) with
      | false =>
        rw [hk] at hok
        simp [hsz, h8, hbx, hok]
      | true =>
        rw [hk] at hok
        simp [hsz, h8, hbx, hok]
    generalize hgg : some (V.one (A.own (HS (if hunkS (((p - 2 : Nat) : Int) + 1, signL [32] ((a.take p).drop (p - 2)) ++ signL [45] ((a.take (a.length - s)).drop p) ++ signL [43] ((b.take (b.length - s)).drop p) ++ signL [32] ((a.take (min (a.length - s + 2) a.length)).drop (a.length - s))) then [(((p - 2 : Nat) : Int) + 1, signL [32] ((a.take p).drop (p - 2)) ++ signL [45] ((a.take (a.length - s)).drop p) ++ signL [43] ((b.take (b.length - s)).drop p) ++ signL [32] ((a.take (min (a.length - s + 2) a.length)).drop (a.length - s)))] else []))), ([] : Boxes)) = goal at *
    generalize hx1 : signL [32] ((a.take p).drop (p - 2)) = x1 at *
    generalize hx2 : signL [45] ((a.take (a.length - s)).drop p) = x2 at *
    generalize hx3 : signL [43] ((b.take (b.length - s)).drop p) = x3 at *
    generalize hx4 : signL [32] ((a.take (min (a.length - s + 2) a.length)).drop (a.length - s)) = x4 at *
    have hwe : IntKind.i64.wrap ((a.length : Int) - (s : Nat)) = ((a.length - s : Nat) : Int) := by rw [wrap64 (by omega) (by omega)]; omega
    have r5 : ∀ e, DiffEnv a b p s (((p - 2 : Nat) : Int) + 1) (x1 ++ x2 ++ x3) e → Run cx q_s_DiffOf_c12 e [.fn [(.tmp 4, 26)] []] = goal := by
      intro e ⟨hsz, h0, h1, h5, h6, h8, hbx⟩
      simp [hsz, h0, h6, hwe]
      exact diffS_loop5 a b p s _ (x1 ++ x2 ++ x3) (a.length - s) (min (a.length - s + 2) a.length) (by omega) (a.length - s) rfl (by omega) rfl (by omega) ha hb (by omega) hxa (by simp; omega) (by rw [hx4]; exact rend) _
        ⟨by simp [hsz], by simp [h0], by simp [h1], by simp [h5], by simp [h6], by simp [h8], by simp [hbx]⟩ (by simp)
    have r4 : ∀ e, DiffEnv a b p s (((p - 2 : Nat) : Int) + 1) (x1 ++ x2) e → Run cx q_s_DiffOf_c13 e [.fn [(.tmp 4, 26)] []] = goal := by
      intro e ⟨hsz, h0, h1, h5, h6, h8, hbx⟩
      simp [hsz, h5]
      exact diffS_loop4 a b p s _ (x1 ++ x2) p (b.length - s) (by omega) rfl (by omega) (by omega) ha hb (by omega) hxb (by simp; omega) (by rw [hx3]; exact r5) _
        ⟨by simp [hsz], by simp [h0], by simp [h1], by simp [h5], by simp [h6], by simp [h8], by simp [hbx]⟩ (by simp)
    have r3 : ∀ e, DiffEnv a b p s (((p - 2 : Nat) : Int) + 1) x1 e → Run cx q_s_DiffOf_c14 e [.fn [(.tmp 4, 26)] []] = goal := by
      intro e ⟨hsz, h0, h1, h5, h6, h8, hbx⟩
      simp [hsz, h5]
      exact diffS_loop3 a b p s _ x1 p (a.length - s) (by omega) rfl (by omega) (by omega) ha hb (by omega) hxa (by omega) (by rw [hx2]; exact r4) _
        ⟨by simp [hsz], by simp [h0], by simp [h1], by simp [h5], by simp [h6], by simp [h8], by simp [hbx]⟩ (by simp)
    have hwf : IntKind.i64.wrap (((p - 2 : Nat) : Int) + 1) = ((p - 2 : Nat) : Int) + 1 := wrap64 (by omega) (by omega)
    have r2 : ∀ e : Env, e.size = 188 → e.get 0 = .one (.ro (SS a)) → e.get 1 = .one (.ro (SS b)) → e.get 5 = .one (.ro (N p)) → e.get 6 = .one (.ro (N s)) → e.get 7 = .one (.ro (N (p - 2))) → Run cx q_s_DiffOf_c15 e [.fn [(.tmp 4, 26)] []] = goal := by
      intro e hsz h0 h1 h5 h6 h7
      generalize hf : p - 2 = f at *
      simp [hsz, h7, hwf]
      exact diffS_loop2 a b p s _ [] f p (by omega) rfl (by omega) ha hb (by omega) hxa (by simp) (by rw [List.nil_append, hx1]; exact r3) _
        ⟨by simp [hsz], by simp [h0], by simp [h1], by simp [h5], by simp [h6], by simp, by simp⟩ (by simp)
    rcases Nat.lt_or_ge p 2 with hp2 | hp2
    · have hw2 : IntKind.i64.wrap ((p : Int) - 2) = (p : Int) - 2 := wrap64 (by omega) (by omega)
      have hneg : (p : Int) - 2 < 0 := by omega
      have hz : p - 2 = 0 := by omega
      simp [hsz, h5, hw2, hneg, -q_s_DiffOf_c15_run]
      exact r2 _ (by simp [hsz]) (by simp [h0]) (by simp [h1]) (by simp [h5]) (by simp [h6]) (by simp [hz])
    · have hw2 : IntKind.i64.wrap ((p : Int) - 2) = ((p - 2 : Nat) : Int) := by rw [wrap64 (by omega) (by omega)]; omega
      have hneg : ¬ ((p - 2 : Nat) : Int) < 0 := by omega
      generalize hf : p - 2 = f at *
      simp [hsz, h5, hw2, hneg, -q_s_DiffOf_c15_run]
      exact r2 _ (by simp [hsz]) (by simp [h0]) (by simp [h1]) (by simp [h5]) (by simp [h6]) (by simp)
  have rest1 : ∀ e : Env, e.size = 188 → e.get 0 = .one (.ro (SS a)) → e.get 1 = .one (.ro (SS b)) → e.get 5 = .one (.ro (N (headL a b))) →
      Run cx q_s_DiffOf_c17 e [.fn [(.tmp 4, 26)] []] = some (.one (.own (HS (if hunkS (diffHunk a b) then [diffHunk a b] else []))), []) := by
    intro e hsz h0 h1 h5
    have hwA : IntKind.i64.wrap ((a.length : Int) - (headL a b : Nat)) = ((a.length - headL a b : Nat) : Int) := by rw [wrap64 (by omega) (by omega)]; omega
    have hwB : IntKind.i64.wrap ((b.length : Int) - (headL a b : Nat)) = ((b.length - headL a b : Nat) : Int) := by rw [wrap64 (by omega) (by omega)]; omega
    simp [hsz]
    refine loop_run (fun m e => ∃ s, m = min a.length b.length - headL a b - s ∧ s ≤ min a.length b.length - headL a b ∧ e.size = 188 ∧ e.get 0 = .one (.ro (SS a)) ∧ e.get 1 = .one (.ro (SS b)) ∧ e.get 5 = .one (.ro (N (headL a b))) ∧ e.get 6 = .one (.ro (N s)) ∧
      tailFrom a b (min a.length b.length - headL a b) (min a.length b.length - s) s = tailL a b) ?_ (min a.length b.length - headL a b) _ ⟨0, rfl, Nat.zero_le _, by simp [hsz], by simp [h0], by simp [h1], by simp [h5], by simp, rfl⟩
    rintro m e ⟨s, rfl, hs, hsz, h0, h1, h5, h6, hr⟩ ih
    rcases Nat.lt_or_ge s (min a.length b.length - headL a b) with hlt | hge
    · obtain ⟨f, hf⟩ : ∃ f, min a.length b.length - s = f + 1 := ⟨min a.length b.length - s - 1, by omega⟩
      have hia : a.length - 1 - s < a.length := by omega
      have hib : b.length - 1 - s < b.length := by omega
      have hltA : s < a.length - headL a b := by omega
      have hltB : s < b.length - headL a b := by omega
      have hga : a[a.length - 1 - s]? = some a[a.length - 1 - s] := List.getElem?_eq_getElem hia
      have hgb : b[b.length - 1 - s]? = some b[b.length - 1 - s] := List.getElem?_eq_getElem hib
      have hwa1 : IntKind.i64.wrap ((a.length : Int) - 1) = ((a.length - 1 : Nat) : Int) := by rw [wrap64 (by omega) (by omega)]; omega
      have hwb1 : IntKind.i64.wrap ((b.length : Int) - 1) = ((b.length - 1 : Nat) : Int) := by rw [wrap64 (by omega) (by omega)]; omega
      have hwa : IntKind.i64.wrap (((a.length - 1 : Nat) : Int) - (s : Nat)) = ((a.length - 1 - s : Nat) : Int) := by rw [wrap64 (by omega) (by omega)]; omega
      have hwb : IntKind.i64.wrap (((b.length - 1 : Nat) : Int) - (s : Nat)) = ((b.length - 1 - s : Nat) : Int) := by rw [wrap64 (by omega) (by omega)]; omega
      have hwi : IntKind.i64.wrap ((s : Int) + 1) = ((s + 1 : Nat) : Int) := wrap64_succ (by omega)
      rw [hf, tailFrom, if_pos hlt, hga, hgb] at hr
      dsimp only at hr
      generalize hAA : a.length - headL a b = pa at *
      generalize hBB : b.length - headL a b = pb at *
      generalize hA : a.length - 1 = la at *
      generalize hB : b.length - 1 = lb at *
      generalize hIA : la - s = ia at *
      generalize hIB : lb - s = ib at *
      cases hp : a[ia] == b[ib] with
      | false =>
        rw [hp] at hr
        simp only [Bool.false_eq_true, if_false] at hr
        simp [hsz, h0, h1, h5, h6, hwA, hwB, hltA, hltB, hwa1, hwb1, hwa, hwb, hia, hib, hp, -q_s_DiffOf_c16_run]
        exact rest2 _ (by simp [hsz]) (by simp [h0]) (by simp [h1]) (by simp [h5]) (by simp [h6, hr])
      | true =>
        rw [hp, if_pos rfl] at hr
        simp [hsz, h0, h1, h5, h6, hwA, hwB, hltA, hltB, hwa1, hwb1, hwa, hwb, hia, hib, hp, hwi]
        exact ih _ _ (by omega) ⟨s + 1, rfl, by omega, by simp [hsz], by simp [h0], by simp [h1], by simp [h5], by simp, by rw [← hr]; congr 1; omega⟩
    · obtain rfl : s = min a.length b.length - headL a b := by omega
      have hr' : tailL a b = min a.length b.length - headL a b := by
        rw [← hr]
        cases hf : min a.length b.length - (min a.length b.length - headL a b) with
        | zero => rfl
        | succ f => rw [tailFrom, if_neg (by omega)]
      rcases Nat.lt_or_ge (min a.length b.length - headL a b) (a.length - headL a b) with hA | hA
      · have hB : ¬ min a.length b.length - headL a b < b.length - headL a b := by omega
        generalize hgm : min a.length b.length - headL a b = mm at *
        generalize hAA : a.length - headL a b = pa at *
        generalize hBB : b.length - headL a b = pb at *
        simp [hsz, h0, h1, h5, h6, hwA, hwB, hA, hB, -q_s_DiffOf_c16_run]
        exact rest2 _ (by simp [hsz]) (by simp [h0]) (by simp [h1]) (by simp [h5]) (by simp [h6, hr'])
      · have hA' : ¬ min a.length b.length - headL a b < a.length - headL a b := by omega
        generalize hgm : min a.length b.length - headL a b = mm at *
        generalize hAA : a.length - headL a b = pa at *
        generalize hBB : b.length - headL a b = pb at *
        simp [hsz, h0, h1, h5, h6, hwA, hA', -q_s_DiffOf_c16_run]
        exact rest2 _ (by simp [hsz]) (by simp [h0]) (by simp [h1]) (by simp [h5]) (by simp [h6, hr'])
  have rest0 : ∀ e : Env, e.size = 188 → e.get 0 = .one (.ro (SS a)) → e.get 1 = .one (.ro (SS b)) →
      Run cx q_s_DiffOf_c18 e [.fn [(.tmp 4, 26)] []] = some (.one (.own (HS (if hunkS (diffHunk a b) then [diffHunk a b] else []))), []) := by
    intro e hsz h0 h1
    simp [hsz]
    refine loop_run (fun m e => ∃ i, m = min a.length b.length - i ∧ i ≤ min a.length b.length ∧ e.size = 188 ∧ e.get 0 = .one (.ro (SS a)) ∧ e.get 1 = .one (.ro (SS b)) ∧ e.get 5 = .one (.ro (N i)) ∧
      headFrom a b (min a.length b.length - i) i = headL a b) ?_ (min a.length b.length) _ ⟨0, rfl, Nat.zero_le _, by simp [hsz], by simp [h0], by simp [h1], by simp, rfl⟩
    rintro m e ⟨i, rfl, hi, hsz, h0, h1, h5, hr⟩ ih
    rcases Nat.lt_or_ge i (min a.length b.length) with hlt | hge
    · obtain ⟨f, hf⟩ : ∃ f, min a.length b.length - i = f + 1 := ⟨min a.length b.length - i - 1, by omega⟩
      have hia : i < a.length := by omega
      have hib : i < b.length := by omega
      have hwi : IntKind.i64.wrap ((i : Int) + 1) = ((i + 1 : Nat) : Int) := wrap64_succ (by omega)
      rw [hf, headFrom, List.getElem?_eq_getElem hia, List.getElem?_eq_getElem hib] at hr
      dsimp only at hr
      cases hp : a[i] == b[i] with
      | false =>
        rw [hp] at hr
        simp only [Bool.false_eq_true, if_false] at hr
        simp [hsz, h0, h1, h5, hia, hib, hp, -q_s_DiffOf_c17_run]
        exact rest1 _ (by simp [hsz]) (by simp [h0]) (by simp [h1]) (by simp [h5, hr])
      | true =>
        rw [hp, if_pos rfl] at hr
        simp [hsz, h0, h1, h5, hia, hib, hp, hwi]
        exact ih _ _ (by omega) ⟨i + 1, rfl, by omega, by simp [hsz], by simp [h0], by simp [h1], by simp, by rw [← hr]; congr 1; omega⟩
    · obtain rfl : i = min a.length b.length := by omega
      have hr' : headL a b = min a.length b.length := by
        rw [← hr, Nat.sub_self]; rfl
      rcases Nat.lt_or_ge (min a.length b.length) a.length with hA | hA
      · have hB : ¬ min a.length b.length < b.length := by omega
        generalize hgm : min a.length b.length = mm at *
        simp [hsz, h0, h1, h5, hA, hB, -q_s_DiffOf_c17_run]
        exact rest1 _ (by simp [hsz]) (by simp [h0]) (by simp [h1]) (by simp [h5, hr'])
      · have hA' : ¬ min a.length b.length < a.length := by omega
        generalize hgm : min a.length b.length = mm at *
        simp [hsz, h0, h1, h5, hA', -q_s_DiffOf_c17_run]
        exact rest1 _ (by simp [hsz]) (by simp [h0]) (by simp [h1]) (by simp [h5, hr'])
  unfold diffS
  cases c1 : linesS a with
  | false => rw [c1] at hla; simp [hla]
  | true =>
  cases c2 : linesS b with
  | false => rw [c1] at hla; rw [c2] at hlb; simp [hla, hlb]
  | true =>
  rw [c1] at hla; rw [c2] at hlb
  by_cases hl : a.length = b.length
  · have heq := l5Same0_ev a b hl (by omega)
    cases c3 : a == b with
    | true => rw [c3] at heq; simp [hla, hlb, hl, heq]
    | false =>
      rw [c3] at heq
      simp [hla, hlb, hl, heq, -q_s_DiffOf_c18_run]
      exact rest0 _ (by simp) (by simp) (by simp)
  · have c3 : (a == b) = false := by
      cases h : a == b with
      | false => rfl
      | true => exact absurd (congrArg List.length (eq_of_beq h)) hl
    have hl' : (a.length == b.length) = false := by simp [hl]
    simp [hla, hlb, hl', c3, -q_s_DiffOf_c18_run]
    exact rest0 _ (by simp) (by simp) (by simp)
end Go.Qz

/- What the functions come to: marks, written and read again. -/
namespace Go.Qz
open Go.Proofs

def dig (n : Nat) (l : List UInt8) : List UInt8 := if h : n = 0 then l else dig (n / 10) ((48 + n % 10).toUInt8 :: l)
termination_by n
decreasing_by omega
theorem dig_zero (l : List UInt8) : dig 0 l = l := by rw [dig]; rfl
theorem dig_pos (n : Nat) (l : List UInt8) (h : 0 < n) : dig n l = dig (n / 10) ((48 + n % 10).toUInt8 :: l) := by
  rw [dig, dif_neg (by omega)]
def mtext (n : Nat) : List UInt8 := if n = 0 then [109, 48] else 109 :: dig n []

def markL (n k : Nat) : Lines := (List.range n).map fun j => mtext (k + j)
@[simp] theorem markL_len (n k : Nat) : (markL n k).length = n := by simp [markL]
theorem markL_get (n k j : Nat) (h : j < n) : (markL n k)[j]? = some (mtext (k + j)) := by simp [markL, h]

theorem markL_elem (n k j : Nat) (h : j < (markL n k).length) : (markL n k)[j] = mtext (k + j) := by simp [markL]

end Go.Qz

/- What the functions come to: marks in hunks. -/
namespace Go.Qz
open Go.Proofs

def markHs : List Hk → Nat → List Hk
  | [], _ => []
  | h :: r, k => ((k : Int), markL h.2.length (k + 1)) :: markHs r (k + 1 + h.2.length)
def endHs : List Hk → Nat → Nat
  | [], k => k
  | h :: r, k => endHs r (k + 1 + h.2.length)

theorem endHs_ge : ∀ (hs : List Hk) (k : Nat), k ≤ endHs hs k
  | [], k => Nat.le_refl k
  | h :: r, k => by
    have := endHs_ge r (k + 1 + h.2.length)
    unfold endHs
    omega
theorem endHs_le : ∀ (hs : List Hk) (k B : Nat), (∀ h ∈ hs, h.2.length ≤ B) → endHs hs k ≤ k + hs.length * (B + 1)
  | [], k, B, _ => by simp [endHs]
  | h :: r, k, B, hl => by
    have := endHs_le r (k + 1 + h.2.length) B (fun x hx => hl x (List.mem_cons_of_mem _ hx))
    have := hl h List.mem_cons_self
    unfold endHs
    rw [List.length_cons, Nat.add_mul]
    omega
theorem markHs_len : ∀ (hs : List Hk) (k : Nat), (markHs hs k).length = hs.length := by
  intro hs
  induction hs with
  | nil => intro k; rfl
  | cons h r ih => intro k; simp [markHs, ih]

end Go.Qz

/- The law of DiffOf, by the evaluator. -/
namespace Go.Qz
open Go.Proofs

theorem hunksOk_one (h : Hk) : hunksOkI [h] = hunkS h := by
  rw [hunksOk_eq]
  simp [hunksOkS, goS]
theorem diff_eq (a b : Lines) : diffI a b = diffS a b := by
  unfold diffI diffS
  rw [lines_eq, lines_eq, hunksOk_one]
theorem diffS_len (a b : Lines) : (diffS a b).length ≤ 1 := by
  unfold diffS
  split
  · simp
  · split <;> simp
theorem diffS_hunk (a b : Lines) : ∀ h ∈ diffS a b, h.2.length ≤ 30 := by
  intro h hh
  unfold diffS at hh
  split at hh
  · cases hh
  · split at hh
    · rename_i hk
      simp only [List.mem_singleton] at hh
      subst hh
      exact (hunkS_parts hk).2.2.1
    · cases hh

end Go.Qz

/- What the functions come to: context. -/
namespace Go.Qz
open Go.Proofs

def isCtx (x : List UInt8) : Bool := x.head? == some 32
/-- How many at the beginning are context, at most so many. -/
def ctxN : Lines → Nat → Nat
  | _, 0 => 0
  | [], _ => 0
  | x :: r, n + 1 => if isCtx x then ctxN r n + 1 else 0
theorem ctxN_nil (n : Nat) : ctxN [] n = 0 := by cases n <;> rfl
theorem ctxN_le : ∀ (xs : Lines) (n : Nat), ctxN xs n ≤ n ∧ ctxN xs n ≤ xs.length
  | _, 0 => by unfold ctxN; simp
  | [], n + 1 => by unfold ctxN; simp
  | x :: r, n + 1 => by
    unfold ctxN
    have := ctxN_le r n
    split
    · simp only [List.length_cons]; omega
    · simp
/-- A hunk's lines without context ahead and behind, at most so many of each. -/
def trimL (xs : Lines) (f : Nat) : Lines := (xs.drop (ctxN xs f)).take ((xs.drop (ctxN xs f)).length - ctxN (xs.drop (ctxN xs f)).reverse f)

theorem context_ev (xs : Lines) (f : Nat) (hf : f ≤ 2) (hn : xs.length ≤ 1048576) (hne : ∀ x ∈ xs, x ≠ []) : C fn_i_context [.ro (SS xs), .ro (N f)] [] = some (.one (.ro (N (ctxN xs f))), []) := by
  refine ctx_call Try.func49 conv_i_context rfl ?_
  simp
  refine loop_run (fun m e => ∃ i, m = xs.length - i ∧ i ≤ xs.length ∧ i ≤ f ∧ e.size = 23 ∧ e.get 0 = .one (.ro (SS xs)) ∧ e.get 1 = .one (.ro (N f)) ∧ e.get 5 = .one (.ro (N i)) ∧ ctxN (xs.drop i) (f - i) + i = ctxN xs f)
    ?_ xs.length _ ⟨0, rfl, Nat.zero_le _, Nat.zero_le _, by simp, by simp, by simp, by simp, by simp⟩
  rintro m e ⟨i, rfl, hi, hif, hsz, h0, h1, h5, hr⟩ ih
  by_cases hmin : (f : Int) ≤ xs.length
  · by_cases hlt : i < f
    · have hlx : i < xs.length := by omega
      have hd : xs.drop i = xs[i] :: xs.drop (i + 1) := List.drop_eq_getElem_cons hlx
      have hwi : IntKind.i64.wrap ((i : Int) + 1) = ((i + 1 : Nat) : Int) := wrap64_succ (by omega)
      obtain ⟨c, r, hcr⟩ : ∃ c r, xs[i] = c :: r := by
        cases hq : xs[i] with
        | nil => exact absurd hq (hne _ (List.getElem_mem hlx))
        | cons c r => exact ⟨c, r, rfl⟩
      rw [hd, show f - i = (f - (i + 1)) + 1 by omega, ctxN] at hr
      cases hc : c == 32 with
      | false =>
        have : isCtx xs[i] = false := by rw [hcr]; simpa [isCtx] using hc
        rw [this] at hr
        simp at hr
        simp [hsz, h0, h1, h5, hmin, hlt, hlx, hcr, hc, ← hr]
      | true =>
        have : isCtx xs[i] = true := by rw [hcr]; simpa [isCtx] using hc
        rw [this, if_pos rfl] at hr
        simp [hsz, h0, h1, h5, hmin, hlt, hlx, hcr, hc, hwi]
        exact ih _ _ (by omega) ⟨i + 1, rfl, by omega, by omega, by simp [hsz], by simp [h0], by simp [h1], by simp, by omega⟩
    · obtain rfl : i = f := by omega
      rw [Nat.sub_self] at hr
      have : ctxN (xs.drop i) 0 = 0 := by unfold ctxN; rfl
      rw [this] at hr
      simp [hsz, h0, h1, h5, hmin, ← hr]
  · by_cases hlt : i < xs.length
    · have hd : xs.drop i = xs[i] :: xs.drop (i + 1) := List.drop_eq_getElem_cons hlt
      have hwi : IntKind.i64.wrap ((i : Int) + 1) = ((i + 1 : Nat) : Int) := wrap64_succ (by omega)
      obtain ⟨c, r, hcr⟩ : ∃ c r, xs[i] = c :: r := by
        cases hq : xs[i] with
        | nil => exact absurd hq (hne _ (List.getElem_mem hlt))
        | cons c r => exact ⟨c, r, rfl⟩
      rw [hd, show f - i = (f - (i + 1)) + 1 by omega, ctxN] at hr
      cases hc : c == 32 with
      | false =>
        have : isCtx xs[i] = false := by rw [hcr]; simpa [isCtx] using hc
        rw [this] at hr
        simp at hr
        simp [hsz, h0, h1, h5, hmin, hlt, hcr, hc, ← hr]
      | true =>
        have : isCtx xs[i] = true := by rw [hcr]; simpa [isCtx] using hc
        rw [this, if_pos rfl] at hr
        simp [hsz, h0, h1, h5, hmin, hlt, hcr, hc, hwi]
        exact ih _ _ (by omega) ⟨i + 1, rfl, by omega, by omega, by simp [hsz], by simp [h0], by simp [h1], by simp, by omega⟩
    · obtain rfl : i = xs.length := by omega
      rw [List.drop_length] at hr
      rw [ctxN_nil] at hr
      simp [hsz, h0, h1, h5, hmin, ← hr]

theorem contextBehind_ev (xs : Lines) (f : Nat) (hf : f ≤ 2) (hn : xs.length ≤ 1048576) (hne : ∀ x ∈ xs, x ≠ []) : C fn_i_contextBehind [.ro (SS xs), .ro (N f)] [] = some (.one (.ro (N (ctxN xs.reverse f))), []) := by
  refine ctx_call Try.func50 conv_i_contextBehind rfl ?_
  simp
  refine loop_run (fun m e => ∃ i, m = xs.length - i ∧ i ≤ xs.length ∧ i ≤ f ∧ e.size = 27 ∧ e.get 0 = .one (.ro (SS xs)) ∧ e.get 1 = .one (.ro (N f)) ∧ e.get 5 = .one (.ro (N i)) ∧ ctxN (xs.reverse.drop i) (f - i) + i = ctxN xs.reverse f)
    ?_ xs.length _ ⟨0, rfl, Nat.zero_le _, Nat.zero_le _, by simp, by simp, by simp, by simp, by simp⟩
  rintro m e ⟨i, rfl, hi, hif, hsz, h0, h1, h5, hr⟩ ih
  have go : i < f → ∀ hlx : i < xs.length, ∃ (c : UInt8) (r : List UInt8) (k : Nat) (hk : k < xs.length), (xs.length : Int) - 1 - i = k ∧ xs[k] = c :: r ∧ ((c == 32) = false → ctxN xs.reverse f = i) ∧ ((c == 32) = true → ctxN (xs.reverse.drop (i + 1)) (f - (i + 1)) + (i + 1) = ctxN xs.reverse f) := by
    intro hlt hlx
    have hlr : i < xs.reverse.length := by simpa using hlx
    have hd : xs.reverse.drop i = xs.reverse[i] :: xs.reverse.drop (i + 1) := List.drop_eq_getElem_cons hlr
    have hg : xs.reverse[i] = xs[xs.length - 1 - i] := by rw [List.getElem_reverse]
    have hkl : xs.length - 1 - i < xs.length := by omega
    obtain ⟨c, r, hcr⟩ : ∃ c r, xs[xs.length - 1 - i] = c :: r := by
      cases hq : xs[xs.length - 1 - i] with
      | nil => exact absurd hq (hne _ (List.getElem_mem hkl))
      | cons c r => exact ⟨c, r, rfl⟩
    rw [hd, show f - i = (f - (i + 1)) + 1 by omega, ctxN, hg, hcr] at hr
    refine ⟨c, r, xs.length - 1 - i, hkl, by omega, hcr, fun hc => ?_, fun hc => ?_⟩
    · have : isCtx (c :: r) = false := by simpa [isCtx] using hc
      rw [this] at hr
      simp at hr
      exact hr.symm
    · have : isCtx (c :: r) = true := by simpa [isCtx] using hc
      rw [this, if_pos rfl] at hr
      omega
  have w1 : IntKind.i64.wrap ((xs.length : Int) - 1) = (xs.length : Int) - 1 := wrap64 (by omega) (by omega)
  have hwi : IntKind.i64.wrap ((i : Int) + 1) = ((i + 1 : Nat) : Int) := wrap64_succ (by omega)
  by_cases hmin : (f : Int) ≤ xs.length
  · by_cases hlt : i < f
    · obtain ⟨c, r, k, hk, hki, hcr, g1, g2⟩ := go hlt (by omega)
      have wk : IntKind.i64.wrap (k : Int) = k := wrap64 (by omega) (by omega)
      cases hc : c == 32 with
      | false =>
        rw [g1 hc]
        simp [hsz, h0, h1, h5, hmin, hlt, w1, hki, wk, hk, hcr, hc]
      | true =>
        have := g2 hc
        simp [hsz, h0, h1, h5, hmin, hlt, w1, hki, wk, hk, hcr, hc, hwi]
        exact ih _ _ (by omega) ⟨i + 1, rfl, by omega, by omega, by simp [hsz], by simp [h0], by simp [h1], by simp, this⟩
    · obtain rfl : i = f := by omega
      rw [Nat.sub_self] at hr
      have : ctxN (xs.reverse.drop i) 0 = 0 := by unfold ctxN; rfl
      rw [this] at hr
      simp [hsz, h0, h1, h5, hmin, ← hr]
  · by_cases hlt : i < xs.length
    · obtain ⟨c, r, k, hk, hki, hcr, g1, g2⟩ := go (by omega) hlt
      have wk : IntKind.i64.wrap (k : Int) = k := wrap64 (by omega) (by omega)
      cases hc : c == 32 with
      | false =>
        rw [g1 hc]
        simp [hsz, h0, h1, h5, hmin, hlt, w1, hki, wk, hk, hcr, hc]
      | true =>
        have := g2 hc
        simp [hsz, h0, h1, h5, hmin, hlt, w1, hki, wk, hk, hcr, hc, hwi]
        exact ih _ _ (by omega) ⟨i + 1, rfl, by omega, by omega, by simp [hsz], by simp [h0], by simp [h1], by simp, this⟩
    · obtain rfl : i = xs.length := by omega
      have e0 : xs.reverse.drop xs.length = [] := List.drop_eq_nil_of_le (by simp)
      rw [e0] at hr
      rw [ctxN_nil] at hr
      simp [hsz, h0, h1, h5, hmin, ← hr]
end Go.Qz

/- What the functions come to: where lines stand. -/
namespace Go.Qz
open Go.Proofs

/-- Whether lines stand at a place. -/
def sameAt (lines : Lines) (a : Int) (old : Lines) : Bool := decide (0 ≤ a) && decide (a + old.length ≤ lines.length) && ((lines.drop a.toNat).take old.length == old)
theorem sameAt_nat {lines old : Lines} {a : Nat} (h : a + old.length ≤ lines.length) : sameAt lines a old = ((lines.drop a).take old.length == old) := by
  have h1 : (a : Int) + old.length ≤ lines.length := by omega
  simp [sameAt, h1]

theorem l5Same_ev (xs ys : Lines) (a : Int) (ha : -1048576 ≤ a) (ha2 : a ≤ 1048576) (hn : xs.length ≤ 1048576) (hy : ys.length ≤ 1048576) : C fn_s_l5Same [.ro (SS xs), .ro (I a), .ro (SS ys)] [] = some (.one (.ro (.bool (sameAt xs a ys))), []) := by
  refine ctx_call Try.func27 conv_s_l5Same rfl ?_
  have hw0 : IntKind.i64.wrap (a + ys.length) = a + ys.length := wrap64 (by omega) (by omega)
  by_cases hneg : a < 0
  · have : sameAt xs a ys = false := by
      have : ¬ 0 ≤ a := by omega
      simp [sameAt, this]
    simp [hneg, this]
  by_cases hbig : (xs.length : Int) < a + ys.length
  · have : sameAt xs a ys = false := by
      have : ¬ a + ys.length ≤ xs.length := by omega
      simp [sameAt, this]
    simp [hneg, hw0, hbig, this]
  obtain ⟨a, rfl⟩ := Int.eq_ofNat_of_zero_le (show 0 ≤ a by omega)
  rw [sameAt_nat (by omega)]
  simp [hw0, hbig]
  refine loop_run (fun m e => ∃ i, m = ys.length - i ∧ i ≤ ys.length ∧ e.size = 36 ∧ e.get 0 = .one (.ro (SS xs)) ∧ e.get 1 = .one (.ro (I a)) ∧ e.get 2 = .one (.ro (SS ys)) ∧ e.get 7 = .one (.ro (N i)) ∧
    ((xs.drop (a + i)).take (ys.length - i) == ys.drop i) = ((xs.drop a).take ys.length == ys)) ?_ ys.length _ ⟨0, rfl, Nat.zero_le _, by simp, by simp, by simp, by simp, by simp, rfl⟩
  rintro m e ⟨i, rfl, hi, hsz, h0, h1, h2, h7, hr⟩ ih
  rcases Nat.lt_or_ge i ys.length with hlt | hge
  · have hlt' : a + i < xs.length := by omega
    have hd : xs.drop (a + i) = xs[a + i] :: xs.drop (a + (i + 1)) := by rw [List.drop_eq_getElem_cons hlt']; rfl
    have hd' : ys.drop i = ys[i] :: ys.drop (i + 1) := List.drop_eq_getElem_cons hlt
    have hwi : IntKind.i64.wrap ((i : Int) + 1) = ((i + 1 : Nat) : Int) := wrap64_succ (by omega)
    have hw : IntKind.i64.wrap ((a : Int) + (i : Int)) = ((a + i : Nat) : Int) := by rw [wrap64 (by omega) (by omega)]; omega
    have hc : ((xs.drop (a + i)).take (ys.length - i) == ys.drop i) = ((xs[a + i] == ys[i]) && ((xs.drop (a + (i + 1))).take (ys.length - (i + 1)) == ys.drop (i + 1))) := by
      rw [hd, hd', show ys.length - i = (ys.length - (i + 1)) + 1 by omega, List.take_succ_cons]; rfl
    rw [hc] at hr
    obtain ⟨k, hk⟩ : ∃ k, a + i = k := ⟨_, rfl⟩
    have hxk : xs[a + i] = xs[k]'(by omega) := by simp only [hk]
    rw [hxk] at hr
    rw [hk] at hw
    have hlt'' : k < xs.length := by omega
    cases hp : xs[k] == ys[i] with
    | false =>
      rw [hp, Bool.false_and] at hr
      simp [hsz, h0, h1, h2, h7, hlt, hlt'', hp, hw, ← hr]
    | true =>
      rw [hp, Bool.true_and] at hr
      simp [hsz, h0, h1, h2, h7, hlt, hlt'', hp, hwi, hw]
      exact ih _ _ (by omega) ⟨i + 1, rfl, by omega, by simp [hsz], by simp [h0], by simp [h1], by simp [h2], by simp, hr⟩
  · obtain rfl : i = ys.length := by omega
    have : ((xs.drop a).take ys.length == ys) = true := by rw [← hr, Nat.sub_self, List.drop_length]; rfl
    simp [hsz, h2, h7, this]

/-- A patcher. -/
structure Pt where
  lines : Lines
  fin : Nat
  shift : Int
  offs : List Int
abbrev IS (l : List Int) : D := .sl 1 (l.map I)
abbrev PB (p : Pt) : List A := [.own (SS p.lines), .ro (N p.fin), .ro (I p.shift), .own (IS p.offs)]

def occB (lines : Lines) (fin : Nat) (old : Lines) (a : Int) : Bool := decide ((fin : Int) ≤ a) && sameAt lines a old
def places (want : Int) : List Int := (List.range 9).flatMap fun (d : Nat) => [want - d, want + d]
def findP (lines : Lines) (fin : Nat) (old : Lines) (want : Int) : Option Int := (places want).find? (occB lines fin old)

theorem occurs_ev (p : Pt) (old : Lines) (a : Int) (ha : -1048576 ≤ a) (ha2 : a ≤ 1048576) (_ : p.lines.length ≤ 1048576) (ho : old.length ≤ 1048576) :
    C fn_i_patcher_occurs [.ptr 5000 0, .ro (SS old), .ro (I a)] [(5000, PB p)] = some (.one (.ro (.bool (occB p.lines p.fin old a))), [(5000, PB p)]) := by
  refine ctx_call Try.func53 conv_i_patcher_occurs rfl ?_
  have hw : IntKind.i64.wrap (a + old.length) = a + old.length := wrap64 (by omega) (by omega)
  unfold occB
  by_cases h1 : (p.fin : Int) ≤ a
  · by_cases h2 : a + old.length ≤ p.lines.length
    · obtain ⟨a, rfl⟩ := Int.eq_ofNat_of_zero_le (show 0 ≤ a by omega)
      have h3 : a + old.length ≤ p.lines.length := by omega
      rw [sameAt_nat h3]
      have he := equal_ev ((p.lines.drop a).take old.length) old (by simp; omega)
      have hm : List.drop a (List.take (a + old.length) (p.lines.map T)) = ((p.lines.drop a).take old.length).map T := by
        rw [List.drop_take, Nat.add_sub_cancel_left, List.map_take, List.map_drop]
      have he' : C 24 [.ro (.sl 1 (List.drop a (List.take (a + old.length) (p.lines.map T)))), .ro (SS old)] [] = some (.one (.ro (.bool ((p.lines.drop a).take old.length == old))), []) := by rw [hm]; exact he
      have b1 : (a : Int) + old.length ≤ p.lines.length := by omega
      have b2 : (a : Int) ≤ (a : Int) + old.length := by omega
      have b3 : (0 : Int) ≤ (a : Int) + old.length := by omega
      have b4 : ((a : Int) + old.length).toNat = a + old.length := by omega
      have b5 : a ≤ a + old.length := by omega
      simp [h1, hw, b1, b2, b3, b4, b5, h3, he']
    · have : sameAt p.lines a old = false := by simp [sameAt, h2]
      simp [h1, hw, h2, this]
  · simp [h1]
end Go.Qz

/- What the functions come to: the nearest place. -/
namespace Go.Qz
open Go.Proofs

@[simp] theorem ty_places75 : placesOk Try.prog 75 = true := by kernel_rfl
attribute [simp] Try.underlying75

def placesFrom (want : Int) (d n : Nat) : List Int := (List.range' d n).flatMap fun (d : Nat) => [want - d, want + d]
theorem places_from (want : Int) : placesFrom want 0 9 = places want := by
  unfold placesFrom places
  rw [List.range_eq_range']
theorem placesFrom_succ (want : Int) (d n : Nat) : placesFrom want d (n + 1) = (want - d) :: (want + d) :: placesFrom want (d + 1) n := by
  unfold placesFrom
  rw [List.range'_succ]
  rfl

def findV (o : Option Int) : V := match o with
  | some a => .tup [.ro (I a), .ro (.bool true)]
  | none => .tup [.ro (I 0), .ro (.bool false)]

theorem find_ev (p : Pt) (old : Lines) (want : Int) (ha : -100000 ≤ want) (ha2 : want ≤ 100000) (hn : p.lines.length ≤ 1048576) (ho : old.length ≤ 1048576) :
    C fn_i_patcher_find [.ptr 5000 0, .ro (SS old), .ro (I want)] [(5000, PB p)] = some (findV (findP p.lines p.fin old want), [(5000, PB p)]) := by
  refine ctx_call Try.func51 conv_i_patcher_find rfl ?_
  unfold findP
  rw [← places_from]
  have hin : ∀ e ks, Run cx (.loop q_i_patcher_find_l0) e ks = Run cx q_i_patcher_find_l0 e (.loop q_i_patcher_find_l0 :: ks) := fun e ks => run_loop cx q_i_patcher_find_l0 e ks
  simp
  refine loop_run (fun m e => ∃ d : Nat, m = 9 - d ∧ d ≤ 9 ∧ e.size = 31 ∧ e.get 0 = .one (.ptr 5000 0) ∧ e.get 1 = .one (.ro (SS old)) ∧ e.get 2 = .one (.ro (I want)) ∧ e.get 11 = .one (.ro (N d)) ∧ e.box 5000 = some (PB p) ∧
    (placesFrom want d (9 - d)).find? (occB p.lines p.fin old) = (placesFrom want 0 9).find? (occB p.lines p.fin old)) ?_ 9 _ ⟨0, rfl, Nat.zero_le _, by simp, by simp, by simp, by simp, by simp, by simp, rfl⟩
  rintro m e ⟨d, rfl, hd, hsz, h0, h1, h2, h11, hb, hr⟩ ih
  rcases Nat.lt_or_ge d 9 with hlt | hge
  · have hlt' : (d : Int) < 9 := by omega
    have hwi : IntKind.i64.wrap ((d : Int) + 1) = ((d + 1 : Nat) : Int) := wrap64_succ (by omega)
    have hw1 : IntKind.i64.wrap (want - d) = want - d := wrap64 (by omega) (by omega)
    have hw2 : IntKind.i64.wrap (want + d) = want + d := wrap64 (by omega) (by omega)
    have o1 := occurs_ev p old (want - d) (by omega) (by omega) hn ho
    have o2 := occurs_ev p old (want + d) (by omega) (by omega) hn ho
    rw [show 9 - d = (9 - (d + 1)) + 1 by omega, placesFrom_succ, List.find?_cons, List.find?_cons] at hr
    cases c1 : occB p.lines p.fin old (want - d) with
    | true =>
      rw [c1] at o1 hr
      simp only at hr
      rw [← hr]
      simp [hsz, h0, h1, h2, h11, hb, hlt, hw1, hw2, hin, o1, findV]
    | false =>
      rw [c1] at o1 hr
      simp only at hr
      cases c2 : occB p.lines p.fin old (want + d) with
      | true =>
        rw [c2] at o2 hr
        simp only at hr
        rw [← hr]
        simp [hsz, h0, h1, h2, h11, hb, hlt, hw1, hw2, hin, o1, o2, findV]
      | false =>
        rw [c2] at o2 hr
        simp only at hr
        simp [hsz, h0, h1, h2, h11, hb, hlt, hw1, hw2, hin, o1, o2, hwi]
        exact ih _ _ (by omega) ⟨d + 1, rfl, by omega, by simp [hsz], by simp [h0], by simp [h1], by simp [h2], by simp, by simp, hr⟩
  · obtain rfl : d = 9 := by omega
    have : (placesFrom want 9 (9 - 9)).find? (occB p.lines p.fin old) = none := rfl
    rw [this] at hr
    rw [← hr]
    simp [hsz, h11, hb, findV]

def findZ (o : Option Int) : Int := match o with
  | some a => a
  | none => -1
theorem l5Find_ev (lines old : Lines) (want : Int) (low : Nat) (ha : -100000 ≤ want) (ha2 : want ≤ 100000) (hn : lines.length ≤ 1048576) (ho : old.length ≤ 1048576) :
    C fn_s_l5Find [.ro (SS lines), .ro (SS old), .ro (I want), .ro (N low)] [] = some (.one (.ro (I (findZ (findP lines low old want)))), []) := by
  refine ctx_call Try.func47 conv_s_l5Find rfl ?_
  unfold findP
  rw [← places_from]
  simp
  refine loop_run (fun m e => ∃ d : Nat, m = 9 - d ∧ d ≤ 9 ∧ e.size = 46 ∧ e.get 0 = .one (.ro (SS lines)) ∧ e.get 1 = .one (.ro (SS old)) ∧ e.get 2 = .one (.ro (I want)) ∧ e.get 3 = .one (.ro (N low)) ∧ e.get 9 = .one (.ro (N d)) ∧
    (placesFrom want d (9 - d)).find? (occB lines low old) = (placesFrom want 0 9).find? (occB lines low old)) ?_ 9 _ ⟨0, rfl, Nat.zero_le _, by simp, by simp, by simp, by simp, by simp, by simp, rfl⟩
  rintro m e ⟨d, rfl, hd, hsz, h0, h1, h2, h3, h9, hr⟩ ih
  rcases Nat.lt_or_ge d 9 with hlt | hge
  · have hlt' : d ≤ 8 := by omega
    have hwi : IntKind.i64.wrap ((d : Int) + 1) = ((d + 1 : Nat) : Int) := wrap64_succ (by omega)
    have hw1 : IntKind.i64.wrap (want - d) = want - d := wrap64 (by omega) (by omega)
    have hw2 : IntKind.i64.wrap (want + d) = want + d := wrap64 (by omega) (by omega)
    have o1 := l5Same_ev lines old (want - d) (by omega) (by omega) hn ho
    have o2 := l5Same_ev lines old (want + d) (by omega) (by omega) hn ho
    rw [show 9 - d = (9 - (d + 1)) + 1 by omega, placesFrom_succ, List.find?_cons, List.find?_cons] at hr
    rw [show occB lines low old (want - d) = (decide ((low : Int) ≤ want - d) && sameAt lines (want - d) old) from rfl, show occB lines low old (want + d) = (decide ((low : Int) ≤ want + d) && sameAt lines (want + d) old) from rfl] at hr
    by_cases l1 : (low : Int) ≤ want - d <;> by_cases l2 : (low : Int) ≤ want + d <;> cases c1 : sameAt lines (want - d) old <;> cases c2 : sameAt lines (want + d) old <;> rw [c1] at o1 <;> rw [c2] at o2 <;> simp only [l1, l2, c1, c2, decide_true, decide_false, Bool.and_false, Bool.and_true] at hr
    all_goals first
      | (rw [← hr]
         simp [hsz, h0, h1, h2, h3, h9, hlt', hw1, hw2, l1, l2, o1, o2, findZ]
         done)
      | (simp [hsz, h0, h1, h2, h3, h9, hlt', hw1, hw2, l1, l2, o1, o2, hwi]
         exact ih _ _ (by omega) ⟨d + 1, rfl, by omega, by simp [hsz], by simp [h0], by simp [h1], by simp [h2], by simp [h3], by simp, hr⟩)
  · obtain rfl : d = 9 := by omega
    have : (placesFrom want 9 (9 - 9)).find? (occB lines low old) = none := rfl
    rw [this] at hr
    rw [← hr]
    simp [hsz, h9, findZ]
end Go.Qz

/- What the functions come to: a hunk is done. -/
namespace Go.Qz
open Go.Proofs

theorem flats_IS (l : List Int) : flats (l.map I) = true := by
  induction l with
  | nil => rfl
  | cons a r ih => simp [flats, D.flat, ih]

/-- A hunk done with a fuzz. -/
def fitP (h : Hk) (f : Nat) (p : Pt) : Option Pt :=
  match findP p.lines p.fin (oldL (trimL h.2 f)) (h.1 - 1 + ctxN h.2 f + p.shift) with
  | none => none
  | some a => some ⟨p.lines.take a.toNat ++ newL (trimL h.2 f) ++ p.lines.drop (a.toNat + (oldL (trimL h.2 f)).length), a.toNat + (newL (trimL h.2 f)).length,
      p.shift + (a - (h.1 - 1 + ctxN h.2 f + p.shift) + (newL (trimL h.2 f)).length - (oldL (trimL h.2 f)).length), p.offs ++ [a - (h.1 - 1 + ctxN h.2 f + p.shift)]⟩

theorem findP_some {lines old : Lines} {fin : Nat} {want a : Int} (h : findP lines fin old want = some a) : (fin : Int) ≤ a ∧ a + old.length ≤ lines.length ∧ want - 8 ≤ a ∧ a ≤ want + 8 := by
  have h1 := List.find?_some h
  have h2 := List.mem_of_find?_eq_some h
  unfold occB sameAt at h1
  simp only [Bool.and_eq_true, decide_eq_true_eq] at h1
  refine ⟨h1.1, h1.2.1.2, ?_⟩
  unfold places at h2
  simp only [List.mem_flatMap, List.mem_range] at h2
  obtain ⟨d, hd, h3⟩ := h2
  simp at h3
  omega

/-- Numbers of a patcher are small. -/
structure PtOk (p : Pt) (k : Nat) : Prop where
  len : p.lines.length ≤ 30 + 30 * k
  shift : -100 * (k : Int) ≤ p.shift ∧ p.shift ≤ 100 * k
  offs : p.offs.length = k

theorem oldL_len (xs : Lines) : (oldL xs).length ≤ xs.length := by
  unfold oldL; rw [List.length_map]; exact List.length_filter_le _ _
theorem newL_len (xs : Lines) : (newL xs).length ≤ xs.length := by
  unfold newL; rw [List.length_map]; exact List.length_filter_le _ _
theorem trimL_len (xs : Lines) (f : Nat) : (trimL xs f).length ≤ xs.length := by
  unfold trimL; rw [List.length_take, List.length_drop]; omega
theorem trimL_mem {xs : Lines} {f : Nat} {x : List UInt8} (h : x ∈ trimL xs f) : x ∈ xs := List.mem_of_mem_drop (List.mem_of_mem_take h)

theorem fitP_ok {h : Hk} {f k : Nat} {p q : Pt} (hp : PtOk p k) (hl : h.2.length ≤ 30) (hq : fitP h f p = some q) : PtOk q (k + 1) := by
  unfold fitP at hq
  split at hq
  · cases hq
  · rename_i a ha
    obtain ⟨h1, h2, h3, h4⟩ := findP_some ha
    cases hq
    have l1 := oldL_len (trimL h.2 f)
    have l2 := newL_len (trimL h.2 f)
    have l3 := trimL_len h.2 f
    have l4 := hp.len
    obtain ⟨l5, l6⟩ := hp.shift
    refine ⟨?_, ?_, by simp [hp.offs]⟩
    · simp only [List.length_append, List.length_take, List.length_drop]; omega
    · constructor <;> (simp only; push_cast; omega)

def fitV (p : Pt) (o : Option Pt) : V × Boxes := match o with
  | some q => (.one (.ro (.bool true)), [(5000, PB q)])
  | none => (.one (.ro (.bool false)), [(5000, PB p)])

theorem fit_ev (p : Pt) (h : Hk) (f k : Nat) (hf : f ≤ 2) (hk : k ≤ 4) (hp : PtOk p k) (hl : h.2.length ≤ 30) (hat : 1 ≤ h.1 ∧ h.1 ≤ 999) (hne : ∀ x ∈ h.2, x ≠ []) :
    C fn_i_patcher_fit [.ptr 5000 0, .ro (HD h), .ro (N f)] [(5000, PB p)] = some (fitV p (fitP h f p)) := by
  refine ctx_call Try.func43 conv_i_patcher_fit rfl ?_
  obtain ⟨hk1, hk2⟩ := ctxN_le h.2 f
  have hc := context_ev h.2 f hf (by omega) hne
  have hcb := contextBehind_ev (h.2.drop (ctxN h.2 f)) f hf (by simp; omega) (fun x hx => hne x (List.mem_of_mem_drop hx))
  have hsd := sides_ev (trimL h.2 f) (Nat.le_trans (trimL_len _ _) hl) (fun x hx => hne x (trimL_mem hx))
  have hpl := hp.len
  obtain ⟨hs1, hs2⟩ := hp.shift
  have l1 := oldL_len (trimL h.2 f)
  have l2 := newL_len (trimL h.2 f)
  have l3 := trimL_len h.2 f
  have hfd := find_ev p (oldL (trimL h.2 f)) (h.1 - 1 + ctxN h.2 f + p.shift) (by omega) (by omega) (by omega) (by omega)
  obtain ⟨hb1, hb2⟩ := ctxN_le (h.2.drop (ctxN h.2 f)).reverse f
  rw [List.length_reverse] at hb2
  have hdl : (h.2.drop (ctxN h.2 f)).length = h.2.length - ctxN h.2 f := by simp
  unfold fitP
  generalize hcn : ctxN h.2 f = cn at *
  generalize hcbn : ctxN (h.2.drop cn).reverse f = cb at *
  have htr : trimL h.2 f = (h.2.drop cn).take (h.2.length - cn - cb) := by
    unfold trimL
    rw [hcn, hcbn, hdl]
  have hkept : (h.2.drop cn).take (h.2.length - cn - cb) = trimL h.2 f := htr.symm
  have hw1 : IntKind.i64.wrap ((h.2.length : Int) - cn - cb) = (h.2.length : Int) - cn - cb := wrap64 (by omega) (by omega)
  have hw2 : IntKind.i64.wrap (h.1 - 1) = h.1 - 1 := wrap64 (by omega) (by omega)
  have hw3 : IntKind.i64.wrap (h.1 - 1 + cn) = h.1 - 1 + cn := wrap64 (by omega) (by omega)
  have hw4 : IntKind.i64.wrap (h.1 - 1 + cn + p.shift) = h.1 - 1 + cn + p.shift := wrap64 (by omega) (by omega)
  generalize htl : trimL h.2 f = tl at *
  generalize oldL tl = od at *
  generalize newL tl = nw at *
  have b1 : (cn : Int) ≤ h.2.length := by omega
  have c1 : C fn_i_context [.ro (.sl 1 (h.2.map T)), .ro (.int .i64 (f : Int))] [] = some (.one (.ro (.int .i64 cn)), []) := hc
  have ht : List.take h.2.length (List.map T h.2) = List.map T h.2 := by rw [← List.map_take, List.take_length]
  simp only [SS, List.map_drop] at hcb
  obtain ⟨n1, hn1⟩ : ∃ n1 : Nat, h.2.length - cn = n1 := ⟨_, rfl⟩
  have hw5 : IntKind.i64.wrap ((n1 : Int) - cb) = ((n1 - cb : Nat) : Int) := by rw [wrap64 (by omega) (by omega)]; omega
  have b2 : n1 - cb ≤ n1 := by omega
  have ht2 : List.take (n1 - cb) (List.drop cn (List.map T h.2)) = List.map T tl := by rw [← hkept, hn1, List.map_take, List.map_drop]
  cases hfo : findP p.lines p.fin od (h.1 - 1 + cn + p.shift) with
  | none =>
    rw [hfo] at hfd
    simp only [findV] at hfd
    simp [hc, ht, b1, hcb, hn1, hw5, b2, ht2, hsd, hw2, hw3, hw4, hfd, fitV]
  | some a =>
    obtain ⟨g1, g2, g3, g4⟩ := findP_some hfo
    rw [hfo] at hfd
    simp only [findV] at hfd
    obtain ⟨a, rfl⟩ := Int.eq_ofNat_of_zero_le (show 0 ≤ a by omega)
    obtain ⟨q, hq⟩ : ∃ q, a + od.length = q := ⟨_, rfl⟩
    obtain ⟨r, hr⟩ : ∃ r, a + nw.length = r := ⟨_, rfl⟩
    have hrp := replace_ev (p.lines.map T) (nw.map T) a q (flats_T _) (flats_T _) (by omega) (by simp; omega) (by simp; omega)
    have wr1 : IntKind.i64.wrap ((a : Int) + od.length) = (q : Int) := by rw [wrap64 (by omega) (by omega)]; omega
    have wr2 : IntKind.i64.wrap ((a : Int) + nw.length) = (r : Int) := by rw [wrap64 (by omega) (by omega)]; omega
    obtain ⟨W, hW⟩ : ∃ W, h.1 - 1 + cn + p.shift = W := ⟨_, rfl⟩
    have hw4' : IntKind.i64.wrap (h.1 - 1 + cn + p.shift) = W := by rw [hw4, hW]
    rw [hW] at hfd g3 g4 ⊢
    clear hw4 hfo
    have wr3 : IntKind.i64.wrap ((a : Int) - W) = (a : Int) - W := wrap64 (by omega) (by omega)
    have wr4 : IntKind.i64.wrap ((a : Int) - W + nw.length) = (a : Int) - W + nw.length := wrap64 (by omega) (by omega)
    have wr5 : IntKind.i64.wrap ((a : Int) - W + nw.length - od.length) = (a : Int) - W + nw.length - od.length := wrap64 (by omega) (by omega)
    have wr6 : IntKind.i64.wrap (p.shift + ((a : Int) - W + nw.length - od.length)) = p.shift + ((a : Int) - W + nw.length - od.length) := wrap64 (by omega) (by omega)
    have ha : p.offs.length + 1 ≤ appendMax := by have := hp.offs; simp [appendMax]; omega
    simp [hc, ht, b1, hcb, hn1, hw5, b2, ht2, hsd, hw2, hw3, hw4', hfd, fitV, wr1, wr2, wr3, wr4, wr5, wr6, hrp, ha, hq, hr]
end Go.Qz
