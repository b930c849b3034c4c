/- The evaluator of the claim and what it says, part Qx0 (several texts in one). -/
import Derived.Test.YtlhjljepbdnomaaDoorQu0
import Derived.Test.YtlhjljepbdnomaaDoorQw0
import Derived.Test.YtlhjljepbdnomaaDoorQq0
import Derived.Test.YtlhjljepbdnomaaDoorQv0
import Derived.Test.YtlhjljepbdnomaaDoorQb3
/- What comes by contract, proved. -/
namespace Go.Qz
open Go.Proofs Go.RowKit

theorem mixed : Tryd.prog.follows .mixedOrders = true := by kernel_rfl
theorem noGo : (Tryd.prog.funcs.all fun fn => !(fn.name == "runtime.NumGoroutine")) = true := by kernel_rfl
theorem noName (f : FuncId) (fn : Func) (hf : Tryd.prog.funcs[f]? = some fn) : fn.name ≠ "runtime.NumGoroutine" := fun hn => by
  have h := Array.all_eq_true_iff_forall_mem.1 noGo fn (Array.mem_of_getElem? hf)
  rw [hn] at h
  exact absurd h (by decide)
theorem hasBody {f : FuncId} {fn : Func} (hf : Tryd.prog.funcs[f]? = some fn) (hb : fn.body.isSome = true) : HasBody Tryd.prog f := ⟨fn, hf, hb, noName f fn hf⟩

theorem RO.takeSl {c : Mem} {z k cap : Nat} {xs : List D} {a : Option Addr} (h : RO c (.sl z xs) (.slice a xs.length cap)) (hk : k ≤ xs.length) : RO c (.sl z (xs.take k)) (.slice a k cap) := by
  obtain ⟨a', cap', e1, h1, h2⟩ := h.sl_inv
  cases e1
  by_cases hx : xs = []
  · subst hx
    obtain rfl : k = 0 := by simpa using hk
    exact .sl0
  · obtain ⟨b, off, u, rfl, h3, h4, h5⟩ := h2 hx
    have hlen : (xs.take k).length = k := by rw [List.length_take]; omega
    have := @RO.sl c z (xs.take k) b off cap u (by omega) (fun x hx => h3 x (List.mem_of_mem_take hx)) (fun m hm => h4 m (Nat.lt_of_lt_of_le hm (Nat.mul_le_mul_right _ (by omega)))) (fun m d hd => h5 m d (flat_take h3 hk hd))
    rw [hlen] at this
    exact this

theorem xOpen_sound [Base] : CallSound Tryd.prog xOpen := by
  intro f us bx r bx' h
  unfold xOpen at h
  split at h
  · rename_i hf
    subst hf
    split at h
    · rename_i z xs
      split at h
      · rename_i hc
        subst hc
        simp only [Option.some.injEq, Prod.mk.injEq] at h
        obtain ⟨rfl, rfl⟩ := h
        refine ⟨hasBody Tryd.func42 (by kernel_rfl), fun g w vs hsz hs => ?_⟩
        have e0 : RO g.c (.sl 1 xs) (vs.getD 0 undef) := start_get hs (a := .ro (.sl 1 xs)) rfl
        obtain ⟨a, cap, hu, hcap, _⟩ := e0.sl_inv
        have e : vs = #[.slice a xs.length cap] := by
          simp only [List.length_singleton] at hsz
          refine Array.ext (by simpa using hsz) (fun k hk hk' => ?_)
          obtain rfl : k = 0 := by omega
          simpa [Array.getD_eq_getD_getElem?, hk] using hu
        subst e
        have hro : RO g.c (.sl 1 xs) (.slice a xs.length cap) := hu ▸ e0
        have fin : ∀ k, k ≤ xs.length → xs.take 2000 = xs.take k → Post g (startEnv 1 [A.ro (.sl 1 xs)] []) w (.agg [.ro (.sl 1 (xs.take 2000)), .ro (.int .i64 0)]) [] (.pointer (some ⟨w.heap.size, 0, none⟩)) (w.alloc (.cells #[.slice a k cap, .int .i64 0] 107)) := by
          intro k hk he
          refine ⟨#[.slice a k cap, .int .i64 0], 107, rfl, rfl, rfl, fun j d hd => ?_⟩
          match j, hd with
          | 0, hd =>
            simp only [List.getElem?_cons_zero, Option.some.injEq, A.ro.injEq] at hd
            subst hd
            rw [he]
            exact ⟨rfl, hro.takeSl hk⟩
          | 1, hd =>
            simp at hd
            subst hd
            exact ⟨rfl, .int _ _⟩
          | j + 2, hd => simp at hd
        by_cases hlen : xs.length ≤ 2000
        · refine (open_short a xs.length cap hlen w).mono ?_
          rintro en w' ⟨rfl, rfl⟩
          exact ⟨_, rfl, fin xs.length (Nat.le_refl _) (by rw [List.take_of_length_le hlen, List.take_length])⟩
        · refine (open_long a xs.length cap (by omega) hcap w).mono ?_
          rintro en w' ⟨rfl, rfl⟩
          exact ⟨_, rfl, fin 2000 (by omega) rfl⟩
      · cases h
    · cases h
  · cases h

/-- What the start holds: the longest needle, the powers of ten. -/
structure Start (W : World) : Prop where
  maxLen : ∃ m : Int, W.cell? ⟨0, 0, none⟩ = some (.int .i64 m)

theorem XS_sound [Base] (hT : Start Base.W0) : CallSound Tryd.prog XS :=
  orX_sound (xIndex_sound (hasBody Tryd.func109 (by kernel_rfl)) hT.maxLen (fun s t m w h hm => Tryd.strings_Index s t m w h hm)) <|
  orX_sound (xSeq_sound (hasBody Tryd.func92 (by kernel_rfl)) seq_made) <|
  orX_sound (xCut_sound (hasBody Tryd.func52 (by kernel_rfl)) hT.maxLen (fun s t m w h hm => Tryd.strings_Cut s t m w h hm)) <|
  orX_sound (xSplitN_sound (hasBody Tryd.func53 (by kernel_rfl)) hT.maxLen (fun s t n m w h hm h1 h2 h3 => Tryd.strings_SplitN s t n m w h hm h1 (by omega) (by omega))) <|
  orX_sound (xLast_sound (hasBody Tryd.func101 (by kernel_rfl)) (fun s c w h => Tryd.strings_LastIndexByte s c h w)) <|
  orX_sound (xCopy_sound (hasBody Tryd.func74 (by kernel_rfl)) (fun b w h0 h1 h2 => Tryd.copyCheck_fresh b w h0 h1 h2) (fun b w h0 => Tryd.copyCheck_used b w h0)) <|
  orX_sound (xText_sound (hasBody Tryd.func45 (by kernel_rfl)) (fun s b p v tag w h0 h1 => string_any Tryd.lays169 Tryd.Builder_Extra_169 b s p v tag w h0 h1)) <|
  orX_sound xOpen_sound <|
  noX_sound
theorem seqOk : SeqOk Tryd.prog ioS := fun f hf => by
  rw [seq_is] at hf
  obtain rfl : f = 127 := by simpa using hf
  exact ⟨hasBody Tryd.func127 (by kernel_rfl), seq_runs⟩
theorem sound [Base] (hT : Start Base.W0) : CallSound Tryd.prog C := callLim_sound mixed (XS_sound hT) seqOk noName
end Go.Qz

/- What the functions come to: sizes. -/
namespace Go.Qz
open Go.Proofs

abbrev Lines := List (List UInt8)
abbrev SS (xs : Lines) : D := .sl 1 (xs.map T)
abbrev I (n : Int) : D := .int .i64 n
abbrev N (n : Nat) : D := .int .i64 (n : Int)

@[simp] theorem flats_T (xs : Lines) : flats (xs.map T) = true := by
  induction xs with
  | nil => rfl
  | cons a r ih => simp [flats, D.flat, ih]

def szL : Lines → Int → Int
  | [], l => l
  | x :: r, l => if l - x.length < 0 then -1 else szL r (l - x.length)
def szSS (xs : Lines) (l : Int) : Int := if l - xs.length < 0 then -1 else szL xs (l - xs.length)

end Go.Qz

/- What the functions come to: plain text. -/
namespace Go.Qz
open Go.Proofs

def plainB (b : UInt8) : Bool := decide (32 ≤ b.toNat) && decide (b.toNat ≤ 126)
def plainT (l : List UInt8) : Bool := decide (l.length ≤ 80) && l.all plainB
def seenT (l : List UInt8) : Bool := l.all plainB && decide (l.length ≤ 80)
theorem seen_plain (l : List UInt8) : seenT l = plainT l := by unfold seenT plainT; exact Bool.and_comm _ _
def inI (n a b : Int) : Bool := decide (a ≤ n) && decide (n ≤ b)

theorem plainByte_ev (b : UInt8) : C fn_i_plainByte [.ro (.int .u8 b.toNat)] [] = some (.one (.ro (.bool (plainB b))), []) := by
  refine ctx_call Tryd.func100 conv_i_plainByte rfl ?_
  unfold plainB
  by_cases h : 32 ≤ b.toNat <;> simp [h]

theorem l1In_ev (n a b : Int) : C fn_s_l1In [.ro (I n), .ro (I a), .ro (I b)] [] = some (.one (.ro (.bool (inI n a b))), []) := by
  refine ctx_call Tryd.func57 conv_s_l1In rfl ?_
  unfold inI
  by_cases h : a ≤ n <;> simp [h]

theorem in_plain (b : UInt8) : inI b.toNat 32 126 = plainB b := by
  unfold inI plainB
  congr 1
  · simp
  · simp

end Go.Qz

/- Cutting texts: plain laws, and what the library's and the reference's functions come to. -/
namespace Go.Qz
open Go.Proofs

/-- What stands ahead of the first such byte, and behind it. -/
def brk (b : UInt8) : List UInt8 → Option (List UInt8 × List UInt8)
  | [] => none
  | c :: r => if c == b then some ([], r) else (brk b r).map fun p => (c :: p.1, p.2)
theorem brk_app {b : UInt8} : ∀ {d n r : List UInt8}, brk b d = some (n, r) → d = n ++ b :: r
  | [], n, r, h => by cases h
  | c :: d, n, r, h => by
    unfold brk at h
    split at h
    · rename_i hc
      cases h
      have : c = b := by simpa using hc
      rw [this]; rfl
    · obtain ⟨p, hp, he⟩ := Option.map_eq_some_iff.1 h
      cases he
      rw [brk_app (n := p.1) (r := p.2) hp]
      rfl
theorem brk_name {b : UInt8} : ∀ {n : List UInt8} (r : List UInt8), (∀ c ∈ n, c ≠ b) → brk b (n ++ b :: r) = some (n, r)
  | [], r, _ => by simp [brk]
  | c :: n, r, h => by
    have hc : (c == b) = false := by have := h c (by simp); simpa using this
    rw [List.cons_append, brk, hc, brk_name r (fun b hb => h b (by simp [hb]))]
    rfl
theorem brk_none {b : UInt8} : ∀ {n : List UInt8}, (∀ c ∈ n, c ≠ b) → brk b n = none
  | [], _ => rfl
  | c :: n, h => by
    have hc : (c == b) = false := by have := h c (by simp); simpa using this
    rw [brk, hc, brk_none (fun b hb => h b (by simp [hb]))]
    rfl
theorem brk_free {b : UInt8} : ∀ {d n r : List UInt8}, brk b d = some (n, r) → ∀ c ∈ n, c ≠ b
  | [], n, r, h => by cases h
  | c :: d, n, r, h => by
    unfold brk at h
    split at h
    · cases h; intro c hc; simp at hc
    · rename_i hc
      obtain ⟨p, hp, he⟩ := Option.map_eq_some_iff.1 h
      cases he
      intro x hx
      rcases List.mem_cons.1 hx with rfl | hx
      · simpa using hc
      · exact brk_free (n := p.1) (r := p.2) hp x hx
theorem index_brk (b : UInt8) : ∀ d : List UInt8, (brk b d = none ∧ Lib.index d [b] = -1) ∨ ∃ n r, brk b d = some (n, r) ∧ Lib.index d [b] = n.length
  | [] => .inl ⟨rfl, by simp [Lib.index]⟩
  | c :: r => by
    have hb : (b == c) = (c == b) := Bool.beq_comm
    unfold brk
    cases hc : c == b with
    | true =>
      refine .inr ⟨[], r, rfl, ?_⟩
      rw [hc] at hb
      simp [Lib.index, List.isPrefixOf, hb]
    | false =>
      rw [hc] at hb
      have h1 : Lib.index (c :: r) [b] = if Lib.index r [b] == -1 then -1 else Lib.index r [b] + 1 := by
        simp [Lib.index, List.isPrefixOf, hb]
      rcases index_brk b r with ⟨x1, x2⟩ | ⟨n, q, x1, x2⟩
      · refine .inl ⟨by rw [x1]; rfl, by rw [h1, x2]; rfl⟩
      · refine .inr ⟨c :: n, q, by rw [x1]; rfl, ?_⟩
        rw [h1, x2]
        have : ((n.length : Int) == -1) = false := by rw [beq_eq_false_iff_ne]; omega
        rw [this]
        simp
theorem cut_brk (b : UInt8) (d : List UInt8) : Lib.cut d [b] = (match brk b d with | some p => (p.1, p.2, true) | none => (d, [], false)) := by
  rcases index_brk b d with ⟨x1, x2⟩ | ⟨n, r, x1, x2⟩
  · rw [x1]
    simp [Lib.cut, x2]
  · have ha := brk_app x1
    rw [x1]
    simp only [Lib.cut, x2, if_pos (show (0 : Int) ≤ n.length by omega), Int.toNat_natCast, List.length_singleton]
    rw [ha]
    simp

/-- A text cut at a byte, so many times at most; 'pre' stands ahead. -/
def cutP (b : UInt8) : Nat → List UInt8 → List UInt8 → Lines
  | _, pre, [] => [pre]
  | 0, pre, c :: r => [pre ++ c :: r]
  | k + 1, pre, c :: r => if c == b then pre :: cutP b k [] r else cutP b (k + 1) (pre ++ [c]) r
theorem cutP_zero (b : UInt8) (pre s : List UInt8) : cutP b 0 pre s = [pre ++ s] := by cases s <;> simp [cutP]
theorem cutP_brk (b : UInt8) (k : Nat) : ∀ (s pre : List UInt8), cutP b (k + 1) pre s = (match brk b s with | some p => (pre ++ p.1) :: cutP b k [] p.2 | none => [pre ++ s])
  | [], pre => by simp [cutP, brk]
  | c :: r, pre => by
    rw [cutP, brk]
    split
    · simp
    · rw [cutP_brk b k r]
      cases h : brk b r with
      | none => simp
      | some p => simp
theorem cutP_ge (b : UInt8) : ∀ (k k' : Nat) (s pre : List UInt8), s.length ≤ k → s.length ≤ k' → cutP b k pre s = cutP b k' pre s
  | _, _, [], pre, _, _ => by simp [cutP]
  | 0, _, c :: r, _, h, _ => by simp at h
  | _, 0, c :: r, _, _, h => by simp at h
  | k + 1, k' + 1, c :: r, pre, h, h' => by
    simp only [List.length_cons] at h h'
    rw [cutP, cutP]
    split
    · rw [cutP_ge b k k' r [] (by omega) (by omega)]
    · exact cutP_ge b (k + 1) (k' + 1) r _ (by omega) (by omega)

theorem splitK_cut (b : UInt8) : ∀ (k : Nat) (s : List UInt8), Lib.splitK [b] 0 k s = cutP b k [] s
  | 0, s => by rw [cutP_zero]; rfl
  | k + 1, s => by
    rw [cutP_brk]
    rcases index_brk b s with ⟨x1, x2⟩ | ⟨n, r, x1, x2⟩
    · rw [x1]
      unfold Lib.splitK
      simp [x2]
    · have ha := brk_app x1
      rw [x1]
      unfold Lib.splitK
      have : ((n.length : Int) == -1) = false := by rw [beq_eq_false_iff_ne]; omega
      simp only [x2, this, Bool.false_eq_true, if_false, Int.toNat_natCast, List.nil_append, List.length_singleton, Nat.add_zero]
      rw [splitK_cut b k]
      rw [ha]
      simp
theorem splitNk_ev (s : List UInt8) (b : UInt8) (k : Nat) (m0 : Int) (hm0 : m0 = ((k + 1 : Nat) : Int)) (hk : k ≤ 999999) (h : s.length < 4294967281) : C 53 [.ro (T s), .ro (T [b]), .ro (.int .i64 m0)] [] = some (.one (.own (SS (cutP b k [] s))), []) := by
  subst hm0
  have h0 := splitN_str ⟨s.toArray⟩ ⟨[b].toArray⟩ ((k + 1 : Nat) : Int) (by simpa using h) (by simp [ByteArray.size]) (by omega) (by omega)
  have e1 : (Lib.splitB ⟨[b].toArray⟩ 0 (min ((k + 1 : Nat) : Int).toNat ((⟨s.toArray⟩ : ByteArray).size + 1) - 1) ⟨s.toArray⟩).map D.str = (cutP b k [] s).map T := by
    have h1 := Lib.splitB_data ⟨[b].toArray⟩ 0 (min ((k + 1 : Nat) : Int).toNat ((⟨s.toArray⟩ : ByteArray).size + 1) - 1) ⟨s.toArray⟩
    rw [splitK_cut] at h1
    have hk : cutP b (min ((k + 1 : Nat) : Int).toNat ((⟨s.toArray⟩ : ByteArray).size + 1) - 1) [] s = cutP b k [] s := by
      have hs : (⟨s.toArray⟩ : ByteArray).size = s.length := by simp [ByteArray.size]
      rw [hs]
      by_cases h3 : k ≤ s.length
      · rw [show min ((k + 1 : Nat) : Int).toNat (s.length + 1) - 1 = k by omega]
      · exact cutP_ge b _ _ _ _ (by omega) (by omega)
    have h2 : (⟨s.toArray⟩ : ByteArray).data.toList = s := rfl
    rw [h2, hk] at h1
    rw [← h1, List.map_map]
    refine List.map_congr_left (fun x _ => ?_)
    simp [T]
  rw [e1] at h0
  exact h0
theorem splitN_ev (s : List UInt8) (b : UInt8) (h : s.length < 4294967281) : C 53 [.ro (T s), .ro (T [b]), .ro (.int .i64 4)] [] = some (.one (.own (SS (cutP b 3 [] s))), []) := splitNk_ev s b 3 4 rfl (by omega) h
end Go.Qz

/- What the reference's cutting comes to. -/
namespace Go.Qz
open Go.Proofs

theorem l1Cut_ev (s : List UInt8) (b : UInt8) (most : Nat) (m0 : Int) (hm0 : m0 = most) (hs : s.length ≤ 1048576) (hm : most ≤ 2000000) :
    C fn_s_l1Cut [.ro (T s), .ro (.int .u8 b.toNat), .ro (.int .i64 m0)] [] = some (.one (.own (SS (cutP b most [] s))), []) := by
  subst hm0
  refine ctx_call Tryd.func84 conv_s_l1Cut rfl ?_
  simp
  refine loop_run (fun m e => ∃ (out : Lines) (pre rest : List UInt8) (i j : Nat), m = rest.length ∧ s.drop i = pre ++ rest ∧ j = i + pre.length ∧ j + rest.length = s.length ∧ out.length ≤ most ∧ out.length ≤ s.length ∧ out.length ≤ i ∧ e.size = 43 ∧ e.get 0 = .one (.ro (T s)) ∧ e.get 1 = .one (.ro (.int .u8 b.toNat)) ∧ e.get 2 = .one (.ro (N most)) ∧ e.get 7 = .one (.own (SS out)) ∧
      e.get 8 = .one (.ro (N i)) ∧ e.get 9 = .one (.ro (N j)) ∧ out ++ cutP b (most - out.length) pre rest = cutP b most [] s)
    ?_ s.length _ ⟨[], [], s, 0, 0, rfl, rfl, rfl, by simp, by simp, by simp, by simp, by simp, by simp, by simp, by simp, by simp, by simp, by simp, by simp⟩
  rintro m e ⟨out, pre, rest, i, j, rfl, hd, hj, hjl, ho, hos, hoi, hsz, h0, h1, h2, h7, h8, h9, hr⟩ ih
  have ha : out.length + 1 ≤ appendMax := by simp [appendMax]; omega
  have hil : i ≤ s.length := by omega
  have hil' : (i : Int) ≤ s.length := by omega
  have fin : List.drop i (List.take s.length s) = pre ++ rest := by rw [List.take_length]; exact hd
  cases rest with
  | nil =>
    have hlt : ¬ j < s.length := by simp at hjl; omega
    rw [cutP] at hr
    simp at fin
    simp [hsz, h0, h2, h7, h8, h9, hlt, ha, hil', hd, ← hr]
  | cons c r =>
    have hlt : j < s.length := by simp at hjl; omega
    by_cases hmo : out.length < most
    · have hget : s[j] = c := by
        have h3 : (s.drop i)[pre.length]? = some c := by rw [hd]; simp
        rw [List.getElem?_drop, ← hj, List.getElem?_eq_getElem hlt] at h3
        exact Option.some.inj h3
      have hsl : List.drop i (List.take j s) = pre := by
        rw [List.drop_take, hd, hj, Nat.add_sub_cancel_left, List.take_left]
      have hij : i ≤ j := by omega
      have hjs : j ≤ s.length := by omega
      have hij' : (i : Int) ≤ j := by omega
      have hwj : IntKind.i64.wrap ((j : Int) + 1) = ((j + 1 : Nat) : Int) := wrap64_succ (by omega)
      have hsd : s.drop (j + 1) = r := by
        have h3 : (s.drop i).drop (pre.length + 1) = r := by rw [hd]; simp
        rw [List.drop_drop] at h3
        rw [← h3]; congr 1; omega
      have hk : most - out.length = (most - out.length - 1) + 1 := by omega
      rw [hk, cutP] at hr
      cases hcb : c == b with
      | true =>
        obtain rfl : c = b := by simpa using hcb
        rw [if_pos hcb] at hr
        simp [hsz, h0, h1, h2, h7, h8, h9, hlt, ha, hmo, hget, hij', hjs, hwj, hsl]
        exact ih _ _ (by simp) ⟨out ++ [pre], [], r, j + 1, j + 1, rfl, by simp [hsd], by simp, by simp at hjl ⊢; omega, by simp; omega, by simp; omega, by simp; omega, by simp [hsz], by simp [h0], by simp [h1], by simp [h2], by simp, by simp, by simp, by
          rw [← hr]; simp [show most - (out.length + 1) = most - out.length - 1 by omega]⟩
      | false =>
        have hne : ¬ c = b := by simpa using hcb
        have hne' : (c.toNat == b.toNat) = false := by rw [beq_eq_false_iff_ne]; exact fun h => hne (UInt8.toNat_inj.1 h)
        rw [if_neg (by simp [hcb])] at hr
        simp [hsz, h0, h1, h2, h7, h9, hlt, hmo, hget, hwj, hne']
        refine ih r.length _ (by simp) ⟨out, pre ++ [c], r, i, j + 1, rfl, by simp [hd], by simp; omega, by simp at hjl ⊢; omega, ho, hos, hoi, by simp [hsz], by simp [h0], by simp [h1], by simp [h2], by simp [h7], by simp [h8], by simp, ?_⟩
        rw [← hr, ← hk]
    · have hmo' : most - out.length = 0 := by omega
      rw [hmo', cutP] at hr
      simp [hsz, h0, h2, h7, h8, h9, hlt, ha, hmo, hil', hd, ← hr]
end Go.Qz

/- Numbers that are read. -/
namespace Go.Qz
open Go.Proofs

def figB (b : UInt8) : Bool := decide (48 ≤ b.toNat) && decide (b.toNat ≤ 57)
def goN : Nat → List UInt8 → Option Nat
  | n, [] => some n
  | n, c :: r => if figB c then goN (n * 10 + (c.toNat - 48)) r else none
def lead0 (l : List UInt8) : Bool := match l with
  | c :: _ :: _ => c == 48
  | _ => false
def numS (l : List UInt8) : Int := match goN 0 l with
  | some n => if decide (l.length ≤ 6) && !l.isEmpty && !lead0 l then n else -1
  | none => -1
def numI (l : List UInt8) (most : Nat) : Nat × Bool := if l.isEmpty || decide (9 < l.length) || lead0 l then (0, false) else match goN 0 l with
  | some n => if most < n then (0, false) else (n, true)
  | none => (0, false)

def numV (o : Option Nat) (most : Nat) : Nat × Bool := match o with
  | some n => if most < n then (0, false) else (n, true)
  | none => (0, false)

theorem fig_sub {c : UInt8} (h : figB c = true) : IntKind.u8.wrap ((c.toNat : Int) - 48) = ((c.toNat - 48 : Nat) : Int) ∧ ¬ c.toNat < 48 ∧ ¬ 57 < c.toNat ∧ c.toNat - 48 ≤ 9 := by
  unfold figB at h
  simp only [Bool.and_eq_true, decide_eq_true_eq] at h
  refine ⟨?_, by omega, by omega, by omega⟩
  show ((c.toNat : Int) - 48) % 256 = _
  omega
theorem fig_not {c : UInt8} (h : figB c = false) : c.toNat < 48 ∨ (¬ c.toNat < 48 ∧ 57 < c.toNat) := by
  unfold figB at h
  simp only [Bool.and_eq_false_iff, decide_eq_false_iff_not] at h
  omega

theorem number_loop (l : List UInt8) (most : Nat) (hlen : l.length ≤ 9) (_ : most ≤ 1000000) (e : Env) (hsz : e.size = 53) (h0 : e.get 0 = .one (.ro (T l))) (h1 : e.get 1 = .one (.ro (N most))) (h6 : e.get 6 = .one (.ro (N 0))) (h26 : e.get 26 = .one (.ro (N l.length))) (h27 : e.get 27 = .one (.ro (N 0))) :
    Run cx q_i_number_l0.loop e [Fr.blk 0, Fr.seq q_i_number_c4, Fr.fn [(ResultVar.tmp 4, 3), (ResultVar.tmp 5, 4)] []] = some (.tup [.ro (N (numV (goN 0 l) most).1), .ro (.bool (numV (goN 0 l) most).2)], []) := by
  refine loop_run (fun m e => ∃ i n, m = l.length - i ∧ i ≤ l.length ∧ n < 10 ^ i ∧ e.size = 53 ∧ e.get 0 = .one (.ro (T l)) ∧ e.get 1 = .one (.ro (N most)) ∧ e.get 6 = .one (.ro (N n)) ∧ e.get 26 = .one (.ro (N l.length)) ∧ e.get 27 = .one (.ro (N i)) ∧ goN n (l.drop i) = goN 0 l)
    ?_ l.length _ ⟨0, 0, rfl, Nat.zero_le _, by simp, hsz, h0, h1, h6, h26, h27, rfl⟩
  clear hsz h0 h1 h6 h26 h27
  rintro m e ⟨i, n, rfl, hi, hn, hsz, h0, h1, h6, h26, h27, hr⟩ ih
  rcases Nat.lt_or_ge i l.length with hlt | hge
  · have hp : 10 ^ i ≤ 10 ^ 8 := Nat.pow_le_pow_right (by omega) (by omega)
    have hp2 : 10 ^ (i + 1) = 10 ^ i * 10 := Nat.pow_succ _ _
    have hwi : IntKind.i64.wrap ((i : Int) + 1) = ((i + 1 : Nat) : Int) := wrap64_succ (by omega)
    have hd : l.drop i = l[i] :: l.drop (i + 1) := List.drop_eq_getElem_cons hlt
    rw [hd, goN] at hr
    obtain ⟨c, hc⟩ : ∃ c, l[i] = c := ⟨_, rfl⟩
    rw [hc] at hr
    cases hf : figB c with
    | false =>
      rw [hf] at hr
      simp only [Bool.false_eq_true, if_false] at hr
      rcases fig_not hf with h | ⟨h, h'⟩
      · simp [hsz, h0, h26, h27, hlt, hc, h, ← hr, numV]
      · simp [hsz, h0, h26, h27, hlt, hc, h, h', ← hr, numV]
    | true =>
      rw [hf] at hr
      simp only [if_true] at hr
      obtain ⟨g1, g2, g3, g4⟩ := fig_sub hf
      generalize c.toNat - 48 = d at *
      have hw1 : IntKind.i64.wrap ((n : Int) * 10) = ((n * 10 : Nat) : Int) := by rw [wrap64 (by omega) (by omega)]; omega
      have hw2 : IntKind.i64.wrap (d : Int) = d := wrap64 (by omega) (by omega)
      have hw3 : IntKind.i64.wrap (((n * 10 : Nat) : Int) + (d : Int)) = ((n * 10 + d : Nat) : Int) := by rw [wrap64 (by omega) (by omega)]; omega
      have hlt2 : n * 10 + d < 10 ^ (i + 1) := by omega
      generalize n * 10 + d = q at *
      generalize n * 10 = p at *
      simp [hsz, h0, h6, h26, h27, hlt, hc, g1, g2, g3, hwi, hw1, hw2, hw3]
      exact ih _ _ (by omega) ⟨i + 1, q, rfl, by omega, hlt2, by simp [hsz], by simp [h0], by simp [h1], by simp, by simp [h26], by simp, hr⟩
  · obtain rfl : i = l.length := by omega
    rw [List.drop_length, goN] at hr
    by_cases hmn : most < n
    · simp [hsz, h1, h6, h26, h27, hmn, ← hr, numV]
    · simp [hsz, h1, h6, h26, h27, hmn, ← hr, numV]

theorem number_ev (l : List UInt8) (most : Nat) (m0 : Int) (hm0 : m0 = most) (hl : l.length ≤ 1048576) (hm : most ≤ 1000000) :
    C fn_i_number [.ro (T l), .ro (.int .i64 m0)] [] = some (.tup [.ro (N (numI l most).1), .ro (.bool (numI l most).2)], []) := by
  subst hm0
  refine ctx_call Tryd.func54 conv_i_number rfl ?_
  unfold numI
  cases l with
  | nil => simp
  | cons c0 r0 =>
    by_cases h9 : 9 < r0.length + 1
    · have h9' : (9 : Int) < (r0.length : Int) + 1 := by omega
      simp [h9, h9']
    · have h9' : ¬ (9 : Int) < (r0.length : Int) + 1 := by omega
      have hlead : lead0 (c0 :: r0) = (decide ((1 : Int) < (r0.length : Int) + 1) && c0 == 48) := by
        cases r0 with
        | nil => simp [lead0]
        | cons b q => simp [lead0]; omega
      cases hl0 : lead0 (c0 :: r0) with
      | true =>
        rw [hl0] at hlead
        have h1 : (1 : Int) < (r0.length : Int) + 1 := by
          by_cases h : (1 : Int) < (r0.length : Int) + 1
          · exact h
          · simp [h] at hlead
        have h2 : (c0 == 48) = true := by simpa [h1] using hlead.symm
        simp [h9, h9', h1, h2]
      | false =>
        rw [hl0] at hlead
        have hg : (if (List.isEmpty (c0 :: r0) || decide (9 < List.length (c0 :: r0)) || false) = true then ((0 : Nat), false) else match goN 0 (c0 :: r0) with
            | some n => if most < n then (0, false) else (n, true)
            | none => (0, false)) = numV (goN 0 (c0 :: r0)) most := by
          rw [if_neg (by simp; omega)]
          rfl
        rw [hg]
        have hlen : (c0 :: r0).length ≤ 9 := by simp; omega
        by_cases h1 : (1 : Int) < (r0.length : Int) + 1
        · have h2 : (c0 == 48) = false := by simpa [h1] using hlead.symm
          simp [h9', h1, h2]
          exact number_loop (c0 :: r0) most hlen hm _ (by simp) (by simp) (by simp) (by simp) (by simp) (by simp)
        · simp [h9', h1]
          exact number_loop (c0 :: r0) most hlen hm _ (by simp) (by simp) (by simp) (by simp) (by simp) (by simp)
end Go.Qz

/- Numbers that the reference reads. -/
namespace Go.Qz
open Go.Proofs

theorem numS_long {l : List UInt8} (h : 6 < l.length) : numS l = -1 := by
  unfold numS
  split
  · rw [show decide (l.length ≤ 6) = false by simp; omega]
    simp
  · rfl
theorem l1Num_ev (l : List UInt8) (hl : l.length ≤ 1048576) : C fn_s_l1Num [.ro (T l)] [] = some (.one (.ro (I (numS l))), []) := by
  refine ctx_call Tryd.func85 conv_s_l1Num rfl ?_
  simp
  refine loop_run (fun m e => ∃ i n, m = l.length - i ∧ i ≤ l.length ∧ i ≤ 6 ∧ n < 10 ^ i ∧ e.size = 47 ∧ e.get 0 = .one (.ro (T l)) ∧ e.get 3 = .one (.ro (N n)) ∧ e.get 4 = .one (.ro (N i)) ∧ goN n (l.drop i) = goN 0 l)
    ?_ l.length _ ⟨0, 0, rfl, Nat.zero_le _, by omega, by simp, by simp, by simp, by simp, by simp, rfl⟩
  rintro m e ⟨i, n, rfl, hi, hi6, hn, hsz, h0, h3, h4, hr⟩ ih
  rcases Nat.lt_or_ge i l.length with hlt | hge
  · have hp : 10 ^ i ≤ 10 ^ 8 := Nat.pow_le_pow_right (by omega) (by omega)
    have hp2 : 10 ^ (i + 1) = 10 ^ i * 10 := Nat.pow_succ _ _
    have hwi : IntKind.i64.wrap ((i : Int) + 1) = ((i + 1 : Nat) : Int) := wrap64_succ (by omega)
    have hd : l.drop i = l[i] :: l.drop (i + 1) := List.drop_eq_getElem_cons hlt
    rw [hd, goN] at hr
    obtain ⟨c, hc⟩ : ∃ c, l[i] = c := ⟨_, rfl⟩
    rw [hc] at hr
    cases hf : figB c with
    | false =>
      rw [hf] at hr
      simp only [Bool.false_eq_true, if_false] at hr
      have hnum : numS l = -1 := by unfold numS; rw [← hr]
      rcases fig_not hf with h | ⟨h, h'⟩
      · simp [hsz, h0, h4, hlt, hc, h, hnum]
      · simp [hsz, h0, h4, hlt, hc, h, h', hnum]
    | true =>
      rw [hf] at hr
      simp only [if_true] at hr
      obtain ⟨g1, g2, g3, g4⟩ := fig_sub hf
      by_cases h6 : 6 ≤ i
      · have hnum := numS_long (l := l) (by omega)
        have h6' : (6 : Int) ≤ i := by omega
        simp [hsz, h0, h4, hlt, hc, g2, g3, h6', hnum]
      · have h6' : ¬ (6 : Int) ≤ i := by omega
        generalize c.toNat - 48 = d at *
        have hw1 : IntKind.i64.wrap ((n : Int) * 10) = ((n * 10 : Nat) : Int) := by rw [wrap64 (by omega) (by omega)]; omega
        have hw2 : IntKind.i64.wrap (d : Int) = d := wrap64 (by omega) (by omega)
        have hw3 : IntKind.i64.wrap (((n * 10 : Nat) : Int) + (d : Int)) = ((n * 10 + d : Nat) : Int) := by rw [wrap64 (by omega) (by omega)]; omega
        have hlt2 : n * 10 + d < 10 ^ (i + 1) := by omega
        generalize n * 10 + d = q at *
        generalize n * 10 = p at *
        simp [hsz, h0, h3, h4, hlt, hc, g1, g2, g3, h6', hwi, hw1, hw2, hw3]
        exact ih _ _ (by omega) ⟨i + 1, q, rfl, by omega, by omega, hlt2, by simp [hsz], by simp [h0], by simp, by simp, hr⟩
  · obtain rfl : i = l.length := by omega
    rw [List.drop_length, goN] at hr
    unfold numS
    rw [← hr]
    clear ih hr
    match l, hi6, hsz, h0, h3, h4 with
    | [], _, hsz, h0, h3, h4 => simp [hsz, h0, h4]
    | [c], _, hsz, h0, h3, h4 => simp [hsz, h0, h3, h4, lead0]
    | c :: b :: r, hi6, hsz, h0, h3, h4 =>
      simp only [List.length_cons] at hi6
      have h1 : (1 : Int) < (r.length : Int) + 1 + 1 := by omega
      have hne : ((r.length : Int) + 1 + 1 == 0) = false := by rw [beq_eq_false_iff_ne]; omega
      have h6 : r.length + 1 + 1 ≤ 6 := by omega
      cases hc : c == 48 with
      | true => simp [hsz, h0, h4, lead0, h1, hne, hc, h6]
      | false => simp [hsz, h0, h3, h4, lead0, h1, hne, hc, h6]
end Go.Qz

/- What the functions come to: places in lists. -/
namespace Go.Qz
open Go.Proofs

def idxL (n : List UInt8) : Lines → Nat → Int
  | [], _ => -1
  | x :: r, i => if n == x then (i : Int) else idxL n r (i + 1)
theorem idxL_has (n : List UInt8) : ∀ (xs : Lines) (i : Nat), decide (idxL n xs i ≥ 0) = xs.contains n := by
  intro xs
  induction xs with
  | nil => intro i; rfl
  | cons x r ih =>
    intro i
    rw [idxL, List.contains_cons]
    cases h : n == x with
    | true => simp
    | false => simp [ih]

theorem index_ev (xs : Lines) (n : List UInt8) (hn : xs.length ≤ 140737488351232) : C fn_slices_Index_L_string_string [.ro (SS xs), .ro (T n)] [] = some (.one (.ro (I (idxL n xs 0))), []) := by
  refine ctx_call Tryd.func93 conv_slices_Index_L_string_string rfl ?_
  simp
  refine loop_run (fun m e => ∃ i, m = xs.length - i ∧ i ≤ xs.length ∧ e.size = 19 ∧ e.get 0 = .one (.ro (SS xs)) ∧ e.get 1 = .one (.ro (T n)) ∧ e.get 7 = .one (.ro (N xs.length)) ∧ e.get 8 = .one (.ro (N i)) ∧
    idxL n (xs.drop i) i = idxL n xs 0) ?_ xs.length _ ⟨0, rfl, Nat.zero_le _, by simp, by simp, by simp, by simp, by simp, rfl⟩
  rintro m e ⟨i, rfl, hi, hsz, h0, h1, h7, h8, hr⟩ ih
  rcases Nat.lt_or_ge i xs.length with hlt | hge
  · have hd : xs.drop i = xs[i] :: xs.drop (i + 1) := List.drop_eq_getElem_cons hlt
    have hwi : IntKind.i64.wrap ((i : Int) + 1) = ((i + 1 : Nat) : Int) := wrap64_succ (by omega)
    rw [hd, idxL] at hr
    cases hp : n == xs[i] with
    | true =>
      rw [hp, if_pos rfl] at hr
      simp [hsz, h0, h1, h7, h8, hlt, hp, ← hr]
    | false =>
      rw [hp] at hr
      simp only [Bool.false_eq_true, if_false] at hr
      simp [hsz, h0, h1, h7, h8, hlt, hwi, hp]
      exact ih _ _ (by omega) ⟨i + 1, rfl, by omega, by simp [hsz], by simp [h0], by simp [h1], by simp [h7], by simp, hr⟩
  · obtain rfl : i = xs.length := by omega
    rw [List.drop_length, idxL] at hr
    simp [hsz, h7, h8, ← hr]

theorem contains_ev (xs : Lines) (n : List UInt8) (hn : xs.length ≤ 140737488351232) : C fn_slices_Contains_L_string_string [.ro (SS xs), .ro (T n)] [] = some (.one (.ro (.bool (xs.contains n))), []) := by
  refine ctx_call Tryd.func68 conv_slices_Contains_L_string_string rfl ?_
  have h := index_ev xs n hn
  have h2 := idxL_has n xs 0
  generalize idxL n xs 0 = q at *
  rw [← h2]
  simp [h]

end Go.Qz

/- Paths: names, and what the functions on them come to. -/
namespace Go.Qz
open Go.Proofs

def nameB (b : UInt8) : Bool := (decide (97 ≤ b.toNat) && decide (b.toNat ≤ 122)) || (decide (48 ≤ b.toNat) && decide (b.toNat ≤ 57)) || b == 46 || b == 95 || b == 45
def nameOk (l : List UInt8) : Bool := decide (l.length ≤ 10) && !(l == [46]) && !(l == [46, 46]) && l.all nameB && !l.isEmpty
def pathOk (l : List UInt8) : Bool := decide ((cutAt 47 l).length ≤ 5) && (cutAt 47 l).all nameOk

theorem nameByte_ev (b : UInt8) : C fn_i_nameByte [.ro (.int .u8 b.toNat)] [] = some (.one (.ro (.bool (nameB b))), []) := by
  refine ctx_call Tryd.func133 conv_i_nameByte rfl ?_
  unfold nameB
  by_cases h1 : 97 ≤ b.toNat <;> by_cases h2 : b.toNat ≤ 122 <;> by_cases h3 : 48 ≤ b.toNat <;> by_cases h4 : b.toNat ≤ 57 <;> cases h5 : b == 46 <;> cases h6 : b == 95 <;> simp [h1, h2, h3, h4, h5, h6]

theorem nameBytes_ev (l : List UInt8) (hl : l.length ≤ 140737488351232) : C fn_i_nameBytes [.ro (T l)] [] = some (.one (.ro (.bool (l.all nameB && !l.isEmpty))), []) := by
  refine ctx_call Tryd.func116 conv_i_nameBytes rfl ?_
  simp
  refine loop_run (fun m e => ∃ i, m = l.length - i ∧ i ≤ l.length ∧ e.size = 17 ∧ e.get 0 = .one (.ro (T l)) ∧ e.get 5 = .one (.ro (N l.length)) ∧ e.get 6 = .one (.ro (N i)) ∧
    (l.drop i).all nameB = l.all nameB) ?_ l.length _ ⟨0, rfl, Nat.zero_le _, by simp, by simp, by simp, by simp, rfl⟩
  rintro m e ⟨i, rfl, hi, hsz, h0, h5, h6, hr⟩ ih
  rcases Nat.lt_or_ge i l.length with hlt | hge
  · have hd : l.drop i = l[i] :: l.drop (i + 1) := List.drop_eq_getElem_cons hlt
    have hwi : IntKind.i64.wrap ((i : Int) + 1) = ((i + 1 : Nat) : Int) := wrap64_succ (by omega)
    rw [hd, List.all_cons] at hr
    cases hp : nameB l[i] with
    | false =>
      rw [hp] at hr
      simp [nameByte_ev, hsz, h0, h5, h6, hlt, hp, ← hr]
    | true =>
      rw [hp, Bool.true_and] at hr
      simp [nameByte_ev, hsz, h0, h5, h6, hlt, hwi, hp]
      exact ih _ _ (by omega) ⟨i + 1, rfl, by omega, by simp [hsz], by simp [h0], by simp [h5], by simp, hr⟩
  · obtain rfl : i = l.length := by omega
    rw [List.drop_length, List.all_nil] at hr
    cases l with
    | nil => simp [hsz, h0, h5, h6, ← hr]
    | cons c r => simp [hsz, h0, h5, h6, ← hr]
theorem nameOk_ev (l : List UInt8) (hl : l.length ≤ 140737488351232) : C fn_i_nameOk [.ro (T l)] [] = some (.one (.ro (.bool (nameOk l))), []) := by
  refine ctx_call Tryd.func99 conv_i_nameOk rfl ?_
  have h := nameBytes_ev l hl
  unfold nameOk
  by_cases h1 : l.length ≤ 10
  · cases h2 : l == [46]
    · cases h3 : l == [46, 46] <;> simp [h1, h2, h3, h]
    · simp [h1, h2]
  · simp [h1]

def goP : Nat → Lines → Bool
  | _, [] => true
  | k, x :: r => if 5 < k + 1 then false else if nameOk x then goP (k + 1) r else false
theorem goP_eq : ∀ (xs : Lines) (k : Nat), goP k xs = (decide (k + xs.length ≤ 5) && xs.all nameOk || xs.isEmpty)
  | [], k => by simp [goP]
  | x :: r, k => by
    rw [goP, goP_eq r (k + 1)]
    by_cases h : 5 < k + 1
    · have : ¬ k + (r.length + 1) ≤ 5 := by omega
      simp [h, this]
    · cases hx : nameOk x with
      | false => simp [h, hx]
      | true =>
        cases r with
        | nil => have : k + 1 ≤ 5 := by omega
                 simp [h, hx, this]
        | cons y r => simp [h, hx, Nat.add_assoc, Nat.add_comm 1]
theorem cutAt_ne (b : UInt8) (l : List UInt8) : cutAt b l ≠ [] := by
  cases l with
  | nil => simp [cutAt]
  | cons c r =>
    rw [cutAt]
    split
    · simp
    · split <;> simp
theorem goP_path (l : List UInt8) : goP 0 (cutAt 47 l) = pathOk l := by
  rw [goP_eq]
  have := cutAt_ne 47 l
  cases h : cutAt 47 l with
  | nil => exact absurd h this
  | cons x r => simp [pathOk, h]
theorem cutAt_len (b : UInt8) : ∀ (l x : List UInt8), x ∈ cutAt b l → x.length ≤ l.length
  | [], x, h => by simp [cutAt] at h; simp [h]
  | c :: r, x, h => by
    have ih := cutAt_len b r
    rw [cutAt] at h
    split at h
    · rcases List.mem_cons.1 h with rfl | h
      · simp
      · have := ih x h; simp; omega
    · cases hq : cutAt b r with
      | nil => exact absurd hq (cutAt_ne b r)
      | cons y t =>
        rw [hq] at h ih
        simp only at h
        rcases List.mem_cons.1 h with rfl | h
        · have := ih y (by simp); simp; omega
        · have := ih x (by simp [h]); simp; omega

theorem PathOk_ev (l : List UInt8) (hl : l.length ≤ 140737488351232) : C fn_i_PathOk [.ro (T l)] [] = some (.one (.ro (.bool (pathOk l))), []) := by
  refine ctx_call Tryd.func76 conv_i_PathOk rfl ?_
  have hs := seq_str ⟨l.toArray⟩ ⟨#[47]⟩
  rw [← goP_path]
  have h47 : (⟨#[47]⟩ : ByteArray).size = 1 := rfl
  have hl2 : l.length ≤ 9223372036854775807 := by omega
  simp [hs, h47, hl2]
  refine range_gen (fun o ho => ?_)
  have o2 : o.get 2 = .one (.ptr 2 0) := by rw [ho]; simp
  have o3 : o.get 3 = .one (.ptr 3 0) := by rw [ho]; simp
  have os : o.size = 17 := by rw [ho]; simp
  have b2 : o.box 2 = some [.ro (.bool false)] := by rw [ho]; simp
  have b3 : o.box 3 = some [.ro (N 0)] := by rw [ho]; simp
  clear ho
  refine range_run (fun xs e => ∃ k, (∀ x ∈ xs, x.length ≤ l.length) ∧ e.size = 17 ∧ e.get 2 = .one (.ptr 9002 0) ∧ e.get 3 = .one (.ptr 9003 0) ∧ e.box 9002 = some [.ro (.bool false)] ∧ e.box 9003 = some [.ro (N k)] ∧ k ≤ 6 ∧ goP k xs = goP 0 (cutAt 47 l))
    ?_ _ _ ⟨0, cutAt_len 47 l, by simp [os], by simp [o2], by simp [o3], by simp [box_enter, b2], by simp [box_enter, b3], by omega, rfl⟩
  rintro xs e ⟨k, hx, es, e2, e3, c2, c3, hk, hr⟩ ih
  cases xs with
  | nil =>
    rw [goP] at hr
    simp [o2, b2, c2, box_leave, ← hr]
  | cons x xs =>
    have hn := nameOk_ev x (by have := hx x (by simp); omega)
    have hwk : IntKind.i64.wrap ((k : Int) + 1) = ((k + 1 : Nat) : Int) := wrap64_succ (by omega)
    rw [goP] at hr
    by_cases h5 : 5 < k + 1
    · rw [if_pos h5] at hr
      have h5i : (5 : Int) < (k : Int) + 1 := by omega
      simp [h5i, o2, b2, es, e2, e3, c2, c3, hwk, box_leave, box_again, box_enter, ← hr]
    · rw [if_neg h5] at hr
      have h5i : ¬ (5 : Int) < (k : Int) + 1 := by omega
      cases hq : nameOk x with
      | false =>
        rw [hq] at hn hr
        simp [h5i, o2, b2, es, e2, e3, c2, c3, hwk, hn, box_leave, box_again, box_enter, ← hr]
      | true =>
        rw [hq] at hn hr
        simp [h5i, es, e3, c3, hwk, hn]
        refine ih _ _ (by simp) ⟨k + 1, fun y hy => hx y (by simp [hy]), by simp [os], by simp [o2], by simp [o3], by simp [box_again, box_enter, b2, c2], by simp [box_again, box_enter, b3], by omega, hr⟩
end Go.Qz

/- Paths, as the reference has them. -/
namespace Go.Qz
open Go.Proofs

theorem l1Small_ev (b : UInt8) : C fn_s_l1Small [.ro (.int .u8 b.toNat)] [] = some (.one (.ro (.bool (nameB b))), []) := by
  refine ctx_call Tryd.func126 conv_s_l1Small rfl ?_
  unfold nameB
  by_cases h1 : 97 ≤ b.toNat <;> by_cases h2 : b.toNat ≤ 122 <;> by_cases h3 : 48 ≤ b.toNat <;> by_cases h4 : b.toNat ≤ 57 <;> cases h5 : b == 46 <;> cases h6 : b == 95 <;> simp [h1, h2, h3, h4, h5, h6]

def nameS (l : List UInt8) : Bool := l.all nameB && (inI l.length 1 10 && !(l == [46]) && !(l == [46, 46]))
theorem nameS_ok (l : List UInt8) : nameS l = nameOk l := by
  unfold nameS nameOk inI
  cases l with
  | nil => simp
  | cons c r =>
    have h1 : (1 : Int) ≤ ((c :: r).length : Nat) := by simp
    have h2 : (((c :: r).length : Nat) : Int) ≤ 10 ↔ (c :: r).length ≤ 10 := by omega
    simp only [h1, decide_true, Bool.true_and, decide_eq_decide.2 h2, List.isEmpty_cons, Bool.not_false, Bool.and_true]
    rw [Bool.and_comm]
theorem l1Name_ev (l : List UInt8) (hl : l.length ≤ 140737488351232) : C fn_s_l1Name [.ro (T l)] [] = some (.one (.ro (.bool (nameOk l))), []) := by
  refine ctx_call Tryd.func110 conv_s_l1Name rfl ?_
  rw [← nameS_ok]
  simp
  refine loop_run (fun m e => ∃ i, m = l.length - i ∧ i ≤ l.length ∧ e.size = 26 ∧ e.get 0 = .one (.ro (T l)) ∧ e.get 3 = .one (.ro (N i)) ∧
    (l.drop i).all nameB = l.all nameB) ?_ l.length _ ⟨0, rfl, Nat.zero_le _, by simp, by simp, by simp, rfl⟩
  rintro m e ⟨i, rfl, hi, hsz, h0, h3, hr⟩ ih
  rcases Nat.lt_or_ge i l.length with hlt | hge
  · have hd : l.drop i = l[i] :: l.drop (i + 1) := List.drop_eq_getElem_cons hlt
    have hwi : IntKind.i64.wrap ((i : Int) + 1) = ((i + 1 : Nat) : Int) := wrap64_succ (by omega)
    rw [hd, List.all_cons] at hr
    cases hp : nameB l[i] with
    | false =>
      rw [hp] at hr
      simp [l1Small_ev, hsz, h0, h3, hlt, hp, nameS, ← hr]
    | true =>
      rw [hp, Bool.true_and] at hr
      simp [l1Small_ev, hsz, h0, h3, hlt, hwi, hp]
      exact ih _ _ (by omega) ⟨i + 1, rfl, by omega, by simp [hsz], by simp [h0], by simp, hr⟩
  · obtain rfl : i = l.length := by omega
    rw [List.drop_length, List.all_nil] at hr
    have hin := l1In_ev l.length 1 10
    unfold nameS
    rw [← hr]
    cases hq : inI l.length 1 10 with
    | false =>
      rw [hq] at hin
      simp [hsz, h0, h3, hin]
    | true =>
      rw [hq] at hin
      cases h1 : l == [46]
      · cases h2 : l == [46, 46] <;> simp [hsz, h0, h3, hin, h1, h2]
      · simp [hsz, h0, h3, hin, h1]

theorem cutP_at (b : UInt8) : ∀ (s pre : List UInt8) (k : Nat), s.length ≤ k → cutP b k pre s = (match cutAt b s with | x :: r => (pre ++ x) :: r | [] => [])
  | [], pre, k, _ => by simp [cutP, cutAt]
  | c :: r, pre, 0, h => by simp at h
  | c :: r, pre, k + 1, h => by
    have ih1 := cutP_at b r [] k (by simpa using h)
    have ih2 := cutP_at b r (pre ++ [c]) (k + 1) (by simp at h; omega)
    have hne := cutAt_ne b r
    rw [cutP, cutAt, ih1, ih2]
    cases hq : cutAt b r with
    | nil => exact absurd hq hne
    | cons y t =>
      cases hc : c == b with
      | true => have : c = b := by simpa using hc
                simp [this]
      | false => have : ¬ c = b := by simpa using hc
                 simp [this]
theorem cutP_all (b : UInt8) (s : List UInt8) (k : Nat) (h : s.length ≤ k) : cutP b k [] s = cutAt b s := by
  rw [cutP_at b s [] k h]
  cases hq : cutAt b s with
  | nil => exact absurd hq (cutAt_ne b s)
  | cons y t => rfl
theorem cutAt_count (b : UInt8) : ∀ s : List UInt8, (cutAt b s).length ≤ s.length + 1
  | [] => by simp [cutAt]
  | c :: r => by
    have ih := cutAt_count b r
    rw [cutAt]
    split
    · simp; omega
    · cases hq : cutAt b r with
      | nil => simp
      | cons y t => rw [hq] at ih; simp at ih ⊢; omega
theorem l1CutAll_ev (s : List UInt8) (b : UInt8) (c : Int) (hc : c = b.toNat) (hs : s.length ≤ 1048576) : C fn_s_l1Cut [.ro (T s), .ro (.int .u8 c), .ro (.int .i64 ((s.length : Int) + 1))] [] = some (.one (.own (SS (cutAt b s))), []) := by
  subst hc
  rw [l1Cut_ev s b (s.length + 1) _ (by omega) hs (by omega), cutP_all b s _ (by omega)]

theorem l1Path_ev (l : List UInt8) (hl : l.length ≤ 1048576) : C fn_s_l1Path [.ro (T l)] [] = some (.one (.ro (.bool (pathOk l))), []) := by
  refine ctx_call Tryd.func89 conv_s_l1Path rfl ?_
  have hcut := l1CutAll_ev l 47 47 rfl hl
  have hwl : IntKind.i64.wrap ((l.length : Int) + 1) = ((l.length + 1 : Nat) : Int) := wrap64_succ (by omega)
  have hcnt := cutAt_count 47 l
  have hmem := cutAt_len 47 l
  unfold pathOk
  generalize cutAt 47 l = xs at *
  simp [hwl, hcut]
  refine loop_run (fun m e => ∃ i, m = xs.length - i ∧ i ≤ xs.length ∧ e.size = 25 ∧ e.get 3 = .one (.own (SS xs)) ∧ e.get 4 = .one (.ro (N i)) ∧
    (xs.drop i).all nameOk = xs.all nameOk) ?_ xs.length _ ⟨0, rfl, Nat.zero_le _, by simp, by simp, by simp, rfl⟩
  rintro m e ⟨i, rfl, hi, hsz, h3, h4, hr⟩ ih
  rcases Nat.lt_or_ge i xs.length with hlt | hge
  · have hd : xs.drop i = xs[i] :: xs.drop (i + 1) := List.drop_eq_getElem_cons hlt
    have hwi : IntKind.i64.wrap ((i : Int) + 1) = ((i + 1 : Nat) : Int) := wrap64_succ (by omega)
    have hn := l1Name_ev xs[i] (by have := hmem _ (List.getElem_mem hlt); omega)
    rw [hd, List.all_cons] at hr
    cases hp : nameOk xs[i] with
    | false =>
      rw [hp] at hr hn
      simp [hsz, h3, h4, hlt, hn, ← hr]
    | true =>
      rw [hp, Bool.true_and] at hr
      rw [hp] at hn
      simp [hsz, h3, h4, hlt, hwi, hn]
      exact ih _ _ (by omega) ⟨i + 1, rfl, by omega, by simp [hsz], by simp [h3], by simp, hr⟩
  · obtain rfl : i = xs.length := by omega
    rw [List.drop_length, List.all_nil] at hr
    simp [hsz, h3, h4, ← hr]

/-- What a path is in. -/
def upN (l : List UInt8) : Nat → List UInt8
  | 0 => []
  | k + 1 => if l[k]? = some 47 then l.take k else upN l k
def upL (l : List UInt8) : List UInt8 := upN l l.length
theorem l1Up_ev (l : List UInt8) (hl : l.length ≤ 140737488351232) : C fn_s_l1Up [.ro (T l)] [] = some (.one (.ro (T (upL l))), []) := by
  refine ctx_call Tryd.func63 conv_s_l1Up rfl ?_
  have hw : IntKind.i64.wrap ((l.length : Int) - 1) = (l.length : Int) - 1 := wrap64 (by omega) (by omega)
  simp [hw]
  refine loop_run (fun m e => ∃ k, k = m ∧ k ≤ l.length ∧ e.size = 18 ∧ e.get 0 = .one (.ro (T l)) ∧ e.get 3 = .one (.ro (I ((k : Int) - 1))) ∧ upN l k = upL l) ?_ l.length _ ⟨l.length, rfl, Nat.le_refl _, by simp, by simp, by simp, rfl⟩
  rintro m e ⟨k, hmk, hk, hsz, h0, h3, hr⟩ ih
  subst hmk
  cases k with
  | zero =>
    rw [upN] at hr
    simp [hsz, h3, ← hr]
  | succ k =>
    have hkl : k < l.length := by omega
    have hwk : IntKind.i64.wrap ((k : Int) - 1) = (k : Int) - 1 := wrap64 (by omega) (by omega)
    have h3' : e.get 3 = .one (.ro (N k)) := by rw [h3]; simp
    rw [upN, List.getElem?_eq_getElem hkl] at hr
    have hkl' : k ≤ l.length := by omega
    cases hc : l[k] == 47 with
    | true =>
      have : l[k] = 47 := by simpa using hc
      rw [this, if_pos rfl] at hr
      simp [hsz, h0, h3', hkl, hkl', hc, ← hr]
    | false =>
      have : ¬ some l[k] = some 47 := by simpa using hc
      rw [if_neg this] at hr
      simp [hsz, h0, h3', hkl, hc, hwk]
      exact ih k _ (by omega) ⟨k, rfl, by omega, by simp [hsz], by simp [h0], by simp, hr⟩
theorem lastIdx_up (l : List UInt8) : ∀ k, k ≤ l.length → ∃ j : Nat, j ≤ l.length ∧ ((j : Int) = max (Lib.lastIdx ⟨l.toArray⟩ 47 k) 0) ∧ l.take j = upN l k
  | 0, _ => ⟨0, Nat.zero_le _, rfl, rfl⟩
  | k + 1, h => by
    rw [Lib.lastIdx, upN]
    have hk : k < l.length := by omega
    have he : ((⟨l.toArray⟩ : ByteArray).data[k]!) = l[k] := by simp [hk]
    rw [he, List.getElem?_eq_getElem hk]
    by_cases hc : l[k] = 47
    · rw [hc]
      refine ⟨k, by omega, ?_, ?_⟩
      · rw [if_pos (by decide)]; omega
      · rw [if_pos rfl]
    · obtain ⟨j, hj, he1, he2⟩ := lastIdx_up l k (by omega)
      refine ⟨j, hj, ?_, ?_⟩
      · rw [if_neg]
        · exact he1
        · intro h
          apply hc
          rw [← UInt8.toNat_inj]
          have : (47 : UInt8).toNat = 47 := rfl
          omega
      · rw [if_neg (by simpa using hc)]; exact he2
theorem PathUp_ev (l : List UInt8) (hl : l.length ≤ 1048576) : C fn_i_PathUp [.ro (T l)] [] = some (.one (.ro (T (if pathOk l then upL l else []))), []) := by
  refine ctx_call Tryd.func78 conv_i_PathUp rfl ?_
  have hp := PathOk_ev l (by omega)
  have hlast := last_str ⟨l.toArray⟩ 47 (by simp; omega)
  obtain ⟨j, hj, he, ht⟩ := lastIdx_up l l.length (Nat.le_refl _)
  have hlast' : Lib.lastIndexByte ⟨l.toArray⟩ 47 = Lib.lastIdx ⟨l.toArray⟩ 47 l.length := by rw [Lib.lastIndexByte]; simp
  rw [hlast'] at hlast
  generalize Lib.lastIdx ⟨l.toArray⟩ 47 l.length = q at *
  cases h : pathOk l with
  | false =>
    rw [h] at hp
    simp [hp]
  | true =>
    rw [h] at hp
    have hq : (if q ≤ 0 then 0 else q) = (j : Int) := by split <;> omega
    simp [hp, hlast, hq, hj, ht, upL]
end Go.Qz

/- What the functions come to: numbers in decimal, hunks as text. -/
namespace Go.Qz
open Go.Proofs

theorem dec_small (n : Nat) (h : n < 10) : Lib.decDigits n = [UInt8.ofNat (48 + n)] := by rw [Lib.decDigits, dif_pos h]
theorem dec_great (n : Nat) (h : 10 ≤ n) : Lib.decDigits n = Lib.decDigits (n / 10) ++ [UInt8.ofNat (48 + n % 10)] := by rw [Lib.decDigits, dif_neg (by omega)]
theorem dec_len : ∀ n : Nat, (Lib.decDigits n).length ≤ n + 1 := by
  intro n
  induction n using Nat.strongRecOn with
  | _ n ih =>
    rcases Nat.lt_or_ge n 10 with h | h
    · rw [dec_small n h]; simp
    · rw [dec_great n h, List.length_append]
      have := ih (n / 10) (by omega)
      simp only [List.length_singleton]
      omega
theorem dec_short : ∀ (k n : Nat), n < 10 ^ (k + 1) → (Lib.decDigits n).length ≤ k + 1
  | 0, n, h => by rw [dec_small n (by simpa using h)]; simp
  | k + 1, n, h => by
    rcases Nat.lt_or_ge n 10 with h1 | h1
    · rw [dec_small n h1]; simp
    · rw [dec_great n h1, List.length_append]
      have := dec_short k (n / 10) (by rw [Nat.pow_succ] at h; omega)
      simp only [List.length_singleton]
      omega

theorem l1Dec_ev : ∀ n : Nat, n ≤ 1099511627776 → C fn_s_l1Dec [.ro (N n)] [] = some (.one (.ro (T (Lib.decDigits n))), []) := by
  intro n
  induction n using Nat.strongRecOn with
  | _ n ih =>
    intro hn
    refine ctx_call Tryd.func83 conv_s_l1Dec rfl ?_
    have n1 : ¬ ((n : Int) < -9223372036854775807) := by omega
    have n2 : ¬ ((n : Int) < 0) := by omega
    rcases Nat.lt_or_ge n 10 with h | h
    · have hw1 : IntKind.i64.wrap (48 + (n : Int)) = ((48 + n : Nat) : Int) := by rw [wrap64 (by omega) (by omega)]; omega
      have hw3 : IntKind.u8.wrap ((48 + n : Nat) : Int) = ((48 + n : Nat) : Int) := by
        show ((48 + n : Nat) : Int) % 256 = _
        omega
      rw [dec_small n h]
      generalize hz : 48 + n = z at *
      simp [n1, n2, h, hw1, hw3]
    · have h3 : ¬ n < 10 := by omega
      have hr1 : ((n : Int)).tmod 10 = ((n % 10 : Nat) : Int) := by rw [Int.ofNat_tmod]; rfl
      have hq1 : ((n : Int)).tdiv 10 = ((n / 10 : Nat) : Int) := by rw [Int.ofNat_tdiv]; rfl
      have hi := ih (n / 10) (by omega) (by omega)
      have hl := dec_len (n / 10)
      rw [dec_great n h]
      have hrl : n % 10 < 10 := Nat.mod_lt _ (by omega)
      have hql : n / 10 < n := by omega
      generalize n % 10 = r at *
      generalize n / 10 = q at *
      have hw1 : IntKind.i64.wrap (48 + (r : Int)) = ((48 + r : Nat) : Int) := by rw [wrap64 (by omega) (by omega)]; omega
      have hw2 : IntKind.i64.wrap (q : Int) = (q : Int) := wrap64 (by omega) (by omega)
      have hw3 : IntKind.u8.wrap ((48 + r : Nat) : Int) = ((48 + r : Nat) : Int) := by
        show ((48 + r : Nat) : Int) % 256 = _
        omega
      have hms : (Lib.decDigits q).length + 1 ≤ maxStr := by simp [maxStr]; omega
      generalize 48 + r = z at *
      simp [n1, n2, h3, hr1, hq1, hw1, hw2, hw3, hi, hms]

end Go.Qz

/- Plain laws of decimals. -/
namespace Go.Qz
open Go.Proofs


/-! ### Decimals -/
theorem goN_app (c : UInt8) : ∀ (l : List UInt8) (a : Nat), goN a (l ++ [c]) = (goN a l).bind fun m => if figB c then some (m * 10 + (c.toNat - 48)) else none
  | [], a => by simp only [List.nil_append, goN, Option.bind_some]
  | b :: l, a => by
    rw [List.cons_append, goN, goN]
    split
    · exact goN_app c l _
    · rfl
theorem goN_ge : ∀ (l : List UInt8) (a m : Nat), goN a l = some m → a ≤ m
  | [], a, m, h => by cases h; exact Nat.le_refl _
  | b :: l, a, m, h => by
    unfold goN at h
    split at h
    · have := goN_ge l _ m h; omega
    · cases h
theorem fig_of (d : Nat) (h : d < 10) : figB (UInt8.ofNat (48 + d)) = true ∧ (UInt8.ofNat (48 + d)).toNat = 48 + d := by
  have h1 : (UInt8.ofNat (48 + d)).toNat = 48 + d := by
    rw [UInt8.toNat_ofNat']
    omega
  refine ⟨?_, h1⟩
  unfold figB
  rw [h1]
  simp
  omega
theorem goN_dec (n : Nat) : goN 0 (Lib.decDigits n) = some n := by
  induction n using Nat.strongRecOn with
  | _ n ih =>
    rcases Nat.lt_or_ge n 10 with h | h
    · rw [dec_small n h, goN]
      obtain ⟨h1, h2⟩ := fig_of n h
      rw [if_pos h1, h2]
      simp [goN]
    · rw [dec_great n h, goN_app, ih (n / 10) (by omega)]
      obtain ⟨h1, h2⟩ := fig_of (n % 10) (Nat.mod_lt _ (by omega))
      simp only [Option.bind_some]
      rw [if_pos h1, h2]
      congr 1
      omega
theorem dec_head (n : Nat) (hn : 0 < n) : ∃ c r, Lib.decDigits n = c :: r ∧ (c == 48) = false := by
  induction n using Nat.strongRecOn with
  | _ n ih =>
    rcases Nat.lt_or_ge n 10 with h | h
    · refine ⟨_, [], dec_small n h, ?_⟩
      obtain ⟨h1, h2⟩ := fig_of n h
      rw [beq_eq_false_iff_ne]
      intro e
      rw [e] at h2
      simp at h2
      omega
    · obtain ⟨c, r, h1, h2⟩ := ih (n / 10) (by omega) (by omega)
      rw [dec_great n h, h1]
      exact ⟨c, r ++ [UInt8.ofNat (48 + n % 10)], rfl, h2⟩
theorem dec_lead (n : Nat) : lead0 (Lib.decDigits n) = false := by
  rcases Nat.lt_or_ge n 10 with h | h
  · rw [dec_small n h]; rfl
  · obtain ⟨c, r, h1, h2⟩ := dec_head n (by omega)
    rw [h1]
    cases r with
    | nil => rfl
    | cons b r => exact h2
theorem dec_ne (n : Nat) : Lib.decDigits n ≠ [] := by
  rcases Nat.lt_or_ge n 10 with h | h
  · rw [dec_small n h]; simp
  · rw [dec_great n h]; simp
theorem dec_fig (n : Nat) : ∀ b ∈ Lib.decDigits n, figB b = true := by
  induction n using Nat.strongRecOn with
  | _ n ih =>
    rcases Nat.lt_or_ge n 10 with h | h
    · rw [dec_small n h]
      intro b hb
      rw [List.mem_singleton] at hb
      subst hb
      exact (fig_of n h).1
    · rw [dec_great n h]
      intro b hb
      rcases List.mem_append.1 hb with h1 | h1
      · exact ih (n / 10) (by omega) b h1
      · rw [List.mem_singleton] at h1
        subst h1
        exact (fig_of (n % 10) (Nat.mod_lt _ (by omega))).1
theorem dec_three (n : Nat) (h : n ≤ 999) : (Lib.decDigits n).length ≤ 3 := dec_short 2 n (by omega)
theorem fig_back {c : UInt8} (h : figB c = true) : UInt8.ofNat (48 + (c.toNat - 48)) = c ∧ c.toNat - 48 < 10 := by
  unfold figB at h
  simp only [Bool.and_eq_true, decide_eq_true_eq] at h
  refine ⟨?_, by omega⟩
  rw [show 48 + (c.toNat - 48) = c.toNat by omega]
  exact UInt8.ofNat_toNat
theorem goN_all : ∀ (l : List UInt8) (a m : Nat), goN a l = some m → ∀ b ∈ l, figB b = true
  | [], _, _, _ => fun b hb => by simp at hb
  | c :: l, a, m, h => by
    unfold goN at h
    split at h
    · rename_i hc
      intro b hb
      rcases List.mem_cons.1 hb with rfl | hb
      · exact hc
      · exact goN_all l _ m h b hb
    · cases h
theorem dec_of : ∀ (k : Nat) (l : List UInt8) (n : Nat), l.length ≤ k → l ≠ [] → lead0 l = false → goN 0 l = some n → Lib.decDigits n = l := by
  intro k
  induction k with
  | zero =>
    intro l n hk hne
    exact absurd (List.length_eq_zero_iff.1 (by omega)) hne
  | succ k ih =>
    intro l n hk hne hld hg
    rcases List.eq_nil_or_concat l with rfl | ⟨l', c, rfl⟩
    · exact absurd rfl hne
    · have hc : figB c = true := goN_all _ 0 n hg c (by simp)
      obtain ⟨e1, e2⟩ := fig_back hc
      rw [List.concat_eq_append] at hg hld ⊢
      rw [goN_app] at hg
      cases l' with
      | nil =>
        simp only [goN, Option.bind_some, if_pos hc, Option.some.injEq] at hg
        simp only [List.nil_append]
        rw [← hg, dec_small _ (by omega)]
        rw [show 48 + (0 * 10 + (c.toNat - 48)) = 48 + (c.toNat - 48) by omega, e1]
      | cons x r =>
        cases hm : goN 0 (x :: r) with
        | none => rw [hm] at hg; cases hg
        | some m =>
          rw [hm] at hg
          simp only [Option.bind_some, if_pos hc, Option.some.injEq] at hg
          have hx : (x == 48) = false := by
            cases r with
            | nil => exact hld
            | cons y r => exact hld
          have hl2 : lead0 (x :: r) = false := by
            cases r with
            | nil => rfl
            | cons y r => exact hx
          have hih := ih (x :: r) m (by simp at hk ⊢; omega) (by simp) hl2 hm
          have hpos : 1 ≤ m := by
            have hxf : figB x = true := goN_all _ 0 m hm x (by simp)
            unfold goN at hm
            rw [if_pos hxf] at hm
            have := goN_ge r _ m hm
            have hne48 : x.toNat ≠ 48 := by
              intro e
              have : x = 48 := UInt8.toNat_inj.1 e
              rw [this] at hx
              simp at hx
            unfold figB at hxf
            simp only [Bool.and_eq_true, decide_eq_true_eq] at hxf
            omega
          rw [dec_great n (by omega), ← hg, show (m * 10 + (c.toNat - 48)) / 10 = m by omega, show (m * 10 + (c.toNat - 48)) % 10 = c.toNat - 48 by omega, hih, e1]
theorem numI_dec (n m : Nat) (h1 : n ≤ m) (h2 : n ≤ 999) : numI (Lib.decDigits n) m = (n, true) := by
  have h3 := dec_three n h2
  unfold numI
  rw [dec_lead, goN_dec]
  have h4 : (Lib.decDigits n).isEmpty = false := by
    cases h : Lib.decDigits n with
    | nil => exact absurd h (dec_ne n)
    | cons c r => rfl
  rw [h4, if_neg (by simp; omega)]
  simp only
  rw [if_neg (by omega)]
theorem numS_dec (n : Nat) (h2 : n ≤ 999) : numS (Lib.decDigits n) = n := by
  have h3 := dec_three n h2
  have h4 : (Lib.decDigits n).isEmpty = false := by
    cases h : Lib.decDigits n with
    | nil => exact absurd h (dec_ne n)
    | cons c r => rfl
  unfold numS
  rw [goN_dec, dec_lead, h4]
  simp only
  rw [if_pos (by simp; omega)]
theorem numI_is {l : List UInt8} {m x : Nat} (h : numI l m = (x, true)) : Lib.decDigits x = l := by
  unfold numI at h
  split at h
  · cases h
  · rename_i hc
    simp only [Bool.or_eq_true, not_or, Bool.not_eq_true, List.isEmpty_eq_false_iff, decide_eq_false_iff_not] at hc
    split at h
    · rename_i n hn
      split at h
      · cases h
      · cases h
        exact dec_of l.length l _ (Nat.le_refl _) hc.1.1 hc.2 hn
    · cases h

theorem fig_ne {b : UInt8} (h : figB b = true) : b ≠ 32 ∧ b ≠ 10 := by
  unfold figB at h
  simp only [Bool.and_eq_true, decide_eq_true_eq] at h
  constructor
  · rintro rfl; simp at h
  · rintro rfl; simp at h
theorem numS_le (l : List UInt8) : -1 ≤ numS l ∧ numS l ≤ 999999 := by
  have hb : ∀ (l : List UInt8) (n m k : Nat), goN n l = some m → n < 10 ^ k → m < 10 ^ (k + l.length) := by
    intro l
    induction l with
    | nil => intro n m k h hn; cases h; simpa using hn
    | cons c r ih =>
      intro n m k h hn
      unfold goN at h
      split at h
      · rename_i hf
        obtain ⟨_, _, _, g4⟩ := fig_sub hf
        have hp2 : 10 ^ (k + 1) = 10 ^ k * 10 := Nat.pow_succ _ _
        have := ih _ m (k + 1) h (by omega)
        rw [List.length_cons, show k + (r.length + 1) = k + 1 + r.length by omega]
        exact this
      · cases h
  unfold numS
  split
  · rename_i n hn
    split
    · rename_i hc
      simp only [Bool.and_eq_true, decide_eq_true_eq] at hc
      have h1 := hb l 0 n 0 hn (by simp)
      have h2 : 10 ^ (0 + l.length) ≤ 10 ^ 6 := Nat.pow_le_pow_right (by omega) (by omega)
      omega
    · omega
  · omega
theorem numI_le {l : List UInt8} {m : Nat} (_ : (numI l m).2 = true) : (numI l m).1 ≤ m := by
  unfold numI
  split
  · simp
  · split
    · split
      · simp
      · simp only; omega
    · simp
/-- What the two readings of a number have to do with each other. -/
theorem numS_of {l : List UInt8} {n : Nat} (h : goN 0 l = some n) (h1 : l.length ≤ 6) (h2 : l.isEmpty = false) (h3 : lead0 l = false) : numS l = n := by
  unfold numS
  rw [h]
  simp only
  rw [if_pos (by rw [h2, h3]; simpa using h1)]
theorem numI_S {l : List UInt8} {m x : Nat} (h : numI l m = (x, true)) (hm : m ≤ 999) : numS l = x := by
  have h1 := numI_is h
  have h2 : x ≤ m := by have := numI_le (l := l) (m := m) (by rw [h]); rw [h] at this; exact this
  rw [← h1]
  exact numS_dec x (by omega)
theorem numS_I {l : List UInt8} {m x : Nat} (h : numS l = x) (hm : x ≤ m) (_ : m ≤ 999) : numI l m = (x, true) := by
  unfold numS at h
  split at h
  · rename_i n hn
    split at h
    · rename_i hc
      have hnx : n = x := by omega
      subst hnx
      simp only [Bool.and_eq_true, decide_eq_true_eq, Bool.not_eq_true'] at hc
      unfold numI
      rw [hn]
      have h9 : ¬ 9 < l.length := by omega
      rw [if_neg (by simp [hc.1.2, hc.2, h9])]
      simp only
      rw [if_neg (by omega)]
    · omega
  · omega
end Go.Qz

/- What the functions come to: names of packs. -/
namespace Go.Qz
open Go.Proofs

def lowB (b : UInt8) : Bool := decide (97 ≤ b.toNat) && decide (b.toNat ≤ 122)
def packB (b : UInt8) : Bool := lowB b || (decide (48 ≤ b.toNat) && decide (b.toNat ≤ 57))
def packOk : List UInt8 → Bool
  | [] => false
  | c :: r => decide (r.length + 1 ≤ 10) && (lowB c && (c :: r).all packB)

theorem packNameOk_ev (l : List UInt8) (hn : l.length ≤ 140737488351232) : C fn_i_packNameOk [.ro (T l)] [] = some (.one (.ro (.bool (packOk l))), []) := by
  refine ctx_call Tryd.func34 conv_i_packNameOk rfl ?_
  cases l with
  | nil => simp [packOk]
  | cons c r =>
    by_cases h1 : 10 < r.length + 1
    · have : ¬ r.length + 1 ≤ 10 := by omega
      have h1i : (10 : Int) < (r.length : Int) + 1 := by omega
      simp [packOk, h1i, this]
    · have h1' : r.length + 1 ≤ 10 := by omega
      have h1i : ¬ (10 : Int) < (r.length : Int) + 1 := by omega
      by_cases h2 : c.toNat < 97
      · have : ¬ 97 ≤ c.toNat := by omega
        simp [packOk, lowB, h1i, h1', h2, this]
      · have h2' : 97 ≤ c.toNat := by omega
        by_cases h3 : 122 < c.toNat
        · have : ¬ c.toNat ≤ 122 := by omega
          simp [packOk, lowB, h1i, h1', h2, h2', h3, this]
        · have h3' : c.toNat ≤ 122 := by omega
          have hp : packOk (c :: r) = (c :: r).all packB := by simp [packOk, lowB, h1', h2', h3']
          rw [hp]
          simp [h1i, h2, h3]
          generalize hl : c :: r = l at *
          have hlen : l.length = r.length + 1 := by rw [← hl]; rfl
          have hc : (r.length : Int) + 1 = (l.length : Int) := by rw [hlen]; rfl
          have hr0 : (packB c && r.all packB) = l.all packB := by rw [← hl]; rfl
          rw [hr0]
          refine loop_run (fun m e => ∃ i, m = l.length - i ∧ i ≤ l.length ∧ e.size = 49 ∧ e.get 0 = .one (.ro (T l)) ∧ e.get 22 = .one (.ro (N l.length)) ∧ e.get 23 = .one (.ro (N i)) ∧ (l.drop i).all packB = l.all packB)
            ?_ l.length _ ⟨0, rfl, Nat.zero_le _, by simp, by simp, by simp [hc], by simp, rfl⟩
          clear hl hp hr0 hc hlen
          rintro m e ⟨i, rfl, hi, hsz, h0, h22, h23, hr⟩ ih
          rcases Nat.lt_or_ge i l.length with hlt | hge
          · have hwi : IntKind.i64.wrap ((i : Int) + 1) = ((i + 1 : Nat) : Int) := wrap64_succ (by omega)
            have hd : l.drop i = l[i] :: l.drop (i + 1) := List.drop_eq_getElem_cons hlt
            rw [hd, List.all_cons] at hr
            have hb : packB l[i] = (decide (97 ≤ l[i].toNat) && decide (l[i].toNat ≤ 122) || (decide (48 ≤ l[i].toNat) && decide (l[i].toNat ≤ 57))) := rfl
            rw [hb] at hr
            by_cases hA : l[i].toNat < 97
            · have a1 : ¬ 97 ≤ l[i].toNat := by omega
              by_cases hC : l[i].toNat < 48
              · have c1 : ¬ 48 ≤ l[i].toNat := by omega
                simp [a1, c1] at hr
                simp [hsz, h0, h22, h23, hlt, hA, hC, hr]
              · have c1 : 48 ≤ l[i].toNat := by omega
                by_cases hD : 57 < l[i].toNat
                · have d1 : ¬ l[i].toNat ≤ 57 := by omega
                  simp [a1, c1, d1] at hr
                  simp [hsz, h0, h22, h23, hlt, hA, hC, hD, hr]
                · have d1 : l[i].toNat ≤ 57 := by omega
                  simp [a1, c1, d1] at hr
                  simp [hsz, h0, h22, h23, hlt, hA, hC, hD, hwi]
                  exact ih _ _ (by omega) ⟨i + 1, rfl, by omega, by simp [hsz], by simp [h0], by simp [h22], by simp, by simpa using hr⟩
            · have a1 : 97 ≤ l[i].toNat := by omega
              by_cases hB : 122 < l[i].toNat
              · have b1 : ¬ l[i].toNat ≤ 122 := by omega
                have c1 : ¬ l[i].toNat < 48 := by omega
                have d1 : 57 < l[i].toNat := by omega
                have d2 : ¬ l[i].toNat ≤ 57 := by omega
                simp [b1, d2] at hr
                simp [hsz, h0, h22, h23, hlt, hA, hB, c1, d1, hr]
              · have b1 : l[i].toNat ≤ 122 := by omega
                simp [a1, b1] at hr
                simp [hsz, h0, h22, h23, hlt, hA, hB, hwi]
                exact ih _ _ (by omega) ⟨i + 1, rfl, by omega, by simp [hsz], by simp [h0], by simp [h22], by simp, by simpa using hr⟩
          · obtain rfl : i = l.length := by omega
            rw [List.drop_length] at hr
            simp at hr
            simp [hsz, h22, h23]
            exact hr

def digB (b : UInt8) : Bool := decide (48 ≤ b.toNat) && decide (b.toNat ≤ 57)
def sufS (i : Nat) : List UInt8 → Bool
  | [] => true
  | c :: r => (lowB c || (decide (i ≠ 0) && digB c)) && r.all packB
def packS (l : List UInt8) : Bool := sufS 0 l && inI l.length 1 10
theorem sufS_pos (i : Nat) (hi : i ≠ 0) (l : List UInt8) : sufS i l = l.all packB := by
  cases l with
  | nil => rfl
  | cons c r => simp [sufS, hi, packB, digB]
theorem packS_eq (l : List UInt8) : packS l = packOk l := by
  cases l with
  | nil => rfl
  | cons c r =>
    have hp : (lowB c && (c :: r).all packB) = (lowB c && r.all packB) := by
      cases h : lowB c <;> simp [packB, h]
    show packS (c :: r) = (decide (r.length + 1 ≤ 10) && (lowB c && (c :: r).all packB))
    rw [hp]
    have hin : inI ((c :: r).length) 1 10 = decide (r.length + 1 ≤ 10) := by
      unfold inI
      have : ((1 : Int) ≤ ((c :: r).length : Nat)) = True := by simp
      simp
      exact ⟨fun h => by omega, fun h => by omega⟩
    unfold packS sufS
    rw [hin, Bool.and_comm]
    simp

theorem l3Pack_ev (l : List UInt8) (hn : l.length ≤ 140737488351232) : C fn_s_l3Pack [.ro (T l)] [] = some (.one (.ro (.bool (packS l))), []) := by
  refine ctx_call Tryd.func28 conv_s_l3Pack rfl ?_
  simp
  unfold packS
  refine loop_run (fun m e => ∃ i, m = l.length - i ∧ i ≤ l.length ∧ e.size = 42 ∧ e.get 0 = .one (.ro (T l)) ∧ e.get 3 = .one (.ro (N i)) ∧ (sufS i (l.drop i) && inI l.length 1 10) = (sufS 0 l && inI l.length 1 10))
    ?_ l.length _ ⟨0, rfl, Nat.zero_le _, by simp, by simp, by simp, rfl⟩
  rintro m e ⟨i, rfl, hi, hsz, h0, h3, hr⟩ ih
  rcases Nat.lt_or_ge i l.length with hlt | hge
  · have hwi : IntKind.i64.wrap ((i : Int) + 1) = ((i + 1 : Nat) : Int) := wrap64_succ (by omega)
    have hd : l.drop i = l[i] :: l.drop (i + 1) := List.drop_eq_getElem_cons hlt
    rw [hd, sufS] at hr
    have hnx : sufS (i + 1) (l.drop (i + 1)) = (l.drop (i + 1)).all packB := sufS_pos _ (by omega) _
    by_cases hA : 97 ≤ l[i].toNat
    · by_cases hB : l[i].toNat ≤ 122
      · have hs : lowB l[i] = true := by simp [lowB, hA, hB]
        rw [hs] at hr
        simp only [Bool.true_or, Bool.true_and] at hr
        simp [hsz, h0, h3, hlt, hA, hB, hwi]
        exact ih _ _ (by omega) ⟨i + 1, rfl, by omega, by simp [hsz], by simp [h0], by simp, by rw [hnx]; exact hr⟩
      · have hs : lowB l[i] = false := by simp [lowB, hB]
        have c1 : ¬ l[i].toNat < 48 := by omega
        have d1 : 57 < l[i].toNat := by omega
        have hg : digB l[i] = false := by have : ¬ l[i].toNat ≤ 57 := by omega
                                          simp [digB, this]
        rw [hs, hg] at hr
        simp only [Bool.false_or, Bool.and_false, Bool.false_and] at hr
        by_cases hi0 : i = 0
        · subst hi0
          simp [hsz, h0, h3, hlt, hA, hB, ← hr]
        · have hb0 : (i == 0) = false := by simpa using hi0
          simp [hsz, h0, h3, hlt, hA, hB, hb0, c1, d1, ← hr]
    · have hs : lowB l[i] = false := by simp [lowB, hA]
      rw [hs] at hr
      simp only [Bool.false_or] at hr
      by_cases hi0 : i = 0
      · subst hi0
        simp at hr
        simp [hsz, h0, h3, hlt, hA]
        exact hr
      · have hb0 : (i == 0) = false := by simpa using hi0
        simp only [ne_eq, hi0, not_false_eq_true, decide_true, Bool.true_and] at hr
        by_cases hC : l[i].toNat < 48
        · have hg : digB l[i] = false := by have : ¬ 48 ≤ l[i].toNat := by omega
                                            simp [digB, this]
          rw [hg] at hr
          simp only [Bool.false_and] at hr
          simp [hsz, h0, h3, hlt, hA, hb0, hC, ← hr]
        · by_cases hD : 57 < l[i].toNat
          · have hg : digB l[i] = false := by have : ¬ l[i].toNat ≤ 57 := by omega
                                              simp [digB, this]
            rw [hg] at hr
            simp only [Bool.false_and] at hr
            simp [hsz, h0, h3, hlt, hA, hb0, hC, hD, ← hr]
          · have hg : digB l[i] = true := by
              have a1 : 48 ≤ l[i].toNat := by omega
              have a2 : l[i].toNat ≤ 57 := by omega
              simp [digB, a1, a2]
            rw [hg] at hr
            simp only [Bool.true_and] at hr
            simp [hsz, h0, h3, hlt, hA, hb0, hC, hD, hwi]
            exact ih _ _ (by omega) ⟨i + 1, rfl, by omega, by simp [hsz], by simp [h0], by simp, by rw [hnx]; exact hr⟩
  · obtain rfl : i = l.length := by omega
    rw [List.drop_length] at hr
    have e0 : sufS l.length ([] : List UInt8) = true := rfl
    rw [e0, Bool.true_and] at hr
    have hin := l1In_ev l.length 1 10
    simp [hsz, h0, h3, hin, ← hr]
end Go.Qz

/- Versions. -/
namespace Go.Qz
open Go.Proofs

def partOk (l : List UInt8) : Bool := (numI l 999).2
def verOk (l : List UInt8) : Bool := decide ((cutAt 46 l).length ≤ 4) && (cutAt 46 l).all partOk
theorem partOk_S (l : List UInt8) : partOk l = inI (numS l) 0 999 := by
  unfold partOk
  cases h : (numI l 999).2 with
  | true =>
    have h1 := numI_S (l := l) (m := 999) (x := (numI l 999).1) (by rw [← h]) (by omega)
    have h2 := numI_le h
    rw [h1]
    unfold inI
    rw [decide_eq_true (by omega), decide_eq_true (by omega)]
    rfl
  | false =>
    cases h2 : inI (numS l) 0 999 with
    | false => rfl
    | true =>
      unfold inI at h2
      simp only [Bool.and_eq_true, decide_eq_true_eq] at h2
      obtain ⟨x, hx⟩ := Int.eq_ofNat_of_zero_le h2.1
      rw [numS_I (m := 999) hx (by omega) (by omega)] at h
      cases h

def goV : Nat → Lines → Bool
  | _, [] => true
  | k, x :: r => if partOk x then (if k = 4 then false else goV (k + 1) r) else false
theorem goV_eq : ∀ (xs : Lines) (k : Nat), k ≤ 4 → goV k xs = (decide (k + xs.length ≤ 4) && xs.all partOk)
  | [], k, h => by simp [goV, h]
  | x :: r, k, h => by
    rw [goV]
    cases hx : partOk x with
    | false => simp [hx]
    | true =>
      by_cases h4 : k = 4
      · have : ¬ k + (r.length + 1) ≤ 4 := by omega
        subst h4
        rw [if_pos rfl, if_pos rfl, decide_eq_false (by simp)]
        rfl
      · rw [if_pos rfl, if_neg h4, goV_eq r (k + 1) (by omega)]
        simp [hx, Nat.add_assoc, Nat.add_comm 1]
theorem goV_ver (l : List UInt8) : goV 0 (cutAt 46 l) = verOk l := by
  rw [goV_eq _ _ (by omega)]
  simp [verOk]

abbrev IS (ns : List Nat) : D := .sl 1 (ns.map N)
@[simp] theorem flats_N (ns : List Nat) : flats (ns.map N) = true := by
  induction ns with
  | nil => rfl
  | cons a r ih => simp [flats, D.flat, ih]

/-- The numbers that the program reads. -/
def verN : List Nat → Lines → List Nat × Bool
  | acc, [] => (acc, true)
  | acc, x :: r => if (numI x 999).2 = false then ([], false) else if acc.length = 4 then ([], false) else verN (acc ++ [(numI x 999).1]) r
theorem verN_go : ∀ (xs : Lines) (acc : List Nat), (verN acc xs).2 = goV acc.length xs
  | [], acc => rfl
  | x :: r, acc => by
    rw [verN, goV]
    unfold partOk
    cases hx : (numI x 999).2 with
    | false => simp
    | true =>
      by_cases h4 : acc.length = 4
      · simp [h4]
      · have := verN_go r (acc ++ [(numI x 999).1])
        simp [h4, this]
def verL (l : List UInt8) : List Nat := (verN [] (cutAt 46 l)).1
theorem verL_ok (l : List UInt8) : verN [] (cutAt 46 l) = (verL l, verOk l) := by
  unfold verL
  have h := verN_go (cutAt 46 l) []
  rw [List.length_nil] at h
  rw [← goV_ver, ← h]

theorem readVersion_ev (l : List UInt8) (hl : l.length ≤ 1048576) : C fn_i_readVersion [.ro (T l)] [] = some (.tup [.own (IS (verL l)), .ro (.bool (verOk l))], []) := by
  refine ctx_call Tryd.func66 conv_i_readVersion rfl ?_
  have hs := seq_str ⟨l.toArray⟩ ⟨#[46]⟩
  have h46 : (⟨#[46]⟩ : ByteArray).size = 1 := rfl
  have hl2 : l.length ≤ 9223372036854775807 := by omega
  have hmem := cutAt_len 46 l
  have hok := verL_ok l
  generalize verL l = ns at *
  generalize verOk l = ok at *
  simp [hs, h46, hl2]
  refine range_gen (fun o ho => ?_)
  have o2 : o.get 2 = .one (.ptr 2 0) := by rw [ho]; simp
  have o3 : o.get 3 = .one (.ptr 3 0) := by rw [ho]; simp
  have o4 : o.get 4 = .one (.ptr 4 0) := by rw [ho]; simp
  have os : o.size = 28 := by rw [ho]; simp
  have b2 : o.box 2 = some [.own (.sl 1 [])] := by rw [ho]; simp
  have b3 : o.box 3 = some [.ro (.bool false)] := by rw [ho]; simp
  have b4 : o.box 4 = some [.own (.sl 1 [])] := by rw [ho]; simp
  clear ho
  refine range_run (fun xs e => ∃ acc : List Nat, (∀ x ∈ xs, x.length ≤ l.length) ∧ e.size = 28 ∧ e.get 2 = .one (.ptr 9002 0) ∧ e.get 3 = .one (.ptr 9003 0) ∧ e.get 4 = .one (.ptr 9004 0) ∧ e.box 9002 = some [.own (.sl 1 [])] ∧ e.box 9003 = some [.ro (.bool false)] ∧
      e.box 9004 = some [.own (IS acc)] ∧ acc.length ≤ 4 ∧ verN acc xs = (ns, ok))
    ?_ _ _ ⟨[], hmem, by simp [os], by simp [o2], by simp [o3], by simp [o4], by simp [box_enter, b2], by simp [box_enter, b3], by simp [box_enter, b4], by simp, hok⟩
  rintro xs e ⟨acc, hx, es, e2, e3, e4, c2, c3, c4, hacc, hr⟩ ih
  cases xs with
  | nil =>
    rw [verN] at hr
    cases hr
    simp [o2, o3, o4, os, b2, b3, b4, c2, c3, c4, box_leave]
  | cons x xs =>
    have hn := number_ev x 999 999 rfl (by have := hx x (by simp); omega) (by omega)
    rw [verN] at hr
    generalize numI x 999 = v at *
    obtain ⟨n, b⟩ := v
    simp only at hn hr
    cases b with
    | false =>
      simp only [if_true] at hr
      cases hr
      simp [o2, o3, b2, b3, es, e2, e3, e4, c2, c3, c4, hn, box_leave, box_again, box_enter]
    | true =>
      simp only [Bool.true_eq_false, if_false] at hr
      by_cases h4 : acc.length = 4
      · rw [if_pos h4] at hr
        cases hr
        simp [o2, o3, b2, b3, es, e2, e3, e4, c2, c3, c4, hn, h4, box_leave, box_again, box_enter]
      · rw [if_neg h4] at hr
        have hne : (acc.length == 4) = false := by rw [beq_eq_false_iff_ne]; omega
        have ha : acc.length + 1 ≤ appendMax := by simp [appendMax]; omega
        simp [es, e4, c4, hn, hne, ha]
        refine ih _ _ (by simp) ⟨acc ++ [n], fun y hy => hx y (by simp [hy]), by simp [os], by simp [o2], by simp [o3], by simp [o4], by simp [box_again, box_enter, b2, c2], by simp [box_again, box_enter, b3, c3], by simp [box_again, box_enter, b4], by simp; omega, hr⟩

theorem VersionOkI_ev (l : List UInt8) (hl : l.length ≤ 1048576) : C fn_i_VersionOk [.ro (T l)] [] = some (.one (.ro (.bool (verOk l))), []) := by
  refine ctx_call Tryd.func35 conv_i_VersionOk rfl ?_
  simp [readVersion_ev l hl]
end Go.Qz

/- Versions, as the reference has them; needs. -/
namespace Go.Qz
open Go.Proofs

theorem l3Parts_ev (l : List UInt8) (hl : l.length ≤ 1048576) : ∃ is : List Int, C fn_s_l3Parts [.ro (T l)] [] = some (.tup [.own (.sl 1 (is.map I)), .ro (.bool (verOk l))], []) := by
  have hcut := l1CutAll_ev l 46 46 rfl hl
  have hwl : IntKind.i64.wrap ((l.length : Int) + 1) = ((l.length + 1 : Nat) : Int) := wrap64_succ (by omega)
  have hcnt := cutAt_count 46 l
  have hmem := cutAt_len 46 l
  have hv : verOk l = (decide ((cutAt 46 l).length ≤ 4) && (cutAt 46 l).all partOk) := rfl
  generalize cutAt 46 l = xs at *
  -- how far it comes
  have hfar : ∃ n, n ≤ xs.length ∧ (∀ k (h : k < xs.length), k < n → partOk xs[k] = true) ∧ (∀ h : n < xs.length, partOk xs[n] = false) := by
    clear hv hmem hcnt hcut
    induction xs with
    | nil => exact ⟨0, Nat.le_refl _, fun k h => by simp at h, fun h => by simp at h⟩
    | cons x r ih =>
      cases hx : partOk x with
      | false => exact ⟨0, Nat.zero_le _, fun k h h2 => by omega, fun h => hx⟩
      | true =>
        obtain ⟨n, h1, h2, h3⟩ := ih
        refine ⟨n + 1, by simpa using h1, fun k h hk => ?_, fun h => ?_⟩
        · cases k with
          | zero => exact hx
          | succ k => exact h2 k (by simpa using h) (by omega)
        · exact h3 (by simpa using h)
  obtain ⟨n, hn1, hn2, hn3⟩ := hfar
  obtain ⟨pre, q0, q1, q2⟩ : ∃ pre : Nat → List Int, pre 0 = [] ∧ (∀ i (h : i < xs.length), pre (i + 1) = pre i ++ [numS xs[i]]) ∧ ∀ i, i ≤ xs.length → (pre i).length = i :=
    ⟨fun i => (xs.take i).map numS, rfl, fun i h => by simp only [List.take_succ_eq_append_getElem h, List.map_append, List.map_cons, List.map_nil], fun i h => by simp only [List.length_map, List.length_take]; omega⟩
  refine ⟨pre n, ?_⟩
  refine ctx_call Tryd.func58 conv_s_l3Parts rfl ?_
  simp [hwl, hcut]
  refine loop_run (fun m e => ∃ i, m = xs.length - i ∧ i ≤ n ∧ e.size = 37 ∧ e.get 4 = .one (.own (SS xs)) ∧ e.get 5 = .one (.own (.sl 1 ((pre i).map I))) ∧ e.get 6 = .one (.ro (N i)))
    ?_ xs.length _ ⟨0, rfl, Nat.zero_le _, by simp, by simp, by simp [q0], by simp⟩
  rintro m e ⟨i, rfl, hi, hsz, h4, h5, h6⟩ ih
  rcases Nat.lt_or_ge i xs.length with hlt | hge
  · have hwi : IntKind.i64.wrap ((i : Int) + 1) = ((i + 1 : Nat) : Int) := wrap64_succ (by omega)
    have hnum := l1Num_ev xs[i] (by have := hmem _ (List.getElem_mem hlt); omega)
    have hin := l1In_ev (numS xs[i]) 0 999
    rw [← partOk_S] at hin
    rcases Nat.lt_or_ge i n with hin2 | hin2
    · have ht := q1 i hlt
      rw [hn2 i hlt hin2] at hin
      generalize numS xs[i] = q at *
      have hlen := q2 i (by omega)
      have ha : (pre i).length + 1 ≤ appendMax := by rw [hlen]; simp [appendMax]; omega
      simp [hsz, h4, h5, h6, hlt, hwi, hnum, hin, ha]
      exact ih _ _ (by omega) ⟨i + 1, rfl, by omega, by simp [hsz], by simp [h4], by simp [ht], by simp⟩
    · obtain rfl : i = n := by omega
      have hbad := hn3 hlt
      rw [hbad] at hin
      have hvf : verOk l = false := by
        rw [hv]
        have : xs.all partOk = false := by
          rw [List.all_eq_false]
          exact ⟨xs[i], List.getElem_mem hlt, by rw [hbad]; simp⟩
        rw [this]; simp
      simp [hsz, h4, h5, h6, hlt, hnum, hin, hvf]
  · have hil : i = xs.length := by omega
    subst hil
    have hnx : n = xs.length := by omega
    have hall : xs.all partOk = true := by
      rw [List.all_eq_true]
      intro x hx
      obtain ⟨k, hk, rfl⟩ := List.mem_iff_getElem.1 hx
      exact hn2 k hk (by omega)
    rw [hall, Bool.and_true] at hv
    rw [hnx]
    simp [hsz, h4, h5, h6, hv]

theorem VersionOkS_ev (l : List UInt8) (hl : l.length ≤ 1048576) : C fn_s_VersionOk [.ro (T l)] [] = some (.one (.ro (.bool (verOk l))), []) := by
  refine ctx_call Tryd.func29 conv_s_VersionOk rfl ?_
  obtain ⟨is, h⟩ := l3Parts_ev l hl
  simp [h]

/-! ### Needs -/
structure Ne where
  name : List UInt8
  kind : Int
  ver : List UInt8
abbrev NeD (e : Ne) : D := .agg [T e.name, I e.kind, T e.ver]
abbrev NeS (es : List Ne) : D := .sl 3 (es.map NeD)
@[simp] theorem flats_NeD (es : List Ne) : flats (es.map NeD) = true := by
  induction es with
  | nil => rfl
  | cons a r ih => simp [flats, D.flat, ih]
def neSz (e : Ne) : Prop := e.name.length ≤ 1048576 ∧ e.ver.length ≤ 1048576
def needOk (e : Ne) : Bool := packOk e.name && (if e.kind == 0 then e.ver == [] else inI e.kind 1 3 && verOk e.ver)

theorem NeedOkI_ev (e : Ne) (h : neSz e) : C fn_i_NeedOk [.ro (NeD e)] [] = some (.one (.ro (.bool (needOk e))), []) := by
  refine ctx_call Tryd.func37 conv_i_NeedOk rfl ?_
  have h1 := packNameOk_ev e.name (by have := h.1; omega)
  have h2 := VersionOkI_ev e.ver h.2
  unfold needOk
  cases hp : packOk e.name with
  | false => rw [hp] at h1; simp [h1]
  | true =>
    rw [hp] at h1
    cases k0 : e.kind == 0 with
    | true => simp [h1, k0]
    | false =>
      have k0' : ¬ e.kind = 0 := by simpa using k0
      cases k1 : e.kind == 1 with
      | true => have : e.kind = 1 := by simpa using k1
                simp [h1, h2, this, inI]
      | false =>
        have k1' : ¬ e.kind = 1 := by simpa using k1
        cases k2 : e.kind == 2 with
        | true => have : e.kind = 2 := by simpa using k2
                  simp [h1, h2, this, inI]
        | false =>
          have k2' : ¬ e.kind = 2 := by simpa using k2
          cases k3 : e.kind == 3 with
          | true => have : e.kind = 3 := by simpa using k3
                    simp [h1, h2, this, inI]
          | false =>
            have k3' : ¬ e.kind = 3 := by simpa using k3
            have hi : inI e.kind 1 3 = false := by
              unfold inI
              simp only [Bool.and_eq_false_iff, decide_eq_false_iff_not]
              omega
            simp [h1, k0, k1, k2, k3, hi]
theorem NeedOkS_ev (e : Ne) (h : neSz e) : C fn_s_NeedOk [.ro (NeD e)] [] = some (.one (.ro (.bool (needOk e))), []) := by
  refine ctx_call Tryd.func88 conv_s_NeedOk rfl ?_
  have h1 := l3Pack_ev e.name (by have := h.1; omega)
  rw [packS_eq] at h1
  have h2 := VersionOkS_ev e.ver h.2
  have h3 := l1In_ev e.kind 1 3
  unfold needOk
  cases hp : packOk e.name with
  | false => rw [hp] at h1; simp [h1]
  | true =>
    rw [hp] at h1
    cases k0 : e.kind == 0 with
    | true =>
      have hk : e.kind = 0 := by simpa using k0
      have hi : inI e.kind 1 3 = false := by rw [hk]; rfl
      rw [hi] at h3
      cases hv : e.ver == [] <;> simp [h1, k0, hv, h3]
    | false =>
      cases hi : inI e.kind 1 3 with
      | false => rw [hi] at h3; simp [h1, k0, h3]
      | true => rw [hi] at h3; simp [h1, k0, h3, h2]
end Go.Qz

/- Needs in a row: each ok, no name twice. -/
namespace Go.Qz
open Go.Proofs

theorem needName_ev (e : Ne) : C fn_i_needName [.ro (NeD e)] [] = some (.one (.ro (T e.name)), []) := by
  refine ctx_call Tryd.func39 conv_i_needName rfl ?_
  simp

theorem allNeed_ev (es : List Ne) (h : ∀ e ∈ es, neSz e) (hn : es.length ≤ 1048576) : C fn_i_all_i_Need [.ro (NeS es), .fn 37 []] [] = some (.one (.ro (.bool (es.all needOk))), []) := by
  refine ctx_call Tryd.func36 conv_i_all_i_Need rfl ?_
  simp
  refine loop_run (fun m e => ∃ i, m = es.length - i ∧ i ≤ es.length ∧ e.size = 18 ∧ e.get 1 = .one (.fn 37 []) ∧ e.get 7 = .one (.ro (NeS es)) ∧ e.get 8 = .one (.ro (N es.length)) ∧ e.get 9 = .one (.ro (N i)) ∧
    (es.drop i).all needOk = es.all needOk) ?_ es.length _ ⟨0, rfl, Nat.zero_le _, by simp, by simp, by simp, by simp, by simp, rfl⟩
  rintro m e ⟨i, rfl, hi, hsz, h1, h7, h8, h9, hr⟩ ih
  rcases Nat.lt_or_ge i es.length with hlt | hge
  · have hd : es.drop i = es[i] :: es.drop (i + 1) := List.drop_eq_getElem_cons hlt
    have hwi : IntKind.i64.wrap ((i : Int) + 1) = ((i + 1 : Nat) : Int) := wrap64_succ (by omega)
    have hfx := NeedOkI_ev es[i] (h _ (List.getElem_mem hlt))
    rw [hd, List.all_cons] at hr
    cases hp : needOk es[i] with
    | false =>
      rw [hp] at hr hfx
      simp [hfx, hsz, h1, h7, h8, h9, hlt, ← hr]
    | true =>
      rw [hp] at hr hfx
      rw [Bool.true_and] at hr
      simp [hfx, hsz, h1, h7, h8, h9, hlt, hwi]
      exact ih _ _ (by omega) ⟨i + 1, rfl, by omega, by simp [hsz], by simp [h1], by simp [h7], by simp [h8], by simp, hr⟩
  · obtain rfl : i = es.length := by omega
    rw [List.drop_length, List.all_nil] at hr
    simp [hsz, h8, h9, ← hr]

/-- A text that comes twice, or is among those seen. -/
def dupT : Lines → Lines → Bool
  | _, [] => false
  | seen, x :: r => seen.contains x || dupT (seen ++ [x]) r

theorem clone1_ev (x : List UInt8) : C fn_slices_Clone_L_string_string [.ro (.sl 1 [T x])] [] = some (.one (.own (.sl 1 [T x])), []) := by
  refine ctx_call Tryd.func67 conv_slices_Clone_L_string_string rfl ?_
  have h1 : 1 ≤ appendMax := by decide
  simp [h1]

theorem twiceNeed_ev (es : List Ne) (nm : List UInt8) (hn : es.length ≤ 1048576) : C fn_i_namesTwice_i_Need [.ro (NeS es), .fn 39 [],   .ro (.sl 1 [T nm])] [] = some (.one (.ro (.bool (dupT [nm] (es.map Ne.name)))), []) := by
  refine ctx_call Tryd.func38 conv_i_namesTwice_i_Need rfl ?_
  have hc := clone1_ev nm
  simp [hc]
  refine loop_run (fun m e => ∃ i seen, m = es.length - i ∧ i ≤ es.length ∧ seen.length = i + 1 ∧ e.size = 30 ∧ e.get 1 = .one (.fn 39 []) ∧ e.get 7 = .one (.own (SS seen)) ∧ e.get 12 = .one (.ro (NeS es)) ∧ e.get 13 = .one (.ro (N es.length)) ∧ e.get 14 = .one (.ro (N i)) ∧
    dupT seen ((es.drop i).map Ne.name) = dupT [nm] (es.map Ne.name)) ?_ es.length _ ⟨0, [nm], rfl, Nat.zero_le _, rfl, by simp, by simp, by simp, by simp, by simp, by simp, rfl⟩
  rintro m e ⟨i, seen, rfl, hi, hseen, hsz, h1, h7, h12, h13, h14, hr⟩ ih
  rcases Nat.lt_or_ge i es.length with hlt | hge
  · have hd : es.drop i = es[i] :: es.drop (i + 1) := List.drop_eq_getElem_cons hlt
    have hwi : IntKind.i64.wrap ((i : Int) + 1) = ((i + 1 : Nat) : Int) := wrap64_succ (by omega)
    have hnm := needName_ev es[i]
    have hct := contains_ev seen es[i].name (by omega)
    have ha : seen.length + 1 ≤ appendMax := by simp [appendMax]; omega
    rw [hd, List.map_cons, dupT] at hr
    cases hp : seen.contains es[i].name with
    | true =>
      rw [hp] at hct hr
      rw [Bool.true_or] at hr
      simp [hsz, h1, h7, h12, h13, h14, hlt, hnm, hct, ← hr]
    | false =>
      rw [hp] at hct hr
      rw [Bool.false_or] at hr
      simp [hsz, h1, h7, h12, h13, h14, hlt, hwi, hnm, hct, ha]
      exact ih _ _ (by omega) ⟨i + 1, seen ++ [es[i].name], rfl, by omega, by simp [hseen], by simp [hsz], by simp [h1], by simp, by simp [h12], by simp [h13], by simp, hr⟩
  · obtain rfl : i = es.length := by omega
    rw [List.drop_length, List.map_nil, dupT] at hr
    simp [hsz, h13, h14, ← hr]

theorem l4Twice_ev (xs : Lines) (hn : xs.length ≤ 2097152) : C fn_s_l4Twice [.ro (SS xs)] [] = some (.one (.ro (.bool (dupT [] xs))), []) := by
  refine ctx_call Tryd.func60 conv_s_l4Twice rfl ?_
  simp
  refine loop_run (fun m e => ∃ i, m = xs.length - i ∧ i ≤ xs.length ∧ e.size = 25 ∧ e.get 0 = .one (.ro (SS xs)) ∧ e.get 3 = .one (.ro (N i)) ∧ dupT (xs.take i) (xs.drop i) = dupT [] xs)
    ?_ xs.length _ ⟨0, rfl, Nat.zero_le _, by simp, by simp, by simp, rfl⟩
  rintro m e ⟨i, rfl, hi, hsz, h0, h3, hr⟩ ih
  rcases Nat.lt_or_ge i xs.length with hlt | hge
  · have hd : xs.drop i = xs[i] :: xs.drop (i + 1) := List.drop_eq_getElem_cons hlt
    have hwi : IntKind.i64.wrap ((i : Int) + 1) = ((i + 1 : Nat) : Int) := wrap64_succ (by omega)
    rw [hd, dupT, ← List.take_succ_eq_append_getElem hlt] at hr
    simp [hsz, h0, h3, hlt]
    refine loop_run (fun m e => ∃ k, m = i - k ∧ k ≤ i ∧ e.size = 25 ∧ e.get 0 = .one (.ro (SS xs)) ∧ e.get 3 = .one (.ro (N i)) ∧ e.get 4 = .one (.ro (N k)) ∧ ∀ j (h : j < xs.length), j < k → (xs[j] == xs[i]) = false)
      ?_ i _ ⟨0, rfl, Nat.zero_le _, by simp [hsz], by simp [h0], by simp [h3], by simp, by omega⟩
    clear hsz h0 h3
    rintro m e ⟨k, rfl, hk, hsz, h0, h3, h4, hno⟩ ih2
    rcases Nat.lt_or_ge k i with hlt2 | hge2
    · have hkx : k < xs.length := by omega
      have hwk : IntKind.i64.wrap ((k : Int) + 1) = ((k + 1 : Nat) : Int) := wrap64_succ (by omega)
      have hki : (k : Int) < i := by omega
      cases hq : xs[k] == xs[i] with
      | true =>
        have hc : (xs.take i).contains xs[i] = true := by
          rw [List.contains_iff_mem]
          have : xs[k] = xs[i] := by simpa using hq
          rw [← this]
          exact List.mem_take_iff_getElem.2 ⟨k, by omega, rfl⟩
        rw [hc, Bool.true_or] at hr
        simp [hsz, h0, h3, h4, hlt, hkx, hki, hq, ← hr]
      | false =>
        simp [hsz, h0, h3, h4, hlt, hkx, hki, hq, hwk]
        refine ih2 _ _ (by omega) ⟨k + 1, rfl, by omega, by simp [hsz], by simp [h0], by simp [h3], by simp, fun j h hj => ?_⟩
        rcases Nat.lt_or_ge j k with h' | h'
        · exact hno j h h'
        · obtain rfl : j = k := by omega
          exact hq
    · obtain rfl : k = i := by omega
      have hc : (xs.take k).contains xs[k] = false := by
        cases hq : (xs.take k).contains xs[k] with
        | false => rfl
        | true =>
          rw [List.contains_iff_mem] at hq
          obtain ⟨j, hj, he⟩ := List.mem_take_iff_getElem.1 hq
          have := hno j (by omega) (by omega)
          rw [he] at this
          simp at this
      rw [hc, Bool.false_or] at hr
      simp [hsz, h3, h4, hwi]
      exact ih _ _ (by omega) ⟨k + 1, rfl, by omega, by simp [hsz], by simp [h0], by simp, hr⟩
  · obtain rfl : i = xs.length := by omega
    rw [List.drop_length, dupT] at hr
    simp [hsz, h0, h3, ← hr]

theorem l4Needs_ev (es : List Ne) (h : ∀ e ∈ es, neSz e) (hn : es.length ≤ 1048576) : C fn_s_l4Needs [.ro (NeS es)] [] = some (.one (.ro (.bool (es.all needOk && decide (es.length ≤ 6)))), []) := by
  refine ctx_call Tryd.func59 conv_s_l4Needs rfl ?_
  simp
  refine loop_run (fun m e => ∃ i, m = es.length - i ∧ i ≤ es.length ∧ e.size = 19 ∧ e.get 0 = .one (.ro (NeS es)) ∧ e.get 3 = .one (.ro (N i)) ∧
    (es.drop i).all needOk = es.all needOk) ?_ es.length _ ⟨0, rfl, Nat.zero_le _, by simp, by simp, by simp, rfl⟩
  rintro m e ⟨i, rfl, hi, hsz, h0, h3, hr⟩ ih
  rcases Nat.lt_or_ge i es.length with hlt | hge
  · have hd : es.drop i = es[i] :: es.drop (i + 1) := List.drop_eq_getElem_cons hlt
    have hwi : IntKind.i64.wrap ((i : Int) + 1) = ((i + 1 : Nat) : Int) := wrap64_succ (by omega)
    have hfx := NeedOkS_ev es[i] (h _ (List.getElem_mem hlt))
    rw [hd, List.all_cons] at hr
    cases hp : needOk es[i] with
    | false =>
      rw [hp] at hr hfx
      simp [hfx, hsz, h0, h3, hlt, ← hr]
    | true =>
      rw [hp] at hr hfx
      rw [Bool.true_and] at hr
      simp [hfx, hsz, h0, h3, hlt, hwi]
      exact ih _ _ (by omega) ⟨i + 1, rfl, by omega, by simp [hsz], by simp [h0], by simp, hr⟩
  · obtain rfl : i = es.length := by omega
    rw [List.drop_length, List.all_nil] at hr
    simp [hsz, h0, h3, ← hr]

theorem l7Needs_ev (es : List Ne) (nm : List UInt8) (h : ∀ e ∈ es, neSz e) (hn : es.length ≤ 1048576) : C fn_s_l7Needs [.ro (T nm), .ro (NeS es)] [] = some (.one (.ro (.bool ((es.all needOk && decide (es.length ≤ 6)) && !dupT [nm] (es.map Ne.name)))), []) := by
  refine ctx_call Tryd.func30 conv_s_l7Needs rfl ?_
  simp
  refine loop_run (fun m e => ∃ i, m = es.length - i ∧ i ≤ es.length ∧ e.size = 30 ∧ e.get 1 = .one (.ro (NeS es)) ∧ e.get 5 = .one (.own (SS (nm :: (es.take i).map Ne.name))) ∧ e.get 6 = .one (.ro (N i))) ?_ es.length _ ⟨0, rfl, Nat.zero_le _, by simp, by simp, by simp, by simp⟩
  rintro m e ⟨i, rfl, hi, hsz, h1, h5, h6⟩ ih
  rcases Nat.lt_or_ge i es.length with hlt | hge
  · have hwi : IntKind.i64.wrap ((i : Int) + 1) = ((i + 1 : Nat) : Int) := wrap64_succ (by omega)
    have hl : (nm :: (es.take i).map Ne.name).length = i + 1 := by simp; omega
    have ht : (nm :: (es.take (i + 1)).map Ne.name) = (nm :: (es.take i).map Ne.name) ++ [es[i].name] := by rw [List.take_succ_eq_append_getElem hlt]; simp only [List.map_append, List.map_cons, List.map_nil, List.cons_append]
    generalize (nm :: (es.take i).map Ne.name) = ys at *
    have ha : ys.length + 1 ≤ appendMax := by rw [hl]; simp [appendMax]; omega
    simp [hsz, h1, h5, h6, hlt, hwi, ha]
    refine ih _ _ (by omega) ⟨i + 1, rfl, by omega, by simp [hsz], by simp [h1], ?_, by simp⟩
    rw [ht]
    simp
  · obtain rfl : i = es.length := by omega
    have hl := l4Needs_ev es h (by omega)
    rw [List.take_length] at h5
    have ht := l4Twice_ev (nm :: es.map Ne.name) (by simp; omega)
    have hd : dupT [] (nm :: es.map Ne.name) = dupT [nm] (es.map Ne.name) := by
      rw [dupT]; simp
    rw [hd] at ht
    generalize (nm :: es.map Ne.name) = ys at *
    generalize (es.all needOk && decide (es.length ≤ 6)) = b at *
    cases b <;> simp [hsz, h1, h5, h6, hl, ht]
end Go.Qz

/- Entries of trees: what is valid by itself; where a path is. -/
namespace Go.Qz
open Go.Proofs

structure En where
  path : List UInt8
  kind : Int
  mode : Int
  text : List UInt8
abbrev ED (e : En) : D := .agg [T e.path, I e.kind, I e.mode, T e.text]
abbrev ES (es : List En) : D := .sl 4 (es.map ED)
@[simp] theorem flats_ED (es : List En) : flats (es.map ED) = true := by
  induction es with
  | nil => rfl
  | cons a r ih => simp [flats, D.flat, ih]

def fileB (b : UInt8) : Bool := plainB b || b == 10
def fileT (l : List UInt8) : Bool := decide (l.length ≤ 80) && l.all fileB
def entOk (e : En) : Bool := pathOk e.path && (decide (0 ≤ e.mode) && (decide (e.mode ≤ 7) &&
  (if e.kind == 1 then e.text == [] else if e.kind == 2 then fileT e.text else if e.kind == 3 then e.mode == 0 && pathOk e.text else false)))

theorem fileText_ev (l : List UInt8) : C fn_i_fileText [.ro (T l)] [] = some (.one (.ro (.bool (fileT l))), []) := by
  refine ctx_call Tryd.func77 conv_i_fileText rfl ?_
  unfold fileT
  by_cases hs : l.length ≤ 80
  · have hs' : ¬ (80 : Int) < l.length := by omega
    simp [hs']
    refine loop_run (fun m e => ∃ i, m = l.length - i ∧ i ≤ l.length ∧ e.size = 24 ∧ e.get 0 = .one (.ro (T l)) ∧ e.get 8 = .one (.ro (N l.length)) ∧ e.get 9 = .one (.ro (N i)) ∧
      (l.drop i).all fileB = l.all fileB) ?_ l.length _ ⟨0, rfl, Nat.zero_le _, by simp, by simp, by simp, by simp, rfl⟩
    rintro m e ⟨i, rfl, hi, hsz, h0, h8, h9, hr⟩ ih
    rcases Nat.lt_or_ge i l.length with hlt | hge
    · have hd : l.drop i = l[i] :: l.drop (i + 1) := List.drop_eq_getElem_cons hlt
      have hwi : IntKind.i64.wrap ((i : Int) + 1) = ((i + 1 : Nat) : Int) := wrap64_succ (by omega)
      rw [hd, List.all_cons] at hr
      have hf : fileB l[i] = (plainB l[i] || l[i] == 10) := rfl
      rw [hf] at hr
      have hpl := plainByte_ev l[i]
      cases hp : plainB l[i] with
      | false =>
        rw [hp] at hr hpl
        cases hq : l[i] == 10 with
        | false =>
          rw [hq] at hr
          simp [hpl, hsz, h0, h8, h9, hlt, hq, hs, ← hr]
        | true =>
          rw [hq] at hr
          simp [hpl, hsz, h0, h8, h9, hlt, hwi, hq]
          exact ih _ _ (by omega) ⟨i + 1, rfl, by omega, by simp [hsz], by simp [h0], by simp [h8], by simp, by simpa using hr⟩
      | true =>
        rw [hp] at hr hpl
        simp [hpl, hsz, h0, h8, h9, hlt, hwi]
        exact ih _ _ (by omega) ⟨i + 1, rfl, by omega, by simp [hsz], by simp [h0], by simp [h8], by simp, by simpa using hr⟩
    · obtain rfl : i = l.length := by omega
      rw [List.drop_length, List.all_nil] at hr
      simp [hsz, h8, h9, hs, ← hr]
  · have hs' : 80 < l.length := by omega
    simp [hs', hs]

theorem l2Text_ev (l : List UInt8) (hl : l.length ≤ 140737488351232) : C fn_s_l2Text [.ro (T l)] [] = some (.one (.ro (.bool (fileT l))), []) := by
  refine ctx_call Tryd.func90 conv_s_l2Text rfl ?_
  unfold fileT
  rw [Bool.and_comm]
  simp
  refine loop_run (fun m e => ∃ i, m = l.length - i ∧ i ≤ l.length ∧ e.size = 25 ∧ e.get 0 = .one (.ro (T l)) ∧ e.get 3 = .one (.ro (N i)) ∧
    (l.drop i).all fileB = l.all fileB) ?_ l.length _ ⟨0, rfl, Nat.zero_le _, by simp, by simp, by simp, rfl⟩
  rintro m e ⟨i, rfl, hi, hsz, h0, h3, hr⟩ ih
  rcases Nat.lt_or_ge i l.length with hlt | hge
  · have hd : l.drop i = l[i] :: l.drop (i + 1) := List.drop_eq_getElem_cons hlt
    have hwi : IntKind.i64.wrap ((i : Int) + 1) = ((i + 1 : Nat) : Int) := wrap64_succ (by omega)
    have hwb : IntKind.i64.wrap (l[i].toNat : Int) = l[i].toNat := by have := l[i].toNat_lt; exact wrap64 (by omega) (by omega)
    rw [hd, List.all_cons] at hr
    have hf : fileB l[i] = (plainB l[i] || l[i] == 10) := rfl
    rw [hf] at hr
    have hpl := l1In_ev l[i].toNat 32 126
    rw [in_plain] at hpl
    cases hq : l[i] == 10 with
    | true =>
      rw [hq, Bool.or_true, Bool.true_and] at hr
      simp [hsz, h0, h3, hlt, hwi, hq]
      exact ih _ _ (by omega) ⟨i + 1, rfl, by omega, by simp [hsz], by simp [h0], by simp, hr⟩
    | false =>
      rw [hq, Bool.or_false] at hr
      cases hp : plainB l[i] with
      | false =>
        rw [hp] at hr hpl
        simp [hpl, hsz, h0, h3, hlt, hwb, hq, ← hr]
      | true =>
        rw [hp, Bool.true_and] at hr
        rw [hp] at hpl
        simp [hpl, hsz, h0, h3, hlt, hwb, hwi, hq]
        exact ih _ _ (by omega) ⟨i + 1, rfl, by omega, by simp [hsz], by simp [h0], by simp, hr⟩
  · obtain rfl : i = l.length := by omega
    rw [List.drop_length, List.all_nil] at hr
    simp [hsz, h0, h3, ← hr]

/-- An entry whose texts are no longer than any. -/
def enSz (e : En) : Prop := e.path.length ≤ 1048576 ∧ e.text.length ≤ 1048576

theorem entryOk_ev (e : En) (hl : enSz e) : C fn_i_entryOk [.ro (ED e)] [] = some (.one (.ro (.bool (entOk e))), []) := by
  refine ctx_call Tryd.func47 conv_i_entryOk rfl ?_
  have h1 := PathOk_ev e.path (by have := hl.1; omega)
  have h2 := PathOk_ev e.text (by have := hl.2; omega)
  have h3 := fileText_ev e.text
  unfold entOk
  cases hp : pathOk e.path with
  | false => rw [hp] at h1; simp [h1]
  | true =>
    rw [hp] at h1
    by_cases hm : e.mode < 0
    · have hm' : ¬ 0 ≤ e.mode := by omega
      simp [h1, hm, hm']
    · have hm' : 0 ≤ e.mode := by omega
      by_cases hm7 : 7 < e.mode
      · have hm8 : ¬ e.mode ≤ 7 := by omega
        simp [h1, hm, hm', hm7, hm8]
      · have hm8 : e.mode ≤ 7 := by omega
        cases k1 : e.kind == 1 with
        | true => simp [h1, hm, hm', hm7, hm8, k1]
        | false =>
          cases k2 : e.kind == 2 with
          | true => simp [h1, hm, hm', hm7, hm8, k1, k2, h3]
          | false =>
            cases k3 : e.kind == 3 with
            | true => cases k0 : e.mode == 0 <;> simp [h1, hm, hm', hm7, hm8, k1, k2, k3, k0, h2]
            | false => simp [h1, hm, hm', hm7, hm8, k1, k2, k3]

theorem l2Entry_ev (e : En) (hl : enSz e) : C fn_s_l2Entry [.ro (ED e)] [] = some (.one (.ro (.bool (entOk e))), []) := by
  refine ctx_call Tryd.func61 conv_s_l2Entry rfl ?_
  have h1 := l1Path_ev e.path hl.1
  have h2 := l1Path_ev e.text hl.2
  have h3 := l2Text_ev e.text (by have := hl.2; omega)
  have h4 := l1In_ev e.mode 0 7
  have h5 : inI e.mode 0 7 = (decide (0 ≤ e.mode) && decide (e.mode ≤ 7)) := rfl
  rw [h5] at h4
  unfold entOk
  cases hp : pathOk e.path with
  | false => rw [hp] at h1; simp [h1]
  | true =>
    rw [hp] at h1
    rw [← Bool.and_assoc (decide (0 ≤ e.mode))]
    generalize hin : (decide (0 ≤ e.mode) && decide (e.mode ≤ 7)) = inb at *
    cases k1 : e.kind == 1 with
    | true => cases inb <;> simp [h1, k1, h4]
    | false =>
      cases k2 : e.kind == 2 with
      | true => cases inb <;> simp [h1, k1, k2, h3, h4]
      | false =>
        cases k3 : e.kind == 3 with
        | true =>
          cases k0 : e.mode == 0 with
          | false => cases inb <;> simp [h1, k1, k2, k3, k0]
          | true =>
            have : e.mode = 0 := by simpa using k0
            rw [this] at hin
            subst hin
            simp [h1, k1, k2, k3, k0, h2]
        | false => cases inb <;> simp [h1, k1, k2, k3]
end Go.Qz

/- Where a path is in entries that ascend. -/
namespace Go.Qz
open Go.Proofs

def cmpT (p q : List UInt8) : Int := if lessT p q then -1 else if p == q then 0 else 1
theorem isNaN_ev (p : List UInt8) : C fn_cmp_isNaN_string [.ro (T p)] [] = some (.one (.ro (.bool false)), []) := by
  refine ctx_call Tryd.func134 conv_cmp_isNaN_string rfl ?_
  simp
theorem Compare_ev (p q : List UInt8) : C fn_cmp_Compare_string [.ro (T p), .ro (T q)] [] = some (.one (.ro (I (cmpT p q))), []) := by
  refine ctx_call Tryd.func118 conv_cmp_Compare_string rfl ?_
  unfold cmpT
  cases h1 : lessT p q with
  | true => simp [isNaN_ev, h1]
  | false => cases h2 : p == q <;> simp [isNaN_ev, h1, h2]
theorem byPath_ev (a b : En) : C fn_i_byPath [.ro (ED a), .ro (ED b)] [] = some (.one (.ro (I (cmpT a.path b.path))), []) := by
  refine ctx_call Tryd.func103 conv_i_byPath rfl ?_
  simp [Compare_ev]
theorem cmpT_lt (p q : List UInt8) : decide (cmpT p q < 0) = lessT p q := by
  unfold cmpT
  cases h1 : lessT p q with
  | true => simp
  | false => cases h2 : p == q <;> simp
theorem cmpT_eq (p q : List UInt8) (h : lessT p q = false) : (cmpT p q == 0) = (p == q) := by
  unfold cmpT
  rw [h]
  cases h2 : p == q <;> simp

def there (es : List En) (p : List UInt8) : Bool := match es[below En.path p es]? with
  | some e => e.path == p
  | none => false

theorem search_ev (es : List En) (x : En) (hn : es.length ≤ 1048576) (ha : ascending En.path es = true) :
    C fn_slices_BinarySearchFunc_L_i_Entry_i_Entry_i_Entry [.ro (ES es), .ro (ED x), .fn 103 []] [] = some (.tup [.ro (N (below En.path x.path es)), .ro (.bool (there es x.path))], []) := by
  refine ctx_call Tryd.func102 conv_slices_BinarySearchFunc_L_i_Entry_i_Entry_i_Entry rfl ?_
  simp
  refine loop_run (fun m e => ∃ i j, m = j - i ∧ i ≤ j ∧ j ≤ es.length ∧ (∀ k (h : k < es.length), k < i → lessT es[k].path x.path = true) ∧ (∀ k (h : k < es.length), j ≤ k → lessT es[k].path x.path = false) ∧ e.size = 49 ∧
      e.get 0 = .one (.ro (ES es)) ∧ e.get 2 = .one (.fn 103 []) ∧ e.get 4 = .one (.ptr 4 0) ∧ e.box 4 = some [.ro (T x.path), .ro (I x.kind), .ro (I x.mode), .ro (T x.text)] ∧ e.get 8 = .one (.ro (N es.length)) ∧ e.get 9 = .one (.ro (N i)) ∧ e.get 10 = .one (.ro (N j)))
    ?_ es.length _ ⟨0, es.length, rfl, Nat.zero_le _, Nat.le_refl _, by omega, by omega, by simp, by simp, by simp, by simp, by simp, by simp, by simp, by simp⟩
  rintro m e ⟨i, j, rfl, hij, hj, hlo, hhi, hsz, h0, h2, h4, hb, h8, h9, h10⟩ ih
  rcases Nat.lt_or_ge i j with hlt | hge
  · have hw : IntKind.i64.wrap ((i : Int) + j) = ((i + j : Nat) : Int) := by rw [wrap64 (by omega) (by omega)]; omega
    have hu : IntKind.u64.wrap ((i + j : Nat) : Int) = ((i + j : Nat) : Int) := by
      unfold IntKind.wrap
      simp [IntKind.bits, IntKind.signed]
      omega
    obtain ⟨h, hh⟩ : ∃ h, h = (i + j) / 2 := ⟨_, rfl⟩
    have hm : (2 : Int) ^ min 1 IntKind.u64.bits = 2 := by decide
    have hf : ((i + j : Nat) : Int).fdiv (2 ^ min 1 IntKind.u64.bits) = (h : Int) := by
      rw [hm, Int.fdiv_eq_ediv_of_nonneg _ (by omega)]
      omega
    have hh1 : i ≤ h := by omega
    have hh2 : h < j := by omega
    have hh3 : h < 1048576 := by omega
    generalize i + j = s at *
    have hwh : IntKind.i64.wrap (h : Int) = h := wrap64 (by omega) (by omega)
    have hwh1 : IntKind.i64.wrap ((h : Int) + 1) = ((h + 1 : Nat) : Int) := wrap64_succ (by omega)
    have hhl : h < es.length := by omega
    have hb2 := byPath_ev es[h] x
    have hc := cmpT_lt es[h].path x.path
    have hij' : (i : Int) < j := by omega
    generalize cmpT es[h].path x.path = c at *
    cases hp : lessT es[h].path x.path with
    | true =>
      have hc' : c < 0 := by rw [hp] at hc; simpa using hc
      simp [hsz, h0, h2, h4, hb, h9, h10, hij', hw, hu, hf, hwh, hwh1, hhl, hb2, hc']
      refine ih _ _ (by omega) ⟨h + 1, j, rfl, by omega, hj, fun k hk hk1 => ?_, hhi, by simp [hsz], by simp [h0], by simp [h2], by simp [h4], by simp [hb], by simp [h8], by simp, by simp [h10]⟩
      rcases Nat.lt_or_ge k h with h' | h'
      · exact less_trans (asc_get ha k h hhl h') hp
      · obtain rfl : k = h := by omega
        exact hp
    | false =>
      have hc' : ¬ c < 0 := by rw [hp] at hc; simpa using hc
      simp [hsz, h0, h2, h4, hb, h9, h10, hij', hw, hu, hf, hwh, hhl, hb2, hc']
      refine ih _ _ (by omega) ⟨i, h, rfl, by omega, by omega, hlo, fun k hk hk1 => ?_, by simp [hsz], by simp [h0], by simp [h2], by simp [h4], by simp [hb], by simp [h8], by simp [h9], by simp⟩
      rcases Nat.lt_or_ge h k with h' | h'
      · cases hq : lessT es[k].path x.path with
        | false => rfl
        | true => have := less_trans (asc_get ha h k hk h') hq; rw [hp] at this; cases this
      · obtain rfl : k = h := by omega
        exact hp
  · obtain rfl : i = j := by omega
    have hbl := below_is (f := En.path) (p := x.path) i hj hlo hhi
    unfold there
    rw [hbl]
    rcases Nat.lt_or_ge i es.length with hil | hil
    · have hb2 := byPath_ev es[i] x
      have hc := cmpT_eq es[i].path x.path (hhi i hil (Nat.le_refl _))
      generalize cmpT es[i].path x.path = c at *
      simp [hsz, h0, h2, h4, hb, h8, h9, h10, hil, hb2, hc]
    · obtain rfl : i = es.length := by omega
      simp [hsz, h0, h2, h4, hb, h8, h9, h10]

theorem findEntry_ev (es : List En) (p : List UInt8) (hn : es.length ≤ 1048576) (ha : ascending En.path es = true) :
    C fn_i_findEntry [.ro (ES es), .ro (T p)] [] = some (.tup [.ro (N (below En.path p es)), .ro (.bool (there es p))], []) := by
  refine ctx_call Tryd.func79 conv_i_findEntry rfl ?_
  have h := search_ev es ⟨p, 0, 0, []⟩ hn ha
  simp [h]

theorem l2At_ev (es : List En) (p : List UInt8) (hn : es.length ≤ 1048576) :
    C fn_s_l2At [.ro (ES es), .ro (T p)] [] = some (.tup [.ro (N (below En.path p es)), .ro (.bool (there es p))], []) := by
  refine ctx_call Tryd.func91 conv_s_l2At rfl ?_
  simp
  refine loop_run (fun m e => ∃ k, m = es.length - k ∧ k ≤ es.length ∧ e.size = 36 ∧ e.get 0 = .one (.ro (ES es)) ∧ e.get 1 = .one (.ro (T p)) ∧ e.get 6 = .one (.ro (N k)) ∧ k + below En.path p (es.drop k) = below En.path p es)
    ?_ es.length _ ⟨0, rfl, Nat.zero_le _, by simp, by simp, by simp, by simp, by simp⟩
  rintro m e ⟨k, rfl, hk, hsz, h0, h1, h6, hr⟩ ih
  rcases Nat.lt_or_ge k es.length with hlt | hge
  · have hd : es.drop k = es[k] :: es.drop (k + 1) := List.drop_eq_getElem_cons hlt
    have hwk : IntKind.i64.wrap ((k : Int) + 1) = ((k + 1 : Nat) : Int) := wrap64_succ (by omega)
    rw [hd, below] at hr
    cases hp : lessT es[k].path p with
    | true =>
      rw [hp, if_pos rfl] at hr
      simp [hsz, h0, h1, h6, hlt, hp, hwk]
      exact ih _ _ (by omega) ⟨k + 1, rfl, by omega, by simp [hsz], by simp [h0], by simp [h1], by simp, by omega⟩
    | false =>
      rw [hp] at hr
      simp only [Bool.false_eq_true, if_false, Nat.add_zero] at hr
      unfold there
      rw [← hr]
      simp [hsz, h0, h1, h6, hlt, hp]
  · obtain rfl : k = es.length := by omega
    rw [List.drop_length, below, Nat.add_zero] at hr
    unfold there
    rw [← hr]
    simp [hsz, h0, h1, h6]

/-- A dir in which a path may be. -/
def dirAt (es : List En) (p : List UInt8) : Bool := there es p && (match es[below En.path p es]? with
  | some e => e.kind == 1
  | none => false)
theorem there_lt {es : List En} {p : List UInt8} (h : there es p = true) : below En.path p es < es.length := by
  unfold there at h
  rcases Nat.lt_or_ge (below En.path p es) es.length with h' | h'
  · exact h'
  · rw [List.getElem?_eq_none h'] at h; cases h

theorem l2Dir_ev (es : List En) (p : List UInt8) (hn : es.length ≤ 1048576) : C fn_s_l2Dir [.ro (ES es), .ro (T p)] [] = some (.one (.ro (.bool (p == [] || dirAt es p))), []) := by
  refine ctx_call Tryd.func62 conv_s_l2Dir rfl ?_
  have h := l2At_ev es p hn
  cases hp : p == [] with
  | true => simp [h, hp]
  | false =>
    unfold dirAt
    cases ht : there es p with
    | false => rw [ht] at h; simp [h, hp]
    | true =>
      have hl := there_lt ht
      rw [ht] at h
      generalize below En.path p es = k at *
      simp [h, hp, hl]
theorem hasPlaceFor_ev (es : List En) (p : List UInt8) (hn : es.length ≤ 1048576) (ha : ascending En.path es = true) (hp0 : pathOk p = true) (hl : p.length ≤ 1048576) :
    C fn_i_hasPlaceFor [.ro (ES es), .ro (T p)] [] = some (.one (.ro (.bool (upL p == [] || dirAt es (upL p)))), []) := by
  refine ctx_call Tryd.func48 conv_i_hasPlaceFor rfl ?_
  have hup := PathUp_ev p hl
  rw [hp0, if_pos rfl] at hup
  generalize upL p = u at *
  have h := findEntry_ev es u hn ha
  cases hp : u == [] with
  | true => simp [hup, hp]
  | false =>
    unfold dirAt
    cases ht : there es u with
    | false => rw [ht] at h; simp [hup, h, hp]
    | true =>
      have hl := there_lt ht
      rw [ht] at h
      generalize below En.path u es = k at *
      simp [hup, h, hp, hl]
end Go.Qz

/- What is a tree. -/
namespace Go.Qz
open Go.Proofs

def ordAt (es : List En) (i : Nat) (e : En) : Bool := i == 0 || (match es[i - 1]? with
  | some d => lessT d.path e.path
  | none => false)
def formAt (es : List En) (i : Nat) : Bool := match es[i]? with
  | some e => entOk e && ordAt es i e
  | none => true
def homeAt (es : List En) (i : Nat) : Bool := match es[i]? with
  | some e => upL e.path == [] || dirAt (es.take i) (upL e.path)
  | none => true
def treeOk (es : List En) : Bool := decide (es.length ≤ 16) && (List.range es.length).all fun i => formAt es i && homeAt es i

theorem treeOk_bad {es : List En} {i : Nat} (hi : i < es.length) (h : (formAt es i && homeAt es i) = false) : treeOk es = false := by
  cases hq : treeOk es with
  | false => rfl
  | true =>
    unfold treeOk at hq
    rw [Bool.and_eq_true, List.all_eq_true] at hq
    have := hq.2 i (List.mem_range.2 hi)
    rw [h] at this; cases this
theorem treeOk_good {es : List En} (hn : es.length ≤ 16) (h : ∀ i, i < es.length → (formAt es i && homeAt es i) = true) : treeOk es = true := by
  unfold treeOk
  rw [Bool.and_eq_true, List.all_eq_true]
  exact ⟨by simpa using hn, fun i hi => h i (List.mem_range.1 hi)⟩

theorem asc_of {es : List En} : (∀ i, i < es.length → formAt es i = true) → ascending En.path es = true := by
  induction es with
  | nil => intro _; rfl
  | cons x r ih =>
    intro h
    unfold ascending
    rw [Bool.and_eq_true]
    refine ⟨?_, ih (fun i hi => ?_)⟩
    · cases r with
      | nil => rfl
      | cons y t =>
        have := h 1 (by simp)
        unfold formAt at this
        simp [ordAt] at this
        exact this.2
    · have h1 := h (i + 1) (by simpa using hi)
      unfold formAt at h1 ⊢
      rw [List.getElem?_cons_succ] at h1
      cases hq : r[i]? with
      | none => rfl
      | some e =>
        rw [hq] at h1
        simp only [Bool.and_eq_true] at h1 ⊢
        refine ⟨h1.1, ?_⟩
        have h2 := h1.2
        unfold ordAt at h2 ⊢
        cases i with
        | zero => rfl
        | succ i => simpa using h2
theorem form_take {es : List En} (n : Nat) (h : ∀ i, i < n → formAt es i = true) : ∀ i, i < (es.take n).length → formAt (es.take n) i = true := by
  intro i hi
  have hin : i < n := by rw [List.length_take] at hi; omega
  have := h i hin
  unfold formAt at this ⊢
  rw [List.getElem?_take_of_lt hin]
  cases hq : es[i]? with
  | none => rfl
  | some e =>
    rw [hq] at this
    simp only [Bool.and_eq_true] at this ⊢
    refine ⟨this.1, ?_⟩
    have h2 := this.2
    unfold ordAt at h2 ⊢
    rw [List.getElem?_take_of_lt (by omega)]
    exact h2

theorem upN_less (l : List UInt8) : ∀ k, k ≤ l.length → upN l k = [] ∨ lessT (upN l k) l = true
  | 0, _ => .inl rfl
  | k + 1, h => by
    rw [upN]
    split
    · refine .inr ?_
      have h2 := less_ext (l.take k) (l.drop k) (by intro h3; have := congrArg List.length h3; simp at this; omega)
      rw [List.take_append_drop] at h2
      exact h2
    · exact upN_less l k (by omega)
theorem upL_less (l : List UInt8) (h : upL l ≠ []) : lessT (upL l) l = true := (upN_less l l.length (Nat.le_refl _)).resolve_left h

theorem below_take {es : List En} {p : List UInt8} (i : Nat) (h : below En.path p es ≤ i) : below En.path p (es.take i) = below En.path p es := by
  induction es generalizing i with
  | nil => simp [below]
  | cons x r ih =>
    cases i with
    | zero => rw [List.take_zero]; exact (Nat.le_zero.1 h).symm ▸ rfl
    | succ i =>
      rw [List.take_succ_cons, below, below]
      rw [below] at h
      split
      · rename_i hx
        rw [if_pos hx] at h
        rw [ih i (by omega)]
      · rfl
theorem dir_take {es : List En} {p : List UInt8} {i : Nat} (hi : i < es.length) (hl : lessT p es[i].path = true) : dirAt (es.take i) p = dirAt es p := by
  have hb : below En.path p es ≤ i := by
    rcases Nat.lt_or_ge i (below En.path p es) with h | h
    · have h1 := below_lt (f := En.path) (p := p) i hi h
      rw [less_asymm hl] at h1; cases h1
    · exact h
  unfold dirAt there
  rw [below_take i hb]
  rcases Nat.lt_or_ge (below En.path p es) i with h | h
  · rw [List.getElem?_take_of_lt h]
  · obtain h : below En.path p es = i := by omega
    rw [h]
    have h1 : (es.take i)[i]? = none := List.getElem?_eq_none (by rw [List.length_take]; omega)
    rw [h1, List.getElem?_eq_getElem hi]
    have hne : (es[i].path == p) = false := by
      rw [beq_eq_false_iff_ne]; intro h; rw [h, less_irr] at hl; cases hl
    simp [hne]
theorem home_eq {es : List En} {i : Nat} (hi : i < es.length) : homeAt es i = (upL es[i].path == [] || dirAt es (upL es[i].path)) := by
  unfold homeAt
  rw [List.getElem?_eq_getElem hi]
  by_cases h : upL es[i].path = []
  · simp [h]
  · rw [← dir_take hi (upL_less _ h)]
end Go.Qz

/- What is a tree: the two functions. -/
namespace Go.Qz
open Go.Proofs

theorem TreeOkI_ev (es : List En) (hb : ∀ e ∈ es, enSz e) (hn0 : es.length ≤ 140737488351232) : C fn_i_TreeOk [.ro (ES es)] [] = some (.one (.ro (.bool (treeOk es))), []) := by
  refine ctx_call Tryd.func19 conv_i_TreeOk rfl ?_
  by_cases hn : es.length ≤ 16
  · have hn' : ¬ (16 : Int) < es.length := by omega
    simp [hn']
    refine loop_run (fun m e => ∃ i, m = es.length - i ∧ i ≤ es.length ∧ e.size = 43 ∧ e.get 0 = .one (.ro (ES es)) ∧ e.get 8 = .one (.ro (ES es)) ∧ e.get 9 = .one (.ro (N es.length)) ∧ e.get 10 = .one (.ro (N i)) ∧ (∀ k, k < i → (formAt es k && homeAt es k) = true))
      ?_ es.length _ ⟨0, rfl, Nat.zero_le _, by simp, by simp, by simp, by simp, by simp, by omega⟩
    rintro m e ⟨i, rfl, hi, hsz, h0, h8, h9, h10, hr⟩ ih
    rcases Nat.lt_or_ge i es.length with hlt | hge
    · have hwi : IntKind.i64.wrap ((i : Int) + 1) = ((i + 1 : Nat) : Int) := wrap64_succ (by omega)
      have hsz1 := hb _ (List.getElem_mem hlt)
      have hok := entryOk_ev es[i] hsz1
      have hbad := treeOk_bad hlt
      have hff : formAt es i = (entOk es[i] && ordAt es i es[i]) := by unfold formAt; rw [List.getElem?_eq_getElem hlt]
      have hpp : homeAt es i = (upL es[i].path == [] || dirAt (es.take i) (upL es[i].path)) := by unfold homeAt; rw [List.getElem?_eq_getElem hlt]
      cases he : entOk es[i] with
      | false =>
        rw [he] at hok hff
        have := hbad (by rw [hff]; rfl)
        simp [hsz, h0, h8, h9, h10, hlt, hok, this]
      | true =>
        have hpo : pathOk es[i].path = true := by unfold entOk at he; rw [Bool.and_eq_true] at he; exact he.1
        have hasc : ascending En.path (es.take i) = true := asc_of (form_take i (fun k hk => by have := hr k hk; rw [Bool.and_eq_true] at this; exact this.1))
        have hplace := hasPlaceFor_ev (es.take i) es[i].path (by rw [List.length_take]; omega) hasc hpo hsz1.1
        rw [← hpp] at hplace
        simp only [ES, List.map_take] at hplace
        rw [he, Bool.true_and] at hff
        rw [he] at hok
        have hil : i ≤ es.length := by omega
        have next : (formAt es i && homeAt es i) = true → ∀ k, k < i + 1 → (formAt es k && homeAt es k) = true := fun h k hk => by
          rcases Nat.lt_or_ge k i with h' | h'
          · exact hr k h'
          · obtain rfl : k = i := by omega
            exact h
        rw [hff] at hbad next
        rcases Nat.eq_zero_or_pos i with h00 | hpos
        · subst h00
          have ho : ordAt es 0 es[0] = true := rfl
          rw [ho, Bool.true_and] at hbad next
          cases hp : homeAt es 0 with
          | false =>
            rw [hp] at hplace
            have := hbad hp
            simp at hplace
            simp [hsz, h0, h8, h9, h10, hlt, hok, hplace, this]
          | true =>
            rw [hp] at hplace
            simp at hplace
            simp [hsz, h0, h8, h9, h10, hlt, hok, hplace]
            exact ih _ _ (by omega) ⟨1, rfl, by omega, by simp [hsz], by simp [h0], by simp [h8], by simp [h9], by simp, next hp⟩
        · obtain ⟨j, hji⟩ : ∃ j, j = i - 1 := ⟨_, rfl⟩
          have hj : j < es.length := by omega
          have ho : ordAt es i es[i] = lessT es[j].path es[i].path := by
            unfold ordAt
            have : (i == 0) = false := by rw [beq_eq_false_iff_ne]; omega
            rw [this, ← hji]
            simp [hj]
          have hwj : IntKind.i64.wrap ((i : Int) - 1) = (j : Int) := by rw [wrap64 (by omega) (by omega)]; omega
          rw [ho] at hbad next
          clear hji
          cases hl : lessT es[j].path es[i].path with
          | false =>
            have := hbad (by rw [hl]; rfl)
            simp [hsz, h0, h8, h9, h10, hj, hlt, hpos, hok, hwj, hl, this]
          | true =>
            rw [hl, Bool.true_and] at hbad next
            cases hp : homeAt es i with
            | false =>
              rw [hp] at hplace
              have := hbad hp
              simp [hsz, h0, h8, h9, h10, hj, hil, hlt, hpos, hok, hwj, hl, hplace, this]
            | true =>
              rw [hp] at hplace
              simp [hsz, h0, h8, h9, h10, hj, hil, hlt, hpos, hok, hwj, hwi, hl, hplace]
              exact ih _ _ (by omega) ⟨i + 1, rfl, by omega, by simp [hsz], by simp [h0], by simp [h8], by simp [h9], by simp, next hp⟩
    · obtain rfl : i = es.length := by omega
      have := treeOk_good hn hr
      simp [hsz, h9, h10, this]
  · have hn' : (16 : Int) < es.length := by omega
    have : treeOk es = false := by unfold treeOk; simp [hn]
    simp [hn', this]

theorem TreeOkS_ev (es : List En) (hb : ∀ e ∈ es, enSz e) (hn : es.length ≤ 1048576) : C fn_s_TreeOk [.ro (ES es)] [] = some (.one (.ro (.bool (treeOk es))), []) := by
  refine ctx_call Tryd.func31 conv_s_TreeOk rfl ?_
  simp
  refine loop_run (fun m e => ∃ i, m = es.length - i ∧ i ≤ es.length ∧ e.size = 53 ∧ e.get 0 = .one (.ro (ES es)) ∧ e.get 3 = .one (.ro (N i)) ∧ (∀ k, k < i → formAt es k = true))
    ?_ es.length _ ⟨0, rfl, Nat.zero_le _, by simp, by simp, by simp, by omega⟩
  rintro m e ⟨i, rfl, hi, hsz, h0, h3, hr⟩ ih
  rcases Nat.lt_or_ge i es.length with hlt | hge
  · have hwi : IntKind.i64.wrap ((i : Int) + 1) = ((i + 1 : Nat) : Int) := wrap64_succ (by omega)
    have hsz1 := hb _ (List.getElem_mem hlt)
    have hok := l2Entry_ev es[i] hsz1
    have hbad := treeOk_bad hlt
    have hff : formAt es i = (entOk es[i] && ordAt es i es[i]) := by unfold formAt; rw [List.getElem?_eq_getElem hlt]
    have next : formAt es i = true → ∀ k, k < i + 1 → formAt es k = true := fun h k hk => by
      rcases Nat.lt_or_ge k i with h' | h'
      · exact hr k h'
      · obtain rfl : k = i := by omega
        exact h
    cases he : entOk es[i] with
    | false =>
      rw [he] at hok hff
      have := hbad (by rw [hff]; rfl)
      simp [hsz, h0, h3, hlt, hok, this]
    | true =>
      rw [he] at hok
      rw [he, Bool.true_and] at hff
      rw [hff] at hbad next
      rcases Nat.eq_zero_or_pos i with h00 | hpos
      · subst h00
        simp [hsz, h0, h3, hlt, hok]
        exact ih _ _ (by omega) ⟨1, rfl, by omega, by simp [hsz], by simp [h0], by simp, next rfl⟩
      · obtain ⟨j, hji⟩ : ∃ j, j = i - 1 := ⟨_, rfl⟩
        have hj : j < es.length := by omega
        have ho : ordAt es i es[i] = lessT es[j].path es[i].path := by
          unfold ordAt
          have : (i == 0) = false := by rw [beq_eq_false_iff_ne]; omega
          rw [this, ← hji]
          simp [hj]
        have hwj : IntKind.i64.wrap ((i : Int) - 1) = (j : Int) := by rw [wrap64 (by omega) (by omega)]; omega
        rw [ho] at hbad next
        clear hji
        cases hl : lessT es[j].path es[i].path with
        | false =>
          have := hbad (by rw [hl]; rfl)
          simp [hsz, h0, h3, hj, hlt, hpos, hok, hwj, hl, this]
        | true =>
          simp [hsz, h0, h3, hj, hlt, hpos, hok, hwj, hwi, hl]
          exact ih _ _ (by omega) ⟨i + 1, rfl, by omega, by simp [hsz], by simp [h0], by simp, next hl⟩
  · obtain rfl : i = es.length := by omega
    simp [hsz, h0, h3]
    clear ih h3
    refine loop_run (fun m e => ∃ i, m = es.length - i ∧ i ≤ es.length ∧ e.size = 53 ∧ e.get 0 = .one (.ro (ES es)) ∧ e.get 4 = .one (.ro (N i)) ∧ (∀ k, k < i → homeAt es k = true))
      ?_ es.length _ ⟨0, rfl, Nat.zero_le _, by simp [hsz], by simp [h0], by simp, by omega⟩
    clear hsz h0
    rintro m e ⟨i, rfl, hi, hsz, h0, h4, hq⟩ ih
    rcases Nat.lt_or_ge i es.length with hlt | hge
    · have hwi : IntKind.i64.wrap ((i : Int) + 1) = ((i + 1 : Nat) : Int) := wrap64_succ (by omega)
      have hsz1 := hb _ (List.getElem_mem hlt)
      have hup := l1Up_ev es[i].path (by have := hsz1.1; omega)
      have hdir := l2Dir_ev es (upL es[i].path) hn
      rw [← home_eq hlt] at hdir
      have hbad := treeOk_bad hlt
      rw [hr i hlt, Bool.true_and] at hbad
      generalize upL es[i].path = u at *
      cases hp : homeAt es i with
      | false =>
        rw [hp] at hdir
        have := hbad hp
        simp [hsz, h0, h4, hlt, hup, hdir, this]
      | true =>
        rw [hp] at hdir
        simp [hsz, h0, h4, hlt, hup, hdir, hwi]
        refine ih _ _ (by omega) ⟨i + 1, rfl, by omega, by simp [hsz], by simp [h0], by simp, fun k hk => ?_⟩
        rcases Nat.lt_or_ge k i with h' | h'
        · exact hq k h'
        · obtain rfl : k = i := by omega
          exact hp
    · obtain rfl : i = es.length := by omega
      by_cases hn16 : es.length ≤ 16
      · have := treeOk_good hn16 (fun k hk => by rw [hr k hk, hq k hk]; rfl)
        simp [hsz, h0, h4, hn16, this]
      · have : treeOk es = false := by unfold treeOk; simp [hn16]
        simp [hsz, h0, h4, hn16, this]
end Go.Qz

/- Packs: what is ok. -/
namespace Go.Qz
open Go.Proofs

structure Pk where
  name : List UInt8
  ver : List UInt8
  needs : List Ne
  tree : List En
abbrev PkD (p : Pk) : D := .agg [T p.name, T p.ver, NeS p.needs, ES p.tree]
structure PkSz (p : Pk) : Prop where
  name : p.name.length ≤ 1048576
  ver : p.ver.length ≤ 1048576
  needs : p.needs.length ≤ 1048576
  tree : p.tree.length ≤ 1048576
  need : ∀ e ∈ p.needs, neSz e
  ent : ∀ e ∈ p.tree, enSz e
def packOkL (p : Pk) : Bool := packOk p.name && (verOk p.ver && ((p.needs.all needOk && decide (p.needs.length ≤ 6) && !dupT [p.name] (p.needs.map Ne.name)) && treeOk p.tree))

theorem PackOkS_ev (p : Pk) (h : PkSz p) : C fn_s_PackOk [.ro (PkD p)] [] = some (.one (.ro (.bool (packOkL p))), []) := by
  refine ctx_call Tryd.func12 conv_s_PackOk rfl ?_
  have h1 := l3Pack_ev p.name (by have := h.name; omega)
  rw [packS_eq] at h1
  have h2 := VersionOkS_ev p.ver h.ver
  have h3 := l7Needs_ev p.needs p.name h.need h.needs
  have h4 := TreeOkS_ev p.tree h.ent (by have := h.tree; omega)
  unfold packOkL
  generalize (p.needs.all needOk && decide (p.needs.length ≤ 6) && !dupT [p.name] (p.needs.map Ne.name)) = b3 at *
  generalize treeOk p.tree = b4 at *
  generalize verOk p.ver = b2 at *
  generalize packOk p.name = b1 at *
  cases b1
  · simp [h1]
  · cases b2
    · simp [h1, h2]
    · cases b3
      · simp [h1, h2, h3]
      · simp [h1, h2, h3, h4]

theorem PackOkI_ev (p : Pk) (h : PkSz p) : C fn_i_PackOk [.ro (PkD p)] [] = some (.one (.ro (.bool (packOkL p))), []) := by
  refine ctx_call Tryd.func14 conv_i_PackOk rfl ?_
  have h1 := packNameOk_ev p.name (by have := h.name; omega)
  have h2 := VersionOkI_ev p.ver h.ver
  have h3 := allNeed_ev p.needs h.need (by have := h.needs; omega)
  have h5 := twiceNeed_ev p.needs p.name (by have := h.needs; omega)
  have h4 := TreeOkI_ev p.tree h.ent (by have := h.tree; omega)
  unfold packOkL
  generalize dupT [p.name] (p.needs.map Ne.name) = b5 at *
  generalize p.needs.all needOk = b3 at *
  generalize treeOk p.tree = b4 at *
  generalize verOk p.ver = b2 at *
  generalize packOk p.name = b1 at *
  cases b1
  · simp [h1]
  · cases b2
    · simp [h1, h2]
    · by_cases h6 : p.needs.length ≤ 6
      · have h6' : ¬ 6 < p.needs.length := by omega
        cases b3
        · simp [h1, h2, h3, h6, h6']
        · cases b5
          · simp [h1, h2, h3, h4, h5, h6, h6']
          · simp [h1, h2, h3, h5, h6, h6']
      · have h6' : 6 < p.needs.length := by omega
        simp [h1, h2, h6, h6']
end Go.Qz

/- What the functions come to: marks, written and read again. -/
namespace Go.Qz
open Go.Proofs

theorem eq_of_firsts {α : Type} {ys xs : List α} (h : ys.length = xs.length) (h' : ∀ j, j < xs.length → ys[j]? = xs[j]?) : ys = xs := by
  apply List.ext_getElem? 
  intro j
  rcases Nat.lt_or_ge j xs.length with hj | hj
  · exact h' j hj
  · rw [List.getElem?_eq_none hj, List.getElem?_eq_none (by omega)]

def dig (n : Nat) (l : List UInt8) : List UInt8 := if h : n = 0 then l else dig (n / 10) ((48 + n % 10).toUInt8 :: l)
termination_by n
decreasing_by omega
theorem dig_zero (l : List UInt8) : dig 0 l = l := by rw [dig]; rfl
theorem dig_pos (n : Nat) (l : List UInt8) (h : 0 < n) : dig n l = dig (n / 10) ((48 + n % 10).toUInt8 :: l) := by
  rw [dig, dif_neg (by omega)]
def mtext (n : Nat) : List UInt8 := if n = 0 then [109, 48] else 109 :: dig n []

theorem markText_ev (n : Nat) (hn : n ≤ 1099511627776) : C fn_w_markText [.ro (N n)] [] = some (.one (.ro (T (mtext n))), []) := by
  refine ctx_call Tryd.func25 conv_w_markText rfl ?_
  unfold mtext
  by_cases h0 : n = 0
  · subst h0
    simp
  have hp : ¬ ((n : Int) ≤ 0) := by omega
  simp [h0]
  refine loop_run (fun m e => ∃ k l, m = k ∧ l.length + k ≤ n ∧ e.size = 20 ∧ e.get 0 = .one (.ro (N k)) ∧ e.get 3 = .one (.ro (T l)) ∧ dig k l = dig n [])
    ?_ n _ ⟨n, [], rfl, by simp, by simp, by simp, by simp, rfl⟩
  rintro m e ⟨k, l, rfl, hl, hsz, h0, h3, hr⟩ ih
  rcases Nat.eq_zero_or_pos m with rfl | hm
  · rw [dig_zero] at hr
    have hms : 1 + l.length ≤ maxStr := by simp [maxStr]; omega
    subst hr
    simp [hsz, h0, h3, hms]
  · have hr1 : ((m : Int)).tmod 10 = ((m % 10 : Nat) : Int) := by rw [Int.ofNat_tmod]; rfl
    have hq1 : ((m : Int)).tdiv 10 = ((m / 10 : Nat) : Int) := by rw [Int.ofNat_tdiv]; rfl
    rw [dig_pos _ _ hm] at hr
    have hrl : m % 10 < 10 := Nat.mod_lt _ (by omega)
    have hql : m / 10 < m := by omega
    generalize m % 10 = r at *
    generalize m / 10 = q at *
    have hw1 : IntKind.i64.wrap (48 + (r : Int)) = ((48 + r : Nat) : Int) := by rw [wrap64 (by omega) (by omega)]; omega
    have hw2 : IntKind.i64.wrap (q : Int) = (q : Int) := wrap64 (by omega) (by omega)
    have hw3 : IntKind.u8.wrap ((48 + r : Nat) : Int) = ((48 + r : Nat) : Int) := by
      show ((48 + r : Nat) : Int) % 256 = _
      omega
    have hms : 1 + l.length ≤ maxStr := by simp [maxStr]; omega
    have hpos : (0 : Int) < m := by omega
    generalize 48 + r = z at *
    have hpos' : 0 < m := hm
    simp [hsz, h0, h3, hpos', hr1, hq1, hw1, hw2, hw3, hms]
    exact ih _ _ hql ⟨q, z.toUInt8 :: l, rfl, by simp; omega, by simp [hsz], by simp, by simp, hr⟩

def markL (n k : Nat) : Lines := (List.range n).map fun j => mtext (k + j)
@[simp] theorem markL_len (n k : Nat) : (markL n k).length = n := by simp [markL]
theorem markL_get (n k j : Nat) (h : j < n) : (markL n k)[j]? = some (mtext (k + j)) := by simp [markL, h]

theorem markL_elem (n k j : Nat) (h : j < (markL n k).length) : (markL n k)[j] = mtext (k + j) := by simp [markL]

end Go.Qz

/- Entries and needs compared with themselves. -/
namespace Go.Qz
open Go.Proofs

theorem eqEntry_self (e : En) : C fn_w_eqEntry [.ro (ED e), .ro (ED e)] [] = some (.one (.ro (.bool true)), []) := by
  refine ctx_call Tryd.func24 conv_w_eqEntry rfl ?_
  simp
theorem eqEntryS_self (es : List En) (hn : es.length ≤ 1048576) : C fn_w_eqEntryS [.ro (ES es), .ro (ES es)] [] = some (.one (.ro (.bool true)), []) := by
  refine ctx_call Tryd.func8 conv_w_eqEntryS rfl ?_
  simp
  refine loop_run (fun m e => ∃ i, m = es.length - i ∧ i ≤ es.length ∧ e.size = 27 ∧ e.get 0 = .one (.ro (ES es)) ∧ e.get 1 = .one (.ro (ES es)) ∧ e.get 5 = .one (.ro (N i)))
    ?_ es.length _ ⟨0, rfl, Nat.zero_le _, by simp, by simp, by simp, by simp⟩
  rintro m e ⟨i, rfl, hi, hsz, h0, h1, h5⟩ ih
  rcases Nat.lt_or_ge i es.length with hlt | hge
  · have hwi : IntKind.i64.wrap ((i : Int) + 1) = ((i + 1 : Nat) : Int) := wrap64_succ (by omega)
    have hq := eqEntry_self es[i]
    simp [hsz, h0, h1, h5, hlt, hwi, hq]
    exact ih _ _ (by omega) ⟨i + 1, rfl, by omega, by simp [hsz], by simp [h0], by simp [h1], by simp⟩
  · obtain rfl : i = es.length := by omega
    simp [hsz, h0, h5]
theorem eqNeed_self (e : Ne) : C fn_w_eqNeed [.ro (NeD e), .ro (NeD e)] [] = some (.one (.ro (.bool true)), []) := by
  refine ctx_call Tryd.func69 conv_w_eqNeed rfl ?_
  simp
theorem eqNeedS_self (es : List Ne) (hn : es.length ≤ 1048576) : C fn_w_eqNeedS [.ro (NeS es), .ro (NeS es)] [] = some (.one (.ro (.bool true)), []) := by
  refine ctx_call Tryd.func40 conv_w_eqNeedS rfl ?_
  simp
  refine loop_run (fun m e => ∃ i, m = es.length - i ∧ i ≤ es.length ∧ e.size = 27 ∧ e.get 0 = .one (.ro (NeS es)) ∧ e.get 1 = .one (.ro (NeS es)) ∧ e.get 5 = .one (.ro (N i)))
    ?_ es.length _ ⟨0, rfl, Nat.zero_le _, by simp, by simp, by simp, by simp⟩
  rintro m e ⟨i, rfl, hi, hsz, h0, h1, h5⟩ ih
  rcases Nat.lt_or_ge i es.length with hlt | hge
  · have hwi : IntKind.i64.wrap ((i : Int) + 1) = ((i + 1 : Nat) : Int) := wrap64_succ (by omega)
    have hq := eqNeed_self es[i]
    simp [hsz, h0, h1, h5, hlt, hwi, hq]
    exact ih _ _ (by omega) ⟨i + 1, rfl, by omega, by simp [hsz], by simp [h0], by simp [h1], by simp⟩
  · obtain rfl : i = es.length := by omega
    simp [hsz, h0, h5]
end Go.Qz

/- Packs: sizes, copies, equality. -/
namespace Go.Qz
open Go.Proofs

theorem toEntry_ev (e : En) : C fn_w_toEntry [.ro (ED e)] [] = some (.one (.ro (ED e)), []) := by
  refine ctx_call Tryd.func65 conv_w_toEntry rfl ?_
  simp
theorem toNeed_ev (e : Ne) : C fn_w_toNeed [.ro (NeD e)] [] = some (.one (.ro (NeD e)), []) := by
  refine ctx_call Tryd.func64 conv_w_toNeed rfl ?_
  simp
theorem toEntryS_ev (es : List En) (hn : es.length ≤ 1048576) : C fn_w_toEntryS [.ro (ES es)] [] = some (.one (.own (ES es)), []) := by
  refine ctx_call Tryd.func33 conv_w_toEntryS rfl ?_
  have ha : (es.length : Int) ≤ appendMax := by simp [appendMax]; omega
  simp [ha]
  refine loop_run (fun m e => ∃ i yl, m = es.length - i ∧ i ≤ es.length ∧ e.size = 23 ∧ e.get 0 = .one (.ro (ES es)) ∧ e.get 3 = .one (.own (ES yl)) ∧ e.get 4 = .one (.ro (N i)) ∧ yl.length = es.length ∧ ∀ j, j < i → yl[j]? = es[j]?)
    ?_ es.length _ ⟨0, List.replicate es.length ⟨[], 0, 0, []⟩, rfl, Nat.zero_le _, by simp, by simp, by simp, by simp, by simp, fun j hj => by omega⟩
  rintro m e ⟨i, yl, rfl, hi, hsz, h0, h3, h4, hyl, hy⟩ ih
  rcases Nat.lt_or_ge i es.length with hlt | hge
  · have hwi : IntKind.i64.wrap ((i : Int) + 1) = ((i + 1 : Nat) : Int) := wrap64_succ (by omega)
    have hlt' : i < yl.length := by omega
    have hto := toEntry_ev es[i]
    simp [hsz, h0, h3, h4, hlt, hlt', hwi, hto]
    exact ih _ _ (by omega) ⟨i + 1, yl.set i es[i], rfl, by omega, by simp [hsz], by simp [h0], by simp [List.map_set], by simp, by simp [hyl], fun j hj => by
      by_cases e : j = i
      · subst e; simp [hlt, hlt']
      · rw [List.getElem?_set_ne (by omega)]; exact hy j (by omega)⟩
  · obtain rfl : i = es.length := by omega
    obtain rfl := eq_of_firsts hyl hy
    simp [hsz, h0, h3, h4]
theorem toNeedS_ev (es : List Ne) (hn : es.length ≤ 1048576) : C fn_w_toNeedS [.ro (NeS es)] [] = some (.one (.own (NeS es)), []) := by
  refine ctx_call Tryd.func32 conv_w_toNeedS rfl ?_
  have ha : (es.length : Int) ≤ appendMax := by simp [appendMax]; omega
  simp [ha]
  refine loop_run (fun m e => ∃ i yl, m = es.length - i ∧ i ≤ es.length ∧ e.size = 23 ∧ e.get 0 = .one (.ro (NeS es)) ∧ e.get 3 = .one (.own (NeS yl)) ∧ e.get 4 = .one (.ro (N i)) ∧ yl.length = es.length ∧ ∀ j, j < i → yl[j]? = es[j]?)
    ?_ es.length _ ⟨0, List.replicate es.length ⟨[], 0, []⟩, rfl, Nat.zero_le _, by simp, by simp, by simp, by simp, by simp, fun j hj => by omega⟩
  rintro m e ⟨i, yl, rfl, hi, hsz, h0, h3, h4, hyl, hy⟩ ih
  rcases Nat.lt_or_ge i es.length with hlt | hge
  · have hwi : IntKind.i64.wrap ((i : Int) + 1) = ((i + 1 : Nat) : Int) := wrap64_succ (by omega)
    have hlt' : i < yl.length := by omega
    have hto := toNeed_ev es[i]
    simp [hsz, h0, h3, h4, hlt, hlt', hwi, hto]
    exact ih _ _ (by omega) ⟨i + 1, yl.set i es[i], rfl, by omega, by simp [hsz], by simp [h0], by simp [List.map_set], by simp, by simp [hyl], fun j hj => by
      by_cases e : j = i
      · subst e; simp [hlt, hlt']
      · rw [List.getElem?_set_ne (by omega)]; exact hy j (by omega)⟩
  · obtain rfl : i = es.length := by omega
    obtain rfl := eq_of_firsts hyl hy
    simp [hsz, h0, h3, h4]
theorem toPack_ev (p : Pk) (h1 : p.needs.length ≤ 1048576) (h2 : p.tree.length ≤ 1048576) : C fn_w_toPack [.ro (PkD p)] [] = some (.one (.own (PkD p)), []) := by
  refine ctx_call Tryd.func13 conv_w_toPack rfl ?_
  simp [toNeedS_ev p.needs h1, toEntryS_ev p.tree h2]

/-! ### Sizes -/
def szE (e : En) (l : Int) : Int := if l - e.path.length < 0 then -1 else if l - e.path.length - e.text.length < 0 then -1 else l - e.path.length - e.text.length
def szN (e : Ne) (l : Int) : Int := if l - e.name.length < 0 then -1 else if l - e.name.length - e.ver.length < 0 then -1 else l - e.name.length - e.ver.length
def szEs : List En → Int → Int
  | [], l => l
  | e :: r, l => if szE e l < 0 then -1 else szEs r (szE e l)
def szNs : List Ne → Int → Int
  | [], l => l
  | e :: r, l => if szN e l < 0 then -1 else szNs r (szN e l)
theorem szE_le (e : En) (l : Int) (hl : 0 ≤ l) : szE e l ≤ l := by unfold szE; split; omega; split <;> omega
theorem szN_le (e : Ne) (l : Int) (hl : 0 ≤ l) : szN e l ≤ l := by unfold szN; split; omega; split <;> omega
theorem szEntry_ev (e : En) (l : Int) (hl : 0 ≤ l) (hl2 : l ≤ 1048576) (h1 : e.path.length ≤ 140737488351232) (h2 : e.text.length ≤ 140737488351232) : C fn_w_szEntry [.ro (ED e), .ro (I l)] [] = some (.one (.ro (I (szE e l))), []) := by
  refine ctx_call Tryd.func56 conv_w_szEntry rfl ?_
  have w1 : IntKind.i64.wrap (l - e.path.length) = l - e.path.length := wrap64 (by omega) (by omega)
  unfold szE
  by_cases hA : l - e.path.length < 0
  · simp [w1, hA]
  · have w2 : IntKind.i64.wrap (l - e.path.length - e.text.length) = l - e.path.length - e.text.length := wrap64 (by omega) (by omega)
    by_cases hB : l - e.path.length - e.text.length < 0
    · simp [w1, w2, hA, hB]
    · simp [w1, w2, hA, hB]
theorem szNeed_ev (e : Ne) (l : Int) (hl : 0 ≤ l) (hl2 : l ≤ 1048576) (h1 : e.name.length ≤ 140737488351232) (h2 : e.ver.length ≤ 140737488351232) : C fn_w_szNeed [.ro (NeD e), .ro (I l)] [] = some (.one (.ro (I (szN e l))), []) := by
  refine ctx_call Tryd.func55 conv_w_szNeed rfl ?_
  have w1 : IntKind.i64.wrap (l - e.name.length) = l - e.name.length := wrap64 (by omega) (by omega)
  unfold szN
  by_cases hA : l - e.name.length < 0
  · simp [w1, hA]
  · have w2 : IntKind.i64.wrap (l - e.name.length - e.ver.length) = l - e.name.length - e.ver.length := wrap64 (by omega) (by omega)
    by_cases hB : l - e.name.length - e.ver.length < 0
    · simp [w1, w2, hA, hB]
    · simp [w1, w2, hA, hB]
theorem szEntryS_ev (es : List En) (l : Int) (hl : 0 ≤ l) (hl2 : l ≤ 1048576) (hn : es.length ≤ 140737488351232) (hb : ∀ e ∈ es, e.path.length ≤ 140737488351232 ∧ e.text.length ≤ 140737488351232) :
    C fn_w_szEntryS [.ro (ES es), .ro (I l)] [] = some (.one (.ro (I (if l - es.length < 0 then -1 else szEs es (l - es.length)))), []) := by
  refine ctx_call Tryd.func27 conv_w_szEntryS rfl ?_
  have h1 : IntKind.i64.wrap (l - es.length) = l - es.length := wrap64 (by omega) (by omega)
  by_cases hneg : l - es.length < 0
  · simp [h1, hneg]
  · simp [h1, hneg]
    refine loop_run (fun m e => ∃ i l', m = es.length - i ∧ i ≤ es.length ∧ 0 ≤ l' ∧ l' ≤ 1048576 ∧ e.size = 27 ∧ e.get 0 = .one (.ro (ES es)) ∧ e.get 1 = .one (.ro (I l')) ∧ e.get 5 = .one (.ro (N i)) ∧
      szEs (es.drop i) l' = szEs es (l - es.length)) ?_ es.length _ ⟨0, l - es.length, rfl, Nat.zero_le _, by omega, by omega, by simp, by simp, by simp, by simp, rfl⟩
    rintro m e ⟨i, l', rfl, hi, hl0, hl1, hsz, h0, h1, h5, hr⟩ ih
    rcases Nat.lt_or_ge i es.length with hlt | hge
    · have hx := hb es[i] (List.getElem_mem hlt)
      have hd : es.drop i = es[i] :: es.drop (i + 1) := List.drop_eq_getElem_cons hlt
      have hs := szEntry_ev es[i] l' hl0 hl1 hx.1 hx.2
      have hle := szE_le es[i] l' hl0
      rw [hd, szEs] at hr
      have hwi : IntKind.i64.wrap ((i : Int) + 1) = ((i + 1 : Nat) : Int) := wrap64_succ (by omega)
      generalize szE es[i] l' = q at *
      by_cases hc : q < 0
      · rw [if_pos hc] at hr
        simp [hsz, h0, h1, h5, hlt, hs, hc, ← hr]
      · rw [if_neg hc] at hr
        simp [hsz, h0, h1, h5, hlt, hs, hc, hwi]
        exact ih _ _ (by omega) ⟨i + 1, _, rfl, by omega, by omega, by omega, by simp [hsz], by simp [h0], by simp, by simp, hr⟩
    · obtain rfl : i = es.length := by omega
      simp [szEs] at hr
      simp [hsz, h0, h1, h5, hr]
theorem szNeedS_ev (es : List Ne) (l : Int) (hl : 0 ≤ l) (hl2 : l ≤ 1048576) (hn : es.length ≤ 140737488351232) (hb : ∀ e ∈ es, e.name.length ≤ 140737488351232 ∧ e.ver.length ≤ 140737488351232) :
    C fn_w_szNeedS [.ro (NeS es), .ro (I l)] [] = some (.one (.ro (I (if l - es.length < 0 then -1 else szNs es (l - es.length)))), []) := by
  refine ctx_call Tryd.func26 conv_w_szNeedS rfl ?_
  have h1 : IntKind.i64.wrap (l - es.length) = l - es.length := wrap64 (by omega) (by omega)
  by_cases hneg : l - es.length < 0
  · simp [h1, hneg]
  · simp [h1, hneg]
    refine loop_run (fun m e => ∃ i l', m = es.length - i ∧ i ≤ es.length ∧ 0 ≤ l' ∧ l' ≤ 1048576 ∧ e.size = 27 ∧ e.get 0 = .one (.ro (NeS es)) ∧ e.get 1 = .one (.ro (I l')) ∧ e.get 5 = .one (.ro (N i)) ∧
      szNs (es.drop i) l' = szNs es (l - es.length)) ?_ es.length _ ⟨0, l - es.length, rfl, Nat.zero_le _, by omega, by omega, by simp, by simp, by simp, by simp, rfl⟩
    rintro m e ⟨i, l', rfl, hi, hl0, hl1, hsz, h0, h1, h5, hr⟩ ih
    rcases Nat.lt_or_ge i es.length with hlt | hge
    · have hx := hb es[i] (List.getElem_mem hlt)
      have hd : es.drop i = es[i] :: es.drop (i + 1) := List.drop_eq_getElem_cons hlt
      have hs := szNeed_ev es[i] l' hl0 hl1 hx.1 hx.2
      have hle := szN_le es[i] l' hl0
      rw [hd, szNs] at hr
      have hwi : IntKind.i64.wrap ((i : Int) + 1) = ((i + 1 : Nat) : Int) := wrap64_succ (by omega)
      generalize szN es[i] l' = q at *
      by_cases hc : q < 0
      · rw [if_pos hc] at hr
        simp [hsz, h0, h1, h5, hlt, hs, hc, ← hr]
      · rw [if_neg hc] at hr
        simp [hsz, h0, h1, h5, hlt, hs, hc, hwi]
        exact ih _ _ (by omega) ⟨i + 1, _, rfl, by omega, by omega, by omega, by simp [hsz], by simp [h0], by simp, by simp, hr⟩
    · obtain rfl : i = es.length := by omega
      simp [szNs] at hr
      simp [hsz, h0, h1, h5, hr]
def szNSS (es : List Ne) (l : Int) : Int := if l - es.length < 0 then -1 else szNs es (l - es.length)
def szESS (es : List En) (l : Int) : Int := if l - es.length < 0 then -1 else szEs es (l - es.length)
theorem szNs_fits : ∀ (es : List Ne) (l : Int), 0 ≤ l → l ≤ 1048576 → 0 ≤ szNs es l → (∀ e ∈ es, neSz e) ∧ szNs es l ≤ l
  | [], l, _, _, _ => ⟨fun e h => by (cases h), Int.le_refl _⟩
  | e :: r, l, hl, hl2, h => by
    rw [szNs] at h ⊢
    split at h
    · omega
    · rename_i hc
      rw [if_neg hc]
      have h1 := szN_le e l hl
      obtain ⟨k1, k2⟩ := szNs_fits r (szN e l) (by omega) (by omega) h
      refine ⟨fun x hx => ?_, by omega⟩
      rcases List.mem_cons.1 hx with rfl | hx
      · unfold szN at hc
        split at hc
        · omega
        · split at hc
          · omega
          · exact ⟨by omega, by omega⟩
      · exact k1 x hx
theorem szEs_fits : ∀ (es : List En) (l : Int), 0 ≤ l → l ≤ 1048576 → 0 ≤ szEs es l → (∀ e ∈ es, enSz e) ∧ szEs es l ≤ l
  | [], l, _, _, _ => ⟨fun e h => by (cases h), Int.le_refl _⟩
  | e :: r, l, hl, hl2, h => by
    rw [szEs] at h ⊢
    split at h
    · omega
    · rename_i hc
      rw [if_neg hc]
      have h1 := szE_le e l hl
      obtain ⟨k1, k2⟩ := szEs_fits r (szE e l) (by omega) (by omega) h
      refine ⟨fun x hx => ?_, by omega⟩
      rcases List.mem_cons.1 hx with rfl | hx
      · unfold szE at hc
        split at hc
        · omega
        · split at hc
          · omega
          · exact ⟨by omega, by omega⟩
      · exact k1 x hx

def szP (p : Pk) (l : Int) : Int :=
  if l - p.name.length < 0 then -1 else if l - p.name.length - p.ver.length < 0 then -1
  else if szNSS p.needs (l - p.name.length - p.ver.length) < 0 then -1
  else if szESS p.tree (szNSS p.needs (l - p.name.length - p.ver.length)) < 0 then -1 else szESS p.tree (szNSS p.needs (l - p.name.length - p.ver.length))
/-- What any argument has. -/
structure PkWide (p : Pk) : Prop where
  name : p.name.length ≤ 140737488351232
  ver : p.ver.length ≤ 140737488351232
  needs : p.needs.length ≤ 140737488351232
  tree : p.tree.length ≤ 140737488351232
  need : ∀ e ∈ p.needs, e.name.length ≤ 140737488351232 ∧ e.ver.length ≤ 140737488351232
  ent : ∀ e ∈ p.tree, e.path.length ≤ 140737488351232 ∧ e.text.length ≤ 140737488351232
theorem szNSS_le (es : List Ne) (l : Int) (hl : 0 ≤ l) (hl2 : l ≤ 1048576) (h : 0 ≤ szNSS es l) : szNSS es l ≤ l ∧ es.length ≤ l ∧ ∀ e ∈ es, neSz e := by
  unfold szNSS at h ⊢
  split at h
  · omega
  · rename_i hc
    rw [if_neg hc]
    obtain ⟨k1, k2⟩ := szNs_fits es (l - es.length) (by omega) (by omega) h
    exact ⟨by omega, by omega, k1⟩
theorem szESS_le (es : List En) (l : Int) (hl : 0 ≤ l) (hl2 : l ≤ 1048576) (h : 0 ≤ szESS es l) : szESS es l ≤ l ∧ es.length ≤ l ∧ ∀ e ∈ es, enSz e := by
  unfold szESS at h ⊢
  split at h
  · omega
  · rename_i hc
    rw [if_neg hc]
    obtain ⟨k1, k2⟩ := szEs_fits es (l - es.length) (by omega) (by omega) h
    exact ⟨by omega, by omega, k1⟩
theorem szPack_ev (p : Pk) (l : Int) (hl : 0 ≤ l) (hl2 : l ≤ 1048576) (h : PkWide p) : C fn_w_szPack [.ro (PkD p), .ro (I l)] [] = some (.one (.ro (I (szP p l))), []) := by
  refine ctx_call Tryd.func11 conv_w_szPack rfl ?_
  have g1 := h.name
  have g2 := h.ver
  have w1 : IntKind.i64.wrap (l - p.name.length) = l - p.name.length := wrap64 (by omega) (by omega)
  unfold szP
  by_cases hA : l - p.name.length < 0
  · simp [w1, hA]
  · have w2 : IntKind.i64.wrap (l - p.name.length - p.ver.length) = l - p.name.length - p.ver.length := wrap64 (by omega) (by omega)
    by_cases hB : l - p.name.length - p.ver.length < 0
    · simp [w1, w2, hA, hB]
    · have h3 : C fn_w_szNeedS [.ro (NeS p.needs), .ro (I (l - p.name.length - p.ver.length))] [] = some (.one (.ro (I (szNSS p.needs (l - p.name.length - p.ver.length)))), []) := szNeedS_ev p.needs _ (by omega) (by omega) h.needs h.need
      have k3 := szNSS_le p.needs (l - p.name.length - p.ver.length) (by omega) (by omega)
      generalize szNSS p.needs (l - p.name.length - p.ver.length) = q at *
      by_cases hC : q < 0
      · simp [w1, w2, hA, hB, h3, hC]
      · have h4 : C fn_w_szEntryS [.ro (ES p.tree), .ro (I q)] [] = some (.one (.ro (I (szESS p.tree q))), []) := szEntryS_ev p.tree q (by omega) (by have := (k3 (by omega)).1; omega) h.tree h.ent
        generalize szESS p.tree q = z at *
        by_cases hD : z < 0
        · simp [w1, w2, hA, hB, h3, h4, hC, hD]
        · simp [w1, w2, hA, hB, h3, h4, hC, hD]
theorem szP_fits (p : Pk) (h : 0 ≤ szP p 1048576) : p.name.length ≤ 1048576 ∧ p.ver.length ≤ 1048576 ∧ p.needs.length ≤ 1048576 ∧ p.tree.length ≤ 1048576 ∧ (∀ e ∈ p.needs, neSz e) ∧ (∀ e ∈ p.tree, enSz e) := by
  unfold szP at h
  split at h
  · omega
  · split at h
    · omega
    · split at h
      · omega
      · split at h
        · omega
        · obtain ⟨a1, a2, a3⟩ := szNSS_le p.needs _ (by omega) (by omega) (by omega : 0 ≤ szNSS p.needs ((1048576 : Int) - p.name.length - p.ver.length))
          obtain ⟨b1, b2, b3⟩ := szESS_le p.tree _ (by omega) (by omega) h
          exact ⟨by omega, by omega, by omega, by omega, a3, b3⟩
end Go.Qz

/- The law: packs are found ok alike. -/
namespace Go.Qz
open Go.Proofs

theorem eqPack_self (p : Pk) (h1 : p.needs.length ≤ 1048576) (h2 : p.tree.length ≤ 1048576) : C fn_w_eqPack [.ro (PkD p), .ro (PkD p)] [] = some (.one (.ro (.bool true)), []) := by
  refine ctx_call Tryd.func15 conv_w_eqPack rfl ?_
  simp [eqNeedS_self p.needs h1, eqEntryS_self p.tree h2]

theorem exactPackOk_ev (p : Pk) (h : PkWide p) : C fn_w_FnExactPackOk [.ro (PkD p)] [] = some (.one (.ro (.bool true)), []) := by
  refine ctx_call Tryd.func4 conv_w_FnExactPackOk rfl ?_
  have hs := szPack_ev p 1048576 (by omega) (by omega) h
  by_cases hneg : szP p 1048576 < 0
  · generalize szP p 1048576 = q at *
    simp [hs, hneg]
  · obtain ⟨a1, a2, a3, a4, a5, a6⟩ := szP_fits p (by omega)
    generalize szP p 1048576 = q at *
    have hto := toPack_ev p a3 a4
    have hS := PackOkS_ev p ⟨a1, a2, a3, a4, a5, a6⟩
    have hI := PackOkI_ev p ⟨a1, a2, a3, a4, a5, a6⟩
    have heq := eqPack_self p a3 a4
    generalize packOkL p = b at *
    cases b <;> simp [hs, hneg, hto, hS, hI, heq]
end Go.Qz
