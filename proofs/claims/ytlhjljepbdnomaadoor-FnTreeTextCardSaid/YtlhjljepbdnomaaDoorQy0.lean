/- The evaluator of the claim and what it says, part Qy0 (several texts in one). -/
import Derived.Test.YtlhjljepbdnomaaDoorQv0
import Derived.Test.YtlhjljepbdnomaaDoorQx0
import Derived.Test.YtlhjljepbdnomaaDoorQr0
import Derived.Test.YtlhjljepbdnomaaDoorQw0
import Derived.Test.YtlhjljepbdnomaaDoorQb3
namespace Go.Qz
open Go.Proofs Go.RowKit
theorem mixed : Tryd.prog.follows .mixedOrders = true := by kernel_rfl
theorem noGo : (Tryd.prog.funcs.all fun fn => !(fn.name == "runtime.NumGoroutine")) = true := by kernel_rfl
theorem noName (f : FuncId) (fn : Func) (hf : Tryd.prog.funcs[f]? = some fn) : fn.name ≠ "runtime.NumGoroutine" := fun hn => by
  have h := Array.all_eq_true_iff_forall_mem.1 noGo fn (Array.mem_of_getElem? hf)
  rw [hn] at h
  exact absurd h (by decide)
theorem hasBody {f : FuncId} {fn : Func} (hf : Tryd.prog.funcs[f]? = some fn) (hb : fn.body.isSome = true) : HasBody Tryd.prog f := ⟨fn, hf, hb, noName f fn hf⟩
theorem RO.takeSl {c : Mem} {z k cap : Nat} {xs : List D} {a : Option Addr} (h : RO c (.sl z xs) (.slice a xs.length cap)) (hk : k ≤ xs.length) : RO c (.sl z (xs.take k)) (.slice a k cap) := by
  obtain ⟨a', cap', e1, h1, h2⟩ := h.sl_inv
  cases e1
  by_cases hx : xs = []
  · subst hx
    obtain rfl : k = 0 := by simpa using hk
    exact .sl0
  · obtain ⟨b, off, u, rfl, h3, h4, h5⟩ := h2 hx
    have hlen : (xs.take k).length = k := by rw [List.length_take]; omega
    have := @RO.sl c z (xs.take k) b off cap u (by omega) (fun x hx => h3 x (List.mem_of_mem_take hx)) (fun m hm => h4 m (Nat.lt_of_lt_of_le hm (Nat.mul_le_mul_right _ (by omega)))) (fun m d hd => h5 m d (flat_take h3 hk hd))
    rw [hlen] at this
    exact this
theorem xOpen_sound [Base] : CallSound Tryd.prog xOpen := by
  intro f us bx r bx' h
  unfold xOpen at h
  split at h
  · rename_i hf
    subst hf
    split at h
    · rename_i z xs
      split at h
      · rename_i hc
        subst hc
        simp only [Option.some.injEq, Prod.mk.injEq] at h
        obtain ⟨rfl, rfl⟩ := h
        refine ⟨hasBody Tryd.func42 (by kernel_rfl), fun g w vs hsz hs => ?_⟩
        have e0 : RO g.c (.sl 1 xs) (vs.getD 0 undef) := start_get hs (a := .ro (.sl 1 xs)) rfl
        obtain ⟨a, cap, hu, hcap, _⟩ := e0.sl_inv
        have e : vs = #[.slice a xs.length cap] := by
          simp only [List.length_singleton] at hsz
          refine Array.ext (by simpa using hsz) (fun k hk hk' => ?_)
          obtain rfl : k = 0 := by omega
          simpa [Array.getD_eq_getD_getElem?, hk] using hu
        subst e
        have hro : RO g.c (.sl 1 xs) (.slice a xs.length cap) := hu ▸ e0
        have fin : ∀ k, k ≤ xs.length → xs.take 2000 = xs.take k → Post g (startEnv 1 [A.ro (.sl 1 xs)] []) w (.agg [.ro (.sl 1 (xs.take 2000)), .ro (.int .i64 0)]) [] (.pointer (some ⟨w.heap.size, 0, none⟩)) (w.alloc (.cells #[.slice a k cap, .int .i64 0] 107)) := by
          intro k hk he
          refine ⟨#[.slice a k cap, .int .i64 0], 107, rfl, rfl, rfl, fun j d hd => ?_⟩
          match j, hd with
          | 0, hd =>
            simp only [List.getElem?_cons_zero, Option.some.injEq, A.ro.injEq] at hd
            subst hd
            rw [he]
            exact ⟨rfl, hro.takeSl hk⟩
          | 1, hd =>
            simp at hd
            subst hd
            exact ⟨rfl, .int _ _⟩
          | j + 2, hd => simp at hd
        by_cases hlen : xs.length ≤ 2000
        · refine (open_short a xs.length cap hlen w).mono ?_
          rintro en w' ⟨rfl, rfl⟩
          exact ⟨_, rfl, fin xs.length (Nat.le_refl _) (by rw [List.take_of_length_le hlen, List.take_length])⟩
        · refine (open_long a xs.length cap (by omega) hcap w).mono ?_
          rintro en w' ⟨rfl, rfl⟩
          exact ⟨_, rfl, fin 2000 (by omega) rfl⟩
      · cases h
    · cases h
  · cases h
structure Start (W : World) : Prop where
  maxLen : ∃ m : Int, W.cell? ⟨0, 0, none⟩ = some (.int .i64 m)
  pow10 : Lib.TabIs Tryd.prog W "internal/strconv.uint64pow10" .u64 Lib.pow10Tab
theorem XS_sound [Base] (hT : Start Base.W0) : CallSound Tryd.prog XS :=
  orX_sound (xIndex_sound (hasBody Tryd.func109 (by kernel_rfl)) hT.maxLen (fun s t m w h hm => Tryd.strings_Index s t m w h hm)) <|
  orX_sound (xSeq_sound (hasBody Tryd.func92 (by kernel_rfl)) seq_made) <|
  orX_sound (xCut_sound (hasBody Tryd.func52 (by kernel_rfl)) hT.maxLen (fun s t m w h hm => Tryd.strings_Cut s t m w h hm)) <|
  orX_sound (xSplitN_sound (hasBody Tryd.func53 (by kernel_rfl)) hT.maxLen (fun s t n m w h hm h1 h2 h3 => Tryd.strings_SplitN s t n m w h hm h1 (by omega) (by omega))) <|
  orX_sound (xLast_sound (hasBody Tryd.func101 (by kernel_rfl)) (fun s c w h => Tryd.strings_LastIndexByte s c h w)) <|
  orX_sound (xItoa_sound (by decide) (hasBody Tryd.func43 (by kernel_rfl)) hT.pow10 (fun n w h0 h1 ht => Tryd.strconv_Itoa n h0 h1 w ht)) <|
  orX_sound (xCopy_sound (hasBody Tryd.func74 (by kernel_rfl)) (fun b w h0 h1 h2 => Tryd.copyCheck_fresh b w h0 h1 h2) (fun b w h0 => Tryd.copyCheck_used b w h0)) <|
  orX_sound (xText_sound (hasBody Tryd.func45 (by kernel_rfl)) (fun s b p v tag w h0 h1 => string_any Tryd.lays169 Tryd.Builder_Extra_169 b s p v tag w h0 h1)) <|
  orX_sound xOpen_sound <|
  noX_sound
theorem seqOk : SeqOk Tryd.prog ioS := fun f hf => by
  rw [seq_is] at hf
  obtain rfl : f = 127 := by simpa using hf
  exact ⟨hasBody Tryd.func127 (by kernel_rfl), seq_runs⟩
theorem sound [Base] (hT : Start Base.W0) : CallSound Tryd.prog C := callLim_sound mixed (XS_sound hT) seqOk noName
end Go.Qz
namespace Go.Qz
open Go.Proofs
abbrev Lines := List (List UInt8)
abbrev SS (xs : Lines) : D := .sl 1 (xs.map T)
abbrev I (n : Int) : D := .int .i64 n
abbrev N (n : Nat) : D := .int .i64 (n : Int)
@[simp] theorem flats_T (xs : Lines) : flats (xs.map T) = true := by
  induction xs with
  | nil => rfl
  | cons a r ih => simp [flats, D.flat, ih]
end Go.Qz
namespace Go.Qz
open Go.Proofs
def plainB (b : UInt8) : Bool := decide (32 ≤ b.toNat) && decide (b.toNat ≤ 126)
def inI (n a b : Int) : Bool := decide (a ≤ n) && decide (n ≤ b)
theorem plainByte_ev (b : UInt8) : C fn_i_plainByte [.ro (.int .u8 b.toNat)] [] = some (.one (.ro (.bool (plainB b))), []) := by
  refine ctx_call Tryd.func100 conv_i_plainByte rfl ?_
  unfold plainB
  by_cases h : 32 ≤ b.toNat <;> simp [h]
theorem l1In_ev (n a b : Int) : C fn_s_l1In [.ro (I n), .ro (I a), .ro (I b)] [] = some (.one (.ro (.bool (inI n a b))), []) := by
  refine ctx_call Tryd.func57 conv_s_l1In rfl ?_
  unfold inI
  by_cases h : a ≤ n <;> simp [h]
theorem in_plain (b : UInt8) : inI b.toNat 32 126 = plainB b := by
  unfold inI plainB
  congr 1
  · simp
  · simp
end Go.Qz
namespace Go.Qz
open Go.Proofs
abbrev BS (bs : List Int) : D := .sl 1 (bs.map (D.int .u8))
theorem xor_small {a b : Nat} (ha : a < 4611686018427387904) (hb : b < 4611686018427387904) : ∃ x : Nat, x < 4611686018427387904 ∧ IntKind.i64.wrap ((a % 2 ^ IntKind.i64.bits ^^^ b % 2 ^ IntKind.i64.bits : Nat) : Int) = x := by
  refine ⟨a ^^^ b, Nat.xor_lt_two_pow (n := 62) ha hb, ?_⟩
  have h2 : a ^^^ b < 2 ^ 62 := Nat.xor_lt_two_pow (n := 62) ha hb
  rw [show 2 ^ IntKind.i64.bits = 18446744073709551616 from rfl, Nat.mod_eq_of_lt (by omega), Nat.mod_eq_of_lt (by omega)]
  exact wrap64 (by omega) (by omega)
theorem pick_ev (bs : List Int) (hb : ∀ b ∈ bs, 0 ≤ b ∧ b ≤ 255) (hl : bs.length ≤ 2000) (i : Nat) (hi : i ≤ 100000) (n : Nat) (hn0 : 0 < n) (hn : n ≤ 100000) :
    ∃ r : Nat, r < n ∧ C fn_s_l1Rd_pick [.ptr 5000 0, .ro (N n)] [(5000, [.ro (BS bs), .ro (N i)])] = some (.one (.ro (N r)), [(5000, [.ro (BS bs), .ro (N (i + 1))])]) := by
  have w1 : IntKind.i64.wrap ((i : Int) + 1) = ((i + 1 : Nat) : Int) := wrap64_succ (by omega)
  have w2 : IntKind.i64.wrap (i : Int) = i := wrap64 (by omega) (by omega)
  have n1 : ¬ (n : Int) < 1 := by omega
  by_cases h0 : bs = []
  · subst h0
    refine ⟨0, hn0, ctx_call Tryd.func71 conv_s_l1Rd_pick rfl ?_⟩
    simp [w1, n1]
  · by_cases hlt : i < bs.length
    · obtain ⟨b, hbe⟩ : ∃ b : Nat, bs[i] = (b : Int) := ⟨bs[i].toNat, by have := hb _ (List.getElem_mem hlt); omega⟩
      have hb255 := hb _ (List.getElem_mem hlt)
      rw [hbe] at hb255
      have w3 : IntKind.i64.wrap (b : Int) = b := wrap64 (by omega) (by omega)
      have hn' : n ≠ 0 := by omega
      obtain ⟨r, hr⟩ : ∃ r : Nat, (b : Int).tmod n = r := ⟨b % n, (Int.ofNat_tmod b n).symm⟩
      have hrn : r < n := by
        have h1 : ((b % n : Nat) : Int) = r := (Int.ofNat_tmod b n).trans hr
        have := Nat.mod_lt b hn0
        omega
      refine ⟨r, hrn, ctx_call Tryd.func71 conv_s_l1Rd_pick rfl ?_⟩
      simp [w1, w2, w3, n1, h0, hlt, hbe, hn', hr]
    · have hL : 0 < bs.length := List.length_pos_iff.2 h0
      have hL' : bs.length ≠ 0 := by omega
      have hn' : n ≠ 0 := by omega
      have md : ∀ a c : Nat, 0 < c → ∃ r : Nat, (a : Int).tmod c = r ∧ r < c := fun a c hc => ⟨a % c, (Int.ofNat_tmod a c).symm, Nat.mod_lt a hc⟩
      have dv : ∀ a c : Nat, ∃ r : Nat, (a : Int).tdiv c = r ∧ r ≤ a := fun a c => ⟨a / c, (Int.ofNat_tdiv a c).symm, Nat.div_le_self a c⟩
      obtain ⟨p, hp, hpL⟩ := md i bs.length hL
      obtain ⟨q, hq, hqL⟩ := md (i * 7 + 3) bs.length hL
      obtain ⟨d, hd, hdi⟩ := dv i bs.length
      have hq' : ((i : Int) * 7 + 3).tmod (bs.length : Int) = q := by rw [← hq]; congr 1
      obtain ⟨b1, hb1⟩ : ∃ b : Nat, bs[p] = (b : Int) := ⟨bs[p].toNat, by have := hb _ (List.getElem_mem hpL); omega⟩
      obtain ⟨b2, hb2⟩ : ∃ b : Nat, bs[q] = (b : Int) := ⟨bs[q].toNat, by have := hb _ (List.getElem_mem hqL); omega⟩
      have k1 := hb _ (List.getElem_mem hpL)
      have k2 := hb _ (List.getElem_mem hqL)
      rw [hb1] at k1
      rw [hb2] at k2
      have w3 : IntKind.i64.wrap ((i : Int) * 7) = (i : Int) * 7 := wrap64 (by omega) (by omega)
      have w4 : IntKind.i64.wrap ((i : Int) * 7 + 3) = (i : Int) * 7 + 3 := wrap64 (by omega) (by omega)
      have w5 : IntKind.i64.wrap (b1 : Int) = b1 := wrap64 (by omega) (by omega)
      have w6 : IntKind.i64.wrap (b2 : Int) = b2 := wrap64 (by omega) (by omega)
      have w7 : IntKind.i64.wrap ((b1 : Int) * 131) = (b1 : Int) * 131 := wrap64 (by omega) (by omega)
      have w8 : IntKind.i64.wrap ((b2 : Int) * 1117) = (b2 : Int) * 1117 := wrap64 (by omega) (by omega)
      have w9 : IntKind.i64.wrap ((b1 : Int) * 131 + (b2 : Int) * 1117) = (b1 : Int) * 131 + (b2 : Int) * 1117 := wrap64 (by omega) (by omega)
      have w10 : IntKind.i64.wrap ((i : Int) * 29) = (i : Int) * 29 := wrap64 (by omega) (by omega)
      have w11 : IntKind.i64.wrap ((b1 : Int) * 131 + (b2 : Int) * 1117 + (i : Int) * 29) = (b1 : Int) * 131 + (b2 : Int) * 1117 + (i : Int) * 29 := wrap64 (by omega) (by omega)
      have w12 : IntKind.i64.wrap (d : Int) = d := wrap64 (by omega) (by omega)
      have w13 : IntKind.i64.wrap ((d : Int) * 53) = (d : Int) * 53 := wrap64 (by omega) (by omega)
      obtain ⟨V, hV⟩ : ∃ V : Nat, (V : Int) = (b1 : Int) * 131 + (b2 : Int) * 1117 + (i : Int) * 29 + (d : Int) * 53 := ⟨b1 * 131 + b2 * 1117 + i * 29 + d * 53, by omega⟩
      have w14 : IntKind.i64.wrap ((b1 : Int) * 131 + (b2 : Int) * 1117 + (i : Int) * 29 + (d : Int) * 53) = V := by rw [hV]; exact wrap64 (by omega) (by omega)
      obtain ⟨V2, hV2, hV2V⟩ := dv V 64
      have hV2' : (V : Int).tdiv 64 = V2 := hV2
      have w15 : IntKind.i64.wrap (V2 : Int) = V2 := wrap64 (by omega) (by omega)
      obtain ⟨x, hx, w16⟩ := xor_small (a := V) (b := V2) (by omega) (by omega)
      obtain ⟨r, hr, hrn⟩ := md x n hn0
      refine ⟨r, hrn, ctx_call Tryd.func71 conv_s_l1Rd_pick rfl ?_⟩
      simp [w1, w2, w3, w4, w5, w6, w7, w8, w9, w10, w11, w12, w13, w14, w15, w16, n1, hlt, hn', hr, hL', hp, hq', hpL, hqL, hb1, hb2, hd, hV2']
end Go.Qz
namespace Go.Qz
open Go.Proofs
structure Seed (bs : List Int) : Prop where
  byte : ∀ b ∈ bs, 0 ≤ b ∧ b ≤ 255
  len : bs.length ≤ 2000
abbrev RB (bs : List Int) (i : Nat) : List A := [.ro (BS bs), .ro (N i)]
theorem of_ev (bs : List Int) (hb : Seed bs) (i : Nat) (hi : i ≤ 100000) (xs : Lines) (h0 : 0 < xs.length) (hn : xs.length ≤ 100000) :
    ∃ x ∈ xs, C fn_s_l1Rd_of [.ptr 5000 0, .ro (SS xs)] [(5000, RB bs i)] = some (.one (.ro (T x)), [(5000, RB bs (i + 1))]) := by
  obtain ⟨r, hr, hp⟩ := pick_ev bs hb.byte hb.len i hi xs.length h0 hn
  refine ⟨xs[r], List.getElem_mem hr, ctx_call Tryd.func80 conv_s_l1Rd_of rfl ?_⟩
  simp [hp, hr]
theorem draw_pick {bs : List Int} (hb : Seed bs) {i : Nat} (hi : i ≤ 100000) (n : Nat) (m : Int) (hm : m = n) (hn0 : 0 < n) (hn : n ≤ 100000) :
    ∃ r j : Nat, r < n ∧ j ≤ i + 1 ∧ C fn_s_l1Rd_pick [.ptr 5000 0, .ro (.int .i64 m)] [(5000, RB bs i)] = some (.one (.ro (N r)), [(5000, RB bs j)]) := by
  subst hm
  obtain ⟨r, hr, h⟩ := pick_ev bs hb.byte hb.len i hi n hn0 hn
  exact ⟨r, i + 1, hr, Nat.le_refl _, h⟩
theorem draw_of {bs : List Int} (hb : Seed bs) {i : Nat} (hi : i ≤ 100000) (xs : Lines) (h0 : 0 < xs.length) (hn : xs.length ≤ 100000) :
    ∃ x j, x ∈ xs ∧ j ≤ i + 1 ∧ C fn_s_l1Rd_of [.ptr 5000 0, .ro (.sl 1 (xs.map T))] [(5000, RB bs i)] = some (.one (.ro (T x)), [(5000, RB bs j)]) := by
  obtain ⟨x, hx, h⟩ := of_ev bs hb i hi xs h0 hn
  exact ⟨x, i + 1, hx, Nat.le_refl _, h⟩
def Ends (Good : V × Boxes → Prop) (x : Option (V × Boxes)) : Prop := ∃ r, Good r ∧ x = some r
theorem Ends.of {Good : V × Boxes → Prop} {r : V × Boxes} (h : Good r) : Ends Good (some r) := ⟨r, h, rfl⟩
section
variable {c : Ctx} {a : QCode} {ks : List Fr}
theorem loop_ex {Good : V × Boxes → Prop} (Inv : Nat → Env → Prop) (step : ∀ m e, Inv m e → (∀ m' e', m' < m → Inv m' e' → Ends Good (Run c (.loop a) e' ks)) → Ends Good (Run c a e (.loop a :: ks))) (m : Nat) (e : Env) (h : Inv m e) :
    Ends Good (Run c (.loop a) e ks) := by
  induction m using Nat.strongRecOn generalizing e with
  | _ m ih =>
    rw [run_loop]
    exact step m e h (fun m' e' hm hi => ih m' hm e' hi)
end
theorem call_ex {P : Program} {io : FuncId → List Nat} {X : CallF} {f : FuncId} {us : List A} {bx : Boxes} {fn : Func} {q : QFn} {Good : V × Boxes → Prop} (hf : P.funcs[f]? = some fn) (hq : convF fn = some q) (hX : X f us bx = none)
    (h : Ends Good (Run ⟨P, io, callLim P io X⟩ q.body (startEnv q.n us bx) [.fn q.res bx])) : Ends Good (callLim P io X f us bx) := by
  obtain ⟨r, h1, h2⟩ := h
  exact ⟨r, h1, ctx_call hf hq hX h2⟩
end Go.Qz
namespace Go.Qz
open Go.Proofs
def brk (b : UInt8) : List UInt8 → Option (List UInt8 × List UInt8)
  | [] => none
  | c :: r => if c == b then some ([], r) else (brk b r).map fun p => (c :: p.1, p.2)
theorem brk_app {b : UInt8} : ∀ {d n r : List UInt8}, brk b d = some (n, r) → d = n ++ b :: r
  | [], n, r, h => by cases h
  | c :: d, n, r, h => by
    unfold brk at h
    split at h
    · rename_i hc
      cases h
      have : c = b := by simpa using hc
      rw [this]; rfl
    · obtain ⟨p, hp, he⟩ := Option.map_eq_some_iff.1 h
      cases he
      rw [brk_app (n := p.1) (r := p.2) hp]
      rfl
theorem brk_name {b : UInt8} : ∀ {n : List UInt8} (r : List UInt8), (∀ c ∈ n, c ≠ b) → brk b (n ++ b :: r) = some (n, r)
  | [], r, _ => by simp [brk]
  | c :: n, r, h => by
    have hc : (c == b) = false := by have := h c (by simp); simpa using this
    rw [List.cons_append, brk, hc, brk_name r (fun b hb => h b (by simp [hb]))]
    rfl
theorem brk_none {b : UInt8} : ∀ {n : List UInt8}, (∀ c ∈ n, c ≠ b) → brk b n = none
  | [], _ => rfl
  | c :: n, h => by
    have hc : (c == b) = false := by have := h c (by simp); simpa using this
    rw [brk, hc, brk_none (fun b hb => h b (by simp [hb]))]
    rfl
theorem index_brk (b : UInt8) : ∀ d : List UInt8, (brk b d = none ∧ Lib.index d [b] = -1) ∨ ∃ n r, brk b d = some (n, r) ∧ Lib.index d [b] = n.length
  | [] => .inl ⟨rfl, by simp [Lib.index]⟩
  | c :: r => by
    have hb : (b == c) = (c == b) := Bool.beq_comm
    unfold brk
    cases hc : c == b with
    | true =>
      refine .inr ⟨[], r, rfl, ?_⟩
      rw [hc] at hb
      simp [Lib.index, List.isPrefixOf, hb]
    | false =>
      rw [hc] at hb
      have h1 : Lib.index (c :: r) [b] = if Lib.index r [b] == -1 then -1 else Lib.index r [b] + 1 := by
        simp [Lib.index, List.isPrefixOf, hb]
      rcases index_brk b r with ⟨x1, x2⟩ | ⟨n, q, x1, x2⟩
      · refine .inl ⟨by rw [x1]; rfl, by rw [h1, x2]; rfl⟩
      · refine .inr ⟨c :: n, q, by rw [x1]; rfl, ?_⟩
        rw [h1, x2]
        have : ((n.length : Int) == -1) = false := by rw [beq_eq_false_iff_ne]; omega
        rw [this]
        simp
theorem cut_brk (b : UInt8) (d : List UInt8) : Lib.cut d [b] = (match brk b d with | some p => (p.1, p.2, true) | none => (d, [], false)) := by
  rcases index_brk b d with ⟨x1, x2⟩ | ⟨n, r, x1, x2⟩
  · rw [x1]
    simp [Lib.cut, x2]
  · have ha := brk_app x1
    rw [x1]
    simp only [Lib.cut, x2, if_pos (show (0 : Int) ≤ n.length by omega), Int.toNat_natCast, List.length_singleton]
    rw [ha]
    simp
def cutP (b : UInt8) : Nat → List UInt8 → List UInt8 → Lines
  | _, pre, [] => [pre]
  | 0, pre, c :: r => [pre ++ c :: r]
  | k + 1, pre, c :: r => if c == b then pre :: cutP b k [] r else cutP b (k + 1) (pre ++ [c]) r
theorem cutP_zero (b : UInt8) (pre s : List UInt8) : cutP b 0 pre s = [pre ++ s] := by cases s <;> simp [cutP]
theorem cutP_brk (b : UInt8) (k : Nat) : ∀ (s pre : List UInt8), cutP b (k + 1) pre s = (match brk b s with | some p => (pre ++ p.1) :: cutP b k [] p.2 | none => [pre ++ s])
  | [], pre => by simp [cutP, brk]
  | c :: r, pre => by
    rw [cutP, brk]
    split
    · simp
    · rw [cutP_brk b k r]
      cases h : brk b r with
      | none => simp
      | some p => simp
theorem cutP_ge (b : UInt8) : ∀ (k k' : Nat) (s pre : List UInt8), s.length ≤ k → s.length ≤ k' → cutP b k pre s = cutP b k' pre s
  | _, _, [], pre, _, _ => by simp [cutP]
  | 0, _, c :: r, _, h, _ => by simp at h
  | _, 0, c :: r, _, _, h => by simp at h
  | k + 1, k' + 1, c :: r, pre, h, h' => by
    simp only [List.length_cons] at h h'
    rw [cutP, cutP]
    split
    · rw [cutP_ge b k k' r [] (by omega) (by omega)]
    · exact cutP_ge b (k + 1) (k' + 1) r _ (by omega) (by omega)
theorem splitK_cut (b : UInt8) : ∀ (k : Nat) (s : List UInt8), Lib.splitK [b] 0 k s = cutP b k [] s
  | 0, s => by rw [cutP_zero]; rfl
  | k + 1, s => by
    rw [cutP_brk]
    rcases index_brk b s with ⟨x1, x2⟩ | ⟨n, r, x1, x2⟩
    · rw [x1]
      unfold Lib.splitK
      simp [x2]
    · have ha := brk_app x1
      rw [x1]
      unfold Lib.splitK
      have : ((n.length : Int) == -1) = false := by rw [beq_eq_false_iff_ne]; omega
      simp only [x2, this, Bool.false_eq_true, if_false, Int.toNat_natCast, List.nil_append, List.length_singleton, Nat.add_zero]
      rw [splitK_cut b k]
      rw [ha]
      simp
theorem splitNk_ev (s : List UInt8) (b : UInt8) (k : Nat) (m0 : Int) (hm0 : m0 = ((k + 1 : Nat) : Int)) (hk : k ≤ 999999) (h : s.length < 4294967281) : C 53 [.ro (T s), .ro (T [b]), .ro (.int .i64 m0)] [] = some (.one (.own (SS (cutP b k [] s))), []) := by
  subst hm0
  have h0 := splitN_str ⟨s.toArray⟩ ⟨[b].toArray⟩ ((k + 1 : Nat) : Int) (by simpa using h) (by simp [ByteArray.size]) (by omega) (by omega)
  have e1 : (Lib.splitB ⟨[b].toArray⟩ 0 (min ((k + 1 : Nat) : Int).toNat ((⟨s.toArray⟩ : ByteArray).size + 1) - 1) ⟨s.toArray⟩).map D.str = (cutP b k [] s).map T := by
    have h1 := Lib.splitB_data ⟨[b].toArray⟩ 0 (min ((k + 1 : Nat) : Int).toNat ((⟨s.toArray⟩ : ByteArray).size + 1) - 1) ⟨s.toArray⟩
    rw [splitK_cut] at h1
    have hk : cutP b (min ((k + 1 : Nat) : Int).toNat ((⟨s.toArray⟩ : ByteArray).size + 1) - 1) [] s = cutP b k [] s := by
      have hs : (⟨s.toArray⟩ : ByteArray).size = s.length := by simp [ByteArray.size]
      rw [hs]
      by_cases h3 : k ≤ s.length
      · rw [show min ((k + 1 : Nat) : Int).toNat (s.length + 1) - 1 = k by omega]
      · exact cutP_ge b _ _ _ _ (by omega) (by omega)
    have h2 : (⟨s.toArray⟩ : ByteArray).data.toList = s := rfl
    rw [h2, hk] at h1
    rw [← h1, List.map_map]
    refine List.map_congr_left (fun x _ => ?_)
    simp [T]
  rw [e1] at h0
  exact h0
end Go.Qz
namespace Go.Qz
open Go.Proofs
theorem l1Cut_ev (s : List UInt8) (b : UInt8) (most : Nat) (m0 : Int) (hm0 : m0 = most) (hs : s.length ≤ 1048576) (hm : most ≤ 2000000) :
    C fn_s_l1Cut [.ro (T s), .ro (.int .u8 b.toNat), .ro (.int .i64 m0)] [] = some (.one (.own (SS (cutP b most [] s))), []) := by
  subst hm0
  refine ctx_call Tryd.func84 conv_s_l1Cut rfl ?_
  simp
  refine loop_run (fun m e => ∃ (out : Lines) (pre rest : List UInt8) (i j : Nat), m = rest.length ∧ s.drop i = pre ++ rest ∧ j = i + pre.length ∧ j + rest.length = s.length ∧ out.length ≤ most ∧ out.length ≤ s.length ∧ out.length ≤ i ∧ e.size = 43 ∧ e.get 0 = .one (.ro (T s)) ∧ e.get 1 = .one (.ro (.int .u8 b.toNat)) ∧ e.get 2 = .one (.ro (N most)) ∧ e.get 7 = .one (.own (SS out)) ∧
      e.get 8 = .one (.ro (N i)) ∧ e.get 9 = .one (.ro (N j)) ∧ out ++ cutP b (most - out.length) pre rest = cutP b most [] s)
    ?_ s.length _ ⟨[], [], s, 0, 0, rfl, rfl, rfl, by simp, by simp, by simp, by simp, by simp, by simp, by simp, by simp, by simp, by simp, by simp, by simp⟩
  rintro m e ⟨out, pre, rest, i, j, rfl, hd, hj, hjl, ho, hos, hoi, hsz, h0, h1, h2, h7, h8, h9, hr⟩ ih
  have ha : out.length + 1 ≤ appendMax := by simp [appendMax]; omega
  have hil : i ≤ s.length := by omega
  have hil' : (i : Int) ≤ s.length := by omega
  have fin : List.drop i (List.take s.length s) = pre ++ rest := by rw [List.take_length]; exact hd
  cases rest with
  | nil =>
    have hlt : ¬ j < s.length := by simp at hjl; omega
    rw [cutP] at hr
    simp at fin
    simp [hsz, h0, h2, h7, h8, h9, hlt, ha, hil', hd, ← hr]
  | cons c r =>
    have hlt : j < s.length := by simp at hjl; omega
    by_cases hmo : out.length < most
    · have hget : s[j] = c := by
        have h3 : (s.drop i)[pre.length]? = some c := by rw [hd]; simp
        rw [List.getElem?_drop, ← hj, List.getElem?_eq_getElem hlt] at h3
        exact Option.some.inj h3
      have hsl : List.drop i (List.take j s) = pre := by
        rw [List.drop_take, hd, hj, Nat.add_sub_cancel_left, List.take_left]
      have hij : i ≤ j := by omega
      have hjs : j ≤ s.length := by omega
      have hij' : (i : Int) ≤ j := by omega
      have hwj : IntKind.i64.wrap ((j : Int) + 1) = ((j + 1 : Nat) : Int) := wrap64_succ (by omega)
      have hsd : s.drop (j + 1) = r := by
        have h3 : (s.drop i).drop (pre.length + 1) = r := by rw [hd]; simp
        rw [List.drop_drop] at h3
        rw [← h3]; congr 1; omega
      have hk : most - out.length = (most - out.length - 1) + 1 := by omega
      rw [hk, cutP] at hr
      cases hcb : c == b with
      | true =>
        obtain rfl : c = b := by simpa using hcb
        rw [if_pos hcb] at hr
        simp [hsz, h0, h1, h2, h7, h8, h9, hlt, ha, hmo, hget, hij', hjs, hwj, hsl]
        exact ih _ _ (by simp) ⟨out ++ [pre], [], r, j + 1, j + 1, rfl, by simp [hsd], by simp, by simp at hjl ⊢; omega, by simp; omega, by simp; omega, by simp; omega, by simp [hsz], by simp [h0], by simp [h1], by simp [h2], by simp, by simp, by simp, by
          rw [← hr]; simp [show most - (out.length + 1) = most - out.length - 1 by omega]⟩
      | false =>
        have hne : ¬ c = b := by simpa using hcb
        have hne' : (c.toNat == b.toNat) = false := by rw [beq_eq_false_iff_ne]; exact fun h => hne (UInt8.toNat_inj.1 h)
        rw [if_neg (by simp [hcb])] at hr
        simp [hsz, h0, h1, h2, h7, h9, hlt, hmo, hget, hwj, hne']
        refine ih r.length _ (by simp) ⟨out, pre ++ [c], r, i, j + 1, rfl, by simp [hd], by simp; omega, by simp at hjl ⊢; omega, ho, hos, hoi, by simp [hsz], by simp [h0], by simp [h1], by simp [h2], by simp [h7], by simp [h8], by simp, ?_⟩
        rw [← hr, ← hk]
    · have hmo' : most - out.length = 0 := by omega
      rw [hmo', cutP] at hr
      simp [hsz, h0, h2, h7, h8, h9, hlt, ha, hmo, hil', hd, ← hr]
end Go.Qz
namespace Go.Qz
open Go.Proofs
def figB (b : UInt8) : Bool := decide (48 ≤ b.toNat) && decide (b.toNat ≤ 57)
def goN : Nat → List UInt8 → Option Nat
  | n, [] => some n
  | n, c :: r => if figB c then goN (n * 10 + (c.toNat - 48)) r else none
def lead0 (l : List UInt8) : Bool := match l with
  | c :: _ :: _ => c == 48
  | _ => false
def numS (l : List UInt8) : Int := match goN 0 l with
  | some n => if decide (l.length ≤ 6) && !l.isEmpty && !lead0 l then n else -1
  | none => -1
def numI (l : List UInt8) (most : Nat) : Nat × Bool := if l.isEmpty || decide (9 < l.length) || lead0 l then (0, false) else match goN 0 l with
  | some n => if most < n then (0, false) else (n, true)
  | none => (0, false)
def numV (o : Option Nat) (most : Nat) : Nat × Bool := match o with
  | some n => if most < n then (0, false) else (n, true)
  | none => (0, false)
theorem fig_sub {c : UInt8} (h : figB c = true) : IntKind.u8.wrap ((c.toNat : Int) - 48) = ((c.toNat - 48 : Nat) : Int) ∧ ¬ c.toNat < 48 ∧ ¬ 57 < c.toNat ∧ c.toNat - 48 ≤ 9 := by
  unfold figB at h
  simp only [Bool.and_eq_true, decide_eq_true_eq] at h
  refine ⟨?_, by omega, by omega, by omega⟩
  show ((c.toNat : Int) - 48) % 256 = _
  omega
theorem fig_not {c : UInt8} (h : figB c = false) : c.toNat < 48 ∨ (¬ c.toNat < 48 ∧ 57 < c.toNat) := by
  unfold figB at h
  simp only [Bool.and_eq_false_iff, decide_eq_false_iff_not] at h
  omega
theorem number_loop (l : List UInt8) (most : Nat) (hlen : l.length ≤ 9) (_ : most ≤ 1000000) (e : Env) (hsz : e.size = 53) (h0 : e.get 0 = .one (.ro (T l))) (h1 : e.get 1 = .one (.ro (N most))) (h6 : e.get 6 = .one (.ro (N 0))) (h26 : e.get 26 = .one (.ro (N l.length))) (h27 : e.get 27 = .one (.ro (N 0))) :
    Run cx q_i_number_l0.loop e [Fr.blk 0, Fr.seq q_i_number_c4, Fr.fn [(ResultVar.tmp 4, 3), (ResultVar.tmp 5, 4)] []] = some (.tup [.ro (N (numV (goN 0 l) most).1), .ro (.bool (numV (goN 0 l) most).2)], []) := by
  refine loop_run (fun m e => ∃ i n, m = l.length - i ∧ i ≤ l.length ∧ n < 10 ^ i ∧ e.size = 53 ∧ e.get 0 = .one (.ro (T l)) ∧ e.get 1 = .one (.ro (N most)) ∧ e.get 6 = .one (.ro (N n)) ∧ e.get 26 = .one (.ro (N l.length)) ∧ e.get 27 = .one (.ro (N i)) ∧ goN n (l.drop i) = goN 0 l)
    ?_ l.length _ ⟨0, 0, rfl, Nat.zero_le _, by simp, hsz, h0, h1, h6, h26, h27, rfl⟩
  clear hsz h0 h1 h6 h26 h27
  rintro m e ⟨i, n, rfl, hi, hn, hsz, h0, h1, h6, h26, h27, hr⟩ ih
  rcases Nat.lt_or_ge i l.length with hlt | hge
  · have hp : 10 ^ i ≤ 10 ^ 8 := Nat.pow_le_pow_right (by omega) (by omega)
    have hp2 : 10 ^ (i + 1) = 10 ^ i * 10 := Nat.pow_succ _ _
    have hwi : IntKind.i64.wrap ((i : Int) + 1) = ((i + 1 : Nat) : Int) := wrap64_succ (by omega)
    have hd : l.drop i = l[i] :: l.drop (i + 1) := List.drop_eq_getElem_cons hlt
    rw [hd, goN] at hr
    obtain ⟨c, hc⟩ : ∃ c, l[i] = c := ⟨_, rfl⟩
    rw [hc] at hr
    cases hf : figB c with
    | false =>
      rw [hf] at hr
      simp only [Bool.false_eq_true, if_false] at hr
      rcases fig_not hf with h | ⟨h, h'⟩
      · simp [hsz, h0, h26, h27, hlt, hc, h, ← hr, numV]
      · simp [hsz, h0, h26, h27, hlt, hc, h, h', ← hr, numV]
    | true =>
      rw [hf] at hr
      simp only [if_true] at hr
      obtain ⟨g1, g2, g3, g4⟩ := fig_sub hf
      generalize c.toNat - 48 = d at *
      have hw1 : IntKind.i64.wrap ((n : Int) * 10) = ((n * 10 : Nat) : Int) := by rw [wrap64 (by omega) (by omega)]; omega
      have hw2 : IntKind.i64.wrap (d : Int) = d := wrap64 (by omega) (by omega)
      have hw3 : IntKind.i64.wrap (((n * 10 : Nat) : Int) + (d : Int)) = ((n * 10 + d : Nat) : Int) := by rw [wrap64 (by omega) (by omega)]; omega
      have hlt2 : n * 10 + d < 10 ^ (i + 1) := by omega
      generalize n * 10 + d = q at *
      generalize n * 10 = p at *
      simp [hsz, h0, h6, h26, h27, hlt, hc, g1, g2, g3, hwi, hw1, hw2, hw3]
      exact ih _ _ (by omega) ⟨i + 1, q, rfl, by omega, hlt2, by simp [hsz], by simp [h0], by simp [h1], by simp, by simp [h26], by simp, hr⟩
  · obtain rfl : i = l.length := by omega
    rw [List.drop_length, goN] at hr
    by_cases hmn : most < n
    · simp [hsz, h1, h6, h26, h27, hmn, ← hr, numV]
    · simp [hsz, h1, h6, h26, h27, hmn, ← hr, numV]
theorem number_ev (l : List UInt8) (most : Nat) (m0 : Int) (hm0 : m0 = most) (hl : l.length ≤ 1048576) (hm : most ≤ 1000000) :
    C fn_i_number [.ro (T l), .ro (.int .i64 m0)] [] = some (.tup [.ro (N (numI l most).1), .ro (.bool (numI l most).2)], []) := by
  subst hm0
  refine ctx_call Tryd.func54 conv_i_number rfl ?_
  unfold numI
  cases l with
  | nil => simp
  | cons c0 r0 =>
    by_cases h9 : 9 < r0.length + 1
    · have h9' : (9 : Int) < (r0.length : Int) + 1 := by omega
      simp [h9, h9']
    · have h9' : ¬ (9 : Int) < (r0.length : Int) + 1 := by omega
      have hlead : lead0 (c0 :: r0) = (decide ((1 : Int) < (r0.length : Int) + 1) && c0 == 48) := by
        cases r0 with
        | nil => simp [lead0]
        | cons b q => simp [lead0]; omega
      cases hl0 : lead0 (c0 :: r0) with
      | true =>
        rw [hl0] at hlead
        have h1 : (1 : Int) < (r0.length : Int) + 1 := by
          by_cases h : (1 : Int) < (r0.length : Int) + 1
          · exact h
          · simp [h] at hlead
        have h2 : (c0 == 48) = true := by simpa [h1] using hlead.symm
        simp [h9, h9', h1, h2]
      | false =>
        rw [hl0] at hlead
        have hg : (if (List.isEmpty (c0 :: r0) || decide (9 < List.length (c0 :: r0)) || false) = true then ((0 : Nat), false) else match goN 0 (c0 :: r0) with
            | some n => if most < n then (0, false) else (n, true)
            | none => (0, false)) = numV (goN 0 (c0 :: r0)) most := by
          rw [if_neg (by simp; omega)]
          rfl
        rw [hg]
        have hlen : (c0 :: r0).length ≤ 9 := by simp; omega
        by_cases h1 : (1 : Int) < (r0.length : Int) + 1
        · have h2 : (c0 == 48) = false := by simpa [h1] using hlead.symm
          simp [h9', h1, h2]
          exact number_loop (c0 :: r0) most hlen hm _ (by simp) (by simp) (by simp) (by simp) (by simp) (by simp)
        · simp [h9', h1]
          exact number_loop (c0 :: r0) most hlen hm _ (by simp) (by simp) (by simp) (by simp) (by simp) (by simp)
end Go.Qz
namespace Go.Qz
open Go.Proofs
theorem numS_long {l : List UInt8} (h : 6 < l.length) : numS l = -1 := by
  unfold numS
  split
  · rw [show decide (l.length ≤ 6) = false by simp; omega]
    simp
  · rfl
theorem l1Num_ev (l : List UInt8) (hl : l.length ≤ 1048576) : C fn_s_l1Num [.ro (T l)] [] = some (.one (.ro (I (numS l))), []) := by
  refine ctx_call Tryd.func85 conv_s_l1Num rfl ?_
  simp
  refine loop_run (fun m e => ∃ i n, m = l.length - i ∧ i ≤ l.length ∧ i ≤ 6 ∧ n < 10 ^ i ∧ e.size = 47 ∧ e.get 0 = .one (.ro (T l)) ∧ e.get 3 = .one (.ro (N n)) ∧ e.get 4 = .one (.ro (N i)) ∧ goN n (l.drop i) = goN 0 l)
    ?_ l.length _ ⟨0, 0, rfl, Nat.zero_le _, by omega, by simp, by simp, by simp, by simp, by simp, rfl⟩
  rintro m e ⟨i, n, rfl, hi, hi6, hn, hsz, h0, h3, h4, hr⟩ ih
  rcases Nat.lt_or_ge i l.length with hlt | hge
  · have hp : 10 ^ i ≤ 10 ^ 8 := Nat.pow_le_pow_right (by omega) (by omega)
    have hp2 : 10 ^ (i + 1) = 10 ^ i * 10 := Nat.pow_succ _ _
    have hwi : IntKind.i64.wrap ((i : Int) + 1) = ((i + 1 : Nat) : Int) := wrap64_succ (by omega)
    have hd : l.drop i = l[i] :: l.drop (i + 1) := List.drop_eq_getElem_cons hlt
    rw [hd, goN] at hr
    obtain ⟨c, hc⟩ : ∃ c, l[i] = c := ⟨_, rfl⟩
    rw [hc] at hr
    cases hf : figB c with
    | false =>
      rw [hf] at hr
      simp only [Bool.false_eq_true, if_false] at hr
      have hnum : numS l = -1 := by unfold numS; rw [← hr]
      rcases fig_not hf with h | ⟨h, h'⟩
      · simp [hsz, h0, h4, hlt, hc, h, hnum]
      · simp [hsz, h0, h4, hlt, hc, h, h', hnum]
    | true =>
      rw [hf] at hr
      simp only [if_true] at hr
      obtain ⟨g1, g2, g3, g4⟩ := fig_sub hf
      by_cases h6 : 6 ≤ i
      · have hnum := numS_long (l := l) (by omega)
        have h6' : (6 : Int) ≤ i := by omega
        simp [hsz, h0, h4, hlt, hc, g2, g3, h6', hnum]
      · have h6' : ¬ (6 : Int) ≤ i := by omega
        generalize c.toNat - 48 = d at *
        have hw1 : IntKind.i64.wrap ((n : Int) * 10) = ((n * 10 : Nat) : Int) := by rw [wrap64 (by omega) (by omega)]; omega
        have hw2 : IntKind.i64.wrap (d : Int) = d := wrap64 (by omega) (by omega)
        have hw3 : IntKind.i64.wrap (((n * 10 : Nat) : Int) + (d : Int)) = ((n * 10 + d : Nat) : Int) := by rw [wrap64 (by omega) (by omega)]; omega
        have hlt2 : n * 10 + d < 10 ^ (i + 1) := by omega
        generalize n * 10 + d = q at *
        generalize n * 10 = p at *
        simp [hsz, h0, h3, h4, hlt, hc, g1, g2, g3, h6', hwi, hw1, hw2, hw3]
        exact ih _ _ (by omega) ⟨i + 1, q, rfl, by omega, by omega, hlt2, by simp [hsz], by simp [h0], by simp, by simp, hr⟩
  · obtain rfl : i = l.length := by omega
    rw [List.drop_length, goN] at hr
    unfold numS
    rw [← hr]
    clear ih hr
    match l, hi6, hsz, h0, h3, h4 with
    | [], _, hsz, h0, h3, h4 => simp [hsz, h0, h4]
    | [c], _, hsz, h0, h3, h4 => simp [hsz, h0, h3, h4, lead0]
    | c :: b :: r, hi6, hsz, h0, h3, h4 =>
      simp only [List.length_cons] at hi6
      have h1 : (1 : Int) < (r.length : Int) + 1 + 1 := by omega
      have hne : ((r.length : Int) + 1 + 1 == 0) = false := by rw [beq_eq_false_iff_ne]; omega
      have h6 : r.length + 1 + 1 ≤ 6 := by omega
      cases hc : c == 48 with
      | true => simp [hsz, h0, h4, lead0, h1, hne, hc, h6]
      | false => simp [hsz, h0, h3, h4, lead0, h1, hne, hc, h6]
end Go.Qz
namespace Go.Qz
open Go.Proofs
end Go.Qz
namespace Go.Qz
open Go.Proofs
def nameB (b : UInt8) : Bool := (decide (97 ≤ b.toNat) && decide (b.toNat ≤ 122)) || (decide (48 ≤ b.toNat) && decide (b.toNat ≤ 57)) || b == 46 || b == 95 || b == 45
def nameOk (l : List UInt8) : Bool := decide (l.length ≤ 10) && !(l == [46]) && !(l == [46, 46]) && l.all nameB && !l.isEmpty
def pathOk (l : List UInt8) : Bool := decide ((cutAt 47 l).length ≤ 5) && (cutAt 47 l).all nameOk
theorem nameByte_ev (b : UInt8) : C fn_i_nameByte [.ro (.int .u8 b.toNat)] [] = some (.one (.ro (.bool (nameB b))), []) := by
  refine ctx_call Tryd.func133 conv_i_nameByte rfl ?_
  unfold nameB
  by_cases h1 : 97 ≤ b.toNat <;> by_cases h2 : b.toNat ≤ 122 <;> by_cases h3 : 48 ≤ b.toNat <;> by_cases h4 : b.toNat ≤ 57 <;> cases h5 : b == 46 <;> cases h6 : b == 95 <;> simp [h1, h2, h3, h4, h5, h6]
theorem nameBytes_ev (l : List UInt8) (hl : l.length ≤ 140737488351232) : C fn_i_nameBytes [.ro (T l)] [] = some (.one (.ro (.bool (l.all nameB && !l.isEmpty))), []) := by
  refine ctx_call Tryd.func116 conv_i_nameBytes rfl ?_
  simp
  refine loop_run (fun m e => ∃ i, m = l.length - i ∧ i ≤ l.length ∧ e.size = 17 ∧ e.get 0 = .one (.ro (T l)) ∧ e.get 5 = .one (.ro (N l.length)) ∧ e.get 6 = .one (.ro (N i)) ∧
    (l.drop i).all nameB = l.all nameB) ?_ l.length _ ⟨0, rfl, Nat.zero_le _, by simp, by simp, by simp, by simp, rfl⟩
  rintro m e ⟨i, rfl, hi, hsz, h0, h5, h6, hr⟩ ih
  rcases Nat.lt_or_ge i l.length with hlt | hge
  · have hd : l.drop i = l[i] :: l.drop (i + 1) := List.drop_eq_getElem_cons hlt
    have hwi : IntKind.i64.wrap ((i : Int) + 1) = ((i + 1 : Nat) : Int) := wrap64_succ (by omega)
    rw [hd, List.all_cons] at hr
    cases hp : nameB l[i] with
    | false =>
      rw [hp] at hr
      simp [nameByte_ev, hsz, h0, h5, h6, hlt, hp, ← hr]
    | true =>
      rw [hp, Bool.true_and] at hr
      simp [nameByte_ev, hsz, h0, h5, h6, hlt, hwi, hp]
      exact ih _ _ (by omega) ⟨i + 1, rfl, by omega, by simp [hsz], by simp [h0], by simp [h5], by simp, hr⟩
  · obtain rfl : i = l.length := by omega
    rw [List.drop_length, List.all_nil] at hr
    cases l with
    | nil => simp [hsz, h0, h5, h6, ← hr]
    | cons c r => simp [hsz, h0, h5, h6, ← hr]
theorem nameOk_ev (l : List UInt8) (hl : l.length ≤ 140737488351232) : C fn_i_nameOk [.ro (T l)] [] = some (.one (.ro (.bool (nameOk l))), []) := by
  refine ctx_call Tryd.func99 conv_i_nameOk rfl ?_
  have h := nameBytes_ev l hl
  unfold nameOk
  by_cases h1 : l.length ≤ 10
  · cases h2 : l == [46]
    · cases h3 : l == [46, 46] <;> simp [h1, h2, h3, h]
    · simp [h1, h2]
  · simp [h1]
def goP : Nat → Lines → Bool
  | _, [] => true
  | k, x :: r => if 5 < k + 1 then false else if nameOk x then goP (k + 1) r else false
theorem goP_eq : ∀ (xs : Lines) (k : Nat), goP k xs = (decide (k + xs.length ≤ 5) && xs.all nameOk || xs.isEmpty)
  | [], k => by simp [goP]
  | x :: r, k => by
    rw [goP, goP_eq r (k + 1)]
    by_cases h : 5 < k + 1
    · have : ¬ k + (r.length + 1) ≤ 5 := by omega
      simp [h, this]
    · cases hx : nameOk x with
      | false => simp [h, hx]
      | true =>
        cases r with
        | nil => have : k + 1 ≤ 5 := by omega
                 simp [h, hx, this]
        | cons y r => simp [h, hx, Nat.add_assoc, Nat.add_comm 1]
theorem cutAt_ne (b : UInt8) (l : List UInt8) : cutAt b l ≠ [] := by
  cases l with
  | nil => simp [cutAt]
  | cons c r =>
    rw [cutAt]
    split
    · simp
    · split <;> simp
theorem goP_path (l : List UInt8) : goP 0 (cutAt 47 l) = pathOk l := by
  rw [goP_eq]
  have := cutAt_ne 47 l
  cases h : cutAt 47 l with
  | nil => exact absurd h this
  | cons x r => simp [pathOk, h]
theorem cutAt_len (b : UInt8) : ∀ (l x : List UInt8), x ∈ cutAt b l → x.length ≤ l.length
  | [], x, h => by simp [cutAt] at h; simp [h]
  | c :: r, x, h => by
    have ih := cutAt_len b r
    rw [cutAt] at h
    split at h
    · rcases List.mem_cons.1 h with rfl | h
      · simp
      · have := ih x h; simp; omega
    · cases hq : cutAt b r with
      | nil => exact absurd hq (cutAt_ne b r)
      | cons y t =>
        rw [hq] at h ih
        simp only at h
        rcases List.mem_cons.1 h with rfl | h
        · have := ih y (by simp); simp; omega
        · have := ih x (by simp [h]); simp; omega
theorem PathOk_ev (l : List UInt8) (hl : l.length ≤ 140737488351232) : C fn_i_PathOk [.ro (T l)] [] = some (.one (.ro (.bool (pathOk l))), []) := by
  refine ctx_call Tryd.func76 conv_i_PathOk rfl ?_
  have hs := seq_str ⟨l.toArray⟩ ⟨#[47]⟩
  rw [← goP_path]
  have h47 : (⟨#[47]⟩ : ByteArray).size = 1 := rfl
  have hl2 : l.length ≤ 9223372036854775807 := by omega
  simp [hs, h47, hl2]
  refine range_gen (fun o ho => ?_)
  have o2 : o.get 2 = .one (.ptr 2 0) := by rw [ho]; simp
  have o3 : o.get 3 = .one (.ptr 3 0) := by rw [ho]; simp
  have os : o.size = 17 := by rw [ho]; simp
  have b2 : o.box 2 = some [.ro (.bool false)] := by rw [ho]; simp
  have b3 : o.box 3 = some [.ro (N 0)] := by rw [ho]; simp
  clear ho
  refine range_run (fun xs e => ∃ k, (∀ x ∈ xs, x.length ≤ l.length) ∧ e.size = 17 ∧ e.get 2 = .one (.ptr 9002 0) ∧ e.get 3 = .one (.ptr 9003 0) ∧ e.box 9002 = some [.ro (.bool false)] ∧ e.box 9003 = some [.ro (N k)] ∧ k ≤ 6 ∧ goP k xs = goP 0 (cutAt 47 l))
    ?_ _ _ ⟨0, cutAt_len 47 l, by simp [os], by simp [o2], by simp [o3], by simp [box_enter, b2], by simp [box_enter, b3], by omega, rfl⟩
  rintro xs e ⟨k, hx, es, e2, e3, c2, c3, hk, hr⟩ ih
  cases xs with
  | nil =>
    rw [goP] at hr
    simp [o2, b2, c2, box_leave, ← hr]
  | cons x xs =>
    have hn := nameOk_ev x (by have := hx x (by simp); omega)
    have hwk : IntKind.i64.wrap ((k : Int) + 1) = ((k + 1 : Nat) : Int) := wrap64_succ (by omega)
    rw [goP] at hr
    by_cases h5 : 5 < k + 1
    · rw [if_pos h5] at hr
      have h5i : (5 : Int) < (k : Int) + 1 := by omega
      simp [h5i, o2, b2, es, e2, e3, c2, c3, hwk, box_leave, box_again, box_enter, ← hr]
    · rw [if_neg h5] at hr
      have h5i : ¬ (5 : Int) < (k : Int) + 1 := by omega
      cases hq : nameOk x with
      | false =>
        rw [hq] at hn hr
        simp [h5i, o2, b2, es, e2, e3, c2, c3, hwk, hn, box_leave, box_again, box_enter, ← hr]
      | true =>
        rw [hq] at hn hr
        simp [h5i, es, e3, c3, hwk, hn]
        refine ih _ _ (by simp) ⟨k + 1, fun y hy => hx y (by simp [hy]), by simp [os], by simp [o2], by simp [o3], by simp [box_again, box_enter, b2, c2], by simp [box_again, box_enter, b3], by omega, hr⟩
end Go.Qz
namespace Go.Qz
open Go.Proofs
theorem l1Small_ev (b : UInt8) : C fn_s_l1Small [.ro (.int .u8 b.toNat)] [] = some (.one (.ro (.bool (nameB b))), []) := by
  refine ctx_call Tryd.func126 conv_s_l1Small rfl ?_
  unfold nameB
  by_cases h1 : 97 ≤ b.toNat <;> by_cases h2 : b.toNat ≤ 122 <;> by_cases h3 : 48 ≤ b.toNat <;> by_cases h4 : b.toNat ≤ 57 <;> cases h5 : b == 46 <;> cases h6 : b == 95 <;> simp [h1, h2, h3, h4, h5, h6]
def nameS (l : List UInt8) : Bool := l.all nameB && (inI l.length 1 10 && !(l == [46]) && !(l == [46, 46]))
theorem nameS_ok (l : List UInt8) : nameS l = nameOk l := by
  unfold nameS nameOk inI
  cases l with
  | nil => simp
  | cons c r =>
    have h1 : (1 : Int) ≤ ((c :: r).length : Nat) := by simp
    have h2 : (((c :: r).length : Nat) : Int) ≤ 10 ↔ (c :: r).length ≤ 10 := by omega
    simp only [h1, decide_true, Bool.true_and, decide_eq_decide.2 h2, List.isEmpty_cons, Bool.not_false, Bool.and_true]
    rw [Bool.and_comm]
theorem l1Name_ev (l : List UInt8) (hl : l.length ≤ 140737488351232) : C fn_s_l1Name [.ro (T l)] [] = some (.one (.ro (.bool (nameOk l))), []) := by
  refine ctx_call Tryd.func110 conv_s_l1Name rfl ?_
  rw [← nameS_ok]
  simp
  refine loop_run (fun m e => ∃ i, m = l.length - i ∧ i ≤ l.length ∧ e.size = 26 ∧ e.get 0 = .one (.ro (T l)) ∧ e.get 3 = .one (.ro (N i)) ∧
    (l.drop i).all nameB = l.all nameB) ?_ l.length _ ⟨0, rfl, Nat.zero_le _, by simp, by simp, by simp, rfl⟩
  rintro m e ⟨i, rfl, hi, hsz, h0, h3, hr⟩ ih
  rcases Nat.lt_or_ge i l.length with hlt | hge
  · have hd : l.drop i = l[i] :: l.drop (i + 1) := List.drop_eq_getElem_cons hlt
    have hwi : IntKind.i64.wrap ((i : Int) + 1) = ((i + 1 : Nat) : Int) := wrap64_succ (by omega)
    rw [hd, List.all_cons] at hr
    cases hp : nameB l[i] with
    | false =>
      rw [hp] at hr
      simp [l1Small_ev, hsz, h0, h3, hlt, hp, nameS, ← hr]
    | true =>
      rw [hp, Bool.true_and] at hr
      simp [l1Small_ev, hsz, h0, h3, hlt, hwi, hp]
      exact ih _ _ (by omega) ⟨i + 1, rfl, by omega, by simp [hsz], by simp [h0], by simp, hr⟩
  · obtain rfl : i = l.length := by omega
    rw [List.drop_length, List.all_nil] at hr
    have hin := l1In_ev l.length 1 10
    unfold nameS
    rw [← hr]
    cases hq : inI l.length 1 10 with
    | false =>
      rw [hq] at hin
      simp [hsz, h0, h3, hin]
    | true =>
      rw [hq] at hin
      cases h1 : l == [46]
      · cases h2 : l == [46, 46] <;> simp [hsz, h0, h3, hin, h1, h2]
      · simp [hsz, h0, h3, hin, h1]
theorem cutP_at (b : UInt8) : ∀ (s pre : List UInt8) (k : Nat), s.length ≤ k → cutP b k pre s = (match cutAt b s with | x :: r => (pre ++ x) :: r | [] => [])
  | [], pre, k, _ => by simp [cutP, cutAt]
  | c :: r, pre, 0, h => by simp at h
  | c :: r, pre, k + 1, h => by
    have ih1 := cutP_at b r [] k (by simpa using h)
    have ih2 := cutP_at b r (pre ++ [c]) (k + 1) (by simp at h; omega)
    have hne := cutAt_ne b r
    rw [cutP, cutAt, ih1, ih2]
    cases hq : cutAt b r with
    | nil => exact absurd hq hne
    | cons y t =>
      cases hc : c == b with
      | true => have : c = b := by simpa using hc
                simp [this]
      | false => have : ¬ c = b := by simpa using hc
                 simp [this]
theorem cutP_all (b : UInt8) (s : List UInt8) (k : Nat) (h : s.length ≤ k) : cutP b k [] s = cutAt b s := by
  rw [cutP_at b s [] k h]
  cases hq : cutAt b s with
  | nil => exact absurd hq (cutAt_ne b s)
  | cons y t => rfl
theorem cutAt_count (b : UInt8) : ∀ s : List UInt8, (cutAt b s).length ≤ s.length + 1
  | [] => by simp [cutAt]
  | c :: r => by
    have ih := cutAt_count b r
    rw [cutAt]
    split
    · simp; omega
    · cases hq : cutAt b r with
      | nil => simp
      | cons y t => rw [hq] at ih; simp at ih ⊢; omega
theorem l1CutAll_ev (s : List UInt8) (b : UInt8) (c : Int) (hc : c = b.toNat) (hs : s.length ≤ 1048576) : C fn_s_l1Cut [.ro (T s), .ro (.int .u8 c), .ro (.int .i64 ((s.length : Int) + 1))] [] = some (.one (.own (SS (cutAt b s))), []) := by
  subst hc
  rw [l1Cut_ev s b (s.length + 1) _ (by omega) hs (by omega), cutP_all b s _ (by omega)]
theorem l1Path_ev (l : List UInt8) (hl : l.length ≤ 1048576) : C fn_s_l1Path [.ro (T l)] [] = some (.one (.ro (.bool (pathOk l))), []) := by
  refine ctx_call Tryd.func89 conv_s_l1Path rfl ?_
  have hcut := l1CutAll_ev l 47 47 rfl hl
  have hwl : IntKind.i64.wrap ((l.length : Int) + 1) = ((l.length + 1 : Nat) : Int) := wrap64_succ (by omega)
  have hcnt := cutAt_count 47 l
  have hmem := cutAt_len 47 l
  unfold pathOk
  generalize cutAt 47 l = xs at *
  simp [hwl, hcut]
  refine loop_run (fun m e => ∃ i, m = xs.length - i ∧ i ≤ xs.length ∧ e.size = 25 ∧ e.get 3 = .one (.own (SS xs)) ∧ e.get 4 = .one (.ro (N i)) ∧
    (xs.drop i).all nameOk = xs.all nameOk) ?_ xs.length _ ⟨0, rfl, Nat.zero_le _, by simp, by simp, by simp, rfl⟩
  rintro m e ⟨i, rfl, hi, hsz, h3, h4, hr⟩ ih
  rcases Nat.lt_or_ge i xs.length with hlt | hge
  · have hd : xs.drop i = xs[i] :: xs.drop (i + 1) := List.drop_eq_getElem_cons hlt
    have hwi : IntKind.i64.wrap ((i : Int) + 1) = ((i + 1 : Nat) : Int) := wrap64_succ (by omega)
    have hn := l1Name_ev xs[i] (by have := hmem _ (List.getElem_mem hlt); omega)
    rw [hd, List.all_cons] at hr
    cases hp : nameOk xs[i] with
    | false =>
      rw [hp] at hr hn
      simp [hsz, h3, h4, hlt, hn, ← hr]
    | true =>
      rw [hp, Bool.true_and] at hr
      rw [hp] at hn
      simp [hsz, h3, h4, hlt, hwi, hn]
      exact ih _ _ (by omega) ⟨i + 1, rfl, by omega, by simp [hsz], by simp [h3], by simp, hr⟩
  · obtain rfl : i = xs.length := by omega
    rw [List.drop_length, List.all_nil] at hr
    simp [hsz, h3, h4, ← hr]
def upN (l : List UInt8) : Nat → List UInt8
  | 0 => []
  | k + 1 => if l[k]? = some 47 then l.take k else upN l k
def upL (l : List UInt8) : List UInt8 := upN l l.length
theorem l1Up_ev (l : List UInt8) (hl : l.length ≤ 140737488351232) : C fn_s_l1Up [.ro (T l)] [] = some (.one (.ro (T (upL l))), []) := by
  refine ctx_call Tryd.func63 conv_s_l1Up rfl ?_
  have hw : IntKind.i64.wrap ((l.length : Int) - 1) = (l.length : Int) - 1 := wrap64 (by omega) (by omega)
  simp [hw]
  refine loop_run (fun m e => ∃ k, k = m ∧ k ≤ l.length ∧ e.size = 18 ∧ e.get 0 = .one (.ro (T l)) ∧ e.get 3 = .one (.ro (I ((k : Int) - 1))) ∧ upN l k = upL l) ?_ l.length _ ⟨l.length, rfl, Nat.le_refl _, by simp, by simp, by simp, rfl⟩
  rintro m e ⟨k, hmk, hk, hsz, h0, h3, hr⟩ ih
  subst hmk
  cases k with
  | zero =>
    rw [upN] at hr
    simp [hsz, h3, ← hr]
  | succ k =>
    have hkl : k < l.length := by omega
    have hwk : IntKind.i64.wrap ((k : Int) - 1) = (k : Int) - 1 := wrap64 (by omega) (by omega)
    have h3' : e.get 3 = .one (.ro (N k)) := by rw [h3]; simp
    rw [upN, List.getElem?_eq_getElem hkl] at hr
    have hkl' : k ≤ l.length := by omega
    cases hc : l[k] == 47 with
    | true =>
      have : l[k] = 47 := by simpa using hc
      rw [this, if_pos rfl] at hr
      simp [hsz, h0, h3', hkl, hkl', hc, ← hr]
    | false =>
      have : ¬ some l[k] = some 47 := by simpa using hc
      rw [if_neg this] at hr
      simp [hsz, h0, h3', hkl, hc, hwk]
      exact ih k _ (by omega) ⟨k, rfl, by omega, by simp [hsz], by simp [h0], by simp, hr⟩
theorem lastIdx_up (l : List UInt8) : ∀ k, k ≤ l.length → ∃ j : Nat, j ≤ l.length ∧ ((j : Int) = max (Lib.lastIdx ⟨l.toArray⟩ 47 k) 0) ∧ l.take j = upN l k
  | 0, _ => ⟨0, Nat.zero_le _, rfl, rfl⟩
  | k + 1, h => by
    rw [Lib.lastIdx, upN]
    have hk : k < l.length := by omega
    have he : ((⟨l.toArray⟩ : ByteArray).data[k]!) = l[k] := by simp [hk]
    rw [he, List.getElem?_eq_getElem hk]
    by_cases hc : l[k] = 47
    · rw [hc]
      refine ⟨k, by omega, ?_, ?_⟩
      · rw [if_pos (by decide)]; omega
      · rw [if_pos rfl]
    · obtain ⟨j, hj, he1, he2⟩ := lastIdx_up l k (by omega)
      refine ⟨j, hj, ?_, ?_⟩
      · rw [if_neg]
        · exact he1
        · intro h
          apply hc
          rw [← UInt8.toNat_inj]
          have : (47 : UInt8).toNat = 47 := rfl
          omega
      · rw [if_neg (by simpa using hc)]; exact he2
theorem PathUp_ev (l : List UInt8) (hl : l.length ≤ 1048576) : C fn_i_PathUp [.ro (T l)] [] = some (.one (.ro (T (if pathOk l then upL l else []))), []) := by
  refine ctx_call Tryd.func78 conv_i_PathUp rfl ?_
  have hp := PathOk_ev l (by omega)
  have hlast := last_str ⟨l.toArray⟩ 47 (by simp; omega)
  obtain ⟨j, hj, he, ht⟩ := lastIdx_up l l.length (Nat.le_refl _)
  have hlast' : Lib.lastIndexByte ⟨l.toArray⟩ 47 = Lib.lastIdx ⟨l.toArray⟩ 47 l.length := by rw [Lib.lastIndexByte]; simp
  rw [hlast'] at hlast
  generalize Lib.lastIdx ⟨l.toArray⟩ 47 l.length = q at *
  cases h : pathOk l with
  | false =>
    rw [h] at hp
    simp [hp]
  | true =>
    rw [h] at hp
    have hq : (if q ≤ 0 then 0 else q) = (j : Int) := by split <;> omega
    simp [hp, hlast, hq, hj, ht, upL]
end Go.Qz
namespace Go.Qz
open Go.Proofs
structure En where
  path : List UInt8
  kind : Int
  mode : Int
  text : List UInt8
abbrev ED (e : En) : D := .agg [T e.path, I e.kind, I e.mode, T e.text]
abbrev ES (es : List En) : D := .sl 4 (es.map ED)
@[simp] theorem flats_ED (es : List En) : flats (es.map ED) = true := by
  induction es with
  | nil => rfl
  | cons a r ih => simp [flats, D.flat, ih]
def fileB (b : UInt8) : Bool := plainB b || b == 10
def fileT (l : List UInt8) : Bool := decide (l.length ≤ 80) && l.all fileB
def entOk (e : En) : Bool := pathOk e.path && (decide (0 ≤ e.mode) && (decide (e.mode ≤ 7) &&
  (if e.kind == 1 then e.text == [] else if e.kind == 2 then fileT e.text else if e.kind == 3 then e.mode == 0 && pathOk e.text else false)))
theorem fileText_ev (l : List UInt8) : C fn_i_fileText [.ro (T l)] [] = some (.one (.ro (.bool (fileT l))), []) := by
  refine ctx_call Tryd.func77 conv_i_fileText rfl ?_
  unfold fileT
  by_cases hs : l.length ≤ 80
  · have hs' : ¬ (80 : Int) < l.length := by omega
    simp [hs']
    refine loop_run (fun m e => ∃ i, m = l.length - i ∧ i ≤ l.length ∧ e.size = 24 ∧ e.get 0 = .one (.ro (T l)) ∧ e.get 8 = .one (.ro (N l.length)) ∧ e.get 9 = .one (.ro (N i)) ∧
      (l.drop i).all fileB = l.all fileB) ?_ l.length _ ⟨0, rfl, Nat.zero_le _, by simp, by simp, by simp, by simp, rfl⟩
    rintro m e ⟨i, rfl, hi, hsz, h0, h8, h9, hr⟩ ih
    rcases Nat.lt_or_ge i l.length with hlt | hge
    · have hd : l.drop i = l[i] :: l.drop (i + 1) := List.drop_eq_getElem_cons hlt
      have hwi : IntKind.i64.wrap ((i : Int) + 1) = ((i + 1 : Nat) : Int) := wrap64_succ (by omega)
      rw [hd, List.all_cons] at hr
      have hf : fileB l[i] = (plainB l[i] || l[i] == 10) := rfl
      rw [hf] at hr
      have hpl := plainByte_ev l[i]
      cases hp : plainB l[i] with
      | false =>
        rw [hp] at hr hpl
        cases hq : l[i] == 10 with
        | false =>
          rw [hq] at hr
          simp [hpl, hsz, h0, h8, h9, hlt, hq, hs, ← hr]
        | true =>
          rw [hq] at hr
          simp [hpl, hsz, h0, h8, h9, hlt, hwi, hq]
          exact ih _ _ (by omega) ⟨i + 1, rfl, by omega, by simp [hsz], by simp [h0], by simp [h8], by simp, by simpa using hr⟩
      | true =>
        rw [hp] at hr hpl
        simp [hpl, hsz, h0, h8, h9, hlt, hwi]
        exact ih _ _ (by omega) ⟨i + 1, rfl, by omega, by simp [hsz], by simp [h0], by simp [h8], by simp, by simpa using hr⟩
    · obtain rfl : i = l.length := by omega
      rw [List.drop_length, List.all_nil] at hr
      simp [hsz, h8, h9, hs, ← hr]
  · have hs' : 80 < l.length := by omega
    simp [hs', hs]
theorem l2Text_ev (l : List UInt8) (hl : l.length ≤ 140737488351232) : C fn_s_l2Text [.ro (T l)] [] = some (.one (.ro (.bool (fileT l))), []) := by
  refine ctx_call Tryd.func90 conv_s_l2Text rfl ?_
  unfold fileT
  rw [Bool.and_comm]
  simp
  refine loop_run (fun m e => ∃ i, m = l.length - i ∧ i ≤ l.length ∧ e.size = 25 ∧ e.get 0 = .one (.ro (T l)) ∧ e.get 3 = .one (.ro (N i)) ∧
    (l.drop i).all fileB = l.all fileB) ?_ l.length _ ⟨0, rfl, Nat.zero_le _, by simp, by simp, by simp, rfl⟩
  rintro m e ⟨i, rfl, hi, hsz, h0, h3, hr⟩ ih
  rcases Nat.lt_or_ge i l.length with hlt | hge
  · have hd : l.drop i = l[i] :: l.drop (i + 1) := List.drop_eq_getElem_cons hlt
    have hwi : IntKind.i64.wrap ((i : Int) + 1) = ((i + 1 : Nat) : Int) := wrap64_succ (by omega)
    have hwb : IntKind.i64.wrap (l[i].toNat : Int) = l[i].toNat := by have := l[i].toNat_lt; exact wrap64 (by omega) (by omega)
    rw [hd, List.all_cons] at hr
    have hf : fileB l[i] = (plainB l[i] || l[i] == 10) := rfl
    rw [hf] at hr
    have hpl := l1In_ev l[i].toNat 32 126
    rw [in_plain] at hpl
    cases hq : l[i] == 10 with
    | true =>
      rw [hq, Bool.or_true, Bool.true_and] at hr
      simp [hsz, h0, h3, hlt, hwi, hq]
      exact ih _ _ (by omega) ⟨i + 1, rfl, by omega, by simp [hsz], by simp [h0], by simp, hr⟩
    | false =>
      rw [hq, Bool.or_false] at hr
      cases hp : plainB l[i] with
      | false =>
        rw [hp] at hr hpl
        simp [hpl, hsz, h0, h3, hlt, hwb, hq, ← hr]
      | true =>
        rw [hp, Bool.true_and] at hr
        rw [hp] at hpl
        simp [hpl, hsz, h0, h3, hlt, hwb, hwi, hq]
        exact ih _ _ (by omega) ⟨i + 1, rfl, by omega, by simp [hsz], by simp [h0], by simp, hr⟩
  · obtain rfl : i = l.length := by omega
    rw [List.drop_length, List.all_nil] at hr
    simp [hsz, h0, h3, ← hr]
def enSz (e : En) : Prop := e.path.length ≤ 1048576 ∧ e.text.length ≤ 1048576
theorem entryOk_ev (e : En) (hl : enSz e) : C fn_i_entryOk [.ro (ED e)] [] = some (.one (.ro (.bool (entOk e))), []) := by
  refine ctx_call Tryd.func47 conv_i_entryOk rfl ?_
  have h1 := PathOk_ev e.path (by have := hl.1; omega)
  have h2 := PathOk_ev e.text (by have := hl.2; omega)
  have h3 := fileText_ev e.text
  unfold entOk
  cases hp : pathOk e.path with
  | false => rw [hp] at h1; simp [h1]
  | true =>
    rw [hp] at h1
    by_cases hm : e.mode < 0
    · have hm' : ¬ 0 ≤ e.mode := by omega
      simp [h1, hm, hm']
    · have hm' : 0 ≤ e.mode := by omega
      by_cases hm7 : 7 < e.mode
      · have hm8 : ¬ e.mode ≤ 7 := by omega
        simp [h1, hm, hm', hm7, hm8]
      · have hm8 : e.mode ≤ 7 := by omega
        cases k1 : e.kind == 1 with
        | true => simp [h1, hm, hm', hm7, hm8, k1]
        | false =>
          cases k2 : e.kind == 2 with
          | true => simp [h1, hm, hm', hm7, hm8, k1, k2, h3]
          | false =>
            cases k3 : e.kind == 3 with
            | true => cases k0 : e.mode == 0 <;> simp [h1, hm, hm', hm7, hm8, k1, k2, k3, k0, h2]
            | false => simp [h1, hm, hm', hm7, hm8, k1, k2, k3]
theorem l2Entry_ev (e : En) (hl : enSz e) : C fn_s_l2Entry [.ro (ED e)] [] = some (.one (.ro (.bool (entOk e))), []) := by
  refine ctx_call Tryd.func61 conv_s_l2Entry rfl ?_
  have h1 := l1Path_ev e.path hl.1
  have h2 := l1Path_ev e.text hl.2
  have h3 := l2Text_ev e.text (by have := hl.2; omega)
  have h4 := l1In_ev e.mode 0 7
  have h5 : inI e.mode 0 7 = (decide (0 ≤ e.mode) && decide (e.mode ≤ 7)) := rfl
  rw [h5] at h4
  unfold entOk
  cases hp : pathOk e.path with
  | false => rw [hp] at h1; simp [h1]
  | true =>
    rw [hp] at h1
    rw [← Bool.and_assoc (decide (0 ≤ e.mode))]
    generalize hin : (decide (0 ≤ e.mode) && decide (e.mode ≤ 7)) = inb at *
    cases k1 : e.kind == 1 with
    | true => cases inb <;> simp [h1, k1, h4]
    | false =>
      cases k2 : e.kind == 2 with
      | true => cases inb <;> simp [h1, k1, k2, h3, h4]
      | false =>
        cases k3 : e.kind == 3 with
        | true =>
          cases k0 : e.mode == 0 with
          | false => cases inb <;> simp [h1, k1, k2, k3, k0]
          | true =>
            have : e.mode = 0 := by simpa using k0
            rw [this] at hin
            subst hin
            simp [h1, k1, k2, k3, k0, h2]
        | false => cases inb <;> simp [h1, k1, k2, k3]
end Go.Qz
namespace Go.Qz
open Go.Proofs
theorem many_ev (s : List UInt8) (n : Nat) (m0 : Int) (hm0 : m0 = n) (hs : s.length ≤ 1000) (hn : n ≤ 1000) : ∃ out : List UInt8, out.length ≤ s.length * n ∧ C fn_s_l1Many [.ro (T s), .ro (.int .i64 m0)] [] = some (.one (.ro (T out)), []) := by
  subst hm0
  have h : Ends (fun r => ∃ out : List UInt8, out.length ≤ s.length * n ∧ r = (.one (.ro (T out)), [])) (C fn_s_l1Many [.ro (T s), .ro (N n)] []) := by
    refine call_ex Tryd.func96 conv_s_l1Many rfl ?_
    have htot : s.length * n ≤ 1000 * 1000 := Nat.mul_le_mul hs hn
    have h0 : 0 + s.length * n ≤ s.length * n := by omega
    generalize hz : s.length * n = tot at *
    simp
    refine loop_ex (fun m e => ∃ (w out : List UInt8), out.length + w.length * m ≤ tot ∧ m ≤ 1000 ∧ e.size = 20 ∧ e.get 0 = .one (.ro (T w)) ∧ e.get 1 = .one (.ro (N m)) ∧ e.get 5 = .one (.ro (T out)))
      ?_ n _ ⟨s, [], by rw [hz]; simp, hn, by simp, by simp, by simp, by simp⟩
    clear h0 hz
    rintro m e ⟨w, out, hw, hm, hsz, h0, h1, h5⟩ ih
    rcases Nat.eq_zero_or_pos m with rfl | hp
    · simp [hsz, h1, h5]
      exact .of ⟨out, by omega, rfl⟩
    · have hr1 : ((m : Int)).tmod 2 = ((m % 2 : Nat) : Int) := by rw [Int.ofNat_tmod]; rfl
      have hq1 : ((m : Int)).tdiv 2 = ((m / 2 : Nat) : Int) := by rw [Int.ofNat_tdiv]; rfl
      have hqr : m = 2 * (m / 2) + m % 2 := by omega
      have hrl : m % 2 < 2 := Nat.mod_lt _ (by omega)
      have hql : m / 2 < m := by omega
      have hmul : w.length * m = 2 * (w.length * (m / 2)) + w.length * (m % 2) := by
        rw [← Nat.mul_assoc, Nat.mul_comm 2 w.length, Nat.mul_assoc, ← Nat.mul_add, ← hqr]
      have hwl : w.length ≤ w.length * m := Nat.le_mul_of_pos_right _ hp
      generalize w.length * m = wm at *
      generalize m % 2 = r at *
      generalize m / 2 = q at *
      have hwr : IntKind.i64.wrap (r : Int) = r := wrap64 (by omega) (by omega)
      have hwq : IntKind.i64.wrap (q : Int) = q := wrap64 (by omega) (by omega)
      have b1 : w.length + w.length ≤ maxStr := by unfold maxStr; omega
      have b2 : out.length + w.length ≤ maxStr := by unfold maxStr; omega
      have two : (w ++ w).length * q = 2 * (w.length * q) := by rw [List.length_append, ← Nat.two_mul, Nat.mul_assoc]
      have r01 : r = 0 ∨ r = 1 := by omega
      rcases r01 with rfl | rfl
      · rw [Nat.mul_zero] at hmul
        simp [hsz, h0, h1, hp, hr1, hq1, hwq, b1]
        exact ih q _ hql ⟨w ++ w, out, by rw [two]; omega, by omega, by simp [hsz], by simp, by simp, by simp [h5]⟩
      · rw [Nat.mul_one] at hmul
        simp [hsz, h0, h1, h5, hp, hr1, hq1, hwq, b1, b2]
        exact ih q _ hql ⟨w ++ w, out ++ w, by rw [two, List.length_append]; omega, by omega, by simp [hsz], by simp, by simp, by simp⟩
  obtain ⟨r, ⟨out, h1, rfl⟩, h2⟩ := h
  exact ⟨out, h1, h2⟩
section
variable {bs : List Int} (hb : Seed bs) {i : Nat}
include hb
theorem path_ev (hi : i ≤ 50000) : ∃ (x : List UInt8) (j : Nat), x.length ≤ 100 ∧ j ≤ i + 1 ∧ C fn_s_l11Path [.ptr 5000 0] [(5000, RB bs i)] = some (.one (.ro (T x)), [(5000, RB bs j)]) := by
  obtain ⟨x, j, hx, hj, ho⟩ := draw_of hb (i := i) (by omega) [[97], [98], [97, 47, 98], [97, 47, 99], [97, 47, 98, 47, 99], [108, 105, 98], [108, 105, 98, 47, 120], [108, 105, 98, 47, 120, 46, 99], [100, 111, 99, 47, 121], [98, 105, 110], [98, 105, 110, 47, 122], [97, 47, 98, 47, 99, 47, 100, 47, 101]] (by simp) (by simp)
  simp only [List.map_cons, List.map_nil] at ho
  refine ⟨x, j, ?_, hj, ctx_call Tryd.func104 conv_s_l11Path rfl ?_⟩
  · clear ho
    revert x
    decide
  · simp [ho]
theorem anyPath_ev (hi : i ≤ 40000) : ∃ (x : List UInt8) (j : Nat), x.length ≤ 100 ∧ j ≤ i + 2 ∧ C fn_s_l11AnyPath [.ptr 5000 0] [(5000, RB bs i)] = some (.one (.ro (T x)), [(5000, RB bs j)]) := by
  obtain ⟨r, j1, hr, hj1, hp⟩ := draw_pick hb (i := i) (by omega) 6 6 rfl (by omega) (by omega)
  by_cases h0 : r = 0
  · subst h0
    obtain ⟨x, j, hx, hj, ho⟩ := draw_of hb (i := j1) (by omega) [[], [47], [97, 47], [47, 97], [46], [46, 46], [97, 47, 47, 98], [65], [97, 47, 98, 47, 99, 47, 100, 47, 101, 47, 102], [101, 108, 101, 118, 101, 110, 108, 101, 116, 116, 101], [97, 32, 98], [120, 47, 46, 46, 47, 121]] (by simp) (by simp)
    simp only [List.map_cons, List.map_nil] at ho
    refine ⟨x, j, ?_, by omega, ctx_call Tryd.func94 conv_s_l11AnyPath rfl ?_⟩
    · clear ho
      revert x
      decide
    · simp [hp, ho]
  · obtain ⟨x, j, hx, hj, ho⟩ := path_ev hb (i := j1) (by omega)
    have hr0 : (r == 0) = false := by simpa using h0
    refine ⟨x, j, hx, by omega, ctx_call Tryd.func94 conv_s_l11AnyPath rfl ?_⟩
    simp [hp, ho, hr0]
theorem text_ev2 (hi : i ≤ 50000) : ∃ (x : List UInt8) (j : Nat), x.length ≤ 100 ∧ j ≤ i + 1 ∧ C fn_s_l11Text [.ptr 5000 0] [(5000, RB bs i)] = some (.one (.ro (T x)), [(5000, RB bs j)]) := by
  obtain ⟨ts, hts, hmany⟩ := many_ev [116] 80 80 rfl (by simp) (by omega)
  obtain ⟨x, j, hx, hj, ho⟩ := draw_of hb (i := i) (by omega) [[], [111, 110, 101, 10], [111, 110, 101, 10, 116, 119, 111, 10, 116, 104, 114, 101, 101, 10], [110, 111, 32, 101, 110, 100], [97, 10, 98, 10, 99, 10, 100, 10, 101, 10, 102, 10, 103, 10], ts] (by simp) (by simp)
  simp only [List.map_cons, List.map_nil] at ho
  refine ⟨x, j, ?_, hj, ctx_call Tryd.func105 conv_s_l11Text rfl ?_⟩
  · simp only [List.mem_cons, List.not_mem_nil, or_false] at hx
    simp at hts
    rcases hx with rfl | rfl | rfl | rfl | rfl | rfl <;> first | omega | (simp)
  · simp [hmany, ho]
theorem one_ev (ns : List Int) (h0 : 0 < ns.length) (hn : ns.length ≤ 1000) (hi : i ≤ 50000) : ∃ (x : Int) (j : Nat), x ∈ ns ∧ j ≤ i + 1 ∧ C fn_s_l1Rd_one [.ptr 5000 0, .ro (.sl 1 (ns.map I))] [(5000, RB bs i)] = some (.one (.ro (I x)), [(5000, RB bs j)]) := by
  obtain ⟨r, j, hr, hj, hp⟩ := draw_pick hb (i := i) (by omega) ns.length ns.length rfl h0 (by omega)
  refine ⟨ns[r], j, List.getElem_mem hr, hj, ctx_call Tryd.func95 conv_s_l1Rd_one rfl ?_⟩
  simp [hp, hr]
def enSm (e : En) : Prop := e.path.length ≤ 200 ∧ e.text.length ≤ 200
theorem entry_ev (hi : i ≤ 40000) : ∃ (e : En) (j : Nat), enSm e ∧ j ≤ i + 4 ∧ C fn_s_l11Entry [.ptr 5000 0] [(5000, RB bs i)] = some (.one (.ro (ED e)), [(5000, RB bs j)]) := by
  obtain ⟨p, j1, hp, hj1, c1⟩ := path_ev hb (i := i) (by omega)
  obtain ⟨k, j2, hk, hj2, c2⟩ := one_ev hb (i := j1) [1, 1, 2, 2, 3] (by simp) (by simp) (by omega)
  simp only [List.map_cons, List.map_nil] at c2
  obtain ⟨m, j3, hm, hj3, c3⟩ := draw_pick hb (i := j2) (by omega) 8 8 rfl (by omega) (by omega)
  by_cases h2 : k = 2
  · obtain ⟨x, j4, hx, hj4, c4⟩ := text_ev2 hb (i := j3) (by omega)
    subst h2
    refine ⟨⟨p, 2, m, x⟩, j4, ⟨by simp only; omega, by simp only; omega⟩, by omega, ctx_call Tryd.func82 conv_s_l11Entry rfl ?_⟩
    simp [c1, c2, c3, c4]
  · by_cases h3 : k = 3
    · obtain ⟨x, j4, hx, hj4, c4⟩ := path_ev hb (i := j3) (by omega)
      subst h3
      refine ⟨⟨p, 3, 0, x⟩, j4, ⟨by simp only; omega, by simp only; omega⟩, by omega, ctx_call Tryd.func82 conv_s_l11Entry rfl ?_⟩
      simp [c1, c2, c3, c4]
    · have k2 : (k == 2) = false := by simpa using h2
      have k3 : (k == 3) = false := by simpa using h3
      refine ⟨⟨p, k, m, []⟩, j3, ⟨by simp only; omega, by simp⟩, by omega, ctx_call Tryd.func82 conv_s_l11Entry rfl ?_⟩
      simp [c1, c2, c3, k2, k3]
end
end Go.Qz
namespace Go.Qz
open Go.Proofs
def cmpT (p q : List UInt8) : Int := if lessT p q then -1 else if p == q then 0 else 1
theorem isNaN_ev (p : List UInt8) : C fn_cmp_isNaN_string [.ro (T p)] [] = some (.one (.ro (.bool false)), []) := by
  refine ctx_call Tryd.func134 conv_cmp_isNaN_string rfl ?_
  simp
theorem Compare_ev (p q : List UInt8) : C fn_cmp_Compare_string [.ro (T p), .ro (T q)] [] = some (.one (.ro (I (cmpT p q))), []) := by
  refine ctx_call Tryd.func118 conv_cmp_Compare_string rfl ?_
  unfold cmpT
  cases h1 : lessT p q with
  | true => simp [isNaN_ev, h1]
  | false => cases h2 : p == q <;> simp [isNaN_ev, h1, h2]
theorem byPath_ev (a b : En) : C fn_i_byPath [.ro (ED a), .ro (ED b)] [] = some (.one (.ro (I (cmpT a.path b.path))), []) := by
  refine ctx_call Tryd.func103 conv_i_byPath rfl ?_
  simp [Compare_ev]
theorem cmpT_lt (p q : List UInt8) : decide (cmpT p q < 0) = lessT p q := by
  unfold cmpT
  cases h1 : lessT p q with
  | true => simp
  | false => cases h2 : p == q <;> simp
theorem cmpT_eq (p q : List UInt8) (h : lessT p q = false) : (cmpT p q == 0) = (p == q) := by
  unfold cmpT
  rw [h]
  cases h2 : p == q <;> simp
def there (es : List En) (p : List UInt8) : Bool := match es[below En.path p es]? with
  | some e => e.path == p
  | none => false
theorem search_ev (es : List En) (x : En) (hn : es.length ≤ 1048576) (ha : ascending En.path es = true) :
    C fn_slices_BinarySearchFunc_L_i_Entry_i_Entry_i_Entry [.ro (ES es), .ro (ED x), .fn 103 []] [] = some (.tup [.ro (N (below En.path x.path es)), .ro (.bool (there es x.path))], []) := by
  refine ctx_call Tryd.func102 conv_slices_BinarySearchFunc_L_i_Entry_i_Entry_i_Entry rfl ?_
  simp
  refine loop_run (fun m e => ∃ i j, m = j - i ∧ i ≤ j ∧ j ≤ es.length ∧ (∀ k (h : k < es.length), k < i → lessT es[k].path x.path = true) ∧ (∀ k (h : k < es.length), j ≤ k → lessT es[k].path x.path = false) ∧ e.size = 49 ∧
      e.get 0 = .one (.ro (ES es)) ∧ e.get 2 = .one (.fn 103 []) ∧ e.get 4 = .one (.ptr 4 0) ∧ e.box 4 = some [.ro (T x.path), .ro (I x.kind), .ro (I x.mode), .ro (T x.text)] ∧ e.get 8 = .one (.ro (N es.length)) ∧ e.get 9 = .one (.ro (N i)) ∧ e.get 10 = .one (.ro (N j)))
    ?_ es.length _ ⟨0, es.length, rfl, Nat.zero_le _, Nat.le_refl _, by omega, by omega, by simp, by simp, by simp, by simp, by simp, by simp, by simp, by simp⟩
  rintro m e ⟨i, j, rfl, hij, hj, hlo, hhi, hsz, h0, h2, h4, hb, h8, h9, h10⟩ ih
  rcases Nat.lt_or_ge i j with hlt | hge
  · have hw : IntKind.i64.wrap ((i : Int) + j) = ((i + j : Nat) : Int) := by rw [wrap64 (by omega) (by omega)]; omega
    have hu : IntKind.u64.wrap ((i + j : Nat) : Int) = ((i + j : Nat) : Int) := by
      unfold IntKind.wrap
      simp [IntKind.bits, IntKind.signed]
      omega
    obtain ⟨h, hh⟩ : ∃ h, h = (i + j) / 2 := ⟨_, rfl⟩
    have hm : (2 : Int) ^ min 1 IntKind.u64.bits = 2 := by decide
    have hf : ((i + j : Nat) : Int).fdiv (2 ^ min 1 IntKind.u64.bits) = (h : Int) := by
      rw [hm, Int.fdiv_eq_ediv_of_nonneg _ (by omega)]
      omega
    have hh1 : i ≤ h := by omega
    have hh2 : h < j := by omega
    have hh3 : h < 1048576 := by omega
    generalize i + j = s at *
    have hwh : IntKind.i64.wrap (h : Int) = h := wrap64 (by omega) (by omega)
    have hwh1 : IntKind.i64.wrap ((h : Int) + 1) = ((h + 1 : Nat) : Int) := wrap64_succ (by omega)
    have hhl : h < es.length := by omega
    have hb2 := byPath_ev es[h] x
    have hc := cmpT_lt es[h].path x.path
    have hij' : (i : Int) < j := by omega
    generalize cmpT es[h].path x.path = c at *
    cases hp : lessT es[h].path x.path with
    | true =>
      have hc' : c < 0 := by rw [hp] at hc; simpa using hc
      simp [hsz, h0, h2, h4, hb, h9, h10, hij', hw, hu, hf, hwh, hwh1, hhl, hb2, hc']
      refine ih _ _ (by omega) ⟨h + 1, j, rfl, by omega, hj, fun k hk hk1 => ?_, hhi, by simp [hsz], by simp [h0], by simp [h2], by simp [h4], by simp [hb], by simp [h8], by simp, by simp [h10]⟩
      rcases Nat.lt_or_ge k h with h' | h'
      · exact less_trans (asc_get ha k h hhl h') hp
      · obtain rfl : k = h := by omega
        exact hp
    | false =>
      have hc' : ¬ c < 0 := by rw [hp] at hc; simpa using hc
      simp [hsz, h0, h2, h4, hb, h9, h10, hij', hw, hu, hf, hwh, hhl, hb2, hc']
      refine ih _ _ (by omega) ⟨i, h, rfl, by omega, by omega, hlo, fun k hk hk1 => ?_, by simp [hsz], by simp [h0], by simp [h2], by simp [h4], by simp [hb], by simp [h8], by simp [h9], by simp⟩
      rcases Nat.lt_or_ge h k with h' | h'
      · cases hq : lessT es[k].path x.path with
        | false => rfl
        | true => have := less_trans (asc_get ha h k hk h') hq; rw [hp] at this; cases this
      · obtain rfl : k = h := by omega
        exact hp
  · obtain rfl : i = j := by omega
    have hbl := below_is (f := En.path) (p := x.path) i hj hlo hhi
    unfold there
    rw [hbl]
    rcases Nat.lt_or_ge i es.length with hil | hil
    · have hb2 := byPath_ev es[i] x
      have hc := cmpT_eq es[i].path x.path (hhi i hil (Nat.le_refl _))
      generalize cmpT es[i].path x.path = c at *
      simp [hsz, h0, h2, h4, hb, h8, h9, h10, hil, hb2, hc]
    · obtain rfl : i = es.length := by omega
      simp [hsz, h0, h2, h4, hb, h8, h9, h10]
theorem findEntry_ev (es : List En) (p : List UInt8) (hn : es.length ≤ 1048576) (ha : ascending En.path es = true) :
    C fn_i_findEntry [.ro (ES es), .ro (T p)] [] = some (.tup [.ro (N (below En.path p es)), .ro (.bool (there es p))], []) := by
  refine ctx_call Tryd.func79 conv_i_findEntry rfl ?_
  have h := search_ev es ⟨p, 0, 0, []⟩ hn ha
  simp [h]
theorem l2At_ev (es : List En) (p : List UInt8) (hn : es.length ≤ 1048576) :
    C fn_s_l2At [.ro (ES es), .ro (T p)] [] = some (.tup [.ro (N (below En.path p es)), .ro (.bool (there es p))], []) := by
  refine ctx_call Tryd.func91 conv_s_l2At rfl ?_
  simp
  refine loop_run (fun m e => ∃ k, m = es.length - k ∧ k ≤ es.length ∧ e.size = 36 ∧ e.get 0 = .one (.ro (ES es)) ∧ e.get 1 = .one (.ro (T p)) ∧ e.get 6 = .one (.ro (N k)) ∧ k + below En.path p (es.drop k) = below En.path p es)
    ?_ es.length _ ⟨0, rfl, Nat.zero_le _, by simp, by simp, by simp, by simp, by simp⟩
  rintro m e ⟨k, rfl, hk, hsz, h0, h1, h6, hr⟩ ih
  rcases Nat.lt_or_ge k es.length with hlt | hge
  · have hd : es.drop k = es[k] :: es.drop (k + 1) := List.drop_eq_getElem_cons hlt
    have hwk : IntKind.i64.wrap ((k : Int) + 1) = ((k + 1 : Nat) : Int) := wrap64_succ (by omega)
    rw [hd, below] at hr
    cases hp : lessT es[k].path p with
    | true =>
      rw [hp, if_pos rfl] at hr
      simp [hsz, h0, h1, h6, hlt, hp, hwk]
      exact ih _ _ (by omega) ⟨k + 1, rfl, by omega, by simp [hsz], by simp [h0], by simp [h1], by simp, by omega⟩
    | false =>
      rw [hp] at hr
      simp only [Bool.false_eq_true, if_false, Nat.add_zero] at hr
      unfold there
      rw [← hr]
      simp [hsz, h0, h1, h6, hlt, hp]
  · obtain rfl : k = es.length := by omega
    rw [List.drop_length, below, Nat.add_zero] at hr
    unfold there
    rw [← hr]
    simp [hsz, h0, h1, h6]
def dirAt (es : List En) (p : List UInt8) : Bool := there es p && (match es[below En.path p es]? with
  | some e => e.kind == 1
  | none => false)
theorem there_lt {es : List En} {p : List UInt8} (h : there es p = true) : below En.path p es < es.length := by
  unfold there at h
  rcases Nat.lt_or_ge (below En.path p es) es.length with h' | h'
  · exact h'
  · rw [List.getElem?_eq_none h'] at h; cases h
theorem l2Dir_ev (es : List En) (p : List UInt8) (hn : es.length ≤ 1048576) : C fn_s_l2Dir [.ro (ES es), .ro (T p)] [] = some (.one (.ro (.bool (p == [] || dirAt es p))), []) := by
  refine ctx_call Tryd.func62 conv_s_l2Dir rfl ?_
  have h := l2At_ev es p hn
  cases hp : p == [] with
  | true => simp [h, hp]
  | false =>
    unfold dirAt
    cases ht : there es p with
    | false => rw [ht] at h; simp [h, hp]
    | true =>
      have hl := there_lt ht
      rw [ht] at h
      generalize below En.path p es = k at *
      simp [h, hp, hl]
theorem hasPlaceFor_ev (es : List En) (p : List UInt8) (hn : es.length ≤ 1048576) (ha : ascending En.path es = true) (hp0 : pathOk p = true) (hl : p.length ≤ 1048576) :
    C fn_i_hasPlaceFor [.ro (ES es), .ro (T p)] [] = some (.one (.ro (.bool (upL p == [] || dirAt es (upL p)))), []) := by
  refine ctx_call Tryd.func48 conv_i_hasPlaceFor rfl ?_
  have hup := PathUp_ev p hl
  rw [hp0, if_pos rfl] at hup
  generalize upL p = u at *
  have h := findEntry_ev es u hn ha
  cases hp : u == [] with
  | true => simp [hup, hp]
  | false =>
    unfold dirAt
    cases ht : there es u with
    | false => rw [ht] at h; simp [hup, h, hp]
    | true =>
      have hl := there_lt ht
      rw [ht] at h
      generalize below En.path u es = k at *
      simp [hup, h, hp, hl]
end Go.Qz
namespace Go.Qz
open Go.Proofs
def ordAt (es : List En) (i : Nat) (e : En) : Bool := i == 0 || (match es[i - 1]? with
  | some d => lessT d.path e.path
  | none => false)
def formAt (es : List En) (i : Nat) : Bool := match es[i]? with
  | some e => entOk e && ordAt es i e
  | none => true
def homeAt (es : List En) (i : Nat) : Bool := match es[i]? with
  | some e => upL e.path == [] || dirAt (es.take i) (upL e.path)
  | none => true
def treeOk (es : List En) : Bool := decide (es.length ≤ 16) && (List.range es.length).all fun i => formAt es i && homeAt es i
theorem treeOk_bad {es : List En} {i : Nat} (hi : i < es.length) (h : (formAt es i && homeAt es i) = false) : treeOk es = false := by
  cases hq : treeOk es with
  | false => rfl
  | true =>
    unfold treeOk at hq
    rw [Bool.and_eq_true, List.all_eq_true] at hq
    have := hq.2 i (List.mem_range.2 hi)
    rw [h] at this; cases this
theorem treeOk_good {es : List En} (hn : es.length ≤ 16) (h : ∀ i, i < es.length → (formAt es i && homeAt es i) = true) : treeOk es = true := by
  unfold treeOk
  rw [Bool.and_eq_true, List.all_eq_true]
  exact ⟨by simpa using hn, fun i hi => h i (List.mem_range.1 hi)⟩
theorem asc_of {es : List En} : (∀ i, i < es.length → formAt es i = true) → ascending En.path es = true := by
  induction es with
  | nil => intro _; rfl
  | cons x r ih =>
    intro h
    unfold ascending
    rw [Bool.and_eq_true]
    refine ⟨?_, ih (fun i hi => ?_)⟩
    · cases r with
      | nil => rfl
      | cons y t =>
        have := h 1 (by simp)
        unfold formAt at this
        simp [ordAt] at this
        exact this.2
    · have h1 := h (i + 1) (by simpa using hi)
      unfold formAt at h1 ⊢
      rw [List.getElem?_cons_succ] at h1
      cases hq : r[i]? with
      | none => rfl
      | some e =>
        rw [hq] at h1
        simp only [Bool.and_eq_true] at h1 ⊢
        refine ⟨h1.1, ?_⟩
        have h2 := h1.2
        unfold ordAt at h2 ⊢
        cases i with
        | zero => rfl
        | succ i => simpa using h2
theorem form_take {es : List En} (n : Nat) (h : ∀ i, i < n → formAt es i = true) : ∀ i, i < (es.take n).length → formAt (es.take n) i = true := by
  intro i hi
  have hin : i < n := by rw [List.length_take] at hi; omega
  have := h i hin
  unfold formAt at this ⊢
  rw [List.getElem?_take_of_lt hin]
  cases hq : es[i]? with
  | none => rfl
  | some e =>
    rw [hq] at this
    simp only [Bool.and_eq_true] at this ⊢
    refine ⟨this.1, ?_⟩
    have h2 := this.2
    unfold ordAt at h2 ⊢
    rw [List.getElem?_take_of_lt (by omega)]
    exact h2
theorem upN_less (l : List UInt8) : ∀ k, k ≤ l.length → upN l k = [] ∨ lessT (upN l k) l = true
  | 0, _ => .inl rfl
  | k + 1, h => by
    rw [upN]
    split
    · refine .inr ?_
      have h2 := less_ext (l.take k) (l.drop k) (by intro h3; have := congrArg List.length h3; simp at this; omega)
      rw [List.take_append_drop] at h2
      exact h2
    · exact upN_less l k (by omega)
theorem upL_less (l : List UInt8) (h : upL l ≠ []) : lessT (upL l) l = true := (upN_less l l.length (Nat.le_refl _)).resolve_left h
theorem below_take {es : List En} {p : List UInt8} (i : Nat) (h : below En.path p es ≤ i) : below En.path p (es.take i) = below En.path p es := by
  induction es generalizing i with
  | nil => simp [below]
  | cons x r ih =>
    cases i with
    | zero => rw [List.take_zero]; exact (Nat.le_zero.1 h).symm ▸ rfl
    | succ i =>
      rw [List.take_succ_cons, below, below]
      rw [below] at h
      split
      · rename_i hx
        rw [if_pos hx] at h
        rw [ih i (by omega)]
      · rfl
theorem dir_take {es : List En} {p : List UInt8} {i : Nat} (hi : i < es.length) (hl : lessT p es[i].path = true) : dirAt (es.take i) p = dirAt es p := by
  have hb : below En.path p es ≤ i := by
    rcases Nat.lt_or_ge i (below En.path p es) with h | h
    · have h1 := below_lt (f := En.path) (p := p) i hi h
      rw [less_asymm hl] at h1; cases h1
    · exact h
  unfold dirAt there
  rw [below_take i hb]
  rcases Nat.lt_or_ge (below En.path p es) i with h | h
  · rw [List.getElem?_take_of_lt h]
  · obtain h : below En.path p es = i := by omega
    rw [h]
    have h1 : (es.take i)[i]? = none := List.getElem?_eq_none (by rw [List.length_take]; omega)
    rw [h1, List.getElem?_eq_getElem hi]
    have hne : (es[i].path == p) = false := by
      rw [beq_eq_false_iff_ne]; intro h; rw [h, less_irr] at hl; cases hl
    simp [hne]
theorem home_eq {es : List En} {i : Nat} (hi : i < es.length) : homeAt es i = (upL es[i].path == [] || dirAt es (upL es[i].path)) := by
  unfold homeAt
  rw [List.getElem?_eq_getElem hi]
  by_cases h : upL es[i].path = []
  · simp [h]
  · rw [← dir_take hi (upL_less _ h)]
end Go.Qz
namespace Go.Qz
open Go.Proofs
theorem TreeOkI_ev (es : List En) (hb : ∀ e ∈ es, enSz e) (hn0 : es.length ≤ 140737488351232) : C fn_i_TreeOk [.ro (ES es)] [] = some (.one (.ro (.bool (treeOk es))), []) := by
  refine ctx_call Tryd.func19 conv_i_TreeOk rfl ?_
  by_cases hn : es.length ≤ 16
  · have hn' : ¬ (16 : Int) < es.length := by omega
    simp [hn']
    refine loop_run (fun m e => ∃ i, m = es.length - i ∧ i ≤ es.length ∧ e.size = 43 ∧ e.get 0 = .one (.ro (ES es)) ∧ e.get 8 = .one (.ro (ES es)) ∧ e.get 9 = .one (.ro (N es.length)) ∧ e.get 10 = .one (.ro (N i)) ∧ (∀ k, k < i → (formAt es k && homeAt es k) = true))
      ?_ es.length _ ⟨0, rfl, Nat.zero_le _, by simp, by simp, by simp, by simp, by simp, by omega⟩
    rintro m e ⟨i, rfl, hi, hsz, h0, h8, h9, h10, hr⟩ ih
    rcases Nat.lt_or_ge i es.length with hlt | hge
    · have hwi : IntKind.i64.wrap ((i : Int) + 1) = ((i + 1 : Nat) : Int) := wrap64_succ (by omega)
      have hsz1 := hb _ (List.getElem_mem hlt)
      have hok := entryOk_ev es[i] hsz1
      have hbad := treeOk_bad hlt
      have hff : formAt es i = (entOk es[i] && ordAt es i es[i]) := by unfold formAt; rw [List.getElem?_eq_getElem hlt]
      have hpp : homeAt es i = (upL es[i].path == [] || dirAt (es.take i) (upL es[i].path)) := by unfold homeAt; rw [List.getElem?_eq_getElem hlt]
      cases he : entOk es[i] with
      | false =>
        rw [he] at hok hff
        have := hbad (by rw [hff]; rfl)
        simp [hsz, h0, h8, h9, h10, hlt, hok, this]
      | true =>
        have hpo : pathOk es[i].path = true := by unfold entOk at he; rw [Bool.and_eq_true] at he; exact he.1
        have hasc : ascending En.path (es.take i) = true := asc_of (form_take i (fun k hk => by have := hr k hk; rw [Bool.and_eq_true] at this; exact this.1))
        have hplace := hasPlaceFor_ev (es.take i) es[i].path (by rw [List.length_take]; omega) hasc hpo hsz1.1
        rw [← hpp] at hplace
        simp only [ES, List.map_take] at hplace
        rw [he, Bool.true_and] at hff
        rw [he] at hok
        have hil : i ≤ es.length := by omega
        have next : (formAt es i && homeAt es i) = true → ∀ k, k < i + 1 → (formAt es k && homeAt es k) = true := fun h k hk => by
          rcases Nat.lt_or_ge k i with h' | h'
          · exact hr k h'
          · obtain rfl : k = i := by omega
            exact h
        rw [hff] at hbad next
        rcases Nat.eq_zero_or_pos i with h00 | hpos
        · subst h00
          have ho : ordAt es 0 es[0] = true := rfl
          rw [ho, Bool.true_and] at hbad next
          cases hp : homeAt es 0 with
          | false =>
            rw [hp] at hplace
            have := hbad hp
            simp at hplace
            simp [hsz, h0, h8, h9, h10, hlt, hok, hplace, this]
          | true =>
            rw [hp] at hplace
            simp at hplace
            simp [hsz, h0, h8, h9, h10, hlt, hok, hplace]
            exact ih _ _ (by omega) ⟨1, rfl, by omega, by simp [hsz], by simp [h0], by simp [h8], by simp [h9], by simp, next hp⟩
        · obtain ⟨j, hji⟩ : ∃ j, j = i - 1 := ⟨_, rfl⟩
          have hj : j < es.length := by omega
          have ho : ordAt es i es[i] = lessT es[j].path es[i].path := by
            unfold ordAt
            have : (i == 0) = false := by rw [beq_eq_false_iff_ne]; omega
            rw [this, ← hji]
            simp [hj]
          have hwj : IntKind.i64.wrap ((i : Int) - 1) = (j : Int) := by rw [wrap64 (by omega) (by omega)]; omega
          rw [ho] at hbad next
          clear hji
          cases hl : lessT es[j].path es[i].path with
          | false =>
            have := hbad (by rw [hl]; rfl)
            simp [hsz, h0, h8, h9, h10, hj, hlt, hpos, hok, hwj, hl, this]
          | true =>
            rw [hl, Bool.true_and] at hbad next
            cases hp : homeAt es i with
            | false =>
              rw [hp] at hplace
              have := hbad hp
              simp [hsz, h0, h8, h9, h10, hj, hil, hlt, hpos, hok, hwj, hl, hplace, this]
            | true =>
              rw [hp] at hplace
              simp [hsz, h0, h8, h9, h10, hj, hil, hlt, hpos, hok, hwj, hwi, hl, hplace]
              exact ih _ _ (by omega) ⟨i + 1, rfl, by omega, by simp [hsz], by simp [h0], by simp [h8], by simp [h9], by simp, next hp⟩
    · obtain rfl : i = es.length := by omega
      have := treeOk_good hn hr
      simp [hsz, h9, h10, this]
  · have hn' : (16 : Int) < es.length := by omega
    have : treeOk es = false := by unfold treeOk; simp [hn]
    simp [hn', this]
theorem TreeOkS_ev (es : List En) (hb : ∀ e ∈ es, enSz e) (hn : es.length ≤ 1048576) : C fn_s_TreeOk [.ro (ES es)] [] = some (.one (.ro (.bool (treeOk es))), []) := by
  refine ctx_call Tryd.func31 conv_s_TreeOk rfl ?_
  simp
  refine loop_run (fun m e => ∃ i, m = es.length - i ∧ i ≤ es.length ∧ e.size = 53 ∧ e.get 0 = .one (.ro (ES es)) ∧ e.get 3 = .one (.ro (N i)) ∧ (∀ k, k < i → formAt es k = true))
    ?_ es.length _ ⟨0, rfl, Nat.zero_le _, by simp, by simp, by simp, by omega⟩
  rintro m e ⟨i, rfl, hi, hsz, h0, h3, hr⟩ ih
  rcases Nat.lt_or_ge i es.length with hlt | hge
  · have hwi : IntKind.i64.wrap ((i : Int) + 1) = ((i + 1 : Nat) : Int) := wrap64_succ (by omega)
    have hsz1 := hb _ (List.getElem_mem hlt)
    have hok := l2Entry_ev es[i] hsz1
    have hbad := treeOk_bad hlt
    have hff : formAt es i = (entOk es[i] && ordAt es i es[i]) := by unfold formAt; rw [List.getElem?_eq_getElem hlt]
    have next : formAt es i = true → ∀ k, k < i + 1 → formAt es k = true := fun h k hk => by
      rcases Nat.lt_or_ge k i with h' | h'
      · exact hr k h'
      · obtain rfl : k = i := by omega
        exact h
    cases he : entOk es[i] with
    | false =>
      rw [he] at hok hff
      have := hbad (by rw [hff]; rfl)
      simp [hsz, h0, h3, hlt, hok, this]
    | true =>
      rw [he] at hok
      rw [he, Bool.true_and] at hff
      rw [hff] at hbad next
      rcases Nat.eq_zero_or_pos i with h00 | hpos
      · subst h00
        simp [hsz, h0, h3, hlt, hok]
        exact ih _ _ (by omega) ⟨1, rfl, by omega, by simp [hsz], by simp [h0], by simp, next rfl⟩
      · obtain ⟨j, hji⟩ : ∃ j, j = i - 1 := ⟨_, rfl⟩
        have hj : j < es.length := by omega
        have ho : ordAt es i es[i] = lessT es[j].path es[i].path := by
          unfold ordAt
          have : (i == 0) = false := by rw [beq_eq_false_iff_ne]; omega
          rw [this, ← hji]
          simp [hj]
        have hwj : IntKind.i64.wrap ((i : Int) - 1) = (j : Int) := by rw [wrap64 (by omega) (by omega)]; omega
        rw [ho] at hbad next
        clear hji
        cases hl : lessT es[j].path es[i].path with
        | false =>
          have := hbad (by rw [hl]; rfl)
          simp [hsz, h0, h3, hj, hlt, hpos, hok, hwj, hl, this]
        | true =>
          simp [hsz, h0, h3, hj, hlt, hpos, hok, hwj, hwi, hl]
          exact ih _ _ (by omega) ⟨i + 1, rfl, by omega, by simp [hsz], by simp [h0], by simp, next hl⟩
  · obtain rfl : i = es.length := by omega
    simp [hsz, h0, h3]
    clear ih h3
    refine loop_run (fun m e => ∃ i, m = es.length - i ∧ i ≤ es.length ∧ e.size = 53 ∧ e.get 0 = .one (.ro (ES es)) ∧ e.get 4 = .one (.ro (N i)) ∧ (∀ k, k < i → homeAt es k = true))
      ?_ es.length _ ⟨0, rfl, Nat.zero_le _, by simp [hsz], by simp [h0], by simp, by omega⟩
    clear hsz h0
    rintro m e ⟨i, rfl, hi, hsz, h0, h4, hq⟩ ih
    rcases Nat.lt_or_ge i es.length with hlt | hge
    · have hwi : IntKind.i64.wrap ((i : Int) + 1) = ((i + 1 : Nat) : Int) := wrap64_succ (by omega)
      have hsz1 := hb _ (List.getElem_mem hlt)
      have hup := l1Up_ev es[i].path (by have := hsz1.1; omega)
      have hdir := l2Dir_ev es (upL es[i].path) hn
      rw [← home_eq hlt] at hdir
      have hbad := treeOk_bad hlt
      rw [hr i hlt, Bool.true_and] at hbad
      generalize upL es[i].path = u at *
      cases hp : homeAt es i with
      | false =>
        rw [hp] at hdir
        have := hbad hp
        simp [hsz, h0, h4, hlt, hup, hdir, this]
      | true =>
        rw [hp] at hdir
        simp [hsz, h0, h4, hlt, hup, hdir, hwi]
        refine ih _ _ (by omega) ⟨i + 1, rfl, by omega, by simp [hsz], by simp [h0], by simp, fun k hk => ?_⟩
        rcases Nat.lt_or_ge k i with h' | h'
        · exact hq k h'
        · obtain rfl : k = i := by omega
          exact hp
    · obtain rfl : i = es.length := by omega
      by_cases hn16 : es.length ≤ 16
      · have := treeOk_good hn16 (fun k hk => by rw [hr k hk, hq k hk]; rfl)
        simp [hsz, h0, h4, hn16, this]
      · have : treeOk es = false := by unfold treeOk; simp [hn16]
        simp [hsz, h0, h4, hn16, this]
end Go.Qz
namespace Go.Qz
open Go.Proofs
theorem dec_small (n : Nat) (h : n < 10) : Lib.decDigits n = [UInt8.ofNat (48 + n)] := by rw [Lib.decDigits, dif_pos h]
theorem dec_great (n : Nat) (h : 10 ≤ n) : Lib.decDigits n = Lib.decDigits (n / 10) ++ [UInt8.ofNat (48 + n % 10)] := by rw [Lib.decDigits, dif_neg (by omega)]
theorem dec_len : ∀ n : Nat, (Lib.decDigits n).length ≤ n + 1 := by
  intro n
  induction n using Nat.strongRecOn with
  | _ n ih =>
    rcases Nat.lt_or_ge n 10 with h | h
    · rw [dec_small n h]; simp
    · rw [dec_great n h, List.length_append]
      have := ih (n / 10) (by omega)
      simp only [List.length_singleton]
      omega
theorem dec_short : ∀ (k n : Nat), n < 10 ^ (k + 1) → (Lib.decDigits n).length ≤ k + 1
  | 0, n, h => by rw [dec_small n (by simpa using h)]; simp
  | k + 1, n, h => by
    rcases Nat.lt_or_ge n 10 with h1 | h1
    · rw [dec_small n h1]; simp
    · rw [dec_great n h1, List.length_append]
      have := dec_short k (n / 10) (by rw [Nat.pow_succ] at h; omega)
      simp only [List.length_singleton]
      omega
theorem l1Dec_ev : ∀ n : Nat, n ≤ 1099511627776 → C fn_s_l1Dec [.ro (N n)] [] = some (.one (.ro (T (Lib.decDigits n))), []) := by
  intro n
  induction n using Nat.strongRecOn with
  | _ n ih =>
    intro hn
    refine ctx_call Tryd.func83 conv_s_l1Dec rfl ?_
    have n1 : ¬ ((n : Int) < -9223372036854775807) := by omega
    have n2 : ¬ ((n : Int) < 0) := by omega
    rcases Nat.lt_or_ge n 10 with h | h
    · have hw1 : IntKind.i64.wrap (48 + (n : Int)) = ((48 + n : Nat) : Int) := by rw [wrap64 (by omega) (by omega)]; omega
      have hw3 : IntKind.u8.wrap ((48 + n : Nat) : Int) = ((48 + n : Nat) : Int) := by
        show ((48 + n : Nat) : Int) % 256 = _
        omega
      rw [dec_small n h]
      generalize hz : 48 + n = z at *
      simp [n1, n2, h, hw1, hw3]
    · have h3 : ¬ n < 10 := by omega
      have hr1 : ((n : Int)).tmod 10 = ((n % 10 : Nat) : Int) := by rw [Int.ofNat_tmod]; rfl
      have hq1 : ((n : Int)).tdiv 10 = ((n / 10 : Nat) : Int) := by rw [Int.ofNat_tdiv]; rfl
      have hi := ih (n / 10) (by omega) (by omega)
      have hl := dec_len (n / 10)
      rw [dec_great n h]
      have hrl : n % 10 < 10 := Nat.mod_lt _ (by omega)
      have hql : n / 10 < n := by omega
      generalize n % 10 = r at *
      generalize n / 10 = q at *
      have hw1 : IntKind.i64.wrap (48 + (r : Int)) = ((48 + r : Nat) : Int) := by rw [wrap64 (by omega) (by omega)]; omega
      have hw2 : IntKind.i64.wrap (q : Int) = (q : Int) := wrap64 (by omega) (by omega)
      have hw3 : IntKind.u8.wrap ((48 + r : Nat) : Int) = ((48 + r : Nat) : Int) := by
        show ((48 + r : Nat) : Int) % 256 = _
        omega
      have hms : (Lib.decDigits q).length + 1 ≤ maxStr := by simp [maxStr]; omega
      generalize 48 + r = z at *
      simp [n1, n2, h3, hr1, hq1, hw1, hw2, hw3, hi, hms]
end Go.Qz
namespace Go.Qz
open Go.Proofs
structure SmT (es : List En) (n : Nat) : Prop where
  len : es.length ≤ n
  each : ∀ e ∈ es, enSm e
theorem enSm_sz {e : En} (h : enSm e) : enSz e := ⟨by have := h.1; omega, by have := h.2; omega⟩
theorem copy_ev (es : List En) (hn : es.length ≤ 1048576) : C fn_s_l2Copy [.ro (ES es)] [] = some (.one (.own (ES es)), []) := by
  refine ctx_call Tryd.func70 conv_s_l2Copy rfl ?_
  have ha : es.length ≤ appendMax := by simp [appendMax]; omega
  simp [ha]
theorem put_ev (es : List En) (n : Nat) (h : SmT es n) (hn : n ≤ 100) (e : En) (he : enSm e) : ∃ (es' : List En) (b : Bool), SmT es' (n + 1) ∧ C fn_s_l2Put [.ro (ES es), .ro (ED e)] [] = some (.tup [.own (ES es'), .ro (.bool b)], []) := by
  have hl := h.len
  have hat := l2At_ev es e.path (by omega)
  have hcp := copy_ev es (by omega)
  have hent := l2Entry_ev e (enSm_sz he)
  have hup := l1Up_ev e.path (by have := he.1; omega)
  have hdir := l2Dir_ev es (upL e.path) (by omega)
  have same : SmT es (n + 1) := ⟨by omega, h.each⟩
  have hth := @there_lt es e.path
  have hbl := below_le En.path e.path es
  generalize upL e.path = u at *
  generalize (u == [] || dirAt es u) = d at *
  generalize there es e.path = t at *
  generalize below En.path e.path es = k at *
  cases ho : entOk e with
  | false =>
    rw [ho] at hent
    refine ⟨es, false, same, ctx_call Tryd.func81 conv_s_l2Put rfl ?_⟩
    simp [hat, hcp, hent]
  | true =>
    rw [ho] at hent
    cases d with
    | false =>
      refine ⟨es, false, same, ctx_call Tryd.func81 conv_s_l2Put rfl ?_⟩
      simp [hat, hcp, hent, hup, hdir]
    | true =>
      cases t with
      | true =>
        have hk := hth rfl
        cases hkk : es[k].kind == e.kind with
        | false =>
          refine ⟨es, false, same, ctx_call Tryd.func81 conv_s_l2Put rfl ?_⟩
          simp [hat, hcp, hent, hup, hdir, hk, hkk]
        | true =>
          refine ⟨es.set k e, true, ⟨by simp; omega, fun x hx => ?_⟩, ctx_call Tryd.func81 conv_s_l2Put rfl ?_⟩
          · rcases List.mem_or_eq_of_mem_set hx with h1 | rfl
            · exact h.each x h1
            · exact he
          · simp [hat, hcp, hent, hup, hdir, hk, hkk, List.map_set]
      | false =>
        by_cases h16 : 16 ≤ es.length
        · refine ⟨es, false, same, ctx_call Tryd.func81 conv_s_l2Put rfl ?_⟩
          simp [hat, hcp, hent, hup, hdir, h16]
        · refine ⟨es.take k ++ e :: es.drop k, true, ⟨by simp; omega, fun x hx => ?_⟩, ctx_call Tryd.func81 conv_s_l2Put rfl ?_⟩
          · rcases List.mem_append.1 hx with h1 | h1
            · exact h.each x (List.mem_of_mem_take h1)
            · rcases List.mem_cons.1 h1 with rfl | h1
              · exact he
              · exact h.each x (List.mem_of_mem_drop h1)
          · have hf1 : flats (List.take k (List.map ED es)) = true := by rw [← List.map_take]; exact flats_ED _
            have hf2 : flats (List.drop k (List.map ED es)) = true := by rw [← List.map_drop]; exact flats_ED _
            have ht : List.take es.length (List.map ED es) = List.map ED es := by rw [← List.map_take, List.take_length]
            have a1 : k ≤ appendMax := by simp [appendMax]; omega
            have a2 : k + 1 ≤ appendMax := by simp [appendMax]; omega
            have a3 : k + 1 + (es.length - k) ≤ appendMax := by simp [appendMax]; omega
            have hkl' : (k : Int) ≤ es.length := by omega
            simp [hat, hcp, hent, hup, hdir, h16, hbl, hkl', hf1, hf2, ht, a1, a2, a3]
section
variable {bs : List Int} (hb : Seed bs) {i : Nat}
include hb
theorem anyEntry_ev (hi : i ≤ 30000) : ∃ (e : En) (j : Nat), enSm e ∧ j ≤ i + 7 ∧ C fn_s_l11AnyEntry [.ptr 5000 0] [(5000, RB bs i)] = some (.one (.ro (ED e)), [(5000, RB bs j)]) := by
  obtain ⟨e, j1, he, hj1, c1⟩ := entry_ev hb (i := i) (by omega)
  obtain ⟨r, j2, hr, hj2, c2⟩ := draw_pick hb (i := j1) (by omega) 14 14 rfl (by omega) (by omega)
  by_cases r0 : r = 0
  · subst r0
    obtain ⟨x, j3, hx, hj3, c3⟩ := anyPath_ev hb (i := j2) (by omega)
    refine ⟨{ e with path := x }, j3, ⟨by simp only; omega, he.2⟩, by omega, ctx_call Tryd.func72 conv_s_l11AnyEntry rfl ?_⟩
    simp [c1, c2, c3]
  · by_cases r1 : r = 1
    · subst r1
      obtain ⟨x, j3, hx, hj3, c3⟩ := draw_pick hb (i := j2) (by omega) 5 5 rfl (by omega) (by omega)
      refine ⟨{ e with kind := x }, j3, he, by omega, ctx_call Tryd.func72 conv_s_l11AnyEntry rfl ?_⟩
      simp [c1, c2, c3]
    · by_cases r2 : r = 2
      · subst r2
        obtain ⟨x, j3, hx, hj3, c3⟩ := one_ev hb (i := j2) [-1, 8, 0] (by simp) (by simp) (by omega)
        simp only [List.map_cons, List.map_nil] at c3
        refine ⟨{ e with mode := x }, j3, he, by omega, ctx_call Tryd.func72 conv_s_l11AnyEntry rfl ?_⟩
        simp [c1, c2, c3]
      · by_cases r3 : r = 3
        · subst r3
          obtain ⟨ts, hts, hmany⟩ := many_ev [117] 81 81 rfl (by simp) (by omega)
          obtain ⟨x, j3, hx, hj3, c3⟩ := draw_of hb (i := j2) (by omega) [[1], ts, [120], []] (by simp) (by simp)
          simp only [List.map_cons, List.map_nil] at c3
          have hxl : x.length ≤ 200 := by
            simp only [List.mem_cons, List.not_mem_nil, or_false] at hx
            simp at hts
            rcases hx with rfl | rfl | rfl | rfl <;> first | omega | simp
          refine ⟨{ e with text := x }, j3, ⟨he.1, hxl⟩, by omega, ctx_call Tryd.func72 conv_s_l11AnyEntry rfl ?_⟩
          simp [c1, c2, c3, hmany]
        · have b0 : (r == 0) = false := by simpa using r0
          have b1 : (r == 1) = false := by simpa using r1
          have b2 : (r == 2) = false := by simpa using r2
          have b3 : (r == 3) = false := by simpa using r3
          refine ⟨e, j2, he, by omega, ctx_call Tryd.func72 conv_s_l11AnyEntry rfl ?_⟩
          simp [c1, c2, b0, b1, b2, b3]
end
end Go.Qz
namespace Go.Qz
open Go.Proofs
theorem goN_app (c : UInt8) : ∀ (l : List UInt8) (a : Nat), goN a (l ++ [c]) = (goN a l).bind fun m => if figB c then some (m * 10 + (c.toNat - 48)) else none
  | [], a => by simp only [List.nil_append, goN, Option.bind_some]
  | b :: l, a => by
    rw [List.cons_append, goN, goN]
    split
    · exact goN_app c l _
    · rfl
theorem goN_ge : ∀ (l : List UInt8) (a m : Nat), goN a l = some m → a ≤ m
  | [], a, m, h => by cases h; exact Nat.le_refl _
  | b :: l, a, m, h => by
    unfold goN at h
    split at h
    · have := goN_ge l _ m h; omega
    · cases h
theorem fig_of (d : Nat) (h : d < 10) : figB (UInt8.ofNat (48 + d)) = true ∧ (UInt8.ofNat (48 + d)).toNat = 48 + d := by
  have h1 : (UInt8.ofNat (48 + d)).toNat = 48 + d := by
    rw [UInt8.toNat_ofNat']
    omega
  refine ⟨?_, h1⟩
  unfold figB
  rw [h1]
  simp
  omega
theorem goN_dec (n : Nat) : goN 0 (Lib.decDigits n) = some n := by
  induction n using Nat.strongRecOn with
  | _ n ih =>
    rcases Nat.lt_or_ge n 10 with h | h
    · rw [dec_small n h, goN]
      obtain ⟨h1, h2⟩ := fig_of n h
      rw [if_pos h1, h2]
      simp [goN]
    · rw [dec_great n h, goN_app, ih (n / 10) (by omega)]
      obtain ⟨h1, h2⟩ := fig_of (n % 10) (Nat.mod_lt _ (by omega))
      simp only [Option.bind_some]
      rw [if_pos h1, h2]
      congr 1
      omega
theorem dec_head (n : Nat) (hn : 0 < n) : ∃ c r, Lib.decDigits n = c :: r ∧ (c == 48) = false := by
  induction n using Nat.strongRecOn with
  | _ n ih =>
    rcases Nat.lt_or_ge n 10 with h | h
    · refine ⟨_, [], dec_small n h, ?_⟩
      obtain ⟨h1, h2⟩ := fig_of n h
      rw [beq_eq_false_iff_ne]
      intro e
      rw [e] at h2
      simp at h2
      omega
    · obtain ⟨c, r, h1, h2⟩ := ih (n / 10) (by omega) (by omega)
      rw [dec_great n h, h1]
      exact ⟨c, r ++ [UInt8.ofNat (48 + n % 10)], rfl, h2⟩
theorem dec_lead (n : Nat) : lead0 (Lib.decDigits n) = false := by
  rcases Nat.lt_or_ge n 10 with h | h
  · rw [dec_small n h]; rfl
  · obtain ⟨c, r, h1, h2⟩ := dec_head n (by omega)
    rw [h1]
    cases r with
    | nil => rfl
    | cons b r => exact h2
theorem dec_ne (n : Nat) : Lib.decDigits n ≠ [] := by
  rcases Nat.lt_or_ge n 10 with h | h
  · rw [dec_small n h]; simp
  · rw [dec_great n h]; simp
theorem dec_fig (n : Nat) : ∀ b ∈ Lib.decDigits n, figB b = true := by
  induction n using Nat.strongRecOn with
  | _ n ih =>
    rcases Nat.lt_or_ge n 10 with h | h
    · rw [dec_small n h]
      intro b hb
      rw [List.mem_singleton] at hb
      subst hb
      exact (fig_of n h).1
    · rw [dec_great n h]
      intro b hb
      rcases List.mem_append.1 hb with h1 | h1
      · exact ih (n / 10) (by omega) b h1
      · rw [List.mem_singleton] at h1
        subst h1
        exact (fig_of (n % 10) (Nat.mod_lt _ (by omega))).1
theorem dec_three (n : Nat) (h : n ≤ 999) : (Lib.decDigits n).length ≤ 3 := dec_short 2 n (by omega)
theorem fig_back {c : UInt8} (h : figB c = true) : UInt8.ofNat (48 + (c.toNat - 48)) = c ∧ c.toNat - 48 < 10 := by
  unfold figB at h
  simp only [Bool.and_eq_true, decide_eq_true_eq] at h
  refine ⟨?_, by omega⟩
  rw [show 48 + (c.toNat - 48) = c.toNat by omega]
  exact UInt8.ofNat_toNat
theorem goN_all : ∀ (l : List UInt8) (a m : Nat), goN a l = some m → ∀ b ∈ l, figB b = true
  | [], _, _, _ => fun b hb => by simp at hb
  | c :: l, a, m, h => by
    unfold goN at h
    split at h
    · rename_i hc
      intro b hb
      rcases List.mem_cons.1 hb with rfl | hb
      · exact hc
      · exact goN_all l _ m h b hb
    · cases h
theorem dec_of : ∀ (k : Nat) (l : List UInt8) (n : Nat), l.length ≤ k → l ≠ [] → lead0 l = false → goN 0 l = some n → Lib.decDigits n = l := by
  intro k
  induction k with
  | zero =>
    intro l n hk hne
    exact absurd (List.length_eq_zero_iff.1 (by omega)) hne
  | succ k ih =>
    intro l n hk hne hld hg
    rcases List.eq_nil_or_concat l with rfl | ⟨l', c, rfl⟩
    · exact absurd rfl hne
    · have hc : figB c = true := goN_all _ 0 n hg c (by simp)
      obtain ⟨e1, e2⟩ := fig_back hc
      rw [List.concat_eq_append] at hg hld ⊢
      rw [goN_app] at hg
      cases l' with
      | nil =>
        simp only [goN, Option.bind_some, if_pos hc, Option.some.injEq] at hg
        simp only [List.nil_append]
        rw [← hg, dec_small _ (by omega)]
        rw [show 48 + (0 * 10 + (c.toNat - 48)) = 48 + (c.toNat - 48) by omega, e1]
      | cons x r =>
        cases hm : goN 0 (x :: r) with
        | none => rw [hm] at hg; cases hg
        | some m =>
          rw [hm] at hg
          simp only [Option.bind_some, if_pos hc, Option.some.injEq] at hg
          have hx : (x == 48) = false := by
            cases r with
            | nil => exact hld
            | cons y r => exact hld
          have hl2 : lead0 (x :: r) = false := by
            cases r with
            | nil => rfl
            | cons y r => exact hx
          have hih := ih (x :: r) m (by simp at hk ⊢; omega) (by simp) hl2 hm
          have hpos : 1 ≤ m := by
            have hxf : figB x = true := goN_all _ 0 m hm x (by simp)
            unfold goN at hm
            rw [if_pos hxf] at hm
            have := goN_ge r _ m hm
            have hne48 : x.toNat ≠ 48 := by
              intro e
              have : x = 48 := UInt8.toNat_inj.1 e
              rw [this] at hx
              simp at hx
            unfold figB at hxf
            simp only [Bool.and_eq_true, decide_eq_true_eq] at hxf
            omega
          rw [dec_great n (by omega), ← hg, show (m * 10 + (c.toNat - 48)) / 10 = m by omega, show (m * 10 + (c.toNat - 48)) % 10 = c.toNat - 48 by omega, hih, e1]
theorem numI_dec (n m : Nat) (h1 : n ≤ m) (h2 : n ≤ 999) : numI (Lib.decDigits n) m = (n, true) := by
  have h3 := dec_three n h2
  unfold numI
  rw [dec_lead, goN_dec]
  have h4 : (Lib.decDigits n).isEmpty = false := by
    cases h : Lib.decDigits n with
    | nil => exact absurd h (dec_ne n)
    | cons c r => rfl
  rw [h4, if_neg (by simp; omega)]
  simp only
  rw [if_neg (by omega)]
theorem numS_dec (n : Nat) (h2 : n ≤ 999) : numS (Lib.decDigits n) = n := by
  have h3 := dec_three n h2
  have h4 : (Lib.decDigits n).isEmpty = false := by
    cases h : Lib.decDigits n with
    | nil => exact absurd h (dec_ne n)
    | cons c r => rfl
  unfold numS
  rw [goN_dec, dec_lead, h4]
  simp only
  rw [if_pos (by simp; omega)]
theorem numI_is {l : List UInt8} {m x : Nat} (h : numI l m = (x, true)) : Lib.decDigits x = l := by
  unfold numI at h
  split at h
  · cases h
  · rename_i hc
    simp only [Bool.or_eq_true, not_or, Bool.not_eq_true, List.isEmpty_eq_false_iff, decide_eq_false_iff_not] at hc
    split at h
    · rename_i n hn
      split at h
      · cases h
      · cases h
        exact dec_of l.length l _ (Nat.le_refl _) hc.1.1 hc.2 hn
    · cases h
theorem fig_ne {b : UInt8} (h : figB b = true) : b ≠ 32 ∧ b ≠ 10 := by
  unfold figB at h
  simp only [Bool.and_eq_true, decide_eq_true_eq] at h
  constructor
  · rintro rfl; simp at h
  · rintro rfl; simp at h
theorem numS_le (l : List UInt8) : -1 ≤ numS l ∧ numS l ≤ 999999 := by
  have hb : ∀ (l : List UInt8) (n m k : Nat), goN n l = some m → n < 10 ^ k → m < 10 ^ (k + l.length) := by
    intro l
    induction l with
    | nil => intro n m k h hn; cases h; simpa using hn
    | cons c r ih =>
      intro n m k h hn
      unfold goN at h
      split at h
      · rename_i hf
        obtain ⟨_, _, _, g4⟩ := fig_sub hf
        have hp2 : 10 ^ (k + 1) = 10 ^ k * 10 := Nat.pow_succ _ _
        have := ih _ m (k + 1) h (by omega)
        rw [List.length_cons, show k + (r.length + 1) = k + 1 + r.length by omega]
        exact this
      · cases h
  unfold numS
  split
  · rename_i n hn
    split
    · rename_i hc
      simp only [Bool.and_eq_true, decide_eq_true_eq] at hc
      have h1 := hb l 0 n 0 hn (by simp)
      have h2 : 10 ^ (0 + l.length) ≤ 10 ^ 6 := Nat.pow_le_pow_right (by omega) (by omega)
      omega
    · omega
  · omega
theorem numI_le {l : List UInt8} {m : Nat} (_ : (numI l m).2 = true) : (numI l m).1 ≤ m := by
  unfold numI
  split
  · simp
  · split
    · split
      · simp
      · simp only; omega
    · simp
theorem numI_S {l : List UInt8} {m x : Nat} (h : numI l m = (x, true)) (hm : m ≤ 999) : numS l = x := by
  have h1 := numI_is h
  have h2 : x ≤ m := by have := numI_le (l := l) (m := m) (by rw [h]); rw [h] at this; exact this
  rw [← h1]
  exact numS_dec x (by omega)
theorem numS_I {l : List UInt8} {m x : Nat} (h : numS l = x) (hm : x ≤ m) (_ : m ≤ 999) : numI l m = (x, true) := by
  unfold numS at h
  split at h
  · rename_i n hn
    split at h
    · rename_i hc
      have hnx : n = x := by omega
      subst hnx
      simp only [Bool.and_eq_true, decide_eq_true_eq, Bool.not_eq_true'] at hc
      unfold numI
      rw [hn]
      have h9 : ¬ 9 < l.length := by omega
      rw [if_neg (by simp [hc.1.2, hc.2, h9])]
      simp only
      rw [if_neg (by omega)]
    · omega
  · omega
end Go.Qz
namespace Go.Qz
open Go.Proofs
def en0 : En := ⟨[], 0, 0, []⟩
abbrev wLink : List UInt8 := [108, 105, 110, 107]
abbrev wDir : List UInt8 := [100, 105, 114]
abbrev wFile : List UInt8 := [102, 105, 108, 101]
abbrev RdE := En × List UInt8 × Bool
def rd0 : RdE := (en0, [], false)
def rdW (ws : Lines) (rest : List UInt8) : RdE :=
  if ws.length < 3 then rd0 else
  match ws[0]?, ws[1]?, ws[2]? with
  | some w0, some w1, some w2 =>
    if w0 == wLink then (⟨w1, 3, 0, w2⟩, rest, ws.length == 3)
    else if (numI w1 7).2 = false then rd0
    else if w0 == wDir then (⟨w2, 1, (numI w1 7).1, []⟩, rest, ws.length == 3)
    else if w0 == wFile then (if ws.length == 4 then (match ws[3]? with
      | some w3 => if (numI w3 80).2 = false then rd0 else (match rest[(numI w3 80).1]? with
        | some c => if c == 10 then (⟨w2, 2, (numI w1 7).1, rest.take (numI w3 80).1⟩, rest.drop ((numI w3 80).1 + 1), true) else rd0
        | none => rd0)
      | none => rd0) else rd0)
    else rd0
  | _, _, _ => rd0
def rdI (t : List UInt8) : RdE := match brk 10 t with
  | some (line, rest) => rdW (cutP 32 4 [] line) rest
  | none => rd0
theorem brk_len {b : UInt8} {t n r : List UInt8} (h : brk b t = some (n, r)) : n.length + r.length + 1 = t.length := by
  rw [brk_app h]; simp; omega
theorem cutP_len (b : UInt8) : ∀ (s : List UInt8) (k : Nat) (pre x : List UInt8), x ∈ cutP b k pre s → x.length ≤ pre.length + s.length
  | [], k, pre, x, h => by simp [cutP] at h; simp [h]
  | c :: r, 0, pre, x, h => by simp [cutP] at h; simp [h]
  | c :: r, k + 1, pre, x, h => by
    rw [cutP] at h
    split at h
    · rcases List.mem_cons.1 h with rfl | h
      · simp
      · have := cutP_len b r k [] x h; simp at this ⊢; omega
    · have := cutP_len b r (k + 1) _ x h; simp at this ⊢; omega
set_option maxRecDepth 4000 in
theorem readEntry_ev (t : List UInt8) (ht : t.length ≤ 1048576) : C fn_i_readEntry [.ro (T t)] [] = some (.tup [.ro (ED (rdI t).1), .ro (T (rdI t).2.1), .ro (.bool (rdI t).2.2)], []) := by
  refine ctx_call Tryd.func23 conv_i_readEntry rfl ?_
  have hc := cut_str t [10] (by omega)
  rw [cut_brk] at hc
  unfold rdI
  cases hb : brk 10 t with
  | none =>
    rw [hb] at hc
    have hs := splitNk_ev t 32 4 5 rfl (by omega) (by omega)
    simp only at hc
    simp [hc, hs, rd0, en0]
  | some p =>
    obtain ⟨line, rest⟩ := p
    rw [hb] at hc
    have hlen := brk_len hb
    have hs := splitNk_ev line 32 4 5 rfl (by omega) (by omega)
    have hmem := cutP_len 32 line 4 []
    simp only at hc
    simp only
    unfold rdW
    generalize cutP 32 4 [] line = ws at *
    by_cases h3 : ws.length < 3
    · simp [hc, hs, h3, rd0, en0]
    · have hl0 : 0 < ws.length := by omega
      have hl1 : 1 < ws.length := by omega
      have hl2 : 2 < ws.length := by omega
      have hm1 := hmem ws[1] (List.getElem_mem hl1)
      simp only [List.length_nil, Nat.zero_add] at hm1
      have hn7 := number_ev ws[1] 7 7 rfl (by omega) (by omega)
      have hmem3 : ∀ (h : 3 < ws.length), ws[3].length ≤ line.length := fun h => by
        have := hmem ws[3] (List.getElem_mem h)
        simpa using this
      obtain ⟨w0, e0⟩ : ∃ w, ws[0] = w := ⟨_, rfl⟩
      obtain ⟨w1, e1⟩ : ∃ w, ws[1] = w := ⟨_, rfl⟩
      obtain ⟨w2, e2⟩ : ∃ w, ws[2] = w := ⟨_, rfl⟩
      rw [e1] at hn7
      cases hk : w0 == wLink with
      | true => simp [hc, hs, h3, hl0, hl1, hl2, e0, e1, e2, hk]
      | false =>
        obtain ⟨v, hv⟩ : ∃ v, numI w1 7 = v := ⟨_, rfl⟩
        rw [hv] at hn7
        obtain ⟨mode, ok⟩ := v
        cases ok with
        | false => simp [hc, hs, h3, hl0, hl1, hl2, e0, e1, e2, hv, hk, hn7, rd0, en0]
        | true =>
          cases hk2 : w0 == wDir with
          | true => simp [hc, hs, h3, hl0, hl1, hl2, e0, e1, e2, hv, hk, hk2, hn7]
          | false =>
            cases hk3 : w0 == wFile with
            | false => simp [hc, hs, h3, hl0, hl1, hl2, e0, e1, e2, hv, hk, hk2, hk3, hn7, rd0, en0]
            | true =>
              by_cases h4 : ws.length = 4
              · have hl3 : 3 < ws.length := by omega
                have hm3 := hmem3 hl3
                have hn80 := number_ev ws[3] 80 80 rfl (by omega) (by omega)
                have h4b : (ws.length == 4) = true := by simpa using h4
                obtain ⟨w3, e3⟩ : ∃ w, ws[3] = w := ⟨_, rfl⟩
                rw [e3] at hn80
                obtain ⟨u, hu⟩ : ∃ u, numI w3 80 = u := ⟨_, rfl⟩
                have hule : (numI w3 80).2 = true → (numI w3 80).1 ≤ 80 := numI_le
                rw [hu] at hn80 hule
                obtain ⟨size, ok⟩ := u
                cases ok with
                | false => simp [hc, hs, h4, e0, e1, e2, e3, hu, hv, hk, hk2, hk3, hn7, hn80, rd0, en0]
                | true =>
                  have hule := hule rfl
                  simp only at hule
                  have hws : IntKind.i64.wrap ((size : Int) + 1) = ((size + 1 : Nat) : Int) := wrap64_succ (by omega)
                  rcases Nat.lt_or_ge size rest.length with hr | hr
                  · have hr' : ¬ (rest.length : Int) ≤ size := by omega
                    have hr2 : size ≤ rest.length := by omega
                    have hr3 : (size : Int) + 1 ≤ rest.length := by omega
                    have hr4 : (0 : Int) ≤ (size : Int) + 1 := by omega
                    have hg : rest[size]? = some rest[size] := List.getElem?_eq_getElem hr
                    cases hc10 : rest[size] == 10 with
                    | false => simp [hc, hs, h4, e0, e1, e2, e3, hu, hv, hk, hk2, hk3, hn7, hn80, hr, hr', hc10, rd0, en0]
                    | true => simp [hc, hs, h4, e0, e1, e2, e3, hu, hv, hk, hk2, hk3, hn7, hn80, hr, hr', hr2, hr3, hr4, hws, hc10]
                  · have hr' : (rest.length : Int) ≤ size := by omega
                    have hg : rest[size]? = none := List.getElem?_eq_none hr
                    simp [hc, hs, h4, e0, e1, e2, e3, hu, hv, hk, hk2, hk3, hn7, hn80, hg, hr', rd0, en0]
              · have h4b : (ws.length == 4) = false := by simpa using h4
                simp [hc, hs, h3, hl0, hl1, hl2, h4b, e0, e1, e2, hv, hk, hk2, hk3, hn7, rd0, en0]
end Go.Qz
namespace Go.Qz
open Go.Proofs
theorem l1DecI_ev (a : Int) (h0 : 0 ≤ a) (h1 : a ≤ 1099511627776) : C fn_s_l1Dec [.ro (.int .i64 a)] [] = some (.one (.ro (T (Lib.decDigits a.toNat))), []) := by
  obtain ⟨n, rfl⟩ := Int.eq_ofNat_of_zero_le h0
  exact l1Dec_ev n (by omega)
theorem write1_ev (m l : List UInt8) (h : m.length + l.length ≤ appendMax) :
    C 44 [.ptr 5000 0, .ro (T l)] [(5000, [.bnil 69, .own (.bs 5 ⟨m.toArray⟩)])] = some (.tup [.ro (N l.length), .ro .nili], [(5000, [.selfp, .own (.bs 5 ⟨(m ++ l).toArray⟩)])]) := by
  refine ctx_call Tryd.func44 conv_strings_Builder_WriteString rfl ?_
  have hc := copyNil_ev 5000 (.own (.bs 5 ⟨m.toArray⟩)) (by decide)
  simp [hc, h]
theorem write2_ev (m l : List UInt8) (h : m.length + l.length ≤ appendMax) :
    C 44 [.ptr 5000 0, .ro (T l)] [(5000, [.selfp, .own (.bs 5 ⟨m.toArray⟩)])] = some (.tup [.ro (N l.length), .ro .nili], [(5000, [.selfp, .own (.bs 5 ⟨(m ++ l).toArray⟩)])]) := by
  refine ctx_call Tryd.func44 conv_strings_Builder_WriteString rfl ?_
  have hc := copySelf_ev 5000 (.own (.bs 5 ⟨m.toArray⟩)) (by decide)
  simp [hc, h]
theorem itoaI_ev (a : Int) (h0 : 0 ≤ a) (h1 : a ≤ 1099511627776) : C 43 [.ro (.int .i64 a)] [] = some (.one (.ro (T (Lib.decDigits a.toNat))), []) := by
  have h := itoa_ev a (by omega) (by omega)
  have : ¬ a < 0 := by omega
  rw [Lib.itoa, if_neg this] at h
  exact h
theorem itoaN_ev (n : Nat) (h1 : n ≤ 1099511627776) : C 43 [.ro (N n)] [] = some (.one (.ro (T (Lib.decDigits n))), []) := itoaI_ev n (by omega) (by omega)
theorem write_ev {a0 : A} (ha : a0 = .bnil 69 ∨ a0 = .selfp) (m l : List UInt8) (h : m.length + l.length ≤ appendMax) :
    C 44 [.ptr 5000 0, .ro (T l)] [(5000, [a0, .own (.bs 5 ⟨m.toArray⟩)])] = some (.tup [.ro (N l.length), .ro .nili], [(5000, [.selfp, .own (.bs 5 ⟨(m ++ l).toArray⟩)])]) := by
  rcases ha with rfl | rfl
  · exact write1_ev m l h
  · exact write2_ev m l h
theorem text_ev (a0 : A) (m : List UInt8) : C 45 [.ptr 5000 0] [(5000, [a0, .own (.bs 5 ⟨m.toArray⟩)])] = some (.one (.ro (T m)), [(5000, [a0, .dead])]) := string_ev 5000 a0 ⟨m.toArray⟩ (by decide)
end Go.Qz
namespace Go.Qz
open Go.Proofs
def lineT (e : En) : List UInt8 :=
  if e.kind == 1 then wDir ++ [32] ++ Lib.decDigits e.mode.toNat ++ [32] ++ e.path ++ [10]
  else if e.kind == 3 then wLink ++ [32] ++ e.path ++ [32] ++ e.text ++ [10]
  else wFile ++ [32] ++ Lib.decDigits e.mode.toNat ++ [32] ++ e.path ++ [32] ++ Lib.decDigits e.text.length ++ [10] ++ e.text ++ [10]
def linesT : List En → List UInt8
  | [] => []
  | e :: r => lineT e ++ linesT r
def modeOk (e : En) : Prop := 0 ≤ e.mode ∧ e.mode ≤ 7
theorem dec7 (n : Nat) (h : n ≤ 9999999) : (Lib.decDigits n).length ≤ 7 := dec_short 6 n (by omega)
theorem lineT_len (e : En) (h : enSz e) (hm : modeOk e) : (lineT e).length ≤ 2097252 := by
  have h1 := h.1
  have h2 := h.2
  have h3 := dec7 e.mode.toNat (by have := hm.2; omega)
  have h4 := dec7 e.text.length (by omega)
  unfold lineT
  split
  · simp; omega
  · split
    · simp; omega
    · simp; omega
theorem l2Line_ev (e : En) (h : enSz e) (hm : modeOk e) : C fn_s_l2Line [.ro (ED e)] [] = some (.one (.ro (T (lineT e))), []) := by
  refine ctx_call Tryd.func75 conv_s_l2Line rfl ?_
  have h1 := h.1
  have h2 := h.2
  have d1 := l1DecI_ev e.mode hm.1 (by have := hm.2; omega)
  have d2 := l1Dec_ev e.text.length (by omega)
  have h3 := dec7 e.mode.toNat (by have := hm.2; omega)
  have h4 := dec7 e.text.length (by omega)
  unfold lineT
  generalize Lib.decDigits e.mode.toNat = dm at *
  generalize Lib.decDigits e.text.length = dt at *
  cases k1 : e.kind == 1 with
  | true =>
    have z0 : 4 + dm.length ≤ maxStr := by unfold maxStr; omega
    have z1 : dm.length + 1 + 1 + 1 + 1 + 1 ≤ maxStr := by unfold maxStr; omega
    have z2 : dm.length + 1 + 1 + 1 + 1 + 1 + e.path.length ≤ maxStr := by unfold maxStr; omega
    have z3 : dm.length + (e.path.length + 1) + 1 + 1 + 1 + 1 + 1 ≤ maxStr := by unfold maxStr; omega
    simp [k1, d1, z0, z1, z2, z3] --$a
  | false =>
    cases k3 : e.kind == 3 with
    | true =>
      have z0 : 5 + e.path.length ≤ maxStr := by unfold maxStr; omega
      have z1 : e.path.length + 1 + 1 + 1 + 1 + 1 + 1 ≤ maxStr := by unfold maxStr; omega
      have z2 : e.path.length + 1 + 1 + 1 + 1 + 1 + 1 + e.text.length ≤ maxStr := by unfold maxStr; omega
      have z3 : e.path.length + (e.text.length + 1) + 1 + 1 + 1 + 1 + 1 + 1 ≤ maxStr := by unfold maxStr; omega
      simp [k1, k3, z0, z1, z2, z3] --$b
    | false =>
      have z0 : 5 + dm.length ≤ maxStr := by unfold maxStr; omega
      have z1 : dm.length + 1 + 1 + 1 + 1 + 1 + 1 ≤ maxStr := by unfold maxStr; omega
      have z2 : dm.length + 1 + 1 + 1 + 1 + 1 + 1 + e.path.length ≤ maxStr := by unfold maxStr; omega
      have z3 : dm.length + (e.path.length + 1) + 1 + 1 + 1 + 1 + 1 + 1 ≤ maxStr := by unfold maxStr; omega
      have z4 : dm.length + (e.path.length + 1 + 1) + 1 + 1 + 1 + 1 + 1 + dt.length ≤ maxStr := by unfold maxStr; omega
      have z5 : dm.length + (e.path.length + (dt.length + 1) + 1) + 1 + 1 + 1 + 1 + 1 + 1 ≤ maxStr := by unfold maxStr; omega
      have z6 : dm.length + (e.path.length + (dt.length + 1 + 1) + 1) + 1 + 1 + 1 + 1 + 1 + e.text.length ≤ maxStr := by unfold maxStr; omega
      have z7 : dm.length + (e.path.length + (dt.length + (e.text.length + 1) + 1) + 1) + 1 + 1 + 1 + 1 + 1 + 1 ≤ maxStr := by unfold maxStr; omega
      simp [k1, k3, d1, d2, z0, z1, z2, z3, z4, z5, z6, z7] --$c
theorem linesT_app : ∀ (a b : List En), linesT (a ++ b) = linesT a ++ linesT b
  | [], b => rfl
  | e :: r, b => by rw [List.cons_append, linesT, linesT, linesT_app r b, List.append_assoc]
theorem linesT_len : ∀ (es : List En), (∀ e ∈ es, enSz e ∧ modeOk e) → (linesT es).length ≤ es.length * 2097252
  | [], _ => by simp [linesT]
  | e :: r, h => by
    have h1 := lineT_len e (h e (by simp)).1 (h e (by simp)).2
    have h2 := linesT_len r (fun x hx => h x (by simp [hx]))
    simp only [linesT, List.length_append, List.length_cons]
    omega
theorem l2Lines_ev (es : List En) (h : ∀ e ∈ es, enSz e ∧ modeOk e) (hn : es.length ≤ 1000) : C fn_s_l2Lines [.ro (ES es)] [] = some (.one (.ro (T (linesT es))), []) := by
  refine ctx_call Tryd.func46 conv_s_l2Lines rfl ?_
  simp
  refine loop_run (fun m e => ∃ i, m = es.length - i ∧ i ≤ es.length ∧ e.size = 19 ∧ e.get 0 = .one (.ro (ES es)) ∧ e.get 3 = .one (.ro (T (linesT (es.take i)))) ∧ e.get 4 = .one (.ro (N i))) ?_ es.length _ ⟨0, rfl, Nat.zero_le _, by simp, by simp, by simp [linesT], by simp⟩
  rintro m e ⟨i, rfl, hi, hsz, h0, h3, h4⟩ ih
  rcases Nat.lt_or_ge i es.length with hlt | hge
  · have hwi : IntKind.i64.wrap ((i : Int) + 1) = ((i + 1 : Nat) : Int) := wrap64_succ (by omega)
    have he := h _ (List.getElem_mem hlt)
    have hl := l2Line_ev es[i] he.1 he.2
    have h1 := lineT_len es[i] he.1 he.2
    have h2 := linesT_len (es.take i) (fun x hx => h x (List.mem_of_mem_take hx))
    have h5 : (es.take i).length * 2097252 ≤ 1000 * 2097252 := Nat.mul_le_mul_right _ (by rw [List.length_take]; omega)
    have ht : es.take (i + 1) = es.take i ++ [es[i]] := by rw [List.take_succ_eq_append_getElem hlt]
    have hnx : linesT (es.take (i + 1)) = linesT (es.take i) ++ lineT es[i] := by rw [ht, linesT_app]; simp [linesT]
    generalize linesT (es.take i) = p at *
    generalize lineT es[i] = q at *
    have hm : p.length + q.length ≤ maxStr := by unfold maxStr; omega
    simp [hsz, h0, h3, h4, hlt, hl, hm, hwi]
    exact ih _ _ (by omega) ⟨i + 1, rfl, by omega, by simp [hsz], by simp [h0], by simp [hnx], by simp⟩
  · obtain rfl : i = es.length := by omega
    rw [List.take_length] at h3
    simp [hsz, h0, h3, h4]
end Go.Qz
namespace Go.Qz
open Go.Proofs
theorem rdW_sz (ws : Lines) (rest : List UInt8) (n : Nat) (hw : ∀ w ∈ ws, w.length ≤ n) (hr : rest.length ≤ n) :
    (rdW ws rest).1.path.length ≤ n ∧ (rdW ws rest).1.text.length ≤ n ∧ (rdW ws rest).2.1.length ≤ rest.length := by
  have h0 : rd0.1.path.length ≤ n ∧ rd0.1.text.length ≤ n ∧ rd0.2.1.length ≤ rest.length := by simp [rd0, en0]
  unfold rdW
  split
  · exact h0
  · split
    · rename_i w0 w1 w2 e0 e1 e2
      have h1 := hw w1 (List.mem_of_getElem? e1)
      have h2 := hw w2 (List.mem_of_getElem? e2)
      split
      · exact ⟨h1, h2, Nat.le_refl _⟩
      · split
        · exact h0
        · split
          · exact ⟨h2, Nat.zero_le _, Nat.le_refl _⟩
          · split
            · split
              · split
                · split
                  · exact h0
                  · split
                    · split
                      · refine ⟨h2, ?_, ?_⟩
                        · show (rest.take _).length ≤ n
                          rw [List.length_take]; omega
                        · show (rest.drop _).length ≤ rest.length
                          rw [List.length_drop]; omega
                      · exact h0
                    · exact h0
                · exact h0
              · exact h0
            · exact h0
    · exact h0
theorem rdI_sz (t : List UInt8) : (rdI t).1.path.length ≤ t.length ∧ (rdI t).1.text.length ≤ t.length ∧ (t ≠ [] → (rdI t).2.1.length < t.length) := by
  unfold rdI
  cases hb : brk 10 t with
  | none => simp only [rd0, en0]; exact ⟨Nat.zero_le _, Nat.zero_le _, fun h => List.length_pos_iff.2 h⟩
  | some p =>
    obtain ⟨line, rest⟩ := p
    have hl := brk_len hb
    obtain ⟨h1, h2, h3⟩ := rdW_sz (cutP 32 4 [] line) rest t.length (fun w hw => by have := cutP_len 32 line 4 [] w hw; simp at this; omega) (by omega)
    exact ⟨h1, h2, fun _ => by simp only; omega⟩
def goR : Nat → List En → List UInt8 → List En × Bool
  | 0, _, _ => ([], false)
  | n + 1, acc, r => if r = [] then (if treeOk acc then (acc, true) else ([], false))
    else if (rdI r).2.2 = false then ([], false)
    else if acc.length = 16 then ([], false)
    else goR n (acc ++ [(rdI r).1]) (rdI r).2.1
def treeR (t : List UInt8) : List En × Bool := goR (t.length + 1) [] t
theorem TreeReadI_ev (t : List UInt8) (ht : t.length ≤ 1048576) : C fn_i_TreeRead [.ro (T t)] [] = some (.tup [.own (ES (treeR t).1), .ro (.bool (treeR t).2)], []) := by
  refine ctx_call Tryd.func7 conv_i_TreeRead rfl ?_
  simp
  refine loop_run (fun m e => ∃ (acc : List En) (u : List UInt8) (n : Nat), m = u.length ∧ u.length < n ∧ u.length ≤ t.length ∧ acc.length ≤ 16 ∧ (∀ x ∈ acc, enSz x) ∧ e.size = 34 ∧ e.get 4 = .one (.own (ES acc)) ∧ e.get 5 = .one (.ro (T u)) ∧ goR n acc u = treeR t)
    ?_ t.length _ ⟨[], t, t.length + 1, rfl, by omega, Nat.le_refl _, by simp, by simp, by simp, by simp, by simp, rfl⟩
  rintro m e ⟨acc, u, n, rfl, hn, hu, hacc, hl, hsz, h4, h5, hr⟩ ih
  obtain ⟨n, rfl⟩ : ∃ k, n = k + 1 := ⟨n - 1, by omega⟩
  rw [goR] at hr
  rw [← hr]
  by_cases hnil : u = []
  · subst hnil
    rw [if_pos rfl]
    have hok := TreeOkI_ev acc hl (by omega)
    cases hb : treeOk acc with
    | true => rw [hb] at hok; simp [hsz, h4, h5, hok]
    | false => rw [hb] at hok; simp [hsz, h4, h5, hok]
  · rw [if_neg hnil]
    have hh := readEntry_ev u (by omega)
    obtain ⟨p1, p2, p3⟩ := rdI_sz u
    replace p3 := p3 hnil
    rw [if_neg hnil] at hr
    generalize rdI u = q at *
    obtain ⟨x, u', ok⟩ := q
    simp only at hh p1 p2 p3 hr ⊢
    cases ok with
    | false => simp [hsz, h4, h5, hnil, hh]
    | true =>
      have ha : acc.length + 1 ≤ appendMax := by simp [appendMax]; omega
      by_cases h16 : acc.length = 16
      · simp [hsz, h4, h5, hnil, hh, h16]
      · have hne : (acc.length == 16) = false := by rw [beq_eq_false_iff_ne]; omega
        simp only [Bool.true_eq_false, if_false, if_neg h16] at hr ⊢
        rw [hr]
        simp [hsz, h4, h5, hnil, hh, hne, ha]
        exact ih _ _ p3 ⟨acc ++ [x], u', n, rfl, by omega, by omega, by simp; omega, by
          intro y hy
          rcases List.mem_append.1 hy with h1 | h1
          · exact hl y h1
          · obtain rfl := List.mem_singleton.1 h1
            exact ⟨by omega, by omega⟩, by simp [hsz], by simp, by simp, hr⟩
end Go.Qz
namespace Go.Qz
open Go.Proofs
def rsW (ws : Lines) (rest : List UInt8) : RdE :=
  if (ws[0]? == some wDir && ws.length == 3) = true then (match ws[1]?, ws[2]? with
    | some w1, some w2 => (⟨w2, 1, numS w1, []⟩, rest, true)
    | _, _ => rd0)
  else if (ws[0]? == some wLink && ws.length == 3) = true then (match ws[1]?, ws[2]? with
    | some w1, some w2 => (⟨w1, 3, 0, w2⟩, rest, true)
    | _, _ => rd0)
  else if (ws[0]? == some wFile && ws.length == 4) = true then (match ws[1]?, ws[2]?, ws[3]? with
    | some w1, some w2, some w3 => if numS w3 < 0 then rd0 else (match rest[(numS w3).toNat]? with
      | some c => if c == 10 then (⟨w2, 2, numS w1, rest.take (numS w3).toNat⟩, rest.drop ((numS w3).toNat + 1), true) else rd0
      | none => rd0)
    | _, _, _ => rd0)
  else rd0
def rdS (t : List UInt8) : RdE := match brk 10 t with
  | some (line, rest) => rsW (cutP 32 4 [] line) rest
  | none => rd0
theorem cutP_some (b : UInt8) (k : Nat) (pre s : List UInt8) : 0 < (cutP b k pre s).length := by
  induction s generalizing k pre with
  | nil => simp [cutP]
  | cons c r ih =>
    cases k with
    | zero => simp [cutP]
    | succ k =>
      rw [cutP]
      split
      · simp
      · exact ih _ _
set_option maxRecDepth 4000 in
set_option maxHeartbeats 2000000 in
theorem l2Read_ev (t : List UInt8) (ht : t.length ≤ 1048576) : C fn_s_l2Read [.ro (T t)] [] = some (.tup [.ro (ED (rdS t).1), .ro (T (rdS t).2.1), .ro (.bool (rdS t).2.2)], []) := by
  refine ctx_call Tryd.func51 conv_s_l2Read rfl ?_
  have hc := l1Cut_ev t 10 1 1 rfl ht (by omega)
  have h10 : ((10 : UInt8).toNat : Int) = 10 := rfl
  rw [h10, cutP_brk] at hc
  unfold rdS
  cases hb : brk 10 t with
  | none =>
    rw [hb] at hc
    simp only [List.nil_append] at hc
    simp [hc, rd0, en0]
  | some p =>
    obtain ⟨line, rest⟩ := p
    rw [hb] at hc
    simp only [List.nil_append, cutP_zero] at hc
    have hlen := brk_len hb
    have hs := l1Cut_ev line 32 4 4 rfl (by omega) (by omega)
    have h32 : ((32 : UInt8).toNat : Int) = 32 := rfl
    rw [h32] at hs
    have hmem := cutP_len 32 line 4 []
    have hl0 := cutP_some 32 4 [] line
    simp only
    unfold rsW
    generalize cutP 32 4 [] line = ws at *
    obtain ⟨w0, e0⟩ : ∃ w, ws[0] = w := ⟨_, rfl⟩
    have num : ∀ (k : Nat) (h : k < ws.length), C fn_s_l1Num [.ro (T ws[k])] [] = some (.one (.ro (I (numS ws[k]))), []) := fun k h => by
      have := hmem _ (List.getElem_mem h)
      simp only [List.length_nil, Nat.zero_add] at this
      exact l1Num_ev _ (by omega)
    by_cases h3 : ws.length = 3
    · have hl1 : 1 < ws.length := by omega
      have hl2 : 2 < ws.length := by omega
      have hn := num 1 hl1
      obtain ⟨w1, e1⟩ : ∃ w, ws[1] = w := ⟨_, rfl⟩
      obtain ⟨w2, e2⟩ : ∃ w, ws[2] = w := ⟨_, rfl⟩
      rw [e1] at hn
      have h3b : (ws.length == 3) = true := by simpa using h3
      have h4b : (ws.length == 4) = false := by rw [h3]; rfl
      cases k1 : w0 == wDir with
      | true => simp [hc, hs, h3, e0, e1, e2, k1, hn]
      | false =>
        cases k2 : w0 == wLink with
        | true => simp [hc, hs, h3, e0, e1, e2, k1, k2]
        | false => cases k3 : w0 == wFile <;> simp [hc, hs, h3, e0, k1, k2, k3, rd0, en0]
    · have h3b : (ws.length == 3) = false := by simpa using h3
      by_cases h4 : ws.length = 4
      · have hl1 : 1 < ws.length := by omega
        have hl2 : 2 < ws.length := by omega
        have hl3 : 3 < ws.length := by omega
        have hn := num 1 hl1
        have hn3 := num 3 hl3
        obtain ⟨w1, e1⟩ : ∃ w, ws[1] = w := ⟨_, rfl⟩
        obtain ⟨w2, e2⟩ : ∃ w, ws[2] = w := ⟨_, rfl⟩
        obtain ⟨w3, e3⟩ : ∃ w, ws[3] = w := ⟨_, rfl⟩
        rw [e1] at hn
        rw [e3] at hn3
        have h4b : (ws.length == 4) = true := by simpa using h4
        cases k3 : w0 == wFile with
        | false => cases k1 : w0 == wDir <;> cases k2 : w0 == wLink <;> simp [hc, hs, h4, e0, k1, k2, k3, rd0, en0]
        | true =>
          have hw0 : w0 = wFile := by simpa using k3
          have k1 : (w0 == wDir) = false := by rw [hw0]; rfl
          have k2 : (w0 == wLink) = false := by rw [hw0]; rfl
          obtain ⟨n, hnn⟩ : ∃ n, numS w3 = n := ⟨_, rfl⟩
          have hnle := numS_le w3
          rw [hnn] at hn3 hnle
          have hwr : IntKind.i64.wrap ((rest.length : Int) - 1) = (rest.length : Int) - 1 := wrap64 (by omega) (by omega)
          have hin := l1In_ev n 0 ((rest.length : Int) - 1)
          by_cases hneg : n < 0
          · have hi : inI n 0 ((rest.length : Int) - 1) = false := by unfold inI; rw [decide_eq_false (by omega)]; rfl
            rw [hi] at hin
            simp [hc, hs, h4, e0, e1, e2, e3, k1, k2, k3, hn3, hnn, hwr, hin, hneg, rd0, en0]
          · obtain ⟨size, rfl⟩ := Int.eq_ofNat_of_zero_le (show 0 ≤ n by omega)
            rcases Nat.lt_or_ge size rest.length with hr | hr
            · have hi : inI size 0 ((rest.length : Int) - 1) = true := by unfold inI; rw [decide_eq_true (by omega), decide_eq_true (by omega)]; rfl
              rw [hi] at hin
              have hg : rest[size]? = some rest[size] := List.getElem?_eq_getElem hr
              have hr2 : size ≤ rest.length := by omega
              have hr3 : (size : Int) + 1 ≤ rest.length := by omega
              have hr4 : (0 : Int) ≤ (size : Int) + 1 := by omega
              have hws : IntKind.i64.wrap ((size : Int) + 1) = ((size + 1 : Nat) : Int) := wrap64_succ (by omega)
              cases hc10 : rest[size] == 10 with
              | false => simp [hc, hs, h4, e0, e1, e2, e3, k1, k2, k3, hn3, hnn, hwr, hin, hneg, hr, hc10, rd0, en0]
              | true => simp [hc, hs, h4, e0, e1, e2, e3, k1, k2, k3, hn, hn3, hnn, hwr, hin, hneg, hr, hc10, hr2, hr3, hr4, hws]
            · have hi : inI size 0 ((rest.length : Int) - 1) = false := by unfold inI; rw [show decide ((size : Int) ≤ (rest.length : Int) - 1) = false from decide_eq_false (by omega), Bool.and_false]
              rw [hi] at hin
              have hg : rest[size]? = none := List.getElem?_eq_none hr
              simp [hc, hs, h4, e0, e1, e2, e3, k1, k2, k3, hn3, hnn, hwr, hin, hneg, hg, rd0, en0]
      · have h4b : (ws.length == 4) = false := by simpa using h4
        cases k3 : w0 == wFile <;> cases k1 : w0 == wDir <;> cases k2 : w0 == wLink <;> simp [hc, hs, h3b, h4b, hl0, e0, k1, k2, k3, rd0, en0]
end Go.Qz
namespace Go.Qz
open Go.Proofs
theorem cut_join (b : UInt8) : ∀ (s pre : List UInt8) (k : Nat), ∃ x xs, cutP b k pre s = x :: xs ∧ (xs.foldl (fun a w => a ++ b :: w) x) = pre ++ s
  | [], pre, k => ⟨pre, [], by simp [cutP], by simp⟩
  | c :: r, pre, 0 => ⟨pre ++ c :: r, [], by simp [cutP], by simp⟩
  | c :: r, pre, k + 1 => by
    rw [cutP]
    split
    · rename_i hc
      obtain ⟨x, xs, h1, h2⟩ := cut_join b r [] k
      refine ⟨pre, x :: xs, by rw [h1], ?_⟩
      have hcb : c = b := by simpa using hc
      have gen : ∀ (xs : Lines) (p q : List UInt8), xs.foldl (fun a w => a ++ b :: w) (p ++ q) = p ++ xs.foldl (fun a w => a ++ b :: w) q := by
        intro xs
        induction xs with
        | nil => intro p q; rfl
        | cons w r ih => intro p q; rw [List.foldl_cons, List.foldl_cons, List.append_assoc, ih]
      rw [List.foldl_cons, show pre ++ b :: x = (pre ++ [b]) ++ x by simp, gen, h2, hcb]
      simp
    · obtain ⟨x, xs, h1, h2⟩ := cut_join b r (pre ++ [c]) (k + 1)
      exact ⟨x, xs, h1, by rw [h2]; simp⟩
theorem ws3 {b : UInt8} {k : Nat} {s w0 w1 w2 : List UInt8} {ws : Lines} (h : cutP b k [] s = ws) (hl : ws.length = 3) (h0 : ws[0]? = some w0) (h1 : ws[1]? = some w1) (h2 : ws[2]? = some w2) : s = w0 ++ [b] ++ w1 ++ [b] ++ w2 := by
  obtain ⟨x, xs, e1, e2⟩ := cut_join b s [] k
  rw [h] at e1
  subst e1
  match xs, hl with
  | [y, z], _ =>
    simp at h0 h1 h2
    subst h0; subst h1; subst h2
    simpa using e2.symm
theorem ws4 {b : UInt8} {k : Nat} {s w0 w1 w2 w3 : List UInt8} {ws : Lines} (h : cutP b k [] s = ws) (hl : ws.length = 4) (h0 : ws[0]? = some w0) (h1 : ws[1]? = some w1) (h2 : ws[2]? = some w2) (h3 : ws[3]? = some w3) : s = w0 ++ [b] ++ w1 ++ [b] ++ w2 ++ [b] ++ w3 := by
  obtain ⟨x, xs, e1, e2⟩ := cut_join b s [] k
  rw [h] at e1
  subst e1
  match xs, hl with
  | [y, z, u], _ =>
    simp at h0 h1 h2 h3
    subst h0; subst h1; subst h2; subst h3
    simpa using e2.symm
theorem rdW_S {ws : Lines} {rest : List UInt8} (h : (rdW ws rest).2.2 = true) : rsW ws rest = rdW ws rest ∧ modeOk (rdW ws rest).1 ∧
    ∀ line k, cutP 32 k [] line = ws → lineT (rdW ws rest).1 ++ (rdW ws rest).2.1 = line ++ 10 :: rest := by
  have hno : rd0.2.2 = true → False := fun h => by cases h
  revert h
  unfold rdW
  split
  · exact fun h => (hno h).elim
  · split
    · rename_i hl w0 w1 w2 e0 e1 e2
      split
      · rename_i hk
        intro h
        have hk0 : w0 = wLink := by simpa using hk
        have h3 : ws.length = 3 := by simpa using h
        subst hk0
        refine ⟨?_, ⟨by show (0 : Int) ≤ 0; omega, by show (0 : Int) ≤ 7; omega⟩, fun line k hc => ?_⟩
        · unfold rsW
          rw [e0, e1, e2, h3]
          rfl
        · rw [ws3 hc h3 e0 e1 e2]
          simp [lineT]
      · split
        · exact fun h => (hno h).elim
        · rename_i hk hn
          obtain ⟨v, hv⟩ : ∃ v, numI w1 7 = v := ⟨_, rfl⟩
          rw [hv] at hn ⊢
          obtain ⟨mode, ok⟩ := v
          have hok : ok = true := by cases ok <;> simp_all
          subst hok
          have hS := numI_S hv (by omega)
          have hD := numI_is hv
          have hm7 : mode ≤ 7 := by have := numI_le (l := w1) (m := 7) (by rw [hv]); rw [hv] at this; exact this
          split
          · rename_i hk
            intro h
            have hk0 : w0 = wDir := by simpa using hk
            have h3 : ws.length = 3 := by simpa using h
            subst hk0
            refine ⟨?_, ⟨by simp only; omega, by simp only; omega⟩, fun line k hc => ?_⟩
            · unfold rsW
              rw [e0, e1, e2, h3, if_pos (by decide)]
              simp only
              rw [hS]
              rfl
            · rw [ws3 hc h3 e0 e1 e2]
              simp [lineT, hD]
          · split
            · rename_i hk
              have hk0 : w0 = wFile := by simpa using hk
              subst hk0
              split
              · rename_i h4
                have h4 : ws.length = 4 := by simpa using h4
                split
                · rename_i w3 e3
                  split
                  · exact fun h => (hno h).elim
                  · rename_i hn
                    obtain ⟨u, hu⟩ : ∃ u, numI w3 80 = u := ⟨_, rfl⟩
                    rw [hu] at hn ⊢
                    obtain ⟨size, ok⟩ := u
                    have hok : ok = true := by cases ok <;> simp_all
                    subst hok
                    have hS3 := numI_S hu (by omega)
                    have hD3 := numI_is hu
                    simp only
                    split
                    · rename_i c hc
                      split
                      · rename_i hc10
                        intro _
                        have hc10 : c = 10 := by simpa using hc10
                        subst hc10
                        have hlt : size < rest.length := (List.getElem?_eq_some_iff.1 hc).1
                        have hce : rest[size] = 10 := (List.getElem?_eq_some_iff.1 hc).2
                        refine ⟨?_, ⟨by simp only; omega, by simp only; omega⟩, fun line k hcut => ?_⟩
                        · unfold rsW
                          rw [e0, e1, e2, e3, h4, if_neg (by decide), if_neg (by decide), if_pos (by decide)]
                          simp only
                          rw [hS, hS3]
                          have hneg : ¬ (size : Int) < 0 := by omega
                          simp [hneg, hc]
                        · rw [ws4 hcut h4 e0 e1 e2 e3]
                          have hlen : (rest.take size).length = size := by rw [List.length_take]; omega
                          have hr : rest.take size ++ 10 :: rest.drop (size + 1) = rest := by
                            rw [← hce, ← List.drop_eq_getElem_cons hlt, List.take_append_drop]
                          simp only [lineT]
                          rw [hlen]
                          simp [hD, hD3, hr]
                      · exact fun h => (hno h).elim
                    · exact fun h => (hno h).elim
                · exact fun h => (hno h).elim
              · exact fun h => (hno h).elim
            · exact fun h => (hno h).elim
    · exact fun h => (hno h).elim
theorem rdI_S {t : List UInt8} (h : (rdI t).2.2 = true) : rdS t = rdI t ∧ modeOk (rdI t).1 ∧ lineT (rdI t).1 ++ (rdI t).2.1 = t := by
  unfold rdI at h ⊢
  unfold rdS
  cases hb : brk 10 t with
  | none => rw [hb] at h; cases h
  | some p =>
    obtain ⟨line, rest⟩ := p
    rw [hb] at h
    obtain ⟨h1, h2, h3⟩ := rdW_S h
    exact ⟨h1, h2, (h3 line 4 rfl).trans (brk_app hb).symm⟩
theorem rsW_I {ws : Lines} {rest : List UInt8} (h : (rsW ws rest).2.2 = true) (he : entOk (rsW ws rest).1 = true) : rdW ws rest = rsW ws rest := by
  have hno : rd0.2.2 = true → False := fun h => by cases h
  revert h he
  unfold rsW
  split
  · rename_i hc
    simp only [Bool.and_eq_true, beq_iff_eq] at hc
    split
    · rename_i w1 w2 e1 e2
      intro _ he
      unfold entOk at he
      simp only [Bool.and_eq_true, decide_eq_true_eq] at he
      obtain ⟨x, hx⟩ := Int.eq_ofNat_of_zero_le he.2.1
      have hI := numS_I (m := 7) hx (by omega) (by omega)
      unfold rdW
      rw [if_neg (by omega), hc.1, e1, e2]
      simp only
      rw [hI, hx, if_neg (by decide), if_neg (by simp), if_pos (by decide), hc.2]
      rfl
    · exact fun h => (hno h).elim
  · split
    · rename_i hc
      simp only [Bool.and_eq_true, beq_iff_eq] at hc
      split
      · rename_i w1 w2 e1 e2
        intro _ he
        unfold rdW
        rw [if_neg (by omega), hc.1, e1, e2]
        simp only
        rw [if_pos (by decide), hc.2]
        rfl
      · exact fun h => (hno h).elim
    · split
      · rename_i hc
        simp only [Bool.and_eq_true, beq_iff_eq] at hc
        split
        · rename_i w1 w2 w3 e1 e2 e3
          split
          · exact fun h => (hno h).elim
          · rename_i hneg
            split
            · rename_i c hcc
              split
              · rename_i hc10
                intro _ he
                unfold entOk at he
                simp only [Bool.and_eq_true, decide_eq_true_eq] at he
                obtain ⟨x, hx⟩ := Int.eq_ofNat_of_zero_le he.2.1
                obtain ⟨y, hy⟩ := Int.eq_ofNat_of_zero_le (show 0 ≤ numS w3 by omega)
                have hI := numS_I (m := 7) hx (by omega) (by omega)
                rw [hy] at hcc he ⊢
                have hlt := (List.getElem?_eq_some_iff.1 hcc).1
                have h80 : y ≤ 80 := by
                  have h2 := he.2.2.2
                  have k1 : ((2 : Int) == 1) = false := by decide
                  have k2 : ((2 : Int) == 2) = true := by decide
                  rw [if_neg (by simp), if_pos k2] at h2
                  unfold fileT at h2
                  simp only [Bool.and_eq_true, decide_eq_true_eq, List.length_take] at h2
                  simp at hlt
                  have := h2.1
                  simp at this
                  omega
                have hI3 := numS_I (m := 80) hy h80 (by omega)
                unfold rdW
                rw [if_neg (by omega), hc.1, e1, e2]
                simp only
                rw [hI, hx, if_neg (by decide), if_neg (by simp), if_neg (by decide), if_pos (by decide), if_pos (by rw [hc.2]; decide), e3]
                simp only
                rw [hI3, if_neg (by simp)]
                simp only [Int.toNat_natCast] at hcc ⊢
                rw [hcc]
                simp only
                rw [if_pos hc10]
              · exact fun h => (hno h).elim
            · exact fun h => (hno h).elim
        · exact fun h => (hno h).elim
      · exact fun h => (hno h).elim
theorem rdS_I {t : List UInt8} (h : (rdS t).2.2 = true) (he : entOk (rdS t).1 = true) : rdI t = rdS t := by
  unfold rdS at h he ⊢
  unfold rdI
  cases hb : brk 10 t with
  | none => rfl
  | some p =>
    obtain ⟨line, rest⟩ := p
    rw [hb] at h he
    exact rsW_I h he
end Go.Qz
namespace Go.Qz
open Go.Proofs
def goE : Nat → List En → List UInt8 → List En × Bool
  | 0, acc, _ => (acc, false)
  | n + 1, acc, r => if r = [] then (acc, true)
    else if acc.length ≤ 16 then (if (rdS r).2.2 = false then (acc, false) else goE n (acc ++ [(rdS r).1]) (rdS r).2.1)
    else (acc, true)
def treeE (t : List UInt8) : List En × Bool := goE (t.length + 1) [] t
theorem rsW_sz (ws : Lines) (rest : List UInt8) (n : Nat) (hw : ∀ w ∈ ws, w.length ≤ n) (hr : rest.length ≤ n) :
    (rsW ws rest).1.path.length ≤ n ∧ (rsW ws rest).1.text.length ≤ n ∧ (rsW ws rest).2.1.length ≤ rest.length := by
  have h0 : rd0.1.path.length ≤ n ∧ rd0.1.text.length ≤ n ∧ rd0.2.1.length ≤ rest.length := by simp [rd0, en0]
  unfold rsW
  split
  · split
    · rename_i w1 w2 e1 e2
      exact ⟨hw w2 (List.mem_of_getElem? e2), Nat.zero_le _, Nat.le_refl _⟩
    · exact h0
  · split
    · split
      · rename_i w1 w2 e1 e2
        exact ⟨hw w1 (List.mem_of_getElem? e1), hw w2 (List.mem_of_getElem? e2), Nat.le_refl _⟩
      · exact h0
    · split
      · split
        · rename_i w1 w2 w3 e1 e2 e3
          split
          · exact h0
          · split
            · split
              · refine ⟨hw w2 (List.mem_of_getElem? e2), ?_, ?_⟩
                · show (rest.take _).length ≤ n
                  rw [List.length_take]; omega
                · show (rest.drop _).length ≤ rest.length
                  rw [List.length_drop]; omega
              · exact h0
            · exact h0
        · exact h0
      · exact h0
theorem rdS_sz (t : List UInt8) : (rdS t).1.path.length ≤ t.length ∧ (rdS t).1.text.length ≤ t.length ∧ (t ≠ [] → (rdS t).2.1.length < t.length) := by
  unfold rdS
  cases hb : brk 10 t with
  | none => simp only [rd0, en0]; exact ⟨Nat.zero_le _, Nat.zero_le _, fun h => List.length_pos_iff.2 h⟩
  | some p =>
    obtain ⟨line, rest⟩ := p
    have hl := brk_len hb
    obtain ⟨h1, h2, h3⟩ := rsW_sz (cutP 32 4 [] line) rest t.length (fun w hw => by have := cutP_len 32 line 4 [] w hw; simp at this; omega) (by omega)
    exact ⟨h1, h2, fun _ => by simp only; omega⟩
theorem treeOk_parts {es : List En} (h : treeOk es = true) : es.length ≤ 16 ∧ ∀ e ∈ es, entOk e = true := by
  unfold treeOk at h
  rw [Bool.and_eq_true, List.all_eq_true] at h
  refine ⟨by simpa using h.1, fun e he => ?_⟩
  obtain ⟨i, hi, rfl⟩ := List.mem_iff_getElem.1 he
  have h1 := h.2 i (List.mem_range.2 hi)
  rw [Bool.and_eq_true] at h1
  have h2 := h1.1
  unfold formAt at h2
  rw [List.getElem?_eq_getElem hi] at h2
  simp only [Bool.and_eq_true] at h2
  exact h2.1
theorem entOk_mode {e : En} (h : entOk e = true) : modeOk e := by
  unfold entOk at h
  simp only [Bool.and_eq_true, decide_eq_true_eq] at h
  exact ⟨h.2.1, h.2.2.1⟩
theorem goE_app : ∀ (n : Nat) (acc : List En) (r : List UInt8), ∃ mid, (goE n acc r).1 = acc ++ mid
  | 0, acc, r => ⟨[], by simp [goE]⟩
  | n + 1, acc, r => by
    rw [goE]
    split
    · exact ⟨[], by simp⟩
    · split
      · split
        · exact ⟨[], by simp⟩
        · obtain ⟨mid, h⟩ := goE_app n (acc ++ [(rdS r).1]) (rdS r).2.1
          exact ⟨(rdS r).1 :: mid, by rw [h]; simp⟩
      · exact ⟨[], by simp⟩
theorem goR_shape : ∀ (n : Nat) (acc : List En) (r : List UInt8), (goR n acc r).2 = false → goR n acc r = ([], false)
  | 0, acc, r, _ => rfl
  | n + 1, acc, r, h => by
    rw [goR] at h ⊢
    split
    · rename_i hr
      rw [if_pos hr] at h
      split
      · rename_i hq; rw [if_pos hq] at h; cases h
      · rfl
    · rename_i hr
      rw [if_neg hr] at h
      split
      · rfl
      · rename_i h1
        rw [if_neg h1] at h
        split
        · rfl
        · rename_i h2
          rw [if_neg h2] at h
          exact goR_shape n _ _ h
theorem goR_E : ∀ (n : Nat) (acc : List En) (r : List UInt8) (L : List En), acc.length ≤ 16 → goR n acc r = (L, true) → goE n acc r = (L, true) ∧ treeOk L = true ∧ ∃ mid, L = acc ++ mid ∧ linesT mid = r
  | 0, acc, r, L, _, h => by cases h
  | n + 1, acc, r, L, hacc, h => by
    rw [goR] at h
    rw [goE]
    split
    · rename_i hr
      rw [if_pos hr] at h
      split at h
      · rename_i hq
        cases h
        exact ⟨rfl, hq, [], by simp, by rw [hr]; rfl⟩
      · cases h
    · rename_i hr
      rw [if_neg hr] at h
      split at h
      · cases h
      · rename_i h1
        split at h
        · cases h
        · rename_i h2
          have h1 : (rdI r).2.2 = true := by simpa using h1
          obtain ⟨k1, k2, k3⟩ := rdI_S h1
          obtain ⟨m1, m2, mid, m3, m4⟩ := goR_E n _ _ L (by simp; omega) h
          rw [k1, if_neg (by rw [h1]; simp)]
          exact ⟨m1, m2, (rdI r).1 :: mid, by rw [m3]; simp, by rw [linesT, m4, k3]⟩
theorem goE_R : ∀ (n : Nat) (acc : List En) (r : List UInt8) (L : List En), goE n acc r = (L, true) → treeOk L = true → goR n acc r = (L, true)
  | 0, acc, r, L, h, _ => by cases h
  | n + 1, acc, r, L, h, ht => by
    rw [goE] at h
    rw [goR]
    split
    · rename_i hr
      rw [if_pos hr] at h
      cases h
      rw [if_pos ht]
    · rename_i hr
      rw [if_neg hr] at h
      split at h
      · split at h
        · cases h
        · rename_i h1
          have h1 : (rdS r).2.2 = true := by simpa using h1
          obtain ⟨mid, hm⟩ := goE_app n (acc ++ [(rdS r).1]) (rdS r).2.1
          rw [h] at hm
          simp only at hm
          obtain ⟨t1, t2⟩ := treeOk_parts ht
          have he := t2 (rdS r).1 (by rw [hm]; simp)
          have hI := rdS_I h1 he
          have hlen : acc.length ≠ 16 := fun e => by rw [hm] at t1; simp at t1; omega
          rw [hI, if_neg (by rw [h1]; simp), if_neg hlen]
          exact goE_R n _ _ L h ht
      · rename_i hlen
        cases h
        obtain ⟨t1, _⟩ := treeOk_parts ht
        exact absurd t1 hlen
theorem tree_same (t : List UInt8) : treeR t = if ((treeE t).2 && (treeOk (treeE t).1 && linesT (treeE t).1 == t)) = true then ((treeE t).1, true) else ([], false) := by
  unfold treeR treeE
  cases hq : (goR (t.length + 1) [] t).2 with
  | true =>
    obtain ⟨m1, m2, mid, m3, m4⟩ := goR_E (t.length + 1) [] t (goR (t.length + 1) [] t).1 (by simp) (by rw [← hq])
    rw [m1]
    simp only [List.nil_append] at m3
    rw [if_pos (by rw [m2, m3, m4]; simp)]
    rw [← hq]
  | false =>
    rw [goR_shape _ _ _ hq]
    split
    · rename_i hc
      simp only [Bool.and_eq_true] at hc
      have := goE_R (t.length + 1) [] t (goE (t.length + 1) [] t).1 (by rw [← hc.1]) hc.2.1
      rw [this] at hq
      cases hq
    · rfl
theorem l2Entries_ev (t : List UInt8) (ht : t.length ≤ 1048576) : C fn_s_l2Entries [.ro (T t)] [] = some (.tup [.own (ES (treeE t).1), .ro (.bool ((treeE t).2 && (treeOk (treeE t).1 && linesT (treeE t).1 == t)))], []) := by
  refine ctx_call Tryd.func22 conv_s_l2Entries rfl ?_
  simp
  refine loop_run (fun m e => ∃ (acc : List En) (u : List UInt8) (n : Nat), m = u.length ∧ u.length < n ∧ u.length ≤ t.length ∧ acc.length ≤ 17 ∧ (∀ x ∈ acc, enSz x) ∧ e.size = 41 ∧ e.get 0 = .one (.ro (T t)) ∧ e.get 4 = .one (.own (ES acc)) ∧ e.get 5 = .one (.ro (T u)) ∧ goE n acc u = treeE t)
    ?_ t.length _ ⟨[], t, t.length + 1, rfl, by omega, Nat.le_refl _, by simp, by simp, by simp, by simp, by simp, by simp, rfl⟩
  rintro m e ⟨acc, u, n, rfl, hn, hu, hacc, hl, hsz, h0, h4, h5, hr⟩ ih
  obtain ⟨n, rfl⟩ : ∃ k, n = k + 1 := ⟨n - 1, by omega⟩
  rw [goE] at hr
  rw [← hr]
  have hok := TreeOkS_ev acc hl (by omega)
  have fin : ∀ (q : Bool), q = (treeOk acc && linesT acc == t) → (treeOk acc = true → C fn_s_l2Lines [.ro (ES acc)] [] = some (.one (.ro (T (linesT acc))), [])) := fun q _ hq =>
    l2Lines_ev acc (fun x hx => ⟨hl x hx, entOk_mode ((treeOk_parts hq).2 x hx)⟩) (by omega)
  have fin := fin _ rfl
  by_cases hnil : u = []
  · subst hnil
    rw [if_pos rfl]
    cases hb : treeOk acc with
    | true => rw [hb] at hok; have fin := fin hb; simp [hsz, h0, h4, h5, hok, fin]
    | false => rw [hb] at hok; simp [hsz, h0, h4, h5, hok]
  · rw [if_neg hnil] at hr ⊢
    have hne : u.isEmpty = false := by
      cases u with
      | nil => exact absurd rfl hnil
      | cons c r => rfl
    by_cases h16 : acc.length ≤ 16
    · rw [if_pos h16] at hr ⊢
      have hh := l2Read_ev u (by omega)
      obtain ⟨p1, p2, p3⟩ := rdS_sz u
      replace p3 := p3 hnil
      generalize rdS u = q at *
      obtain ⟨x, u', ok⟩ := q
      simp only at hh p1 p2 p3 hr ⊢
      cases ok with
      | false => simp [hsz, h4, h5, hne, hh, h16]
      | true =>
        have ha : acc.length + 1 ≤ appendMax := by simp [appendMax]; omega
        simp only [Bool.true_eq_false, if_false] at hr ⊢
        rw [hr]
        simp [hsz, h4, h5, hne, hh, h16, ha]
        exact ih _ _ p3 ⟨acc ++ [x], u', n, rfl, by omega, by omega, by simp; omega, by
          intro y hy
          rcases List.mem_append.1 hy with h1 | h1
          · exact hl y h1
          · obtain rfl := List.mem_singleton.1 h1
            exact ⟨by omega, by omega⟩, by simp [hsz], by simp [h0], by simp, by simp, hr⟩
    · rw [if_neg h16]
      cases hb : treeOk acc with
      | true => exact absurd (treeOk_parts hb).1 h16
      | false => rw [hb] at hok; simp [hsz, h0, h4, h5, hne, h16, hok]
theorem TreeReadS_ev (t : List UInt8) (ht : t.length ≤ 1048576) : C fn_s_TreeRead [.ro (T t)] [] = some (.tup [.own (ES (treeR t).1), .ro (.bool (treeR t).2)], []) := by
  refine ctx_call Tryd.func6 conv_s_TreeRead rfl ?_
  have h := l2Entries_ev t ht
  rw [tree_same]
  generalize ((treeE t).2 && (treeOk (treeE t).1 && linesT (treeE t).1 == t)) = b at *
  cases b <;> simp [h]
end Go.Qz
namespace Go.Qz
open Go.Proofs
theorem cutAt_mem (b : UInt8) : ∀ (l : List UInt8) (c : UInt8), c ∈ l → c = b ∨ ∃ x ∈ cutAt b l, c ∈ x
  | [], c, h => by cases h
  | a :: r, c, h => by
    rw [cutAt]
    split
    · rename_i ha
      rcases List.mem_cons.1 h with rfl | h
      · exact .inl ha
      · rcases cutAt_mem b r c h with h | ⟨x, hx, hc⟩
        · exact .inl h
        · exact .inr ⟨x, by simp [hx], hc⟩
    · cases hq : cutAt b r with
      | nil => exact absurd hq (cutAt_ne b r)
      | cons y t =>
        rcases List.mem_cons.1 h with rfl | h
        · exact .inr ⟨c :: y, by simp, by simp⟩
        · rcases cutAt_mem b r c h with h | ⟨x, hx, hc⟩
          · exact .inl h
          · rw [hq] at hx
            rcases List.mem_cons.1 hx with rfl | hx
            · exact .inr ⟨a :: x, by simp, by simp [hc]⟩
            · exact .inr ⟨x, by simp [hx], hc⟩
theorem name_free {c : UInt8} (h : nameB c = true) : c ≠ 32 ∧ c ≠ 10 := by
  constructor
  · rintro rfl; revert h; decide
  · rintro rfl; revert h; decide
theorem path_free {p : List UInt8} (h : pathOk p = true) : ∀ c ∈ p, c ≠ 32 ∧ c ≠ 10 := by
  intro c hc
  unfold pathOk at h
  rw [Bool.and_eq_true, List.all_eq_true] at h
  rcases cutAt_mem 47 p c hc with rfl | ⟨x, hx, hcx⟩
  · exact ⟨by decide, by decide⟩
  · have h1 := h.2 x hx
    unfold nameOk at h1
    simp only [Bool.and_eq_true, List.all_eq_true] at h1
    exact name_free (h1.1.2 c hcx)
theorem dec_free (n : Nat) : ∀ c ∈ Lib.decDigits n, c ≠ 32 ∧ c ≠ 10 := fun c hc => fig_ne (dec_fig n c hc)
theorem cut_word {w : List UInt8} (k : Nat) (s : List UInt8) (h : ∀ c ∈ w, c ≠ 32) : cutP 32 (k + 1) [] (w ++ 32 :: s) = w :: cutP 32 k [] s := by
  rw [cutP_brk, brk_name s h]
  rfl
theorem cut_last {w : List UInt8} (k : Nat) (h : ∀ c ∈ w, c ≠ 32) : cutP 32 (k + 1) [] w = [w] := by
  rw [cutP_brk, brk_none h]
  rfl
theorem line_read {e : En} (h : entOk e = true) (r : List UInt8) : rdI (lineT e ++ r) = (e, r, true) := by
  obtain ⟨p, k, m, t⟩ := e
  unfold entOk at h
  simp only [Bool.and_eq_true, decide_eq_true_eq] at h
  obtain ⟨hp, h0, h7, hk⟩ := h
  have hpf := path_free hp
  obtain ⟨n, rfl⟩ := Int.eq_ofNat_of_zero_le h0
  have hn : n ≤ 7 := by omega
  have hdf := dec_free n
  have hnum := numI_dec n 7 hn (by omega)
  unfold rdI
  cases k1 : k == 1 with
  | true =>
    have hk1 : k = 1 := by simpa using k1
    subst hk1
    simp only [BEq.rfl, if_true, beq_iff_eq] at hk
    subst hk
    have e1 : lineT ⟨p, 1, (n : Int), []⟩ ++ r = (wDir ++ 32 :: (Lib.decDigits n ++ 32 :: p)) ++ 10 :: r := by simp [lineT]
    rw [e1, brk_name]
    · simp only
      rw [cut_word 3 _ (by decide), cut_word 2 _ (fun c hc => (hdf c hc).1), cut_last 1 (fun c hc => (hpf c hc).1)]
      simp [rdW, hnum]
    · intro c hc
      simp only [List.mem_append, List.mem_cons] at hc
      rcases hc with hc | rfl | hc | rfl | hc
      · rcases hc with rfl | rfl | rfl | hc <;> first | decide | cases hc
      · decide
      · exact (hdf c hc).2
      · decide
      · exact (hpf c hc).2
  | false =>
    rw [k1] at hk
    cases k2 : k == 2 with
    | true =>
      have hk2 : k = 2 := by simpa using k2
      subst hk2
      rw [k2] at hk
      simp only [Bool.false_eq_true, if_false, if_true] at hk
      unfold fileT at hk
      simp only [Bool.and_eq_true, decide_eq_true_eq] at hk
      have hlen := hk.1
      have hnum2 := numI_dec t.length 80 hlen (by omega)
      have hdf2 := dec_free t.length
      have e1 : lineT ⟨p, 2, (n : Int), t⟩ ++ r = (wFile ++ 32 :: (Lib.decDigits n ++ 32 :: (p ++ 32 :: Lib.decDigits t.length))) ++ 10 :: (t ++ 10 :: r) := by simp [lineT]
      rw [e1, brk_name]
      · simp only
        rw [cut_word 3 _ (by decide), cut_word 2 _ (fun c hc => (hdf c hc).1), cut_word 1 _ (fun c hc => (hpf c hc).1), cut_last 0 (fun c hc => (hdf2 c hc).1)]
        have hg : (t ++ 10 :: r)[t.length]? = some 10 := by simp
        simp [rdW, hnum, hnum2]
      · intro c hc
        simp only [List.mem_append, List.mem_cons] at hc
        rcases hc with hc | rfl | hc | rfl | hc | rfl | hc
        · rcases hc with rfl | rfl | rfl | rfl | hc <;> first | decide | cases hc
        · decide
        · exact (hdf c hc).2
        · decide
        · exact (hpf c hc).2
        · decide
        · exact (hdf2 c hc).2
    | false =>
      rw [k2] at hk
      simp only [Bool.false_eq_true, if_false] at hk
      cases k3 : k == 3 with
      | false => rw [k3] at hk; simp at hk
      | true =>
        have hk3 : k = 3 := by simpa using k3
        subst hk3
        simp only [BEq.rfl, if_true, Bool.and_eq_true, beq_iff_eq] at hk
        obtain ⟨hm0, ht⟩ := hk
        have hn0 : n = 0 := by omega
        subst hn0
        have htf := path_free ht
        have e1 : lineT ⟨p, 3, ((0 : Nat) : Int), t⟩ ++ r = (wLink ++ 32 :: (p ++ 32 :: t)) ++ 10 :: r := by simp [lineT]
        rw [e1, brk_name]
        · simp only
          rw [cut_word 3 _ (by decide), cut_word 2 _ (fun c hc => (hpf c hc).1), cut_last 1 (fun c hc => (htf c hc).1)]
          simp [rdW]
        · intro c hc
          simp only [List.mem_append, List.mem_cons] at hc
          rcases hc with hc | rfl | hc | rfl | hc
          · rcases hc with rfl | rfl | rfl | rfl | hc <;> first | decide | cases hc
          · decide
          · exact (hpf c hc).2
          · decide
          · exact (htf c hc).2
theorem lines_read : ∀ (es acc : List En) (n : Nat), treeOk (acc ++ es) = true → (linesT es).length < n → goR n acc (linesT es) = (acc ++ es, true)
  | [], acc, n, ht, hn => by
    obtain ⟨n, rfl⟩ : ∃ k, n = k + 1 := ⟨n - 1, by omega⟩
    rw [linesT, goR, if_pos rfl]
    rw [List.append_nil] at ht ⊢
    rw [if_pos ht]
  | e :: r, acc, n, ht, hn => by
    obtain ⟨n, rfl⟩ : ∃ k, n = k + 1 := ⟨n - 1, by omega⟩
    obtain ⟨t1, t2⟩ := treeOk_parts ht
    have hr := line_read (t2 e (by simp)) (linesT r)
    rw [linesT] at hn ⊢
    have hne : 0 < (lineT e).length := by
      unfold lineT
      split
      · simp
      · split <;> simp
    have hnil : ¬ lineT e ++ linesT r = [] := by
      intro h
      have := congrArg List.length h
      simp at this
      rw [this.1] at hne
      simp at hne
    rw [goR, if_neg hnil, hr, if_neg (by simp), if_neg (by simp at t1; omega)]
    have := lines_read r (acc ++ [e]) n (by simpa using ht) (by simp at hn; omega)
    rw [this]
    simp
theorem tree_back {es : List En} (h : treeOk es = true) : treeR (linesT es) = (es, true) := by
  unfold treeR
  have := lines_read es [] _ (by simpa using h) (Nat.lt_succ_self _)
  simpa using this
theorem treeR_text {t : List UInt8} (h : (treeR t).2 = true) : treeOk (treeR t).1 = true ∧ linesT (treeR t).1 = t := by
  obtain ⟨_, m2, mid, m3, m4⟩ := goR_E (t.length + 1) [] t (treeR t).1 (by simp) (by show treeR t = _; rw [← h])
  rw [List.nil_append] at m3
  exact ⟨m2, by rw [m3]; exact m4⟩
end Go.Qz
namespace Go.Qz
open Go.Proofs
@[simp] theorem held_entry : Tryd.prog.stoodInHeld 47 = false := by kernel_rfl
@[simp] theorem guard_entry : Tryd.prog.eqGuardType Tryd.prog.depth 47 = false := by kernel_rfl
theorem jsTree_self (es : List En) (hn : es.length ≤ 1048576) : C fn_w_jsTree [.ro (ES es), .ro (ES es)] [] = some (.one (.ro (.bool true)), []) := by
  refine ctx_call Tryd.func20 conv_w_jsTree rfl ?_
  simp
  refine loop_run (fun m e => ∃ i, m = es.length - i ∧ i ≤ es.length ∧ e.size = 26 ∧ e.get 0 = .one (.ro (ES es)) ∧ e.get 1 = .one (.ro (ES es)) ∧ e.get 5 = .one (.ro (N i)))
    ?_ es.length _ ⟨0, rfl, Nat.zero_le _, by simp, by simp, by simp, by simp⟩
  rintro m e ⟨i, rfl, hi, hsz, h0, h1, h5⟩ ih
  rcases Nat.lt_or_ge i es.length with hlt | hge
  · have hwi : IntKind.i64.wrap ((i : Int) + 1) = ((i + 1 : Nat) : Int) := wrap64_succ (by omega)
    simp [hsz, h0, h1, h5, hlt, hwi]
    exact ih _ _ (by omega) ⟨i + 1, rfl, by omega, by simp [hsz], by simp [h0], by simp [h1], by simp⟩
  · obtain rfl : i = es.length := by omega
    simp [hsz, h0, h5]
theorem TreeTextS_ev (es : List En) (hb : ∀ e ∈ es, enSz e) (hn : es.length ≤ 1000) : C fn_s_TreeText [.ro (ES es)] [] = some (.one (.ro (T (if treeOk es then linesT es else []))), []) := by
  refine ctx_call Tryd.func18 conv_s_TreeText rfl ?_
  have hok := TreeOkS_ev es hb (by omega)
  cases ho : treeOk es with
  | false => rw [ho] at hok; simp [hok]
  | true =>
    rw [ho] at hok
    have hl := l2Lines_ev es (fun e he => ⟨hb e he, entOk_mode ((treeOk_parts ho).2 e he)⟩) hn
    simp [hok, hl]
end Go.Qz
namespace Go.Qz
open Go.Proofs
theorem SmT.up {es : List En} {n m : Nat} (h : SmT es n) (hm : n ≤ m) : SmT es m := ⟨by have := h.len; omega, h.each⟩
def TreeOut (bs : List Int) (n k : Nat) (r : V × Boxes) : Prop := ∃ (es : List En) (j : Nat), SmT es n ∧ j ≤ k ∧ r = (.one (.own (ES es)), [(5000, RB bs j)])
section
variable {bs : List Int} (hb : Seed bs) {i : Nat}
include hb
set_option maxRecDepth 4000 in
set_option maxHeartbeats 1000000 in
theorem tree_ev (hi : i ≤ 10000) : Ends (TreeOut bs 40 (i + 50)) (C fn_s_l11Tree [.ptr 5000 0] [(5000, RB bs i)]) := by
  refine call_ex Tryd.func50 conv_s_l11Tree rfl ?_
  simp
  let dirs : Lines := [[97], [108, 105, 98], [98, 105, 110], [100, 111, 99], [97, 47, 98]]
  refine loop_ex (fun m e => ∃ (k : Nat) (es : List En) (j : Nat), m = 5 - k ∧ k ≤ 5 ∧ SmT es k ∧ j ≤ i + k ∧ e.size = 59 ∧ e.get 0 = .one (.ptr 5000 0) ∧ e.get 3 = .one (.own (ES es)) ∧ e.get 4 = .one (.own (SS dirs)) ∧ e.get 5 = .one (.ro (N k)) ∧ e.box 5000 = some (RB bs j))
    ?_ 5 _ ⟨0, [], i, rfl, by omega, ⟨by simp, by simp⟩, by omega, by simp, by simp, by simp, by simp [dirs], by simp, by simp⟩
  rintro m e ⟨k, es, j, rfl, hk, hes, hj, hsz, h0, h3, h4, h5, b5⟩ ih
  have hwk : IntKind.i64.wrap ((k : Int) + 1) = ((k + 1 : Nat) : Int) := wrap64_succ (by omega)
  rcases Nat.lt_or_ge k 5 with hlt | hge
  · obtain ⟨r, j1, hr, hj1, c1⟩ := draw_pick hb (i := j) (by omega) 2 2 rfl (by omega) (by omega)
    have hkd : k < dirs.length := hlt
    by_cases hr0 : r = 0
    · subst hr0
      have hsm : enSm ⟨dirs[k], 1, 7, []⟩ := by
        refine ⟨?_, by simp⟩
        have : ∀ x ∈ dirs, x.length ≤ 200 := by decide
        exact this _ (List.getElem_mem hkd)
      obtain ⟨es', b, hes', c2⟩ := put_ev es k hes (by omega) _ hsm
      generalize hd : dirs[k] = dk at *
      have hg : (dirs.map T)[k]? = some (T dk) := by rw [List.getElem?_map, List.getElem?_eq_getElem hkd, hd]; rfl
      have hlen : dirs.length = 5 := rfl
      generalize dirs = ds at *
      simp [hsz, h0, h3, h4, h5, b5, hlt, hlen, hd, c1, c2, hwk]
      exact ih _ _ (by omega) ⟨k + 1, es', j1, rfl, by omega, hes', by omega, by simp [hsz], by simp [h0], by simp, by simp [h4], by simp, by simp⟩
    · have hr0' : (r == 0) = false := by simpa using hr0
      have hlen : dirs.length = 5 := rfl
      generalize dirs = ds at *
      simp [hsz, h0, h4, h5, b5, hlt, hlen, c1, hr0', hwk]
      exact ih _ _ (by omega) ⟨k + 1, es, j1, rfl, by omega, hes.up (by omega), by omega, by simp [hsz], by simp [h0], by simp [h3], by simp [h4], by simp, by simp⟩
  · obtain rfl : k = 5 := by omega
    obtain ⟨n, j1, hn, hj1, c1⟩ := draw_pick hb (i := j) (by omega) 7 7 rfl (by omega) (by omega)
    have hlen : dirs.length = 5 := rfl
    generalize dirs = ds at *
    simp [hsz, h0, h4, h5, b5, hlen, c1]
    clear ih hwk
    refine loop_ex (fun m e => ∃ (es : List En) (j : Nat), SmT es (12 - m) ∧ m ≤ 6 ∧ j + 4 * m ≤ i + 30 ∧ e.size = 59 ∧ e.get 0 = .one (.ptr 5000 0) ∧ e.get 3 = .one (.own (ES es)) ∧ e.get 6 = .one (.ro (N m)) ∧ e.box 5000 = some (RB bs j))
      ?_ n _ ⟨es, j1, hes.up (by omega), by omega, by omega, by simp [hsz], by simp [h0], by simp [h3], by simp, by simp⟩
    clear hsz h0 h3 h4 h5 b5 c1 hes
    rintro m e ⟨es, j, hes, hm, hj, hsz, h0, h3, h6, b5⟩ ih
    rcases Nat.eq_zero_or_pos m with rfl | hp
    · obtain ⟨r, j2, hr, hj2, c2⟩ := draw_pick hb (i := j) (by omega) 30 30 rfl (by omega) (by omega)
      by_cases hr0 : r = 0
      · subst hr0
        simp [hsz, h0, h6, b5, c2]
        clear ih
        refine loop_ex (fun m e => ∃ (k : Nat) (es : List En), m = 16 - k ∧ k ≤ 16 ∧ SmT es (12 + k) ∧ e.size = 59 ∧ e.get 3 = .one (.own (ES es)) ∧ e.get 7 = .one (.ro (N k)) ∧ e.box 5000 = some (RB bs j2))
          ?_ 16 _ ⟨0, es, rfl, by omega, hes.up (by omega), by simp [hsz], by simp [h3], by simp, by simp⟩
        clear hsz h0 h3 h6 b5 c2 hes
        rintro m e ⟨k, es, rfl, hk, hes, hsz, h3, h7, b5⟩ ih
        rcases Nat.lt_or_ge k 16 with hlt | hge
        · have hwk : IntKind.i64.wrap ((k : Int) + 1) = ((k + 1 : Nat) : Int) := wrap64_succ (by omega)
          have hdec := l1Dec_ev k (by omega)
          have hdl := dec7 k (by omega)
          generalize Lib.decDigits k = dk at *
          have hms : 1 + dk.length ≤ maxStr := by unfold maxStr; omega
          obtain ⟨es', b, hes', c3⟩ := put_ev es (12 + k) hes (by omega) ⟨102 :: dk, 2, 0, []⟩ ⟨by simp; omega, by simp⟩
          simp [hsz, h3, h7, hlt, hdec, hms, c3, hwk]
          exact ih _ _ (by omega) ⟨k + 1, es', rfl, by omega, hes'.up (by omega), by simp [hsz], by simp, by simp, by simp [b5]⟩
        · obtain rfl : k = 16 := by omega
          simp [hsz, h3, h7, b5]
          exact .of ⟨es, j2, hes.up (by omega), by omega, rfl⟩
      · have hr0' : (r == 0) = false := by simpa using hr0
        simp [hsz, h0, h3, h6, b5, c2, hr0']
        exact .of ⟨es, j2, hes.up (by omega), by omega, rfl⟩
    · have hwm : IntKind.i64.wrap ((m : Int) - 1) = ((m - 1 : Nat) : Int) := by rw [wrap64 (by omega) (by omega)]; omega
      obtain ⟨x, j2, hx, hj2, c2⟩ := entry_ev hb (i := j) (by omega)
      obtain ⟨es', b, hes', c3⟩ := put_ev es (12 - m) hes (by omega) x hx
      simp [hsz, h0, h3, h6, b5, hp, c2, c3, hwm]
      exact ih (m - 1) _ (by omega) ⟨es', j2, hes'.up (by omega), by omega, by omega, by simp [hsz], by simp [h0], by simp, by simp, by simp⟩
end
end Go.Qz
namespace Go.Qz
open Go.Proofs
theorem small_line {e : En} (_ : entOk e = true) (_ : enSz e) : lineT e = (if e.kind == 1 then 100 :: 105 :: 114 :: 32 :: (Lib.decDigits e.mode.toNat ++ 32 :: (e.path ++ [10]))
    else if e.kind == 3 then 108 :: 105 :: 110 :: 107 :: 32 :: (e.path ++ 32 :: (e.text ++ [10]))
    else (102 :: 105 :: 108 :: 101 :: 32 :: (Lib.decDigits e.mode.toNat ++ 32 :: (e.path ++ 32 :: (Lib.decDigits e.text.length ++ [10])))) ++ (e.text ++ [10])) := by
  unfold lineT
  split
  · simp
  · split
    · simp
    · simp
theorem ent_kind {e : En} (h : entOk e = true) : e.kind = 1 ∨ e.kind = 2 ∨ e.kind = 3 := by
  unfold entOk at h
  simp only [Bool.and_eq_true] at h
  have h := h.2.2.2
  cases k1 : e.kind == 1 with
  | true => exact .inl (by simpa using k1)
  | false =>
    rw [k1] at h
    cases k2 : e.kind == 2 with
    | true => exact .inr (.inl (by simpa using k2))
    | false =>
      rw [k2] at h
      cases k3 : e.kind == 3 with
      | true => exact .inr (.inr (by simpa using k3))
      | false => rw [k3] at h; simp at h
set_option maxHeartbeats 2000000 in
set_option maxRecDepth 4000 in
theorem TreeTextI_ev (es : List En) (hb : ∀ e ∈ es, enSz e) (hn : es.length ≤ 1000) : C fn_i_TreeText [.ro (ES es)] [] = some (.one (.ro (T (if treeOk es then linesT es else []))), []) := by
  refine ctx_call Tryd.func17 conv_i_TreeText rfl ?_
  have hok := TreeOkI_ev es hb (by omega)
  cases ho : treeOk es with
  | false => rw [ho] at hok; simp [hok]
  | true =>
    rw [ho] at hok
    have hent := (treeOk_parts ho).2
    have htot := linesT_len es (fun e he => ⟨hb e he, entOk_mode (hent e he)⟩)
    have htot2 : es.length * 2097252 ≤ 1000 * 2097252 := Nat.mul_le_mul_right _ hn
    simp [hok]
    refine loop_run (fun m e => ∃ i l a0, m = es.length - i ∧ i ≤ es.length ∧ e.size = 64 ∧ e.get 3 = .one (.ptr 3 0) ∧ e.box 3 = some [a0, .own (.bs 5 ⟨l.toArray⟩)] ∧ (a0 = .bnil 69 ∨ a0 = .selfp) ∧ e.get 10 = .one (.ro (ES es)) ∧ e.get 11 = .one (.ro (N es.length)) ∧ e.get 12 = .one (.ro (N i)) ∧ l ++ linesT (es.drop i) = linesT es)
      ?_ es.length _ ⟨0, [], .bnil 69, rfl, Nat.zero_le _, by simp, by simp, by simp; rfl, .inl rfl, by simp, by simp, by simp, rfl⟩
    rintro m e ⟨i, l, a0, rfl, hi, hsz, h3, hb3, ha0, h10, h11, h12, hr⟩ ih
    rcases Nat.lt_or_ge i es.length with hlt | hge
    · have hwi : IntKind.i64.wrap ((i : Int) + 1) = ((i + 1 : Nat) : Int) := wrap64_succ (by omega)
      have hd : es.drop i = es[i] :: es.drop (i + 1) := List.drop_eq_getElem_cons hlt
      have hmem := List.getElem_mem hlt
      have hszi := hb _ hmem
      have hm := entOk_mode (hent _ hmem)
      have hkind := ent_kind (hent _ hmem)
      rw [hd, linesT, small_line (hent _ hmem) hszi] at hr
      have hlen := congrArg List.length hr
      simp only [List.length_append] at hlen
      have e1 := itoaI_ev es[i].mode hm.1 (by have := hm.2; omega)
      have e2 := itoaN_ev es[i].text.length (by have := hszi.2; omega)
      have g1 := hszi.1
      have g2 := hszi.2
      have g3 := dec7 es[i].mode.toNat (by have := hm.2; omega)
      have g4 := dec7 es[i].text.length (by omega)
      generalize Lib.decDigits es[i].mode.toNat = dm at *
      generalize Lib.decDigits es[i].text.length = dt at *
      have hll : l.length ≤ 2097252000 := by omega
      generalize hp : es[i].path = p at *
      generalize ht : es[i].text = t at *
      rcases hkind with k | k | k
      · have k1 : (es[i].kind == 1) = true := by simpa using k
        rw [if_pos k1] at hr
        have w := write_ev ha0 l (100 :: 105 :: 114 :: 32 :: (dm ++ 32 :: (p ++ [10]))) (by simp [appendMax]; omega)
        have z0 : 4 + dm.length ≤ maxStr := by unfold maxStr; omega
        have z1 : dm.length + 1 + 1 + 1 + 1 + 1 ≤ maxStr := by unfold maxStr; omega
        have z2 : dm.length + 1 + 1 + 1 + 1 + 1 + p.length ≤ maxStr := by unfold maxStr; omega
        have z3 : dm.length + (p.length + 1) + 1 + 1 + 1 + 1 + 1 ≤ maxStr := by unfold maxStr; omega
        rcases ha0 with rfl | rfl
        all_goals
          simp [hsz, h3, hb3, h10, h11, h12, hlt, hwi, k, hp, ht, e1, w, z0, z1, z2, z3]
          exact ih _ _ (by omega) ⟨i + 1, _, .selfp, rfl, by omega, by simp [hsz], by simp [h3], by simp; rfl, .inr rfl, by simp [h10], by simp [h11], by simp, by rw [← hr]; simp⟩
      · have k1 : (es[i].kind == 1) = false := by rw [k]; rfl
        have k3 : (es[i].kind == 3) = false := by rw [k]; rfl
        rw [if_neg (by rw [k1]; simp), if_neg (by rw [k3]; simp)] at hr
        have w := write_ev ha0 l (102 :: 105 :: 108 :: 101 :: 32 :: (dm ++ 32 :: (p ++ 32 :: (dt ++ [10])))) (by simp [appendMax]; omega)
        have w2 := write2_ev (l ++ 102 :: 105 :: 108 :: 101 :: 32 :: (dm ++ 32 :: (p ++ 32 :: (dt ++ [10])))) (t ++ [10]) (by simp [appendMax]; omega)
        have z0 : 5 + dm.length ≤ maxStr := by unfold maxStr; omega
        have z1 : dm.length + 1 + 1 + 1 + 1 + 1 + 1 ≤ maxStr := by unfold maxStr; omega
        have z2 : dm.length + 1 + 1 + 1 + 1 + 1 + 1 + p.length ≤ maxStr := by unfold maxStr; omega
        have z3 : dm.length + (p.length + 1) + 1 + 1 + 1 + 1 + 1 + 1 ≤ maxStr := by unfold maxStr; omega
        have z4 : dm.length + (p.length + 1 + 1) + 1 + 1 + 1 + 1 + 1 + dt.length ≤ maxStr := by unfold maxStr; omega
        have z5 : dm.length + (p.length + (dt.length + 1) + 1) + 1 + 1 + 1 + 1 + 1 + 1 ≤ maxStr := by unfold maxStr; omega
        have z6 : t.length + 1 ≤ maxStr := by unfold maxStr; omega
        rcases ha0 with rfl | rfl
        all_goals
          simp [hsz, h3, hb3, h10, h11, h12, hlt, hwi, k, hp, ht, e1, e2, w, w2, z0, z1, z2, z3, z4, z5, z6]
          exact ih _ _ (by omega) ⟨i + 1, _, .selfp, rfl, by omega, by simp [hsz], by simp [h3], by simp; rfl, .inr rfl, by simp [h10], by simp [h11], by simp, by rw [← hr]; simp⟩
      · have k1 : (es[i].kind == 1) = false := by rw [k]; rfl
        have k2 : (es[i].kind == 2) = false := by rw [k]; rfl
        have k3 : (es[i].kind == 3) = true := by rw [k]; rfl
        rw [if_neg (by rw [k1]; simp), if_pos k3] at hr
        have w := write_ev ha0 l (108 :: 105 :: 110 :: 107 :: 32 :: (p ++ 32 :: (t ++ [10]))) (by simp [appendMax]; omega)
        have z0 : 5 + p.length ≤ maxStr := by unfold maxStr; omega
        have z1 : p.length + 1 + 1 + 1 + 1 + 1 + 1 ≤ maxStr := by unfold maxStr; omega
        have z2 : p.length + 1 + 1 + 1 + 1 + 1 + 1 + t.length ≤ maxStr := by unfold maxStr; omega
        have z3 : p.length + (t.length + 1) + 1 + 1 + 1 + 1 + 1 + 1 ≤ maxStr := by unfold maxStr; omega
        rcases ha0 with rfl | rfl
        all_goals
          simp [hsz, h3, hb3, h10, h11, h12, hlt, hwi, k, hp, ht, e1, w, z0, z1, z2, z3]
          exact ih _ _ (by omega) ⟨i + 1, _, .selfp, rfl, by omega, by simp [hsz], by simp [h3], by simp; rfl, .inr rfl, by simp [h10], by simp [h11], by simp, by rw [← hr]; simp⟩
    · obtain rfl : i = es.length := by omega
      rw [List.drop_length] at hr
      simp [linesT] at hr
      subst hr
      have e4 := text_ev a0 (linesT es)
      rcases ha0 with rfl | rfl <;> simp [hsz, h3, hb3, h11, h12, e4]
end Go.Qz
namespace Go.Qz
open Go.Proofs
section
variable {bs : List Int} (hb : Seed bs) {i : Nat}
include hb
set_option maxRecDepth 4000 in
theorem anyTree_ev (hi : i ≤ 1000) : Ends (TreeOut bs 41 (i + 100)) (C fn_s_l11AnyTree [.ptr 5000 0] [(5000, RB bs i)]) := by
  refine call_ex Tryd.func41 conv_s_l11AnyTree rfl ?_
  obtain ⟨r1, ⟨es, j, hes, hj, rfl⟩, hl⟩ := tree_ev hb (i := i) (by omega)
  have hlen := hes.len
  have hcp := copy_ev es (by omega)
  obtain ⟨k, j2, hk, hj2, c2⟩ := draw_pick hb (i := j) (by omega) 14 14 rfl (by omega) (by omega)
  by_cases k0 : k = 0
  · subst k0
    obtain ⟨x, j3, hx, hj3, c3⟩ := anyEntry_ev hb (i := j2) (by omega)
    have ha : es.length + 1 ≤ appendMax := by simp [appendMax]; omega
    simp [hl, hcp, c2, c3, ha]
    exact .of ⟨es ++ [x], j3, ⟨by simp; omega, fun y hy => by
      rcases List.mem_append.1 hy with h | h
      · exact hes.each y h
      · obtain rfl := List.mem_singleton.1 h
        exact hx⟩, by omega, by simp⟩
  · by_cases k1 : k = 1
    · subst k1
      by_cases h0 : es.length = 0
      · have : es = [] := List.length_eq_zero_iff.1 h0
        subst this
        simp [hl, hcp, c2]
        exact .of ⟨[], j2, ⟨by simp, by simp⟩, by omega, by simp⟩
      · have hp : 0 < es.length := by omega
        obtain ⟨n, j3, hn, hj3, c3⟩ := draw_pick hb (i := j2) (by omega) es.length es.length rfl hp (by omega)
        obtain ⟨x, j4, hx, hj4, c4⟩ := anyEntry_ev hb (i := j3) (by omega)
        simp [hl, hcp, c2, c3, c4, hp, hn]
        exact .of ⟨es.set n x, j4, ⟨by simp; omega, fun y hy => by
          rcases List.mem_or_eq_of_mem_set hy with h | rfl
          · exact hes.each y h
          · exact hx⟩, by omega, by simp [List.map_set]⟩
    · have b0 : (k == 0) = false := by simpa using k0
      have b1 : (k == 1) = false := by simpa using k1
      simp [hl, hcp, c2, b0, b1]
      exact .of ⟨es, j2, hes.up (by omega), by omega, by simp⟩
def TextOut (bs : List Int) (n k : Nat) (r : V × Boxes) : Prop := ∃ (s : List UInt8) (j : Nat), s.length ≤ n ∧ j ≤ k ∧ r = (.one (.ro (T s)), [(5000, RB bs j)])
theorem cutDraw_ev (s : List UInt8) (hs : s.length ≤ 90000) (hi : i ≤ 1000) : Ends (TextOut bs (s.length + 1) (i + 3)) (C fn_s_l11Cut [.ptr 5000 0, .ro (T s)] [(5000, RB bs i)]) := by
  refine call_ex Tryd.func49 conv_s_l11Cut rfl ?_
  have hw : IntKind.i64.wrap ((s.length : Int) + 1) = (s.length : Int) + 1 := wrap64 (by omega) (by omega)
  obtain ⟨k, j1, hk, hj1, c1⟩ := draw_pick hb (i := i) (by omega) (s.length + 1) ((s.length : Int) + 1) (by omega) (by omega) (by omega)
  obtain ⟨n, j2, hn, hj2, c2⟩ := draw_pick hb (i := j1) (by omega) 5 5 rfl (by omega) (by omega)
  have hkl : k ≤ s.length := by omega
  have hkl' : (k : Int) ≤ s.length := by omega
  by_cases n0 : n = 0
  · subst n0
    obtain ⟨x, j3, hx, hj3, c3⟩ := draw_of hb (i := j2) (by omega) [[32], [10], [48], [120], [47], [45]] (by simp) (by simp)
    simp only [List.map_cons, List.map_nil] at c3
    have hxl : x.length = 1 := by
      clear c3
      revert x
      decide
    have m1 : k + x.length ≤ maxStr := by unfold maxStr; omega
    have m2 : k + x.length + (s.length - k) ≤ maxStr := by unfold maxStr; omega
    simp [hw, c1, c2, c3, hkl, hkl', m1, m2]
    exact .of ⟨s.take k ++ (x ++ s.drop k), j3, by simp; omega, by omega, by simp⟩
  · by_cases n1 : n = 1
    · subst n1
      simp [hw, c1, c2, hkl']
      exact .of ⟨s.take k, j2, by simp; omega, by omega, by simp⟩
    · have b0 : (n == 0) = false := by simpa using n0
      have b1 : (n == 1) = false := by simpa using n1
      simp [hw, c1, c2, b0, b1]
      exact .of ⟨s, j2, by omega, by omega, by simp⟩
end
theorem seed_take {bs : List Int} (hb : ∀ b ∈ bs, 0 ≤ b ∧ b ≤ 255) : Seed (bs.take 2000) := ⟨fun b h => hb b (List.mem_of_mem_take h), by simp; omega⟩
theorem drawTreeText_ev (bs : List Int) (hb : ∀ b ∈ bs, 0 ≤ b ∧ b ≤ 255) : ∃ es : List En, SmT es 41 ∧ C fn_s_DrawTreeText [.ro (BS bs)] [] = some (.one (.own (ES es)), []) := by
  have h : Ends (fun r => ∃ es : List En, SmT es 41 ∧ r = (.one (.own (ES es)), [])) (C fn_s_DrawTreeText [.ro (BS bs)] []) := by
    refine call_ex Tryd.func16 conv_s_DrawTreeText rfl ?_
    have hs := seed_take hb
    have ho := open_ev (bs.map (D.int .u8))
    rw [← List.map_take] at ho
    generalize bs.take 2000 = ts at *
    obtain ⟨r1, ⟨es, j, hes, hj, rfl⟩, hl⟩ := anyTree_ev hs (i := 0) (by omega)
    have hl : C fn_s_l11AnyTree [.ptr 5000 0] [(5000, [.ro (BS ts), .ro (.int .i64 0)])] = some (.one (.own (ES es)), [(5000, RB ts j)]) := hl
    simp [ho, hl]
    exact .of ⟨es, hes, by simp⟩
  obtain ⟨r, ⟨es, h1, rfl⟩, h2⟩ := h
  exact ⟨es, h1, h2⟩
theorem smText {es : List En} {n : Nat} (hes : SmT es n) : (if treeOk es then linesT es else []).length ≤ 90000 := by
  split
  · rename_i hok
    have hent := (treeOk_parts hok).2
    have hn16 := (treeOk_parts hok).1
    have gen : ∀ (es : List En), (∀ e ∈ es, enSm e ∧ modeOk e) → (linesT es).length ≤ es.length * 1000 := by
      intro es
      induction es with
      | nil => intro _; simp [linesT]
      | cons e r ih =>
        intro h
        have h1 : (lineT e).length ≤ 1000 := by
          obtain ⟨⟨p1, p2⟩, m1, m2⟩ := h e (by simp)
          have h3 := dec7 e.mode.toNat (by omega)
          have h4 := dec7 e.text.length (by omega)
          unfold lineT
          split
          · simp; omega
          · split
            · simp; omega
            · simp; omega
        have h2 := ih (fun x hx => h x (by simp [hx]))
        simp only [linesT, List.length_append, List.length_cons]
        omega
    have := gen es (fun e he => ⟨hes.each e he, entOk_mode (hent e he)⟩)
    have h16 : es.length * 1000 ≤ 16 * 1000 := Nat.mul_le_mul_right _ hn16
    omega
  · simp
theorem drawTreeRead_ev (bs : List Int) (hb : ∀ b ∈ bs, 0 ≤ b ∧ b ≤ 255) : ∃ s : List UInt8, s.length ≤ 100000 ∧ C fn_s_DrawTreeRead [.ro (BS bs)] [] = some (.one (.ro (T s)), []) := by
  have h : Ends (fun r => ∃ s : List UInt8, s.length ≤ 100000 ∧ r = (.one (.ro (T s)), [])) (C fn_s_DrawTreeRead [.ro (BS bs)] []) := by
    refine call_ex Tryd.func21 conv_s_DrawTreeRead rfl ?_
    have hs := seed_take hb
    have ho := open_ev (bs.map (D.int .u8))
    rw [← List.map_take] at ho
    generalize bs.take 2000 = ts at *
    obtain ⟨r1, ⟨es, j, hes, hj, rfl⟩, hl⟩ := tree_ev hs (i := 0) (by omega)
    have hl : C fn_s_l11Tree [.ptr 5000 0] [(5000, [.ro (BS ts), .ro (.int .i64 0)])] = some (.one (.own (ES es)), [(5000, RB ts j)]) := hl
    have htx := TreeTextS_ev es (fun e he => enSm_sz (hes.each e he)) (by have := hes.len; omega)
    have hsl := smText hes
    generalize (if treeOk es then linesT es else []) = s at *
    obtain ⟨r2, ⟨s2, j2, hs2, hj2, rfl⟩, hl2⟩ := cutDraw_ev hs s hsl (i := j) (by omega)
    simp [ho, hl, htx, hl2]
    exact .of ⟨s2, by omega, by simp⟩
  obtain ⟨r, ⟨s, h1, rfl⟩, h2⟩ := h
  exact ⟨s, h1, h2⟩
end Go.Qz
namespace Go.Qz
open Go.Proofs
def dig (n : Nat) (l : List UInt8) : List UInt8 := if h : n = 0 then l else dig (n / 10) ((48 + n % 10).toUInt8 :: l)
termination_by n
decreasing_by omega
def mtext (n : Nat) : List UInt8 := if n = 0 then [109, 48] else 109 :: dig n []
def markL (n k : Nat) : Lines := (List.range n).map fun j => mtext (k + j)
@[simp] theorem markL_len (n k : Nat) : (markL n k).length = n := by simp [markL]
end Go.Qz
namespace Go.Qz
open Go.Proofs
end Go.Qz
namespace Go.Qz
open Go.Proofs
@[simp] theorem flats_N (ns : List Nat) : flats (ns.map N) = true := by
  induction ns with
  | nil => rfl
  | cons a r ih => simp [flats, D.flat, ih]
end Go.Qz
namespace Go.Qz
open Go.Proofs
structure Ne where
  name : List UInt8
  kind : Int
  ver : List UInt8
abbrev NeD (e : Ne) : D := .agg [T e.name, I e.kind, T e.ver]
@[simp] theorem flats_NeD (es : List Ne) : flats (es.map NeD) = true := by
  induction es with
  | nil => rfl
  | cons a r ih => simp [flats, D.flat, ih]
end Go.Qz
namespace Go.Qz
open Go.Proofs
end Go.Qz
namespace Go.Qz
open Go.Proofs
theorem treeR_few (t : List UInt8) : (treeR t).1.length ≤ 16 := by
  cases hq : (treeR t).2 with
  | true =>
    obtain ⟨_, m2, _⟩ := goR_E (t.length + 1) [] t (treeR t).1 (by simp) (by show treeR t = _; rw [← hq])
    exact (treeOk_parts m2).1
  | false =>
    have : treeR t = ([], false) := goR_shape _ _ _ hq
    rw [this]; simp
end Go.Qz
namespace Go.Qz
open Go.Proofs
theorem treeText_ev (code more : List Int) (hb : ∀ b ∈ code, 0 ≤ b ∧ b ≤ 255) (hb2 : ∀ b ∈ more, 0 ≤ b ∧ b ≤ 255) : C fn_w_FnTreeText [.ro (BS code), .ro (BS more)] [] = some (.one (.ro (.bool true)), []) := by
  refine ctx_call Tryd.func5 conv_w_FnTreeText rfl ?_
  by_cases hl1 : 1048576 < code.length
  · simp [hl1]
  by_cases hl2 : 1048576 < more.length
  · simp [hl1, hl2]
  obtain ⟨es, hes, d1⟩ := drawTreeText_ev code hb
  obtain ⟨s2, hs2, d2⟩ := drawTreeRead_ev more hb2
  have hb3 : ∀ e ∈ es, enSz e := fun e he => enSm_sz (hes.each e he)
  have hlen := hes.len
  have tI := TreeTextI_ev es hb3 (by omega)
  have tS := TreeTextS_ev es hb3 (by omega)
  have kI := TreeOkI_ev es hb3 (by omega)
  have hsm := smText hes
  have rI := TreeReadI_ev (if treeOk es then linesT es else []) (by omega)
  have r2 := TreeReadI_ev s2 (by omega)
  have r3 := TreeReadS_ev s2 (by omega)
  have few := treeR_few s2
  have hy : (treeR s2).2 = true → C fn_i_TreeText [.ro (ES (treeR s2).1)] [] = some (.one (.ro (T s2)), []) := fun h => by
    obtain ⟨k1, k2⟩ := treeR_text h
    have hent := (treeOk_parts k1).2
    have hz : ∀ e ∈ (treeR s2).1, enSz e := by
      intro e he
      have gen : ∀ (es : List En) (e : En), e ∈ es → e.path.length ≤ (linesT es).length ∧ e.text.length ≤ (linesT es).length ∨ entOk e = false := by
        intro es
        induction es with
        | nil => intro e h; cases h
        | cons x r ih =>
          intro e h
          rw [linesT, List.length_append]
          rcases List.mem_cons.1 h with rfl | h
          · cases ho : entOk e with
            | false => exact .inr rfl
            | true =>
              refine .inl ?_
              have hk := ent_kind ho
              unfold lineT
              rcases hk with k | k | k
              · unfold entOk at ho
                rw [k] at ho ⊢
                simp at ho ⊢
                rw [ho.2.2.2]
                simp; omega
              · rw [k]; simp; omega
              · rw [k]; simp; omega
          · rcases ih e h with h2 | h2
            · exact .inl ⟨by omega, by omega⟩
            · exact .inr h2
      rcases gen _ e he with h2 | h2
      · rw [k2] at h2
        exact ⟨by omega, by omega⟩
      · rw [hent e he] at h2; cases h2
    have := TreeTextI_ev (treeR s2).1 hz (by omega)
    rw [k1, if_pos rfl, k2] at this
    exact this
  have hj2 := jsTree_self (treeR s2).1 (by omega)
  have hj1 := jsTree_self es (by omega)
  have back : treeOk es = true → treeR (linesT es) = (es, true) := tree_back
  generalize treeR s2 = v2 at *
  obtain ⟨y, fine⟩ := v2
  simp only at r2 r3 hy hj2
  cases ho : treeOk es with
  | true =>
    rw [ho] at tI tS kI rI
    simp only [if_true] at tI tS rI
    rw [back ho] at rI
    generalize linesT es = s at *
    cases fine with
    | true =>
      have hy := hy rfl
      simp [hl1, hl2, d1, d2, tI, tS, kI, rI, r2, r3, hj1, hj2, hy]
    | false => simp [hl1, hl2, d1, d2, tI, tS, kI, rI, r2, r3, hj1, hj2]
  | false =>
    rw [ho] at tI tS kI rI
    simp only [Bool.false_eq_true, if_false] at tI tS rI
    generalize treeR [] = v at *
    obtain ⟨x, ok⟩ := v
    simp only at rI
    cases fine with
    | true =>
      have hy := hy rfl
      simp [hl1, hl2, d1, d2, tI, tS, kI, rI, r2, r3, hj2, hy]
    | false => simp [hl1, hl2, d1, d2, tI, tS, kI, rI, r2, r3, hj2]
end Go.Qz
