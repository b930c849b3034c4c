/- The evaluator of the claim and what it says, part Qy0 (several texts in one). -/
import Derived.Test.YtikdjbagodebiaaDoorQv0
import Derived.Test.YtikdjbagodebiaaDoorQx0
import Derived.Test.YtikdjbagodebiaaDoorQr0
import Derived.Test.YtikdjbagodebiaaDoorQw0
namespace Go.Qz
open Go.Proofs Go.RowKit
theorem mixed : Tryd.prog.follows .mixedOrders = true := by kernel_rfl
theorem noGo : (Tryd.prog.funcs.all fun fn => !(fn.name == "runtime.NumGoroutine")) = true := by kernel_rfl
theorem noName (f : FuncId) (fn : Func) (hf : Tryd.prog.funcs[f]? = some fn) : fn.name ≠ "runtime.NumGoroutine" := fun hn => by
  have h := Array.all_eq_true_iff_forall_mem.1 noGo fn (Array.mem_of_getElem? hf)
  rw [hn] at h
  exact absurd h (by decide)
theorem hasBody {f : FuncId} {fn : Func} (hf : Tryd.prog.funcs[f]? = some fn) (hb : fn.body.isSome = true) : HasBody Tryd.prog f := ⟨fn, hf, hb, noName f fn hf⟩
theorem RO.takeSl {c : Mem} {z k cap : Nat} {xs : List D} {a : Option Addr} (h : RO c (.sl z xs) (.slice a xs.length cap)) (hk : k ≤ xs.length) : RO c (.sl z (xs.take k)) (.slice a k cap) := by
  obtain ⟨a', cap', e1, h1, h2⟩ := h.sl_inv
  cases e1
  by_cases hx : xs = []
  · subst hx
    obtain rfl : k = 0 := by simpa using hk
    exact .sl0
  · obtain ⟨b, off, u, rfl, h3, h4, h5⟩ := h2 hx
    have hlen : (xs.take k).length = k := by rw [List.length_take]; omega
    have := @RO.sl c z (xs.take k) b off cap u (by omega) (fun x hx => h3 x (List.mem_of_mem_take hx)) (fun m hm => h4 m (Nat.lt_of_lt_of_le hm (Nat.mul_le_mul_right _ (by omega)))) (fun m d hd => h5 m d (flat_take h3 hk hd))
    rw [hlen] at this
    exact this
theorem xOpen_sound [Base] : CallSound Tryd.prog xOpen := by
  intro f us bx r bx' h
  unfold xOpen at h
  split at h
  · rename_i hf
    subst hf
    split at h
    · rename_i z xs
      split at h
      · rename_i hc
        subst hc
        simp only [Option.some.injEq, Prod.mk.injEq] at h
        obtain ⟨rfl, rfl⟩ := h
        refine ⟨hasBody Tryd.func14 (by kernel_rfl), fun g w vs hsz hs => ?_⟩
        have e0 : RO g.c (.sl 1 xs) (vs.getD 0 undef) := start_get hs (a := .ro (.sl 1 xs)) rfl
        obtain ⟨a, cap, hu, hcap, _⟩ := e0.sl_inv
        have e : vs = #[.slice a xs.length cap] := by
          simp only [List.length_singleton] at hsz
          refine Array.ext (by simpa using hsz) (fun k hk hk' => ?_)
          obtain rfl : k = 0 := by omega
          simpa [Array.getD_eq_getD_getElem?, hk] using hu
        subst e
        have hro : RO g.c (.sl 1 xs) (.slice a xs.length cap) := hu ▸ e0
        have fin : ∀ k, k ≤ xs.length → xs.take 2000 = xs.take k → Post g (startEnv 1 [A.ro (.sl 1 xs)] []) w (.agg [.ro (.sl 1 (xs.take 2000)), .ro (.int .i64 0)]) [] (.pointer (some ⟨w.heap.size, 0, none⟩)) (w.alloc (.cells #[.slice a k cap, .int .i64 0] 66)) := by
          intro k hk he
          refine ⟨#[.slice a k cap, .int .i64 0], 66, rfl, rfl, rfl, fun j d hd => ?_⟩
          match j, hd with
          | 0, hd =>
            simp only [List.getElem?_cons_zero, Option.some.injEq, A.ro.injEq] at hd
            subst hd
            rw [he]
            exact ⟨rfl, hro.takeSl hk⟩
          | 1, hd =>
            simp at hd
            subst hd
            exact ⟨rfl, .int _ _⟩
          | j + 2, hd => simp at hd
        by_cases hlen : xs.length ≤ 2000
        · refine (open_short a xs.length cap hlen w).mono ?_
          rintro en w' ⟨rfl, rfl⟩
          exact ⟨_, rfl, fin xs.length (Nat.le_refl _) (by rw [List.take_of_length_le hlen, List.take_length])⟩
        · refine (open_long a xs.length cap (by omega) hcap w).mono ?_
          rintro en w' ⟨rfl, rfl⟩
          exact ⟨_, rfl, fin 2000 (by omega) rfl⟩
      · cases h
    · cases h
  · cases h
structure Start (W : World) : Prop where
  maxLen : ∃ m : Int, W.cell? ⟨1, 0, none⟩ = some (.int .i64 m)
  pow10 : Lib.TabIs Tryd.prog W "internal/strconv.uint64pow10" .u64 Lib.pow10Tab
theorem XS_sound [Base] (hT : Start Base.W0) : CallSound Tryd.prog XS :=
  orX_sound (xIndex_sound (hasBody Tryd.func60 (by kernel_rfl)) hT.maxLen (fun s t m w h hm => Tryd.strings_Index s t m w h hm)) <|
  orX_sound (xCut_sound (hasBody Tryd.func48 (by kernel_rfl)) hT.maxLen (fun s t m w h hm => Tryd.strings_Cut s t m w h hm)) <|
  orX_sound (xSplitN_sound (hasBody Tryd.func35 (by kernel_rfl)) hT.maxLen (fun s t n m w h hm h1 h2 h3 => Tryd.strings_SplitN s t n m w h hm h1 (by omega) (by omega))) <|
  orX_sound (xItoa_sound (by decide) (hasBody Tryd.func16 (by kernel_rfl)) hT.pow10 (fun n w h0 h1 ht => Tryd.strconv_Itoa n h0 h1 w ht)) <|
  orX_sound (xCopy_sound (hasBody Tryd.func32 (by kernel_rfl)) (fun b w h0 h1 h2 => Tryd.copyCheck_fresh b w h0 h1 h2) (fun b w h0 => Tryd.copyCheck_used b w h0)) <|
  orX_sound (xText_sound (hasBody Tryd.func17 (by kernel_rfl)) (fun s b p v tag w h0 h1 => string_any Tryd.lays169 Tryd.Builder_Extra_169 b s p v tag w h0 h1)) <|
  orX_sound xOpen_sound <|
  noX_sound
theorem seqOk : SeqOk Tryd.prog ioS := fun f hf => by
  rw [seq_is] at hf
  cases hf
theorem sound [Base] (hT : Start Base.W0) : CallSound Tryd.prog C := callLim_sound mixed (XS_sound hT) seqOk noName
end Go.Qz
namespace Go.Qz
open Go.Proofs
abbrev Lines := List (List UInt8)
abbrev SS (xs : Lines) : D := .sl 1 (xs.map T)
abbrev I (n : Int) : D := .int .i64 n
abbrev N (n : Nat) : D := .int .i64 (n : Int)
@[simp] theorem flats_T (xs : Lines) : flats (xs.map T) = true := by
  induction xs with
  | nil => rfl
  | cons a r ih => simp [flats, D.flat, ih]
end Go.Qz
namespace Go.Qz
open Go.Proofs
def plainB (b : UInt8) : Bool := decide (32 ≤ b.toNat) && decide (b.toNat ≤ 126)
def plainT (l : List UInt8) : Bool := decide (l.length ≤ 80) && l.all plainB
def seenT (l : List UInt8) : Bool := l.all plainB && decide (l.length ≤ 80)
theorem seen_plain (l : List UInt8) : seenT l = plainT l := by unfold seenT plainT; exact Bool.and_comm _ _
def inI (n a b : Int) : Bool := decide (a ≤ n) && decide (n ≤ b)
theorem plainByte_ev (b : UInt8) : C fn_i_plainByte [.ro (.int .u8 b.toNat)] [] = some (.one (.ro (.bool (plainB b))), []) := by
  refine ctx_call Tryd.func50 conv_i_plainByte rfl ?_
  unfold plainB
  by_cases h : 32 ≤ b.toNat <;> simp [h]
theorem l1In_ev (n a b : Int) : C fn_s_l1In [.ro (I n), .ro (I a), .ro (I b)] [] = some (.one (.ro (.bool (inI n a b))), []) := by
  refine ctx_call Tryd.func40 conv_s_l1In rfl ?_
  unfold inI
  by_cases h : a ≤ n <;> simp [h]
theorem in_plain (b : UInt8) : inI b.toNat 32 126 = plainB b := by
  unfold inI plainB
  congr 1
  · simp
  · simp
theorem plainText_ev (l : List UInt8) : C fn_i_plainText [.ro (T l)] [] = some (.one (.ro (.bool (plainT l))), []) := by
  refine ctx_call Tryd.func38 conv_i_plainText rfl ?_
  unfold plainT
  by_cases hs : l.length ≤ 80
  · have hs' : ¬ (80 : Int) < l.length := by omega
    simp [hs']
    refine loop_run (fun m e => ∃ i, m = l.length - i ∧ i ≤ l.length ∧ e.size = 18 ∧ e.get 0 = .one (.ro (T l)) ∧ e.get 8 = .one (.ro (N l.length)) ∧ e.get 9 = .one (.ro (N i)) ∧
      (l.drop i).all plainB = l.all plainB) ?_ l.length _ ⟨0, rfl, Nat.zero_le _, by simp, by simp, by simp, by simp, rfl⟩
    rintro m e ⟨i, rfl, hi, hsz, h0, h8, h9, hr⟩ ih
    rcases Nat.lt_or_ge i l.length with hlt | hge
    · have hd : l.drop i = l[i] :: l.drop (i + 1) := List.drop_eq_getElem_cons hlt
      have hwi : IntKind.i64.wrap ((i : Int) + 1) = ((i + 1 : Nat) : Int) := wrap64_succ (by omega)
      rw [hd, List.all_cons] at hr
      cases hp : plainB l[i] with
      | false =>
        rw [hp] at hr
        simp [plainByte_ev, hsz, h0, h8, h9, hlt, hp, hs, ← hr]
      | true =>
        rw [hp, Bool.true_and] at hr
        simp [plainByte_ev, hsz, h0, h8, h9, hlt, hwi, hp]
        exact ih _ _ (by omega) ⟨i + 1, rfl, by omega, by simp [hsz], by simp [h0], by simp [h8], by simp, hr⟩
    · obtain rfl : i = l.length := by omega
      rw [List.drop_length, List.all_nil] at hr
      simp [hsz, h0, h8, h9, hs, ← hr]
  · have hs' : 80 < l.length := by omega
    simp [hs', hs]
theorem l5Seen_ev (l : List UInt8) (hl : l.length ≤ 140737488351232) : C fn_s_l5Seen [.ro (T l)] [] = some (.one (.ro (.bool (seenT l))), []) := by
  refine ctx_call Tryd.func39 conv_s_l5Seen rfl ?_
  unfold seenT
  simp
  refine loop_run (fun m e => ∃ i, m = l.length - i ∧ i ≤ l.length ∧ e.size = 19 ∧ e.get 0 = .one (.ro (T l)) ∧ e.get 3 = .one (.ro (N i)) ∧
    (l.drop i).all plainB = l.all plainB) ?_ l.length _ ⟨0, rfl, Nat.zero_le _, by simp, by simp, by simp, rfl⟩
  rintro m e ⟨i, rfl, hi, hsz, h0, h3, hr⟩ ih
  rcases Nat.lt_or_ge i l.length with hlt | hge
  · have hd : l.drop i = l[i] :: l.drop (i + 1) := List.drop_eq_getElem_cons hlt
    have hwi : IntKind.i64.wrap ((i : Int) + 1) = ((i + 1 : Nat) : Int) := wrap64_succ (by omega)
    have hwb : IntKind.i64.wrap (l[i].toNat : Int) = l[i].toNat := by have := l[i].toNat_lt; exact wrap64 (by omega) (by omega)
    rw [hd, List.all_cons] at hr
    cases hp : plainB l[i] with
    | false =>
      rw [hp] at hr
      simp [l1In_ev, in_plain, hsz, h0, h3, hlt, hwb, hp, ← hr]
    | true =>
      rw [hp, Bool.true_and] at hr
      simp [l1In_ev, in_plain, hsz, h0, h3, hlt, hwi, hwb, hp]
      exact ih _ _ (by omega) ⟨i + 1, rfl, by omega, by simp [hsz], by simp [h0], by simp, hr⟩
  · obtain rfl : i = l.length := by omega
    rw [List.drop_length, List.all_nil] at hr
    simp [hsz, h0, h3, ← hr]
end Go.Qz
namespace Go.Qz
open Go.Proofs
abbrev BS (bs : List Int) : D := .sl 1 (bs.map (D.int .u8))
theorem xor_small {a b : Nat} (ha : a < 4611686018427387904) (hb : b < 4611686018427387904) : ∃ x : Nat, x < 4611686018427387904 ∧ IntKind.i64.wrap ((a % 2 ^ IntKind.i64.bits ^^^ b % 2 ^ IntKind.i64.bits : Nat) : Int) = x := by
  refine ⟨a ^^^ b, Nat.xor_lt_two_pow (n := 62) ha hb, ?_⟩
  have h2 : a ^^^ b < 2 ^ 62 := Nat.xor_lt_two_pow (n := 62) ha hb
  rw [show 2 ^ IntKind.i64.bits = 18446744073709551616 from rfl, Nat.mod_eq_of_lt (by omega), Nat.mod_eq_of_lt (by omega)]
  exact wrap64 (by omega) (by omega)
theorem pick_ev (bs : List Int) (hb : ∀ b ∈ bs, 0 ≤ b ∧ b ≤ 255) (hl : bs.length ≤ 2000) (i : Nat) (hi : i ≤ 100000) (n : Nat) (hn0 : 0 < n) (hn : n ≤ 100000) :
    ∃ r : Nat, r < n ∧ C fn_s_l1Rd_pick [.ptr 5000 0, .ro (N n)] [(5000, [.ro (BS bs), .ro (N i)])] = some (.one (.ro (N r)), [(5000, [.ro (BS bs), .ro (N (i + 1))])]) := by
  have w1 : IntKind.i64.wrap ((i : Int) + 1) = ((i + 1 : Nat) : Int) := wrap64_succ (by omega)
  have w2 : IntKind.i64.wrap (i : Int) = i := wrap64 (by omega) (by omega)
  have n1 : ¬ (n : Int) < 1 := by omega
  by_cases h0 : bs = []
  · subst h0
    refine ⟨0, hn0, ctx_call Tryd.func29 conv_s_l1Rd_pick rfl ?_⟩
    simp [w1, n1]
  · by_cases hlt : i < bs.length
    · obtain ⟨b, hbe⟩ : ∃ b : Nat, bs[i] = (b : Int) := ⟨bs[i].toNat, by have := hb _ (List.getElem_mem hlt); omega⟩
      have hb255 := hb _ (List.getElem_mem hlt)
      rw [hbe] at hb255
      have w3 : IntKind.i64.wrap (b : Int) = b := wrap64 (by omega) (by omega)
      have hn' : n ≠ 0 := by omega
      obtain ⟨r, hr⟩ : ∃ r : Nat, (b : Int).tmod n = r := ⟨b % n, (Int.ofNat_tmod b n).symm⟩
      have hrn : r < n := by
        have h1 : ((b % n : Nat) : Int) = r := (Int.ofNat_tmod b n).trans hr
        have := Nat.mod_lt b hn0
        omega
      refine ⟨r, hrn, ctx_call Tryd.func29 conv_s_l1Rd_pick rfl ?_⟩
      simp [w1, w2, w3, n1, h0, hlt, hbe, hn', hr]
    · have hL : 0 < bs.length := List.length_pos_iff.2 h0
      have hL' : bs.length ≠ 0 := by omega
      have hn' : n ≠ 0 := by omega
      have md : ∀ a c : Nat, 0 < c → ∃ r : Nat, (a : Int).tmod c = r ∧ r < c := fun a c hc => ⟨a % c, (Int.ofNat_tmod a c).symm, Nat.mod_lt a hc⟩
      have dv : ∀ a c : Nat, ∃ r : Nat, (a : Int).tdiv c = r ∧ r ≤ a := fun a c => ⟨a / c, (Int.ofNat_tdiv a c).symm, Nat.div_le_self a c⟩
      obtain ⟨p, hp, hpL⟩ := md i bs.length hL
      obtain ⟨q, hq, hqL⟩ := md (i * 7 + 3) bs.length hL
      obtain ⟨d, hd, hdi⟩ := dv i bs.length
      have hq' : ((i : Int) * 7 + 3).tmod (bs.length : Int) = q := by rw [← hq]; congr 1
      obtain ⟨b1, hb1⟩ : ∃ b : Nat, bs[p] = (b : Int) := ⟨bs[p].toNat, by have := hb _ (List.getElem_mem hpL); omega⟩
      obtain ⟨b2, hb2⟩ : ∃ b : Nat, bs[q] = (b : Int) := ⟨bs[q].toNat, by have := hb _ (List.getElem_mem hqL); omega⟩
      have k1 := hb _ (List.getElem_mem hpL)
      have k2 := hb _ (List.getElem_mem hqL)
      rw [hb1] at k1
      rw [hb2] at k2
      have w3 : IntKind.i64.wrap ((i : Int) * 7) = (i : Int) * 7 := wrap64 (by omega) (by omega)
      have w4 : IntKind.i64.wrap ((i : Int) * 7 + 3) = (i : Int) * 7 + 3 := wrap64 (by omega) (by omega)
      have w5 : IntKind.i64.wrap (b1 : Int) = b1 := wrap64 (by omega) (by omega)
      have w6 : IntKind.i64.wrap (b2 : Int) = b2 := wrap64 (by omega) (by omega)
      have w7 : IntKind.i64.wrap ((b1 : Int) * 131) = (b1 : Int) * 131 := wrap64 (by omega) (by omega)
      have w8 : IntKind.i64.wrap ((b2 : Int) * 1117) = (b2 : Int) * 1117 := wrap64 (by omega) (by omega)
      have w9 : IntKind.i64.wrap ((b1 : Int) * 131 + (b2 : Int) * 1117) = (b1 : Int) * 131 + (b2 : Int) * 1117 := wrap64 (by omega) (by omega)
      have w10 : IntKind.i64.wrap ((i : Int) * 29) = (i : Int) * 29 := wrap64 (by omega) (by omega)
      have w11 : IntKind.i64.wrap ((b1 : Int) * 131 + (b2 : Int) * 1117 + (i : Int) * 29) = (b1 : Int) * 131 + (b2 : Int) * 1117 + (i : Int) * 29 := wrap64 (by omega) (by omega)
      have w12 : IntKind.i64.wrap (d : Int) = d := wrap64 (by omega) (by omega)
      have w13 : IntKind.i64.wrap ((d : Int) * 53) = (d : Int) * 53 := wrap64 (by omega) (by omega)
      obtain ⟨V, hV⟩ : ∃ V : Nat, (V : Int) = (b1 : Int) * 131 + (b2 : Int) * 1117 + (i : Int) * 29 + (d : Int) * 53 := ⟨b1 * 131 + b2 * 1117 + i * 29 + d * 53, by omega⟩
      have w14 : IntKind.i64.wrap ((b1 : Int) * 131 + (b2 : Int) * 1117 + (i : Int) * 29 + (d : Int) * 53) = V := by rw [hV]; exact wrap64 (by omega) (by omega)
      obtain ⟨V2, hV2, hV2V⟩ := dv V 64
      have hV2' : (V : Int).tdiv 64 = V2 := hV2
      have w15 : IntKind.i64.wrap (V2 : Int) = V2 := wrap64 (by omega) (by omega)
      obtain ⟨x, hx, w16⟩ := xor_small (a := V) (b := V2) (by omega) (by omega)
      obtain ⟨r, hr, hrn⟩ := md x n hn0
      refine ⟨r, hrn, ctx_call Tryd.func29 conv_s_l1Rd_pick rfl ?_⟩
      simp [w1, w2, w3, w4, w5, w6, w7, w8, w9, w10, w11, w12, w13, w14, w15, w16, n1, hlt, hn', hr, hL', hp, hq', hpL, hqL, hb1, hb2, hd, hV2']
end Go.Qz
namespace Go.Qz
open Go.Proofs
structure Seed (bs : List Int) : Prop where
  byte : ∀ b ∈ bs, 0 ≤ b ∧ b ≤ 255
  len : bs.length ≤ 2000
abbrev RB (bs : List Int) (i : Nat) : List A := [.ro (BS bs), .ro (N i)]
theorem of_ev (bs : List Int) (hb : Seed bs) (i : Nat) (hi : i ≤ 100000) (xs : Lines) (h0 : 0 < xs.length) (hn : xs.length ≤ 100000) :
    ∃ x ∈ xs, C fn_s_l1Rd_of [.ptr 5000 0, .ro (SS xs)] [(5000, RB bs i)] = some (.one (.ro (T x)), [(5000, RB bs (i + 1))]) := by
  obtain ⟨r, hr, hp⟩ := pick_ev bs hb.byte hb.len i hi xs.length h0 hn
  refine ⟨xs[r], List.getElem_mem hr, ctx_call Tryd.func31 conv_s_l1Rd_of rfl ?_⟩
  simp [hp, hr]
theorem draw_pick {bs : List Int} (hb : Seed bs) {i : Nat} (hi : i ≤ 100000) (n : Nat) (m : Int) (hm : m = n) (hn0 : 0 < n) (hn : n ≤ 100000) :
    ∃ r j : Nat, r < n ∧ j ≤ i + 1 ∧ C fn_s_l1Rd_pick [.ptr 5000 0, .ro (.int .i64 m)] [(5000, RB bs i)] = some (.one (.ro (N r)), [(5000, RB bs j)]) := by
  subst hm
  obtain ⟨r, hr, h⟩ := pick_ev bs hb.byte hb.len i hi n hn0 hn
  exact ⟨r, i + 1, hr, Nat.le_refl _, h⟩
theorem draw_of {bs : List Int} (hb : Seed bs) {i : Nat} (hi : i ≤ 100000) (xs : Lines) (h0 : 0 < xs.length) (hn : xs.length ≤ 100000) :
    ∃ x j, x ∈ xs ∧ j ≤ i + 1 ∧ C fn_s_l1Rd_of [.ptr 5000 0, .ro (.sl 1 (xs.map T))] [(5000, RB bs i)] = some (.one (.ro (T x)), [(5000, RB bs j)]) := by
  obtain ⟨x, hx, h⟩ := of_ev bs hb i hi xs h0 hn
  exact ⟨x, i + 1, hx, Nat.le_refl _, h⟩
def Ends (Good : V × Boxes → Prop) (x : Option (V × Boxes)) : Prop := ∃ r, Good r ∧ x = some r
theorem Ends.of {Good : V × Boxes → Prop} {r : V × Boxes} (h : Good r) : Ends Good (some r) := ⟨r, h, rfl⟩
section
variable {c : Ctx} {a : QCode} {ks : List Fr}
theorem loop_ex {Good : V × Boxes → Prop} (Inv : Nat → Env → Prop) (step : ∀ m e, Inv m e → (∀ m' e', m' < m → Inv m' e' → Ends Good (Run c (.loop a) e' ks)) → Ends Good (Run c a e (.loop a :: ks))) (m : Nat) (e : Env) (h : Inv m e) :
    Ends Good (Run c (.loop a) e ks) := by
  induction m using Nat.strongRecOn generalizing e with
  | _ m ih =>
    rw [run_loop]
    exact step m e h (fun m' e' hm hi => ih m' hm e' hi)
end
theorem call_ex {P : Program} {io : FuncId → List Nat} {X : CallF} {f : FuncId} {us : List A} {bx : Boxes} {fn : Func} {q : QFn} {Good : V × Boxes → Prop} (hf : P.funcs[f]? = some fn) (hq : convF fn = some q) (hX : X f us bx = none)
    (h : Ends Good (Run ⟨P, io, callLim P io X⟩ q.body (startEnv q.n us bx) [.fn q.res bx])) : Ends Good (callLim P io X f us bx) := by
  obtain ⟨r, h1, h2⟩ := h
  exact ⟨r, h1, ctx_call hf hq hX h2⟩
end Go.Qz
namespace Go.Qz
open Go.Proofs
structure Short (xs : Lines) (n : Nat) : Prop where
  len : xs.length ≤ n
  each : ∀ x ∈ xs, x.length ≤ 1000
def LinesOut (bs : List Int) (n i : Nat) (r : V × Boxes) : Prop := ∃ xs j, Short xs n ∧ j ≤ i ∧ r = (.one (.own (SS xs)), [(5000, RB bs j)])
theorem lines_ev (bs : List Int) (hb : Seed bs) (i : Nat) (hi : i ≤ 1000) : Ends (LinesOut bs 8 (i + 9)) (C fn_s_l11Lines [.ptr 5000 0] [(5000, RB bs i)]) := by
  refine call_ex Tryd.func41 conv_s_l11Lines rfl ?_
  obtain ⟨n, j0, hn, hj0, hp⟩ := draw_pick hb (i := i) (by omega) 9 9 rfl (by omega) (by omega)
  simp [hp]
  refine loop_ex (fun m e => ∃ (xs : Lines) (j : Nat), Short xs (8 - m) ∧ m ≤ 8 ∧ j + m ≤ i + 9 ∧ e.size = 19 ∧ e.get 0 = .one (.ptr 5000 0) ∧ e.get 3 = .one (.own (SS xs)) ∧ e.get 4 = .one (.ro (N m)) ∧ e.box 5000 = some (RB bs j))
    ?_ n _ ⟨[], j0, ⟨by simp, by simp⟩, by omega, by omega, by simp, by simp, by simp, by simp, by simp⟩
  rintro m e ⟨xs, j, hs, hm8, hj, hsz, h0, h3, h4, b5⟩ ih
  have hsl := hs.len
  by_cases hm : m = 0
  · subst hm
    simp [hsz, h3, h4, b5]
    exact .of ⟨xs, j, ⟨by omega, hs.each⟩, by omega, rfl⟩
  · have hm0 : 0 < m := by omega
    have ha : xs.length + 1 ≤ appendMax := by simp [appendMax]; omega
    have hwm : IntKind.i64.wrap ((m : Int) - 1) = ((m - 1 : Nat) : Int) := by rw [wrap64 (by omega) (by omega)]; omega
    obtain ⟨x, j1, hx, hj1, ho⟩ := draw_of hb (i := j) (by omega) [[97], [98], [99], [100], [], [115, 97, 109, 101], [115, 97, 109, 101]] (by simp) (by simp)
    simp only [List.map_cons, List.map_nil] at ho
    have hxl : x.length ≤ 1000 := by simp at hx; rcases hx with rfl | rfl | rfl | rfl | rfl | rfl <;> simp
    simp [hsz, h0, h3, h4, b5, hm0, ho, ha, hwm]
    exact ih (m - 1) _ (by omega) ⟨xs ++ [x], j1, ⟨by simp; omega, fun y hy => by
      rcases List.mem_append.1 hy with h | h
      · exact hs.each y h
      · simp at h; subst h; exact hxl⟩, by omega, by omega, by simp [hsz], by simp [h0], by simp, by simp, by simp⟩
theorem near_ev (bs : List Int) (hb : Seed bs) (i : Nat) (hi : i ≤ 1000) (list : Lines) (n : Nat) (hl : Short list n) (hn : n ≤ 100) : Ends (LinesOut bs (n + 2) (i + 7)) (C fn_s_l11Near [.ptr 5000 0, .ro (SS list)] [(5000, RB bs i)]) := by
  refine call_ex Tryd.func43 conv_s_l11Near rfl ?_
  obtain ⟨r0, j0, hr0, hj0, hp⟩ := draw_pick hb (i := i) (by omega) 3 3 rfl (by omega) (by omega)
  have hll := hl.len
  have a0 : list.length ≤ appendMax := by simp [appendMax]; omega
  simp [hp, a0]
  refine loop_ex (fun m e => ∃ (xs : Lines) (j : Nat), Short xs (n + 2 - m) ∧ m ≤ 2 ∧ j + 3 * m ≤ i + 7 ∧ e.size = 66 ∧ e.get 0 = .one (.ptr 5000 0) ∧ e.get 5 = .one (.own (SS xs)) ∧ e.get 6 = .one (.ro (N m)) ∧ e.box 5000 = some (RB bs j))
    ?_ r0 _ ⟨list, j0, ⟨by omega, hl.each⟩, by omega, by omega, by simp, by simp, by simp, by simp, by simp⟩
  rintro m e ⟨xs, j, hs, hm2, hj, hsz, h0, h5, h6, b5⟩ ih
  have hsl := hs.len
  by_cases hm : m = 0
  · subst hm
    simp [hsz, h5, h6, b5]
    exact .of ⟨xs, j, ⟨by omega, hs.each⟩, by omega, rfl⟩
  · have hm0 : 0 < m := by omega
    have hwm : IntKind.i64.wrap ((m : Int) - 1) = ((m - 1 : Nat) : Int) := by rw [wrap64 (by omega) (by omega)]; omega
    have hw1 : IntKind.i64.wrap ((xs.length : Int) + 1) = (xs.length : Int) + 1 := wrap64 (by omega) (by omega)
    obtain ⟨k, j1, hk, hj1, hp1⟩ := draw_pick hb (i := j) (by omega) (xs.length + 1) ((xs.length : Int) + 1) (by omega) (by omega) (by omega)
    obtain ⟨s, j2, hs3, hj2, hp2⟩ := draw_pick hb (i := j1) (by omega) 3 3 rfl (by omega) (by omega)
    have three : s = 0 ∨ s = 1 ∨ s = 2 := by omega
    have hkl : k ≤ xs.length := by omega
    have hkl' : (k : Int) ≤ xs.length := by omega
    have hf1 : flats (List.take k (List.map T xs)) = true := by rw [← List.map_take]; exact flats_T _
    have hf2 : flats (List.drop k (List.map T xs)) = true := by rw [← List.map_drop]; exact flats_T _
    have hf3 : flats (List.drop (k + 1) (List.map T xs)) = true := by rw [← List.map_drop]; exact flats_T _
    have ht : List.take xs.length (List.map T xs) = List.map T xs := by rw [← List.map_take, List.take_length]
    have a1 : k ≤ appendMax := by simp [appendMax]; omega
    have a2 : k + 1 ≤ appendMax := by simp [appendMax]; omega
    have a3 : k + 1 + (xs.length - k) ≤ appendMax := by simp [appendMax]; omega
    rcases three with rfl | rfl | rfl
    · obtain ⟨x, j3, hx, hj3, ho⟩ := draw_of hb (i := j2) (by omega) [[110, 101, 119], [97]] (by simp) (by simp)
      simp only [List.map_cons, List.map_nil] at ho
      have hxl : x.length ≤ 1000 := by simp at hx; rcases hx with rfl | rfl <;> simp
      simp [hsz, h0, h5, h6, b5, hm0, hw1, hp1, hp2, ho, hkl, hkl', ht, hf1, hf2, a1, a2, a3, hwm]
      exact ih (m - 1) _ (by omega) ⟨xs.take k ++ x :: xs.drop k, j3, ⟨by simp; omega, fun y hy => by
        rcases List.mem_append.1 hy with h | h
        · exact hs.each y (List.mem_of_mem_take h)
        · rcases List.mem_cons.1 h with rfl | h
          · exact hxl
          · exact hs.each y (List.mem_of_mem_drop h)⟩, by omega, by omega, by simp [hsz], by simp [h0], by simp, by simp, by simp⟩
    · by_cases hk1 : k < xs.length
      · have b1 : (0 : Int) ≤ (k : Int) + 1 := by omega
        have b2 : (k : Int) + 1 ≤ xs.length := by omega
        have a4 : k + (xs.length - (k + 1)) ≤ appendMax := by simp [appendMax]; omega
        have hwk : IntKind.i64.wrap ((k : Int) + 1) = ((k + 1 : Nat) : Int) := wrap64_succ (by omega)
        simp [hsz, h0, h5, h6, b5, hm0, hw1, hp1, hp2, hkl, hkl', ht, hf1, hf3, b1, b2, a4, a1, hwm, hk1, hwk]
        exact ih (m - 1) _ (by omega) ⟨xs.take k ++ xs.drop (k + 1), j2, ⟨by simp; omega, fun y hy => by
          rcases List.mem_append.1 hy with h | h
          · exact hs.each y (List.mem_of_mem_take h)
          · exact hs.each y (List.mem_of_mem_drop h)⟩, by omega, by omega, by simp [hsz], by simp [h0], by simp, by simp, by simp⟩
      · simp [hsz, h0, h5, h6, b5, hm0, hw1, hp1, hp2, hwm, hk1]
        exact ih (m - 1) _ (by omega) ⟨xs, j2, ⟨by omega, hs.each⟩, by omega, by omega, by simp [hsz], by simp [h0], by simp [h5], by simp, by simp⟩
    · by_cases hk1 : k < xs.length
      · simp [hsz, h0, h5, h6, b5, hm0, hw1, hp1, hp2, hwm, hk1]
        exact ih (m - 1) _ (by omega) ⟨xs.set k [116, 117, 114, 110, 101, 100], j2, ⟨by simp; omega, fun y hy => by
          rcases List.mem_or_eq_of_mem_set hy with h | h
          · exact hs.each y h
          · subst h; simp⟩, by omega, by omega, by simp [hsz], by simp [h0], by simp [List.map_set], by simp, by simp⟩
      · simp [hsz, h0, h5, h6, b5, hm0, hw1, hp1, hp2, hwm, hk1]
        exact ih (m - 1) _ (by omega) ⟨xs, j2, ⟨by omega, hs.each⟩, by omega, by omega, by simp [hsz], by simp [h0], by simp [h5], by simp, by simp⟩
end Go.Qz
namespace Go.Qz
open Go.Proofs
abbrev Hk := Int × Lines
abbrev HD (h : Hk) : D := .agg [I h.1, SS h.2]
abbrev HS (hs : List Hk) : D := .sl 2 (hs.map HD)
def signB (b : UInt8) : Bool := b == 32 || b == 45 || b == 43
def hlOk : List UInt8 → Bool
  | [] => false
  | c :: r => signB c && plainT r
def oldL (xs : Lines) : Lines := (xs.filter (fun x => !(x.head? == some 43))).map List.tail
def newL (xs : Lines) : Lines := (xs.filter (fun x => !(x.head? == some 45))).map List.tail
def goI : Int → List Hk → Bool
  | _, [] => true
  | least, h :: r => decide (least ≤ h.1) && decide (h.1 ≤ 999) && decide (1 ≤ h.2.length) && decide (h.2.length ≤ 30) && h.2.all hlOk && goI (h.1 + (oldL h.2).length) r
def hunksOkI (hs : List Hk) : Bool := decide (hs.length ≤ 4) && goI 1 hs
theorem hunkLineOk_ev (l : List UInt8) : C fn_i_hunkLineOk [.ro (T l)] [] = some (.one (.ro (.bool (hlOk l))), []) := by
  refine ctx_call Tryd.func21 conv_i_hunkLineOk rfl ?_
  cases l with
  | nil => simp [hlOk]
  | cons c r =>
    unfold hlOk signB
    cases h1 : c == 32
    · cases h2 : c == 45
      · cases h3 : c == 43
        · simp [h1, h2, h3]
        · simp [h1, h2, h3, plainText_ev]
      · simp [h1, h2, plainText_ev]
    · simp [h1, plainText_ev]
theorem allStr_ev (xs : Lines) (f : FuncId) (hfo : opensF ioS f = false) (p : List UInt8 → Bool) (hn : xs.length ≤ 140737488351232) (hf : ∀ x ∈ xs, C f [.ro (T x)] [] = some (.one (.ro (.bool (p x))), [])) :
    C fn_i_all_string [.ro (SS xs), .fn f []] [] = some (.one (.ro (.bool (xs.all p))), []) := by
  have hfo1 := hfo
  rw [opens_is] at hfo1
  simp only [decide_eq_false_iff_not] at hfo1
  refine ctx_call Tryd.func20 conv_i_all_string rfl ?_
  simp
  refine loop_run (fun m e => ∃ i, m = xs.length - i ∧ i ≤ xs.length ∧ e.size = 18 ∧ e.get 1 = .one (.fn f []) ∧ e.get 7 = .one (.ro (SS xs)) ∧ e.get 8 = .one (.ro (N xs.length)) ∧ e.get 9 = .one (.ro (N i)) ∧
    (xs.drop i).all p = xs.all p) ?_ xs.length _ ⟨0, rfl, Nat.zero_le _, by simp, by simp, by simp, by simp, by simp, rfl⟩
  rintro m e ⟨i, rfl, hi, hsz, h1, h7, h8, h9, hr⟩ ih
  rcases Nat.lt_or_ge i xs.length with hlt | hge
  · have hd : xs.drop i = xs[i] :: xs.drop (i + 1) := List.drop_eq_getElem_cons hlt
    have hwi : IntKind.i64.wrap ((i : Int) + 1) = ((i + 1 : Nat) : Int) := wrap64_succ (by omega)
    have hfx := hf xs[i] (List.getElem_mem hlt)
    rw [hd, List.all_cons] at hr
    cases hp : p xs[i] with
    | false =>
      rw [hp] at hr hfx
      simp [hfx, hfo1, hsz, h1, h7, h8, h9, hlt, ← hr]
    | true =>
      rw [hp] at hr hfx
      rw [Bool.true_and] at hr
      simp [hfx, hfo1, hsz, h1, h7, h8, h9, hlt, hwi]
      exact ih _ _ (by omega) ⟨i + 1, rfl, by omega, by simp [hsz], by simp [h1], by simp [h7], by simp [h8], by simp, hr⟩
  · obtain rfl : i = xs.length := by omega
    rw [List.drop_length, List.all_nil] at hr
    simp [hsz, h8, h9, ← hr]
theorem sides_ev (xs : Lines) (hn : xs.length ≤ 30) (hne : ∀ x ∈ xs, x ≠ []) :
    C fn_i_sides [.ro (SS xs)] [] = some (.tup [.own (SS (oldL xs)), .own (SS (newL xs))], []) := by
  refine ctx_call Tryd.func22 conv_i_sides rfl ?_
  simp
  refine loop_run (fun m e => ∃ i, m = xs.length - i ∧ i ≤ xs.length ∧ e.size = 33 ∧ e.get 4 = .one (.own (SS (oldL (xs.take i)))) ∧ e.get 5 = .one (.own (SS (newL (xs.take i)))) ∧ e.get 8 = .one (.ro (SS xs)) ∧ e.get 9 = .one (.ro (N xs.length)) ∧ e.get 10 = .one (.ro (N i)))
    ?_ xs.length _ ⟨0, rfl, Nat.zero_le _, by simp, by simp [oldL], by simp [newL], by simp, by simp, by simp⟩
  rintro m e ⟨i, rfl, hi, hsz, h4, h5, h8, h9, h10⟩ ih
  rcases Nat.lt_or_ge i xs.length with hlt | hge
  · have hwi : IntKind.i64.wrap ((i : Int) + 1) = ((i + 1 : Nat) : Int) := wrap64_succ (by omega)
    have hl1 : (oldL (xs.take i)).length ≤ 30 := by
      unfold oldL; rw [List.length_map]
      exact Nat.le_trans (List.length_filter_le _ _) (by simp; omega)
    have hl2 : (newL (xs.take i)).length ≤ 30 := by
      unfold newL; rw [List.length_map]
      exact Nat.le_trans (List.length_filter_le _ _) (by simp; omega)
    obtain ⟨c, r, hcr⟩ : ∃ c r, xs[i] = c :: r := by
      cases hq : xs[i] with
      | nil => exact absurd hq (hne _ (List.getElem_mem hlt))
      | cons c r => exact ⟨c, r, rfl⟩
    have ht : xs.take (i + 1) = xs.take i ++ [c :: r] := by rw [List.take_succ_eq_append_getElem hlt, hcr]
    have o : oldL (xs.take (i + 1)) = oldL (xs.take i) ++ if c == 43 then [] else [r] := by
      rw [ht]; unfold oldL; rw [List.filter_append, List.map_append]; cases h : c == 43 <;> simp [h]
    have n : newL (xs.take (i + 1)) = newL (xs.take i) ++ if c == 45 then [] else [r] := by
      rw [ht]; unfold newL; rw [List.filter_append, List.map_append]; cases h : c == 45 <;> simp [h]
    have ha1 : (oldL (xs.take i)).length + 1 ≤ appendMax := by simp [appendMax]; omega
    have ha2 : (newL (xs.take i)).length + 1 ≤ appendMax := by simp [appendMax]; omega
    cases h1 : c == 43 <;> cases h2 : c == 45
    all_goals
      simp [hsz, h4, h5, h8, h9, h10, hlt, hcr, h1, h2, ha1, ha2, hwi]
      exact ih _ _ (by omega) ⟨i + 1, rfl, by omega, by simp [hsz], by simp [o, h1, h4], by simp [n, h2, h5], by simp [h8], by simp [h9], by simp⟩
  · obtain rfl : i = xs.length := by omega
    rw [List.take_length] at h4 h5
    simp [hsz, h4, h5, h9, h10]
end Go.Qz
namespace Go.Qz
open Go.Proofs
theorem oldL_le (xs : Lines) : (oldL xs).length ≤ xs.length := by
  unfold oldL
  rw [List.length_map]
  exact List.length_filter_le _ _
theorem hlOk_ne {x : List UInt8} (h : hlOk x = true) : x ≠ [] := by
  rintro rfl
  cases h
theorem HunksOkI_ev (hs : List Hk) (hb : ∀ h ∈ hs, h.2.length ≤ 140737488351232) : C fn_i_HunksOk [.ro (HS hs)] [] = some (.one (.ro (.bool (hunksOkI hs))), []) := by
  refine ctx_call Tryd.func8 conv_i_HunksOk rfl ?_
  unfold hunksOkI
  by_cases hn : hs.length ≤ 4
  · have hn' : ¬ 4 < hs.length := by omega
    simp [hn', hn]
    refine loop_run (fun m e => ∃ (i : Nat) (l : Int), m = hs.length - i ∧ i ≤ hs.length ∧ -1000 ≤ l ∧ l ≤ 2000 ∧ e.size = 54 ∧ e.get 3 = .one (.ro (I l)) ∧ e.get 11 = .one (.ro (HS hs)) ∧ e.get 12 = .one (.ro (N hs.length)) ∧ e.get 13 = .one (.ro (N i)) ∧
      goI l (hs.drop i) = goI 1 hs) ?_ hs.length _ ⟨0, 1, rfl, Nat.zero_le _, by omega, by omega, by simp, by simp, by simp, by simp, by simp, rfl⟩
    rintro m e ⟨i, l, rfl, hi, hl1, hl2, hsz, h3, h11, h12, h13, hr⟩ ih
    rcases Nat.lt_or_ge i hs.length with hlt | hge
    · have hd : hs.drop i = hs[i] :: hs.drop (i + 1) := List.drop_eq_getElem_cons hlt
      have hwi : IntKind.i64.wrap ((i : Int) + 1) = ((i + 1 : Nat) : Int) := wrap64_succ (by omega)
      have hbl := hb hs[i] (List.getElem_mem hlt)
      rw [hd, goI] at hr
      have hall := allStr_ev hs[i].2 fn_i_hunkLineOk (by rw [opens_is]; decide) hlOk hbl (fun x _ => hunkLineOk_ev x)
      by_cases c1 : hs[i].1 < l
      · have n1 : ¬ l ≤ hs[i].1 := by omega
        simp only [n1, decide_false, Bool.false_and] at hr
        simp [hsz, h3, h11, h12, h13, hlt, c1, ← hr]
      have n1 : l ≤ hs[i].1 := by omega
      by_cases c2 : 999 < hs[i].1
      · have n2 : ¬ hs[i].1 ≤ 999 := by omega
        simp only [n2, decide_false, Bool.false_and, Bool.and_false] at hr
        simp [hsz, h3, h11, h12, h13, hlt, c1, c2, ← hr]
      have n2 : hs[i].1 ≤ 999 := by omega
      by_cases c3 : hs[i].2 = []
      · simp only [c3, List.length_nil] at hr
        simp [hsz, h3, h11, h12, h13, hlt, c1, c2, c3, ← hr]
      have n3 : 1 ≤ hs[i].2.length := by
        cases hq : hs[i].2 with
        | nil => exact absurd hq c3
        | cons a b => simp
      by_cases c4 : 30 < hs[i].2.length
      · have n4 : ¬ hs[i].2.length ≤ 30 := by omega
        simp only [n4, decide_false, Bool.false_and, Bool.and_false] at hr
        simp [hsz, h3, h11, h12, h13, hlt, c1, c2, c3, c4, ← hr]
      have n4 : hs[i].2.length ≤ 30 := by omega
      cases c5 : hs[i].2.all hlOk with
      | false =>
        rw [c5] at hall
        simp only [c5, Bool.false_and, Bool.and_false] at hr
        simp [hsz, h3, h11, h12, h13, hlt, c1, c2, c3, c4, hall, ← hr]
      | true =>
        rw [c5] at hall
        simp only [c5, n1, n2, n3, n4, decide_true, Bool.true_and] at hr
        have hsd := sides_ev hs[i].2 n4 (fun x hx => hlOk_ne (List.all_eq_true.1 c5 x hx))
        have hol := oldL_le hs[i].2
        have hwa : IntKind.i64.wrap (hs[i].1 + (oldL hs[i].2).length) = hs[i].1 + (oldL hs[i].2).length := wrap64 (by omega) (by omega)
        simp [hsz, h3, h11, h12, h13, hlt, c1, c2, c3, c4, hall, hsd, hwi, hwa]
        exact ih _ _ (by omega) ⟨i + 1, _, rfl, by omega, by omega, by omega, by simp [hsz], by simp, by simp [h11], by simp [h12], by simp, hr⟩
    · obtain rfl : i = hs.length := by omega
      rw [List.drop_length, goI] at hr
      simp [hsz, h12, h13, ← hr]
  · have hn' : 4 < hs.length := by omega
    simp [hn, hn']
theorem l5Old_ev (h : Hk) (hl : h.2.length ≤ 30) (hne : ∀ x ∈ h.2, x ≠ []) : C fn_s_l5Old [.ro (HD h)] [] = some (.one (.own (SS (oldL h.2))), []) := by
  refine ctx_call Tryd.func24 conv_s_l5Old rfl ?_
  simp
  refine loop_run (fun m e => ∃ i, m = h.2.length - i ∧ i ≤ h.2.length ∧ e.size = 30 ∧ e.get 1 = .one (.ptr 1 0) ∧ e.box 1 = some [.ro (I h.1), .ro (SS h.2)] ∧ e.get 3 = .one (.own (SS (oldL (h.2.take i)))) ∧ e.get 4 = .one (.ro (N i)))
    ?_ h.2.length _ ⟨0, rfl, Nat.zero_le _, by simp, by simp, by simp, by simp [oldL], by simp⟩
  rintro m e ⟨i, rfl, hi, hsz, h1, hb, h3, h4⟩ ih
  rcases Nat.lt_or_ge i h.2.length with hlt | hge
  · have hwi : IntKind.i64.wrap ((i : Int) + 1) = ((i + 1 : Nat) : Int) := wrap64_succ (by omega)
    have hl1 : (oldL (h.2.take i)).length ≤ 30 := Nat.le_trans (oldL_le _) (by simp; omega)
    obtain ⟨c, r, hcr⟩ : ∃ c r, h.2[i] = c :: r := by
      cases hq : h.2[i] with
      | nil => exact absurd hq (hne _ (List.getElem_mem hlt))
      | cons c r => exact ⟨c, r, rfl⟩
    have ht : h.2.take (i + 1) = h.2.take i ++ [c :: r] := by rw [List.take_succ_eq_append_getElem hlt, hcr]
    have o : oldL (h.2.take (i + 1)) = oldL (h.2.take i) ++ if c == 43 then [] else [r] := by
      rw [ht]; unfold oldL; rw [List.filter_append, List.map_append]; cases h : c == 43 <;> simp [h]
    have ha1 : (oldL (h.2.take i)).length + 1 ≤ appendMax := by simp [appendMax]; omega
    cases h1' : c == 43
    all_goals
      simp [hsz, h1, hb, h3, h4, hlt, hcr, h1', ha1, hwi]
      exact ih _ _ (by omega) ⟨i + 1, rfl, by omega, by simp [hsz], by simp [h1], by simp [hb], by simp [o, h1', h3], by simp⟩
  · obtain rfl : i = h.2.length := by omega
    rw [List.take_length] at h3
    simp [hsz, h1, hb, h3, h4]
end Go.Qz
namespace Go.Qz
open Go.Proofs
def hlS : List UInt8 → Bool
  | [] => false
  | c :: r => signB c && seenT r
theorem hlS_eq (l : List UInt8) : hlS l = hlOk l := by
  cases l with
  | nil => rfl
  | cons c r => simp only [hlS, hlOk, seen_plain]
def hunkS (h : Hk) : Bool := h.2.all hlS && (inI h.2.length 1 30 && inI h.1 1 999)
theorem l5Hunk_ev (h : Hk) (hl : h.2.length ≤ 140737488351232) (hx : ∀ x ∈ h.2, x.length ≤ 140737488351232) : C fn_s_l5Hunk [.ro (HD h)] [] = some (.one (.ro (.bool (hunkS h))), []) := by
  refine ctx_call Tryd.func23 conv_s_l5Hunk rfl ?_
  unfold hunkS
  simp
  refine loop_run (fun m e => ∃ i, m = h.2.length - i ∧ i ≤ h.2.length ∧ e.size = 49 ∧ e.get 1 = .one (.ptr 1 0) ∧ e.box 1 = some [.ro (I h.1), .ro (SS h.2)] ∧ e.get 3 = .one (.ro (N i)) ∧
    (h.2.drop i).all hlS = h.2.all hlS) ?_ h.2.length _ ⟨0, rfl, Nat.zero_le _, by simp, by simp, by simp, by simp, rfl⟩
  rintro m e ⟨i, rfl, hi, hsz, h1, hb, h3, hr⟩ ih
  rcases Nat.lt_or_ge i h.2.length with hlt | hge
  · have hwi : IntKind.i64.wrap ((i : Int) + 1) = ((i + 1 : Nat) : Int) := wrap64_succ (by omega)
    have hd : h.2.drop i = h.2[i] :: h.2.drop (i + 1) := List.drop_eq_getElem_cons hlt
    have hxl := hx h.2[i] (List.getElem_mem hlt)
    rw [hd, List.all_cons] at hr
    cases hq : h.2[i] with
    | nil =>
      rw [hq] at hr
      simp only [hlS, Bool.false_and] at hr
      simp [hsz, h1, hb, h3, hlt, hq, ← hr]
    | cons c r =>
      rw [hq] at hr hxl
      have hse := l5Seen_ev r (by simp at hxl; omega)
      have step : Run cx q_s_l5Hunk_l0 e (Fr.loop q_s_l5Hunk_l0 :: [Fr.blk 0, Fr.seq q_s_l5Hunk_c2, Fr.fn [(ResultVar.tmp 2, 4)] []]) = some (.one (.ro (.bool (h.2.all hlS && (inI h.2.length 1 30 && inI h.1 1 999)))), []) := by
        cases c1 : c == 32 <;> cases c2 : c == 45 <;> cases c3 : c == 43 <;> cases c4 : seenT r
        all_goals
          rw [c4] at hse
          simp only [hlS, signB, c1, c2, c3, c4, Bool.or_true, Bool.or_self, Bool.false_and, Bool.true_and, Bool.and_true, Bool.and_false, Bool.or_false] at hr
          first
          | (simp [hsz, h1, hb, h3, hlt, hq, c1, c2, c3, hse, ← hr]; done)
          | (simp [hsz, h1, hb, h3, hlt, hq, c1, c2, c3, hse, hwi]
             exact ih _ _ (by omega) ⟨i + 1, rfl, by omega, by simp [hsz], by simp [h1], by simp [hb], by simp, hr⟩)
      exact step
  · obtain rfl : i = h.2.length := by omega
    rw [List.drop_length, List.all_nil] at hr
    cases c1 : inI h.2.length 1 30
    · simp [hsz, h1, hb, h3, l1In_ev, c1, ← hr]
    · simp [hsz, h1, hb, h3, l1In_ev, c1, ← hr]
def goS : Option Hk → List Hk → Bool
  | _, [] => true
  | none, h :: r => hunkS h && goS (some h) r
  | some p, h :: r => (hunkS h && decide (p.1 + (oldL p.2).length ≤ h.1)) && goS (some h) r
def hunksOkS (hs : List Hk) : Bool := goS none hs && decide (hs.length ≤ 4)
end Go.Qz
namespace Go.Qz
open Go.Proofs
theorem hunkS_parts {h : Hk} (hh : hunkS h = true) : (∀ x ∈ h.2, x ≠ []) ∧ 1 ≤ h.2.length ∧ h.2.length ≤ 30 ∧ 1 ≤ h.1 ∧ h.1 ≤ 999 := by
  simp only [hunkS, inI, Bool.and_eq_true, decide_eq_true_eq] at hh
  obtain ⟨h1, ⟨h2, h3⟩, h4, h5⟩ := hh
  refine ⟨fun x hx => ?_, by omega, by omega, h4, h5⟩
  have := List.all_eq_true.1 h1 x hx
  rintro rfl
  cases this
theorem HunksOkS_ev (hs : List Hk) (hn : hs.length ≤ 140737488351232) (hl : ∀ h ∈ hs, h.2.length ≤ 140737488351232) (hx : ∀ h ∈ hs, ∀ x ∈ h.2, x.length ≤ 140737488351232) :
    C fn_s_HunksOk [.ro (HS hs)] [] = some (.one (.ro (.bool (hunksOkS hs))), []) := by
  refine ctx_call Tryd.func9 conv_s_HunksOk rfl ?_
  unfold hunksOkS
  simp
  refine loop_run (fun m e => ∃ i, m = hs.length - i ∧ i ≤ hs.length ∧ e.size = 45 ∧ e.get 0 = .one (.ro (HS hs)) ∧ e.get 3 = .one (.ro (N i)) ∧
    ((i = 0 ∧ goS none hs = goS none hs) ∨ ∃ k p, i = k + 1 ∧ hs[k]? = some p ∧ hunkS p = true ∧ goS (some p) (hs.drop i) = goS none hs)) ?_ hs.length _ ⟨0, rfl, Nat.zero_le _, by simp, by simp, by simp, .inl ⟨rfl, rfl⟩⟩
  rintro m e ⟨i, rfl, hi, hsz, h0, h3, hr⟩ ih
  rcases Nat.lt_or_ge i hs.length with hlt | hge
  · have hwi : IntKind.i64.wrap ((i : Int) + 1) = ((i + 1 : Nat) : Int) := wrap64_succ (by omega)
    have hd : hs.drop i = hs[i] :: hs.drop (i + 1) := List.drop_eq_getElem_cons hlt
    have hev := l5Hunk_ev hs[i] (hl _ (List.getElem_mem hlt)) (hx _ (List.getElem_mem hlt))
    rcases hr with ⟨rfl, hr⟩ | ⟨k, p, hik, hp, hps, hr⟩
    · have hd0 : hs = hs[0] :: hs.drop 1 := by simpa using hd
      cases c1 : hunkS hs[0] with
      | false =>
        have hr' : goS none hs = false := by rw [hd0, goS, c1]; rfl
        rw [c1] at hev
        simp [hsz, h0, h3, hlt, hev, hr']
      | true =>
        have hr' : goS (some hs[0]) (hs.drop 1) = goS none hs := by
          have : goS none hs = goS none (hs[0] :: hs.drop 1) := by rw [← hd0]
          rw [this, goS, c1, Bool.true_and]
        rw [c1] at hev
        simp [hsz, h0, h3, hlt, hev]
        exact ih _ _ (by omega) ⟨1, rfl, by omega, by simp [hsz], by simp [h0], by simp, .inr ⟨0, hs[0], rfl, by simp, c1, hr'⟩⟩
    · have hk : k < hs.length := by omega
      have hpk : hs[k] = p := Option.some.inj ((List.getElem?_eq_getElem hk).symm.trans hp)
      obtain ⟨q1, q2, q3, q4, q5⟩ := hunkS_parts hps
      have hold := l5Old_ev p q3 q1
      have holl := oldL_le p.2
      have hwk : IntKind.i64.wrap ((i : Int) - 1) = k := by rw [wrap64 (by omega) (by omega)]; omega
      have hwa : IntKind.i64.wrap (p.1 + (oldL p.2).length) = p.1 + (oldL p.2).length := wrap64 (by omega) (by omega)
      have hi0 : 0 < i := by omega
      rw [hd, goS] at hr
      cases c1 : hunkS hs[i] with
      | false =>
        rw [c1] at hev hr
        simp only [Bool.false_and] at hr
        simp [hsz, h0, h3, hlt, hev, ← hr]
      | true =>
        rw [c1] at hev hr
        simp only [Bool.true_and] at hr
        by_cases c2 : p.1 + (oldL p.2).length ≤ hs[i].1
        · have n2 : ¬ hs[i].1 < p.1 + (oldL p.2).length := by omega
          simp only [c2, decide_true, Bool.true_and] at hr
          simp [hsz, h0, h3, hlt, hev, hwi, hwk, hk, hpk, hold, hwa, n2, hi0]
          exact ih _ _ (by omega) ⟨i + 1, rfl, by omega, by simp [hsz], by simp [h0], by simp, .inr ⟨i, hs[i], rfl, by simp [hlt], c1, hr⟩⟩
        · have n2 : hs[i].1 < p.1 + (oldL p.2).length := by omega
          simp only [c2, decide_false, Bool.false_and] at hr
          simp [hsz, h0, h3, hlt, hev, hwk, hk, hpk, hold, hwa, n2, hi0, ← hr]
  · obtain rfl : i = hs.length := by omega
    have hr' : goS none hs = true := by
      rcases hr with ⟨h, _⟩ | ⟨k, p, h, hp, hps, hr⟩
      · rw [List.eq_nil_of_length_eq_zero h]; rfl
      · rw [← hr, List.drop_length]; rfl
    simp [hsz, h0, h3, hr']
theorem goI_goS : ∀ (hs : List Hk) (p : Hk), 1 ≤ p.1 → goI (p.1 + (oldL p.2).length) hs = goS (some p) hs := by
  intro hs
  induction hs with
  | nil => intro p _; rfl
  | cons h r ih =>
    intro p hp
    have hall : h.2.all hlS = h.2.all hlOk := by congr 1; funext x; exact hlS_eq x
    rw [goI, goS, Bool.eq_iff_iff]
    simp only [hunkS, inI, hall, Bool.and_eq_true, decide_eq_true_eq]
    constructor
    · rintro ⟨⟨⟨⟨⟨h1, h2⟩, h3⟩, h4⟩, h5⟩, h6⟩
      rw [ih h (by omega)] at h6
      exact ⟨⟨⟨h5, ⟨by omega, by omega⟩, by omega, h2⟩, h1⟩, h6⟩
    · rintro ⟨⟨⟨h5, ⟨h3, h4⟩, h7, h2⟩, h1⟩, h6⟩
      rw [← ih h (by omega)] at h6
      exact ⟨⟨⟨⟨⟨h1, h2⟩, by omega⟩, by omega⟩, h5⟩, h6⟩
theorem hunksOk_eq (hs : List Hk) : hunksOkI hs = hunksOkS hs := by
  unfold hunksOkI hunksOkS
  rw [Bool.and_comm]
  congr 1
  cases hs with
  | nil => rfl
  | cons h r =>
    have hall : h.2.all hlS = h.2.all hlOk := by congr 1; funext x; exact hlS_eq x
    rw [goI, goS, Bool.eq_iff_iff]
    simp only [hunkS, inI, hall, Bool.and_eq_true, decide_eq_true_eq]
    constructor
    · rintro ⟨⟨⟨⟨⟨h1, h2⟩, h3⟩, h4⟩, h5⟩, h6⟩
      rw [goI_goS r h (by omega)] at h6
      exact ⟨⟨h5, ⟨by omega, by omega⟩, by omega, h2⟩, h6⟩
    · rintro ⟨⟨h5, ⟨h3, h4⟩, h7, h2⟩, h6⟩
      rw [← goI_goS r h (by omega)] at h6
      exact ⟨⟨⟨⟨⟨by omega, h2⟩, by omega⟩, by omega⟩, h5⟩, h6⟩
end Go.Qz
namespace Go.Qz
open Go.Proofs
def linesS (xs : Lines) : Bool := xs.all seenT && decide (xs.length ≤ 30)
theorem l5Lines_ev (xs : Lines) (hn : xs.length ≤ 140737488351232) (hx : ∀ x ∈ xs, x.length ≤ 140737488351232) : C fn_s_l5Lines [.ro (SS xs)] [] = some (.one (.ro (.bool (linesS xs))), []) := by
  refine ctx_call Tryd.func51 conv_s_l5Lines rfl ?_
  unfold linesS
  simp
  refine loop_run (fun m e => ∃ i, m = xs.length - i ∧ i ≤ xs.length ∧ e.size = 19 ∧ e.get 0 = .one (.ro (SS xs)) ∧ e.get 3 = .one (.ro (N i)) ∧
    (xs.drop i).all seenT = xs.all seenT) ?_ xs.length _ ⟨0, rfl, Nat.zero_le _, by simp, by simp, by simp, rfl⟩
  rintro m e ⟨i, rfl, hi, hsz, h0, h3, hr⟩ ih
  rcases Nat.lt_or_ge i xs.length with hlt | hge
  · have hd : xs.drop i = xs[i] :: xs.drop (i + 1) := List.drop_eq_getElem_cons hlt
    have hwi : IntKind.i64.wrap ((i : Int) + 1) = ((i + 1 : Nat) : Int) := wrap64_succ (by omega)
    have hev := l5Seen_ev xs[i] (hx _ (List.getElem_mem hlt))
    rw [hd, List.all_cons] at hr
    cases hp : seenT xs[i] with
    | false =>
      rw [hp] at hr hev
      simp [hev, hsz, h0, h3, hlt, ← hr]
    | true =>
      rw [hp] at hr hev
      rw [Bool.true_and] at hr
      simp [hev, hsz, h0, h3, hlt, hwi]
      exact ih _ _ (by omega) ⟨i + 1, rfl, by omega, by simp [hsz], by simp [h0], by simp, hr⟩
  · obtain rfl : i = xs.length := by omega
    rw [List.drop_length, List.all_nil] at hr
    simp [hsz, h0, h3, ← hr]
def signL (s : List UInt8) (xs : Lines) : Lines := xs.map (s ++ ·)
def headFrom (a b : Lines) : Nat → Nat → Nat
  | 0, p => p
  | f + 1, p => match a[p]?, b[p]? with
    | some x, some y => if x == y then headFrom a b f (p + 1) else p
    | _, _ => p
def tailFrom (a b : Lines) (m : Nat) : Nat → Nat → Nat
  | 0, s => s
  | f + 1, s => if s < m then match a[a.length - 1 - s]?, b[b.length - 1 - s]? with
      | some x, some y => if x == y then tailFrom a b m f (s + 1) else s
      | _, _ => s
    else s
def headL (a b : Lines) : Nat := headFrom a b (min a.length b.length) 0
def tailL (a b : Lines) : Nat := tailFrom a b (min a.length b.length - headL a b) (min a.length b.length) 0
def diffHunk (a b : Lines) : Hk :=
  let p := headL a b
  let s := tailL a b
  let f := p - 2
  let e := a.length - s
  ((f : Int) + 1, signL [32] ((a.take p).drop f) ++ signL [45] ((a.take e).drop p) ++ signL [43] ((b.take (b.length - s)).drop p) ++ signL [32] ((a.take (min (e + 2) a.length)).drop e))
theorem headFrom_le (a b : Lines) : ∀ f p, p + f ≤ min a.length b.length → p ≤ headFrom a b f p ∧ headFrom a b f p ≤ p + f := by
  intro f
  induction f with
  | zero => intro p _; exact ⟨Nat.le_refl _, Nat.le_refl _⟩
  | succ f ih =>
    intro p hp
    rw [headFrom]
    split
    · split
      · have := ih (p + 1) (by omega)
        omega
      · omega
    · omega
theorem tailFrom_le (a b : Lines) (m : Nat) : ∀ f s, s ≤ m → s ≤ tailFrom a b m f s ∧ tailFrom a b m f s ≤ m := by
  intro f
  induction f with
  | zero => intro s hs; exact ⟨Nat.le_refl _, hs⟩
  | succ f ih =>
    intro s hs
    rw [tailFrom]
    split
    · split
      · split
        · have := ih (s + 1) (by omega)
          omega
        · omega
      · omega
    · omega
theorem l5Same0_ev (xs ys : Lines) (hl : xs.length = ys.length) (hn : xs.length ≤ 140737488351232) : C fn_s_l5Same [.ro (SS xs), .ro (I 0), .ro (SS ys)] [] = some (.one (.ro (.bool (xs == ys))), []) := by
  refine ctx_call Tryd.func52 conv_s_l5Same rfl ?_
  have hw0 : IntKind.i64.wrap (0 + (ys.length : Int)) = ys.length := by rw [wrap64 (by omega) (by omega)]; omega
  have hw0' : IntKind.i64.wrap (ys.length : Int) = ys.length := wrap64 (by omega) (by omega)
  simp [hw0', hl]
  refine loop_run (fun m e => ∃ i, m = xs.length - i ∧ i ≤ xs.length ∧ e.size = 36 ∧ e.get 0 = .one (.ro (SS xs)) ∧ e.get 1 = .one (.ro (I 0)) ∧ e.get 2 = .one (.ro (SS ys)) ∧ e.get 7 = .one (.ro (N i)) ∧
    (xs.drop i == ys.drop i) = (xs == ys)) ?_ xs.length _ ⟨0, rfl, Nat.zero_le _, by simp, by simp, by simp, by simp, by simp, rfl⟩
  rintro m e ⟨i, rfl, hi, hsz, h0, h1, h2, h7, hr⟩ ih
  rcases Nat.lt_or_ge i xs.length with hlt | hge
  · have hlt' : i < ys.length := by omega
    have hd : xs.drop i = xs[i] :: xs.drop (i + 1) := List.drop_eq_getElem_cons hlt
    have hd' : ys.drop i = ys[i] :: ys.drop (i + 1) := List.drop_eq_getElem_cons hlt'
    have hwi : IntKind.i64.wrap ((i : Int) + 1) = ((i + 1 : Nat) : Int) := wrap64_succ (by omega)
    have hw : IntKind.i64.wrap (0 + (i : Int)) = i := by rw [wrap64 (by omega) (by omega)]; omega
    have hw' : IntKind.i64.wrap (i : Int) = i := wrap64 (by omega) (by omega)
    have hc : (xs.drop i == ys.drop i) = ((xs[i] == ys[i]) && (xs.drop (i + 1) == ys.drop (i + 1))) := by rw [hd, hd']; rfl
    rw [hc] at hr
    cases hp : xs[i] == ys[i] with
    | false =>
      rw [hp, Bool.false_and] at hr
      simp [hsz, h0, h1, h2, h7, hlt, hlt', hp, hw', ← hr]
    | true =>
      rw [hp, Bool.true_and] at hr
      simp [hsz, h0, h1, h2, h7, hlt, hlt', hp, hwi, hw']
      exact ih _ _ (by omega) ⟨i + 1, rfl, by omega, by simp [hsz], by simp [h0], by simp [h1], by simp [h2], by simp, hr⟩
  · obtain rfl : i = xs.length := by omega
    have : (xs == ys) = true := by rw [← hr, List.drop_length, hl, List.drop_length]; rfl
    simp [hsz, h2, h7, hl, this]
def diffS (a b : Lines) : List Hk := if !linesS a || !linesS b || a == b then [] else if hunkS (diffHunk a b) then [diffHunk a b] else []
theorem signL_snoc (c : UInt8) (xs : Lines) (i0 i : Nat) (h : i0 ≤ i) (hlt : i < xs.length) : signL [c] ((xs.take (i + 1)).drop i0) = signL [c] ((xs.take i).drop i0) ++ [c :: xs[i]] := by
  rw [List.take_succ_eq_append_getElem hlt, List.drop_append_of_le_length (by simp; omega)]
  unfold signL
  rw [List.map_append]
  rfl
theorem signL_len (s : List UInt8) (xs : Lines) : (signL s xs).length = xs.length := by simp [signL]
def DiffEnv (a b : Lines) (p s : Nat) (at_ : Int) (ys : Lines) (e : Env) : Prop :=
  e.size = 188 ∧ e.get 0 = .one (.ro (SS a)) ∧ e.get 1 = .one (.ro (SS b)) ∧ e.get 5 = .one (.ro (N p)) ∧ e.get 6 = .one (.ro (N s)) ∧ e.get 8 = .one (.ptr 8 0) ∧ e.box 8 = some [.ro (I at_), .own (SS ys)]
theorem diffS_loop2 (a b : Lines) (p s : Nat) (at_ : Int) (ys : Lines) (i0 j : Nat) (hij : i0 ≤ j) (hjp : j = p) (hj : j ≤ a.length) (ha : a.length ≤ 1048576) (_ : b.length ≤ 1048576) (hp : p ≤ a.length) (hx : ∀ x ∈ a, x.length ≤ 1048576) (hys : ys.length ≤ 4194304) {ks : List Fr} {r : Option (V × Boxes)}
    (hk : ∀ e, DiffEnv a b p s at_ (ys ++ signL [32] ((a.take j).drop i0)) e → Run cx q_s_DiffOf_c14 e ks = r) :
    ∀ e, DiffEnv a b p s at_ ys e → e.get 9 = .one (.ro (N i0)) → Run cx (.loop q_s_DiffOf_l2) e (.blk 4 :: .seq q_s_DiffOf_c14 :: ks) = r := by
  intro e ⟨hsz, h0, h1, h5, h6, h8, hbx⟩ hv
  refine loop_run (fun m e => ∃ i, m = j - i ∧ i0 ≤ i ∧ i ≤ j ∧ DiffEnv a b p s at_ (ys ++ signL [32] ((a.take i).drop i0)) e ∧ e.get 9 = .one (.ro (N i))) ?_ (j - i0) _ ⟨i0, rfl, Nat.le_refl _, hij, ⟨hsz, h0, h1, h5, h6, h8, by rw [hbx]; simp [signL]⟩, hv⟩
  rintro m e ⟨i, rfl, hi0, hij', ⟨hsz, h0, h1, h5, h6, h8, hbx⟩, hv⟩ ih
  have hll : (signL [32] ((a.take i).drop i0)).length ≤ 1048576 := by rw [signL_len]; simp; omega
  subst hjp
  rcases Nat.lt_or_ge i j with hlt | hge
  · have hlx : i < a.length := by omega
    have hxl := hx _ (List.getElem_mem hlx)
    have hwi : IntKind.i64.wrap ((i : Int) + 1) = ((i + 1 : Nat) : Int) := wrap64_succ (by omega)
    have hap : ys.length + (signL [32] ((a.take i).drop i0)).length + 1 ≤ appendMax := by simp only [appendMax]; omega
    have hms : 1 + a[i].length ≤ maxStr := by simp only [maxStr]; omega
    have o := signL_snoc 32 a i0 i hi0 hlx
    generalize hz : signL [32] ((a.take i).drop i0) = z at *
    simp [hsz, h0, h5, h8, hbx, hv, hlt, hlx, hwi, hap, hms]
    exact ih _ _ (by omega) ⟨i + 1, rfl, by omega, by omega, ⟨by simp [hsz], by simp [h0], by simp [h1], by simp [h5], by simp [h6], by simp [h8], by simp [o]⟩, by simp⟩
  · obtain rfl : i = j := by omega
    simp [hsz, h5, hv, -q_s_DiffOf_c14_run]
    exact hk _ ⟨by simp [hsz], by simp [h0], by simp [h1], by simp [h5], by simp [h6], by simp [h8], by simp [hbx]⟩
theorem diffS_loop3 (a b : Lines) (p s : Nat) (at_ : Int) (ys : Lines) (i0 j : Nat) (hij : i0 ≤ j) (hjq : a.length - s = j) (hs : s ≤ a.length) (hj : j ≤ a.length) (ha : a.length ≤ 1048576) (_ : b.length ≤ 1048576) (_ : p ≤ a.length) (hx : ∀ x ∈ a, x.length ≤ 1048576) (hys : ys.length ≤ 4194304) {ks : List Fr} {r : Option (V × Boxes)}
    (hk : ∀ e, DiffEnv a b p s at_ (ys ++ signL [45] ((a.take j).drop i0)) e → Run cx q_s_DiffOf_c13 e ks = r) :
    ∀ e, DiffEnv a b p s at_ ys e → e.get 10 = .one (.ro (N i0)) → Run cx (.loop q_s_DiffOf_l3) e (.blk 6 :: .seq q_s_DiffOf_c13 :: ks) = r := by
  intro e ⟨hsz, h0, h1, h5, h6, h8, hbx⟩ hv
  refine loop_run (fun m e => ∃ i, m = j - i ∧ i0 ≤ i ∧ i ≤ j ∧ DiffEnv a b p s at_ (ys ++ signL [45] ((a.take i).drop i0)) e ∧ e.get 10 = .one (.ro (N i))) ?_ (j - i0) _ ⟨i0, rfl, Nat.le_refl _, hij, ⟨hsz, h0, h1, h5, h6, h8, by rw [hbx]; simp [signL]⟩, hv⟩
  rintro m e ⟨i, rfl, hi0, hij', ⟨hsz, h0, h1, h5, h6, h8, hbx⟩, hv⟩ ih
  have hll : (signL [45] ((a.take i).drop i0)).length ≤ 1048576 := by rw [signL_len]; simp; omega
  have hwe : IntKind.i64.wrap ((a.length : Int) - (s : Nat)) = (j : Int) := by rw [wrap64 (by omega) (by omega)]; omega
  rcases Nat.lt_or_ge i j with hlt | hge
  · have hlx : i < a.length := by omega
    have hxl := hx _ (List.getElem_mem hlx)
    have hwi : IntKind.i64.wrap ((i : Int) + 1) = ((i + 1 : Nat) : Int) := wrap64_succ (by omega)
    have hap : ys.length + (signL [45] ((a.take i).drop i0)).length + 1 ≤ appendMax := by simp only [appendMax]; omega
    have hms : 1 + a[i].length ≤ maxStr := by simp only [maxStr]; omega
    have o := signL_snoc 45 a i0 i hi0 hlx
    generalize hz : signL [45] ((a.take i).drop i0) = z at *
    simp [hsz, h0, h6, h8, hbx, hv, hlt, hlx, hwi, hap, hms, hwe]
    exact ih _ _ (by omega) ⟨i + 1, rfl, by omega, by omega, ⟨by simp [hsz], by simp [h0], by simp [h1], by simp [h5], by simp [h6], by simp [h8], by simp [o]⟩, by simp⟩
  · obtain rfl : i = j := by omega
    simp [hsz, h0, h6, hv, hwe, -q_s_DiffOf_c13_run]
    exact hk _ ⟨by simp [hsz], by simp [h0], by simp [h1], by simp [h5], by simp [h6], by simp [h8], by simp [hbx]⟩
theorem diffS_loop4 (a b : Lines) (p s : Nat) (at_ : Int) (ys : Lines) (i0 j : Nat) (hij : i0 ≤ j) (hjq : b.length - s = j) (hs : s ≤ b.length) (hj : j ≤ b.length) (_ : a.length ≤ 1048576) (hb : b.length ≤ 1048576) (_ : p ≤ a.length) (hx : ∀ x ∈ b, x.length ≤ 1048576) (hys : ys.length ≤ 4194304) {ks : List Fr} {r : Option (V × Boxes)}
    (hk : ∀ e, DiffEnv a b p s at_ (ys ++ signL [43] ((b.take j).drop i0)) e → Run cx q_s_DiffOf_c12 e ks = r) :
    ∀ e, DiffEnv a b p s at_ ys e → e.get 11 = .one (.ro (N i0)) → Run cx (.loop q_s_DiffOf_l4) e (.blk 8 :: .seq q_s_DiffOf_c12 :: ks) = r := by
  intro e ⟨hsz, h0, h1, h5, h6, h8, hbx⟩ hv
  refine loop_run (fun m e => ∃ i, m = j - i ∧ i0 ≤ i ∧ i ≤ j ∧ DiffEnv a b p s at_ (ys ++ signL [43] ((b.take i).drop i0)) e ∧ e.get 11 = .one (.ro (N i))) ?_ (j - i0) _ ⟨i0, rfl, Nat.le_refl _, hij, ⟨hsz, h0, h1, h5, h6, h8, by rw [hbx]; simp [signL]⟩, hv⟩
  rintro m e ⟨i, rfl, hi0, hij', ⟨hsz, h0, h1, h5, h6, h8, hbx⟩, hv⟩ ih
  have hll : (signL [43] ((b.take i).drop i0)).length ≤ 1048576 := by rw [signL_len]; simp; omega
  have hwe : IntKind.i64.wrap ((b.length : Int) - (s : Nat)) = (j : Int) := by rw [wrap64 (by omega) (by omega)]; omega
  rcases Nat.lt_or_ge i j with hlt | hge
  · have hlx : i < b.length := by omega
    have hxl := hx _ (List.getElem_mem hlx)
    have hwi : IntKind.i64.wrap ((i : Int) + 1) = ((i + 1 : Nat) : Int) := wrap64_succ (by omega)
    have hap : ys.length + (signL [43] ((b.take i).drop i0)).length + 1 ≤ appendMax := by simp only [appendMax]; omega
    have hms : 1 + b[i].length ≤ maxStr := by simp only [maxStr]; omega
    have o := signL_snoc 43 b i0 i hi0 hlx
    generalize hz : signL [43] ((b.take i).drop i0) = z at *
    simp [hsz, h1, h6, h8, hbx, hv, hlt, hlx, hwi, hap, hms, hwe]
    exact ih _ _ (by omega) ⟨i + 1, rfl, by omega, by omega, ⟨by simp [hsz], by simp [h0], by simp [h1], by simp [h5], by simp [h6], by simp [h8], by simp [o]⟩, by simp⟩
  · obtain rfl : i = j := by omega
    simp [hsz, h1, h6, hv, hwe, -q_s_DiffOf_c12_run]
    exact hk _ ⟨by simp [hsz], by simp [h0], by simp [h1], by simp [h5], by simp [h6], by simp [h8], by simp [hbx]⟩
theorem diffS_loop5 (a b : Lines) (p s : Nat) (at_ : Int) (ys : Lines) (i0 j : Nat) (hij : i0 ≤ j) (q : Nat) (hq : a.length - s = q) (hs : s ≤ a.length) (hjm : min (q + 2) a.length = j) (hj : j ≤ a.length) (ha : a.length ≤ 1048576) (_ : b.length ≤ 1048576) (_ : p ≤ a.length) (hx : ∀ x ∈ a, x.length ≤ 1048576) (hys : ys.length ≤ 4194304) {ks : List Fr} {r : Option (V × Boxes)}
    (hk : ∀ e, DiffEnv a b p s at_ (ys ++ signL [32] ((a.take j).drop i0)) e → Run cx q_s_DiffOf_c11 e ks = r) :
    ∀ e, DiffEnv a b p s at_ ys e → e.get 12 = .one (.ro (N i0)) → Run cx (.loop q_s_DiffOf_l5) e (.blk 10 :: .seq q_s_DiffOf_c11 :: ks) = r := by
  intro e ⟨hsz, h0, h1, h5, h6, h8, hbx⟩ hv
  refine loop_run (fun m e => ∃ i, m = j - i ∧ i0 ≤ i ∧ i ≤ j ∧ DiffEnv a b p s at_ (ys ++ signL [32] ((a.take i).drop i0)) e ∧ e.get 12 = .one (.ro (N i))) ?_ (j - i0) _ ⟨i0, rfl, Nat.le_refl _, hij, ⟨hsz, h0, h1, h5, h6, h8, by rw [hbx]; simp [signL]⟩, hv⟩
  rintro m e ⟨i, rfl, hi0, hij', ⟨hsz, h0, h1, h5, h6, h8, hbx⟩, hv⟩ ih
  have hll : (signL [32] ((a.take i).drop i0)).length ≤ 1048576 := by rw [signL_len]; simp; omega
  have hwe : IntKind.i64.wrap ((a.length : Int) - (s : Nat)) = (q : Int) := by rw [wrap64 (by omega) (by omega)]; omega
  have hwq : IntKind.i64.wrap ((q : Int) + 2) = (q : Int) + 2 := wrap64 (by omega) (by omega)
  rcases Nat.lt_or_ge i j with hlt | hge
  · have hlx : i < a.length := by omega
    have hq2 : (i : Int) < (q : Int) + 2 := by omega
    have hxl := hx _ (List.getElem_mem hlx)
    have hwi : IntKind.i64.wrap ((i : Int) + 1) = ((i + 1 : Nat) : Int) := wrap64_succ (by omega)
    have hap : ys.length + (signL [32] ((a.take i).drop i0)).length + 1 ≤ appendMax := by simp only [appendMax]; omega
    have hms : 1 + a[i].length ≤ maxStr := by simp only [maxStr]; omega
    have o := signL_snoc 32 a i0 i hi0 hlx
    generalize hz : signL [32] ((a.take i).drop i0) = z at *
    simp [hsz, h0, h6, h8, hbx, hv, hq2, hlx, hwi, hap, hms, hwe, hwq]
    exact ih _ _ (by omega) ⟨i + 1, rfl, by omega, by omega, ⟨by simp [hsz], by simp [h0], by simp [h1], by simp [h5], by simp [h6], by simp [h8], by simp [o]⟩, by simp⟩
  · obtain rfl : i = j := by omega
    rcases Nat.lt_or_ge i a.length with hla | hla
    · have hq2 : ¬ (i : Int) < (q : Int) + 2 := by omega
      simp [hsz, h0, h6, hv, hwe, hwq, hla, hq2, -q_s_DiffOf_c11_run]
      exact hk _ ⟨by simp [hsz], by simp [h0], by simp [h1], by simp [h5], by simp [h6], by simp [h8], by simp [hbx]⟩
    · have hla' : ¬ i < a.length := by omega
      simp [hsz, h0, h6, hv, hla', -q_s_DiffOf_c11_run]
      exact hk _ ⟨by simp [hsz], by simp [h0], by simp [h1], by simp [h5], by simp [h6], by simp [h8], by simp [hbx]⟩
set_option maxHeartbeats 2000000 in
theorem diffOfS_ev (a b : Lines) (ha : a.length ≤ 1048576) (hb : b.length ≤ 1048576) (hxa : ∀ x ∈ a, x.length ≤ 1048576) (hxb : ∀ x ∈ b, x.length ≤ 1048576) :
    C fn_s_DiffOf [.ro (SS a), .ro (SS b)] [] = some (.one (.own (HS (diffS a b))), []) := by
  refine ctx_call Tryd.func42 conv_s_DiffOf rfl ?_
  have hla := l5Lines_ev a (by omega) (fun x hx => by have := hxa x hx; omega)
  have hlb := l5Lines_ev b (by omega) (fun x hx => by have := hxb x hx; omega)
  have hma : min a.length b.length ≤ a.length := Nat.min_le_left _ _
  have hmb : min a.length b.length ≤ b.length := Nat.min_le_right _ _
  have hhl := headFrom_le a b (min a.length b.length) 0 (by omega)
  have hP : headL a b ≤ min a.length b.length := by unfold headL; omega
  have htl := tailFrom_le a b (min a.length b.length - headL a b) (min a.length b.length) 0 (by omega)
  have hS : tailL a b ≤ min a.length b.length - headL a b := by unfold tailL; omega
  have rest2 : ∀ e : Env, e.size = 188 → e.get 0 = .one (.ro (SS a)) → e.get 1 = .one (.ro (SS b)) → e.get 5 = .one (.ro (N (headL a b))) → e.get 6 = .one (.ro (N (tailL a b))) →
      Run cx q_s_DiffOf_c16 e [.fn [(.tmp 4, 23)] []] = some (.one (.own (HS (if hunkS (diffHunk a b) then [diffHunk a b] else []))), []) := by
    intro e hsz h0 h1 h5 h6
    have hdh : diffHunk a b = (((headL a b - 2 : Nat) : Int) + 1, signL [32] ((a.take (headL a b)).drop (headL a b - 2)) ++ signL [45] ((a.take (a.length - tailL a b)).drop (headL a b)) ++ signL [43] ((b.take (b.length - tailL a b)).drop (headL a b)) ++ signL [32] ((a.take (min (a.length - tailL a b + 2) a.length)).drop (a.length - tailL a b))) := rfl
    have hok := l5Hunk_ev (diffHunk a b) (by
      rw [hdh]
      simp [signL_len]
      omega) (by
      rw [hdh]
      intro x hx
      simp only [List.mem_append, signL, List.mem_map] at hx
      rcases hx with ((⟨y, hy, rfl⟩ | ⟨y, hy, rfl⟩) | ⟨y, hy, rfl⟩) | ⟨y, hy, rfl⟩
      · have := hxa y (List.mem_of_mem_take (List.mem_of_mem_drop hy)); simp; omega
      · have := hxa y (List.mem_of_mem_take (List.mem_of_mem_drop hy)); simp; omega
      · have := hxb y (List.mem_of_mem_take (List.mem_of_mem_drop hy)); simp; omega
      · have := hxa y (List.mem_of_mem_take (List.mem_of_mem_drop hy)); simp; omega)
    generalize hgp : headL a b = p at *
    generalize hgs : tailL a b = s at *
    generalize min a.length b.length = m at *
    rw [hdh] at hok ⊢
    have l1 := signL_len [32] ((a.take p).drop (p - 2))
    have l2 := signL_len [45] ((a.take (a.length - s)).drop p)
    have l3 := signL_len [43] ((b.take (b.length - s)).drop p)
    have l4 := signL_len [32] ((a.take (min (a.length - s + 2) a.length)).drop (a.length - s))
    simp only [List.length_drop, List.length_take] at l1 l2 l3 l4
    have rend : ∀ e, DiffEnv a b p s (((p - 2 : Nat) : Int) + 1) (signL [32] ((a.take p).drop (p - 2)) ++ signL [45] ((a.take (a.length - s)).drop p) ++ signL [43] ((b.take (b.length - s)).drop p) ++ signL [32] ((a.take (min (a.length - s + 2) a.length)).drop (a.length - s))) e →
        Run cx q_s_DiffOf_c11 e [.fn [(.tmp 4, 23)] []] = some (.one (.own (HS (if hunkS (((p - 2 : Nat) : Int) + 1, signL [32] ((a.take p).drop (p - 2)) ++ signL [45] ((a.take (a.length - s)).drop p) ++ signL [43] ((b.take (b.length - s)).drop p) ++ signL [32] ((a.take (min (a.length - s + 2) a.length)).drop (a.length - s))) then [(((p - 2 : Nat) : Int) + 1, signL [32] ((a.take p).drop (p - 2)) ++ signL [45] ((a.take (a.length - s)).drop p) ++ signL [43] ((b.take (b.length - s)).drop p) ++ signL [32] ((a.take (min (a.length - s + 2) a.length)).drop (a.length - s)))] else []))), []) := by
      intro e ⟨hsz, h0, h1, h5, h6, h8, hbx⟩
      generalize signL [32] ((a.take p).drop (p - 2)) ++ signL [45] ((a.take (a.length - s)).drop p) ++ signL [43] ((b.take (b.length - s)).drop p) ++ signL [32] ((a.take (min (a.length - s + 2) a.length)).drop (a.length - s)) = x at *
      generalize ((p - 2 : Nat) : Int) + 1 = f1 at *
      cases hk : hunkS (f1, x) with
      | false =>
        rw [hk] at hok
        simp [hsz, h8, hbx, hok]
      | true =>
        rw [hk] at hok
        simp [hsz, h8, hbx, hok]
    generalize hgg : some (V.one (A.own (HS (if hunkS (((p - 2 : Nat) : Int) + 1, signL [32] ((a.take p).drop (p - 2)) ++ signL [45] ((a.take (a.length - s)).drop p) ++ signL [43] ((b.take (b.length - s)).drop p) ++ signL [32] ((a.take (min (a.length - s + 2) a.length)).drop (a.length - s))) then [(((p - 2 : Nat) : Int) + 1, signL [32] ((a.take p).drop (p - 2)) ++ signL [45] ((a.take (a.length - s)).drop p) ++ signL [43] ((b.take (b.length - s)).drop p) ++ signL [32] ((a.take (min (a.length - s + 2) a.length)).drop (a.length - s)))] else []))), ([] : Boxes)) = goal at *
    generalize hx1 : signL [32] ((a.take p).drop (p - 2)) = x1 at *
    generalize hx2 : signL [45] ((a.take (a.length - s)).drop p) = x2 at *
    generalize hx3 : signL [43] ((b.take (b.length - s)).drop p) = x3 at *
    generalize hx4 : signL [32] ((a.take (min (a.length - s + 2) a.length)).drop (a.length - s)) = x4 at *
    have hwe : IntKind.i64.wrap ((a.length : Int) - (s : Nat)) = ((a.length - s : Nat) : Int) := by rw [wrap64 (by omega) (by omega)]; omega
    have r5 : ∀ e, DiffEnv a b p s (((p - 2 : Nat) : Int) + 1) (x1 ++ x2 ++ x3) e → Run cx q_s_DiffOf_c12 e [.fn [(.tmp 4, 23)] []] = goal := by
      intro e ⟨hsz, h0, h1, h5, h6, h8, hbx⟩
      simp [hsz, h0, h6, hwe]
      exact diffS_loop5 a b p s _ (x1 ++ x2 ++ x3) (a.length - s) (min (a.length - s + 2) a.length) (by omega) (a.length - s) rfl (by omega) rfl (by omega) ha hb (by omega) hxa (by simp; omega) (by rw [hx4]; exact rend) _
        ⟨by simp [hsz], by simp [h0], by simp [h1], by simp [h5], by simp [h6], by simp [h8], by simp [hbx]⟩ (by simp)
    have r4 : ∀ e, DiffEnv a b p s (((p - 2 : Nat) : Int) + 1) (x1 ++ x2) e → Run cx q_s_DiffOf_c13 e [.fn [(.tmp 4, 23)] []] = goal := by
      intro e ⟨hsz, h0, h1, h5, h6, h8, hbx⟩
      simp [hsz, h5]
      exact diffS_loop4 a b p s _ (x1 ++ x2) p (b.length - s) (by omega) rfl (by omega) (by omega) ha hb (by omega) hxb (by simp; omega) (by rw [hx3]; exact r5) _
        ⟨by simp [hsz], by simp [h0], by simp [h1], by simp [h5], by simp [h6], by simp [h8], by simp [hbx]⟩ (by simp)
    have r3 : ∀ e, DiffEnv a b p s (((p - 2 : Nat) : Int) + 1) x1 e → Run cx q_s_DiffOf_c14 e [.fn [(.tmp 4, 23)] []] = goal := by
      intro e ⟨hsz, h0, h1, h5, h6, h8, hbx⟩
      simp [hsz, h5]
      exact diffS_loop3 a b p s _ x1 p (a.length - s) (by omega) rfl (by omega) (by omega) ha hb (by omega) hxa (by omega) (by rw [hx2]; exact r4) _
        ⟨by simp [hsz], by simp [h0], by simp [h1], by simp [h5], by simp [h6], by simp [h8], by simp [hbx]⟩ (by simp)
    have hwf : IntKind.i64.wrap (((p - 2 : Nat) : Int) + 1) = ((p - 2 : Nat) : Int) + 1 := wrap64 (by omega) (by omega)
    have r2 : ∀ e : Env, e.size = 188 → e.get 0 = .one (.ro (SS a)) → e.get 1 = .one (.ro (SS b)) → e.get 5 = .one (.ro (N p)) → e.get 6 = .one (.ro (N s)) → e.get 7 = .one (.ro (N (p - 2))) → Run cx q_s_DiffOf_c15 e [.fn [(.tmp 4, 23)] []] = goal := by
      intro e hsz h0 h1 h5 h6 h7
      generalize hf : p - 2 = f at *
      simp [hsz, h7, hwf]
      exact diffS_loop2 a b p s _ [] f p (by omega) rfl (by omega) ha hb (by omega) hxa (by simp) (by rw [List.nil_append, hx1]; exact r3) _
        ⟨by simp [hsz], by simp [h0], by simp [h1], by simp [h5], by simp [h6], by simp, by simp⟩ (by simp)
    rcases Nat.lt_or_ge p 2 with hp2 | hp2
    · have hw2 : IntKind.i64.wrap ((p : Int) - 2) = (p : Int) - 2 := wrap64 (by omega) (by omega)
      have hneg : (p : Int) - 2 < 0 := by omega
      have hz : p - 2 = 0 := by omega
      simp [hsz, h5, hw2, hneg, -q_s_DiffOf_c15_run]
      exact r2 _ (by simp [hsz]) (by simp [h0]) (by simp [h1]) (by simp [h5]) (by simp [h6]) (by simp [hz])
    · have hw2 : IntKind.i64.wrap ((p : Int) - 2) = ((p - 2 : Nat) : Int) := by rw [wrap64 (by omega) (by omega)]; omega
      have hneg : ¬ ((p - 2 : Nat) : Int) < 0 := by omega
      generalize hf : p - 2 = f at *
      simp [hsz, h5, hw2, hneg, -q_s_DiffOf_c15_run]
      exact r2 _ (by simp [hsz]) (by simp [h0]) (by simp [h1]) (by simp [h5]) (by simp [h6]) (by simp)
  have rest1 : ∀ e : Env, e.size = 188 → e.get 0 = .one (.ro (SS a)) → e.get 1 = .one (.ro (SS b)) → e.get 5 = .one (.ro (N (headL a b))) →
      Run cx q_s_DiffOf_c17 e [.fn [(.tmp 4, 23)] []] = some (.one (.own (HS (if hunkS (diffHunk a b) then [diffHunk a b] else []))), []) := by
    intro e hsz h0 h1 h5
    have hwA : IntKind.i64.wrap ((a.length : Int) - (headL a b : Nat)) = ((a.length - headL a b : Nat) : Int) := by rw [wrap64 (by omega) (by omega)]; omega
    have hwB : IntKind.i64.wrap ((b.length : Int) - (headL a b : Nat)) = ((b.length - headL a b : Nat) : Int) := by rw [wrap64 (by omega) (by omega)]; omega
    simp [hsz]
    refine loop_run (fun m e => ∃ s, m = min a.length b.length - headL a b - s ∧ s ≤ min a.length b.length - headL a b ∧ e.size = 188 ∧ e.get 0 = .one (.ro (SS a)) ∧ e.get 1 = .one (.ro (SS b)) ∧ e.get 5 = .one (.ro (N (headL a b))) ∧ e.get 6 = .one (.ro (N s)) ∧
      tailFrom a b (min a.length b.length - headL a b) (min a.length b.length - s) s = tailL a b) ?_ (min a.length b.length - headL a b) _ ⟨0, rfl, Nat.zero_le _, by simp [hsz], by simp [h0], by simp [h1], by simp [h5], by simp, rfl⟩
    rintro m e ⟨s, rfl, hs, hsz, h0, h1, h5, h6, hr⟩ ih
    rcases Nat.lt_or_ge s (min a.length b.length - headL a b) with hlt | hge
    · obtain ⟨f, hf⟩ : ∃ f, min a.length b.length - s = f + 1 := ⟨min a.length b.length - s - 1, by omega⟩
      have hia : a.length - 1 - s < a.length := by omega
      have hib : b.length - 1 - s < b.length := by omega
      have hltA : s < a.length - headL a b := by omega
      have hltB : s < b.length - headL a b := by omega
      have hga : a[a.length - 1 - s]? = some a[a.length - 1 - s] := List.getElem?_eq_getElem hia
      have hgb : b[b.length - 1 - s]? = some b[b.length - 1 - s] := List.getElem?_eq_getElem hib
      have hwa1 : IntKind.i64.wrap ((a.length : Int) - 1) = ((a.length - 1 : Nat) : Int) := by rw [wrap64 (by omega) (by omega)]; omega
      have hwb1 : IntKind.i64.wrap ((b.length : Int) - 1) = ((b.length - 1 : Nat) : Int) := by rw [wrap64 (by omega) (by omega)]; omega
      have hwa : IntKind.i64.wrap (((a.length - 1 : Nat) : Int) - (s : Nat)) = ((a.length - 1 - s : Nat) : Int) := by rw [wrap64 (by omega) (by omega)]; omega
      have hwb : IntKind.i64.wrap (((b.length - 1 : Nat) : Int) - (s : Nat)) = ((b.length - 1 - s : Nat) : Int) := by rw [wrap64 (by omega) (by omega)]; omega
      have hwi : IntKind.i64.wrap ((s : Int) + 1) = ((s + 1 : Nat) : Int) := wrap64_succ (by omega)
      rw [hf, tailFrom, if_pos hlt, hga, hgb] at hr
      dsimp only at hr
      generalize hAA : a.length - headL a b = pa at *
      generalize hBB : b.length - headL a b = pb at *
      generalize hA : a.length - 1 = la at *
      generalize hB : b.length - 1 = lb at *
      generalize hIA : la - s = ia at *
      generalize hIB : lb - s = ib at *
      cases hp : a[ia] == b[ib] with
      | false =>
        rw [hp] at hr
        simp only [Bool.false_eq_true, if_false] at hr
        simp [hsz, h0, h1, h5, h6, hwA, hwB, hltA, hltB, hwa1, hwb1, hwa, hwb, hia, hib, hp, -q_s_DiffOf_c16_run]
        exact rest2 _ (by simp [hsz]) (by simp [h0]) (by simp [h1]) (by simp [h5]) (by simp [h6, hr])
      | true =>
        rw [hp, if_pos rfl] at hr
        simp [hsz, h0, h1, h5, h6, hwA, hwB, hltA, hltB, hwa1, hwb1, hwa, hwb, hia, hib, hp, hwi]
        exact ih _ _ (by omega) ⟨s + 1, rfl, by omega, by simp [hsz], by simp [h0], by simp [h1], by simp [h5], by simp, by rw [← hr]; congr 1; omega⟩
    · obtain rfl : s = min a.length b.length - headL a b := by omega
      have hr' : tailL a b = min a.length b.length - headL a b := by
        rw [← hr]
        cases hf : min a.length b.length - (min a.length b.length - headL a b) with
        | zero => rfl
        | succ f => rw [tailFrom, if_neg (by omega)]
      rcases Nat.lt_or_ge (min a.length b.length - headL a b) (a.length - headL a b) with hA | hA
      · have hB : ¬ min a.length b.length - headL a b < b.length - headL a b := by omega
        generalize hgm : min a.length b.length - headL a b = mm at *
        generalize hAA : a.length - headL a b = pa at *
        generalize hBB : b.length - headL a b = pb at *
        simp [hsz, h0, h1, h5, h6, hwA, hwB, hA, hB, -q_s_DiffOf_c16_run]
        exact rest2 _ (by simp [hsz]) (by simp [h0]) (by simp [h1]) (by simp [h5]) (by simp [h6, hr'])
      · have hA' : ¬ min a.length b.length - headL a b < a.length - headL a b := by omega
        generalize hgm : min a.length b.length - headL a b = mm at *
        generalize hAA : a.length - headL a b = pa at *
        generalize hBB : b.length - headL a b = pb at *
        simp [hsz, h0, h1, h5, h6, hwA, hA', -q_s_DiffOf_c16_run]
        exact rest2 _ (by simp [hsz]) (by simp [h0]) (by simp [h1]) (by simp [h5]) (by simp [h6, hr'])
  have rest0 : ∀ e : Env, e.size = 188 → e.get 0 = .one (.ro (SS a)) → e.get 1 = .one (.ro (SS b)) →
      Run cx q_s_DiffOf_c18 e [.fn [(.tmp 4, 23)] []] = some (.one (.own (HS (if hunkS (diffHunk a b) then [diffHunk a b] else []))), []) := by
    intro e hsz h0 h1
    simp [hsz]
    refine loop_run (fun m e => ∃ i, m = min a.length b.length - i ∧ i ≤ min a.length b.length ∧ e.size = 188 ∧ e.get 0 = .one (.ro (SS a)) ∧ e.get 1 = .one (.ro (SS b)) ∧ e.get 5 = .one (.ro (N i)) ∧
      headFrom a b (min a.length b.length - i) i = headL a b) ?_ (min a.length b.length) _ ⟨0, rfl, Nat.zero_le _, by simp [hsz], by simp [h0], by simp [h1], by simp, rfl⟩
    rintro m e ⟨i, rfl, hi, hsz, h0, h1, h5, hr⟩ ih
    rcases Nat.lt_or_ge i (min a.length b.length) with hlt | hge
    · obtain ⟨f, hf⟩ : ∃ f, min a.length b.length - i = f + 1 := ⟨min a.length b.length - i - 1, by omega⟩
      have hia : i < a.length := by omega
      have hib : i < b.length := by omega
      have hwi : IntKind.i64.wrap ((i : Int) + 1) = ((i + 1 : Nat) : Int) := wrap64_succ (by omega)
      rw [hf, headFrom, List.getElem?_eq_getElem hia, List.getElem?_eq_getElem hib] at hr
      dsimp only at hr
      cases hp : a[i] == b[i] with
      | false =>
        rw [hp] at hr
        simp only [Bool.false_eq_true, if_false] at hr
        simp [hsz, h0, h1, h5, hia, hib, hp, -q_s_DiffOf_c17_run]
        exact rest1 _ (by simp [hsz]) (by simp [h0]) (by simp [h1]) (by simp [h5, hr])
      | true =>
        rw [hp, if_pos rfl] at hr
        simp [hsz, h0, h1, h5, hia, hib, hp, hwi]
        exact ih _ _ (by omega) ⟨i + 1, rfl, by omega, by simp [hsz], by simp [h0], by simp [h1], by simp, by rw [← hr]; congr 1; omega⟩
    · obtain rfl : i = min a.length b.length := by omega
      have hr' : headL a b = min a.length b.length := by
        rw [← hr, Nat.sub_self]; rfl
      rcases Nat.lt_or_ge (min a.length b.length) a.length with hA | hA
      · have hB : ¬ min a.length b.length < b.length := by omega
        generalize hgm : min a.length b.length = mm at *
        simp [hsz, h0, h1, h5, hA, hB, -q_s_DiffOf_c17_run]
        exact rest1 _ (by simp [hsz]) (by simp [h0]) (by simp [h1]) (by simp [h5, hr'])
      · have hA' : ¬ min a.length b.length < a.length := by omega
        generalize hgm : min a.length b.length = mm at *
        simp [hsz, h0, h1, h5, hA', -q_s_DiffOf_c17_run]
        exact rest1 _ (by simp [hsz]) (by simp [h0]) (by simp [h1]) (by simp [h5, hr'])
  unfold diffS
  cases c1 : linesS a with
  | false => rw [c1] at hla; simp [hla]
  | true =>
  cases c2 : linesS b with
  | false => rw [c1] at hla; rw [c2] at hlb; simp [hla, hlb]
  | true =>
  rw [c1] at hla; rw [c2] at hlb
  by_cases hl : a.length = b.length
  · have heq := l5Same0_ev a b hl (by omega)
    cases c3 : a == b with
    | true => rw [c3] at heq; simp [hla, hlb, hl, heq]
    | false =>
      rw [c3] at heq
      simp [hla, hlb, hl, heq, -q_s_DiffOf_c18_run]
      exact rest0 _ (by simp) (by simp) (by simp)
  · have c3 : (a == b) = false := by
      cases h : a == b with
      | false => rfl
      | true => exact absurd (congrArg List.length (eq_of_beq h)) hl
    have hl' : (a.length == b.length) = false := by simp [hl]
    simp [hla, hlb, hl', c3, -q_s_DiffOf_c18_run]
    exact rest0 _ (by simp) (by simp) (by simp)
end Go.Qz
namespace Go.Qz
open Go.Proofs
theorem draw_one {bs : List Int} (hb : Seed bs) {i : Nat} (hi : i ≤ 100000) (xs : List Int) (h0 : 0 < xs.length) (hn : xs.length ≤ 100000) :
    ∃ x j, x ∈ xs ∧ j ≤ i + 1 ∧ C fn_s_l1Rd_one [.ptr 5000 0, .ro (.sl 1 (xs.map I))] [(5000, RB bs i)] = some (.one (.ro (I x)), [(5000, RB bs j)]) := by
  obtain ⟨r, hr, hp⟩ := pick_ev bs hb.byte hb.len i hi xs.length h0 hn
  refine ⟨xs[r], i + 1, List.getElem_mem hr, Nat.le_refl _, ctx_call Tryd.func30 conv_s_l1Rd_one rfl ?_⟩
  simp [hp, hr]
structure HkShort (hs : List Hk) (n : Nat) : Prop where
  len : hs.length ≤ n
  lines : ∀ h ∈ hs, h.2.length ≤ 100
  each : ∀ h ∈ hs, ∀ x ∈ h.2, x.length ≤ 1000
theorem hkShort_nil : HkShort [] 0 := ⟨by simp, by simp, by simp⟩
theorem HkShort.mono {hs : List Hk} {n m : Nat} (h : HkShort hs n) (hm : n ≤ m) : HkShort hs m := ⟨Nat.le_trans h.len hm, h.lines, h.each⟩
theorem HkShort.append {hs gs : List Hk} {n m : Nat} (h : HkShort hs n) (g : HkShort gs m) : HkShort (hs ++ gs) (n + m) :=
  ⟨by rw [List.length_append]; exact Nat.add_le_add h.len g.len, fun x hx => (List.mem_append.1 hx).elim (h.lines x) (g.lines x), fun x hx => (List.mem_append.1 hx).elim (h.each x) (g.each x)⟩
theorem hkShort_one {a : Int} {ls : Lines} (hl : ls.length ≤ 100) (he : ∀ x ∈ ls, x.length ≤ 1000) : HkShort [(a, ls)] 1 :=
  ⟨by simp, fun h hh => by simp at hh; subst hh; exact hl, fun h hh => by simp at hh; subst hh; exact he⟩
theorem hlOk_len {x : List UInt8} (h : hlOk x = true) : x.length ≤ 1000 := by
  cases x with
  | nil => cases h
  | cons c r => simp only [hlOk, Bool.and_eq_true, plainT, decide_eq_true_eq] at h; have := h.2.1; simp; omega
theorem diffS_short (a b : Lines) : HkShort (diffS a b) 1 := by
  unfold diffS
  split
  · exact hkShort_nil.mono (by omega)
  · split
    · rename_i hk
      obtain ⟨p1, p2, p3, p4, p5⟩ := hunkS_parts hk
      refine ⟨by simp, fun h hh => by simp at hh; subst hh; omega, fun h hh x hx => ?_⟩
      simp at hh
      subst hh
      have h1 : (diffHunk a b).2.all hlS = true := by
        simp only [hunkS, Bool.and_eq_true] at hk
        exact hk.1
      have h2 := List.all_eq_true.1 h1 x hx
      rw [hlS_eq] at h2
      exact hlOk_len h2
    · exact hkShort_nil.mono (by omega)
def HunksOut (bs : List Int) (n i : Nat) (r : V × Boxes) : Prop := ∃ hs j, HkShort hs n ∧ j ≤ i ∧ r = (.one (.own (HS hs)), [(5000, RB bs j)])
theorem hunks_ev (bs : List Int) (hb : Seed bs) (i : Nat) (hi : i ≤ 500) : Ends (HunksOut bs 2 (i + 40)) (C fn_s_l11Hunks [.ptr 5000 0] [(5000, RB bs i)]) := by
  refine call_ex Tryd.func27 conv_s_l11Hunks rfl ?_
  obtain ⟨r1, ⟨a, j, hsa, hj, rfl⟩, hl⟩ := lines_ev bs hb i (by omega)
  have hal := hsa.len
  obtain ⟨r2, ⟨b, j2, hsb, hj2, rfl⟩, hl2⟩ := near_ev bs hb j (by omega) a 8 hsa (by omega)
  have hbl := hsb.len
  have hS := diffOfS_ev a b (by omega) (by omega) (fun x h => by have := hsa.each x h; omega) (fun x h => by have := hsb.each x h; omega)
  have hd := diffS_short a b
  generalize diffS a b = hs at *
  have hdl := hd.len
  obtain ⟨k, j3, hk, hj3, hp⟩ := draw_pick hb (i := j2) (by omega) 2 2 rfl (by omega) (by omega)
  by_cases k0 : k = 0
  · subst k0
    obtain ⟨q, j4, hq, hj4, hp2⟩ := draw_pick hb (i := j3) (by omega) 9 9 rfl (by omega) (by omega)
    obtain ⟨m, j5, hm, hj5, hp3⟩ := draw_pick hb (i := j4) (by omega) 4 4 rfl (by omega) (by omega)
    have w1 : IntKind.i64.wrap (1 + (q : Int)) = ((1 + q : Nat) : Int) := by rw [wrap64 (by omega) (by omega)]; omega
    have w2 : IntKind.i64.wrap (1 + (m : Int)) = ((1 + m : Nat) : Int) := by rw [wrap64 (by omega) (by omega)]; omega
    simp [hl, hl2, hS, hp, hp2, hp3, w1, w2]
    refine loop_ex (fun m e => ∃ (ls : Lines) (j : Nat), Short ls (4 - m) ∧ m ≤ 4 ∧ j + 2 * m ≤ i + 35 ∧ e.size = 45 ∧ e.get 0 = .one (.ptr 5000 0) ∧ e.get 4 = .one (.own (HS hs)) ∧ e.get 5 = .one (.ptr 5 0) ∧ e.get 6 = .one (.ro (N m)) ∧ e.box 5 = some [.ro (N (1 + q)), .own (SS ls)] ∧ e.box 5000 = some (RB bs j))
      ?_ (1 + m) _ ⟨[], j5, ⟨by simp, by simp⟩, by omega, by omega, by simp, by simp, by simp, by simp, by simp, by simp, by simp⟩
    rintro m e ⟨ls, j, hsl, hm4, hj, hsz, h0, h4, h5, h6, b5, b50⟩ ih
    have hll := hsl.len
    by_cases hm : m = 0
    · subst hm
      have a1 : hs.length + 1 ≤ appendMax := by simp [appendMax]; omega
      simp [hsz, h4, h5, h6, b5, b50, a1]
      exact .of ⟨hs ++ [(((1 + q : Nat) : Int), ls)], j, (hd.append (hkShort_one (by omega) hsl.each)), by omega, by simp⟩
    · have hm0 : 0 < m := by omega
      have hwm : IntKind.i64.wrap ((m : Int) - 1) = ((m - 1 : Nat) : Int) := by rw [wrap64 (by omega) (by omega)]; omega
      obtain ⟨x, j1, hx, hj1, ho⟩ := draw_of hb (i := j) (by omega) [[32], [45], [43]] (by simp) (by simp)
      obtain ⟨y, j2, hy, hj2, ho2⟩ := draw_of hb (i := j1) (by omega) [[97], [98], [115, 97, 109, 101], []] (by simp) (by simp)
      simp only [List.map_cons, List.map_nil] at ho ho2
      have hxl : x.length ≤ 10 := by simp at hx; rcases hx with rfl | rfl | rfl <;> simp
      have hyl : y.length ≤ 10 := by simp at hy; rcases hy with rfl | rfl | rfl | rfl <;> simp
      have hxy : x.length + y.length ≤ maxStr := by simp [maxStr]; omega
      have a1 : ls.length + 1 ≤ appendMax := by simp [appendMax]; omega
      simp [hsz, h0, h5, h6, b5, b50, hm0, ho, ho2, hxy, a1, hwm]
      exact ih (m - 1) _ (by omega) ⟨ls ++ [x ++ y], j2, ⟨by simp; omega, fun z hz => by
        rcases List.mem_append.1 hz with h | h
        · exact hsl.each z h
        · simp at h; subst h; simp; omega⟩, by omega, by omega, by simp [hsz], by simp [h0], by simp [h4], by simp [h5], by simp, by simp, by simp⟩
  · simp [hl, hl2, hS, hp, k0]
    exact .of ⟨hs, j3, hd.mono (by omega), by omega, rfl⟩
def AnyOut (bs : List Int) (n i : Nat) (r : V × Boxes) : Prop := ∃ hs j x, HkShort hs n ∧ j ≤ i ∧ (x = .own (HS hs) ∨ x = .ro (HS hs)) ∧ r = (.one x, [(5000, RB bs j)])
theorem anyHunks_ev (bs : List Int) (hb : Seed bs) (i : Nat) (hi : i ≤ 400) : Ends (AnyOut bs 4 (i + 50)) (C fn_s_l11AnyHunks [.ptr 5000 0] [(5000, RB bs i)]) := by
  refine call_ex Tryd.func13 conv_s_l11AnyHunks rfl ?_
  obtain ⟨r1, ⟨hs, j, hsh, hj, rfl⟩, hl⟩ := hunks_ev bs hb i (by omega)
  have hlen := hsh.len
  have a0 : hs.length ≤ appendMax := by simp [appendMax]; omega
  obtain ⟨k, j3, hk, hj3, hp⟩ := draw_pick hb (i := j) (by omega) 12 12 rfl (by omega) (by omega)
  by_cases k0 : k = 0
  · subst k0
    obtain ⟨q, j4, hq, hj4, ho⟩ := draw_one hb (i := j3) (by omega) [0, 1, 1000, 30] (by simp) (by simp)
    obtain ⟨x, j5, hx, hj5, ho2⟩ := draw_of hb (i := j4) (by omega) [[], [120], [32, 10], [43, 111, 107]] (by simp) (by simp)
    simp only [List.map_cons, List.map_nil, I] at ho
    simp only [List.map_cons, List.map_nil] at ho2
    have hxl : x.length ≤ 1000 := by simp at hx; rcases hx with rfl | rfl | rfl | rfl <;> simp
    have a1 : hs.length + 1 ≤ appendMax := by simp [appendMax]; omega
    cases hfl : flats (List.map HD hs) <;> simp [hl, hp, ho, ho2, a0, a1, hfl]
    all_goals exact .of ⟨hs ++ [(q, [x])], j5, .own (HS (hs ++ [(q, [x])])), (hsh.append (hkShort_one (by simp) (by simp; exact hxl))).mono (by omega), by omega, .inl rfl, by simp⟩
  by_cases k1 : k = 1
  · subst k1
    have a1 : hs.length + hs.length ≤ appendMax := by simp [appendMax]; omega
    cases hfl : flats (List.map HD hs) with
    | true =>
      simp [hl, hp, a0, a1, hfl]
      exact .of ⟨hs ++ hs, j3, .own (HS (hs ++ hs)), (hsh.append hsh).mono (by omega), by omega, .inl rfl, by simp⟩
    | false =>
      have hne : hs ≠ [] := fun h => by subst h; cases hfl
      simp [hl, hp, a0, a1, hfl, hne]
      exact .of ⟨hs ++ hs, j3, .ro (HS (hs ++ hs)), (hsh.append hsh).mono (by omega), by omega, .inr rfl, by simp⟩
  · have k2 : (k == 0) = false := by simp [k0]
    have k3 : (k == 1) = false := by simp [k1]
    cases hfl : flats (List.map HD hs) <;> simp [hl, hp, a0, k2, k3, hfl]
    all_goals exact .of ⟨hs, j3, .own (HS hs), hsh.mono (by omega), by omega, .inl rfl, by simp⟩
end Go.Qz
namespace Go.Qz
open Go.Proofs
section
variable {bs : List Int} (hb : Seed bs) {i : Nat}
include hb
def TextOut (bs : List Int) (n k : Nat) (r : V × Boxes) : Prop := ∃ (s : List UInt8) (j : Nat), s.length ≤ n ∧ j ≤ k ∧ r = (.one (.ro (T s)), [(5000, RB bs j)])
theorem cutDraw_ev (s : List UInt8) (hs : s.length ≤ 90000) (hi : i ≤ 1000) : Ends (TextOut bs (s.length + 1) (i + 3)) (C fn_s_l11Cut [.ptr 5000 0, .ro (T s)] [(5000, RB bs i)]) := by
  refine call_ex Tryd.func26 conv_s_l11Cut rfl ?_
  have hw : IntKind.i64.wrap ((s.length : Int) + 1) = (s.length : Int) + 1 := wrap64 (by omega) (by omega)
  obtain ⟨k, j1, hk, hj1, c1⟩ := draw_pick hb (i := i) (by omega) (s.length + 1) ((s.length : Int) + 1) (by omega) (by omega) (by omega)
  obtain ⟨n, j2, hn, hj2, c2⟩ := draw_pick hb (i := j1) (by omega) 5 5 rfl (by omega) (by omega)
  have hkl : k ≤ s.length := by omega
  have hkl' : (k : Int) ≤ s.length := by omega
  by_cases n0 : n = 0
  · subst n0
    obtain ⟨x, j3, hx, hj3, c3⟩ := draw_of hb (i := j2) (by omega) [[32], [10], [48], [120], [47], [45]] (by simp) (by simp)
    simp only [List.map_cons, List.map_nil] at c3
    have hxl : x.length = 1 := by
      clear c3
      revert x
      decide
    have m1 : k + x.length ≤ maxStr := by unfold maxStr; omega
    have m2 : k + x.length + (s.length - k) ≤ maxStr := by unfold maxStr; omega
    simp [hw, c1, c2, c3, hkl, hkl', m1, m2]
    exact .of ⟨s.take k ++ (x ++ s.drop k), j3, by simp; omega, by omega, by simp⟩
  · by_cases n1 : n = 1
    · subst n1
      simp [hw, c1, c2, hkl']
      exact .of ⟨s.take k, j2, by simp; omega, by omega, by simp⟩
    · have b0 : (n == 0) = false := by simpa using n0
      have b1 : (n == 1) = false := by simpa using n1
      simp [hw, c1, c2, b0, b1]
      exact .of ⟨s, j2, by omega, by omega, by simp⟩
end
theorem seed_take {bs : List Int} (hb : ∀ b ∈ bs, 0 ≤ b ∧ b ≤ 255) : Seed (bs.take 2000) := ⟨fun b h => hb b (List.mem_of_mem_take h), by simp; omega⟩
end Go.Qz
namespace Go.Qz
open Go.Proofs
def brk (b : UInt8) : List UInt8 → Option (List UInt8 × List UInt8)
  | [] => none
  | c :: r => if c == b then some ([], r) else (brk b r).map fun p => (c :: p.1, p.2)
theorem brk_app {b : UInt8} : ∀ {d n r : List UInt8}, brk b d = some (n, r) → d = n ++ b :: r
  | [], n, r, h => by cases h
  | c :: d, n, r, h => by
    unfold brk at h
    split at h
    · rename_i hc
      cases h
      have : c = b := by simpa using hc
      rw [this]; rfl
    · obtain ⟨p, hp, he⟩ := Option.map_eq_some_iff.1 h
      cases he
      rw [brk_app (n := p.1) (r := p.2) hp]
      rfl
theorem brk_name {b : UInt8} : ∀ {n : List UInt8} (r : List UInt8), (∀ c ∈ n, c ≠ b) → brk b (n ++ b :: r) = some (n, r)
  | [], r, _ => by simp [brk]
  | c :: n, r, h => by
    have hc : (c == b) = false := by have := h c (by simp); simpa using this
    rw [List.cons_append, brk, hc, brk_name r (fun b hb => h b (by simp [hb]))]
    rfl
theorem brk_none {b : UInt8} : ∀ {n : List UInt8}, (∀ c ∈ n, c ≠ b) → brk b n = none
  | [], _ => rfl
  | c :: n, h => by
    have hc : (c == b) = false := by have := h c (by simp); simpa using this
    rw [brk, hc, brk_none (fun b hb => h b (by simp [hb]))]
    rfl
theorem index_brk (b : UInt8) : ∀ d : List UInt8, (brk b d = none ∧ Lib.index d [b] = -1) ∨ ∃ n r, brk b d = some (n, r) ∧ Lib.index d [b] = n.length
  | [] => .inl ⟨rfl, by simp [Lib.index]⟩
  | c :: r => by
    have hb : (b == c) = (c == b) := Bool.beq_comm
    unfold brk
    cases hc : c == b with
    | true =>
      refine .inr ⟨[], r, rfl, ?_⟩
      rw [hc] at hb
      simp [Lib.index, List.isPrefixOf, hb]
    | false =>
      rw [hc] at hb
      have h1 : Lib.index (c :: r) [b] = if Lib.index r [b] == -1 then -1 else Lib.index r [b] + 1 := by
        simp [Lib.index, List.isPrefixOf, hb]
      rcases index_brk b r with ⟨x1, x2⟩ | ⟨n, q, x1, x2⟩
      · refine .inl ⟨by rw [x1]; rfl, by rw [h1, x2]; rfl⟩
      · refine .inr ⟨c :: n, q, by rw [x1]; rfl, ?_⟩
        rw [h1, x2]
        have : ((n.length : Int) == -1) = false := by rw [beq_eq_false_iff_ne]; omega
        rw [this]
        simp
theorem cut_brk (b : UInt8) (d : List UInt8) : Lib.cut d [b] = (match brk b d with | some p => (p.1, p.2, true) | none => (d, [], false)) := by
  rcases index_brk b d with ⟨x1, x2⟩ | ⟨n, r, x1, x2⟩
  · rw [x1]
    simp [Lib.cut, x2]
  · have ha := brk_app x1
    rw [x1]
    simp only [Lib.cut, x2, if_pos (show (0 : Int) ≤ n.length by omega), Int.toNat_natCast, List.length_singleton]
    rw [ha]
    simp
def cutP (b : UInt8) : Nat → List UInt8 → List UInt8 → Lines
  | _, pre, [] => [pre]
  | 0, pre, c :: r => [pre ++ c :: r]
  | k + 1, pre, c :: r => if c == b then pre :: cutP b k [] r else cutP b (k + 1) (pre ++ [c]) r
theorem cutP_zero (b : UInt8) (pre s : List UInt8) : cutP b 0 pre s = [pre ++ s] := by cases s <;> simp [cutP]
theorem cutP_brk (b : UInt8) (k : Nat) : ∀ (s pre : List UInt8), cutP b (k + 1) pre s = (match brk b s with | some p => (pre ++ p.1) :: cutP b k [] p.2 | none => [pre ++ s])
  | [], pre => by simp [cutP, brk]
  | c :: r, pre => by
    rw [cutP, brk]
    split
    · simp
    · rw [cutP_brk b k r]
      cases h : brk b r with
      | none => simp
      | some p => simp
theorem cutP_ge (b : UInt8) : ∀ (k k' : Nat) (s pre : List UInt8), s.length ≤ k → s.length ≤ k' → cutP b k pre s = cutP b k' pre s
  | _, _, [], pre, _, _ => by simp [cutP]
  | 0, _, c :: r, _, h, _ => by simp at h
  | _, 0, c :: r, _, _, h => by simp at h
  | k + 1, k' + 1, c :: r, pre, h, h' => by
    simp only [List.length_cons] at h h'
    rw [cutP, cutP]
    split
    · rw [cutP_ge b k k' r [] (by omega) (by omega)]
    · exact cutP_ge b (k + 1) (k' + 1) r _ (by omega) (by omega)
theorem splitK_cut (b : UInt8) : ∀ (k : Nat) (s : List UInt8), Lib.splitK [b] 0 k s = cutP b k [] s
  | 0, s => by rw [cutP_zero]; rfl
  | k + 1, s => by
    rw [cutP_brk]
    rcases index_brk b s with ⟨x1, x2⟩ | ⟨n, r, x1, x2⟩
    · rw [x1]
      unfold Lib.splitK
      simp [x2]
    · have ha := brk_app x1
      rw [x1]
      unfold Lib.splitK
      have : ((n.length : Int) == -1) = false := by rw [beq_eq_false_iff_ne]; omega
      simp only [x2, this, Bool.false_eq_true, if_false, Int.toNat_natCast, List.nil_append, List.length_singleton, Nat.add_zero]
      rw [splitK_cut b k]
      rw [ha]
      simp
theorem splitNk_ev (s : List UInt8) (b : UInt8) (k : Nat) (m0 : Int) (hm0 : m0 = ((k + 1 : Nat) : Int)) (hk : k ≤ 999999) (h : s.length < 4294967281) : C 35 [.ro (T s), .ro (T [b]), .ro (.int .i64 m0)] [] = some (.one (.own (SS (cutP b k [] s))), []) := by
  subst hm0
  have h0 := splitN_str ⟨s.toArray⟩ ⟨[b].toArray⟩ ((k + 1 : Nat) : Int) (by simpa using h) (by simp [ByteArray.size]) (by omega) (by omega)
  have e1 : (Lib.splitB ⟨[b].toArray⟩ 0 (min ((k + 1 : Nat) : Int).toNat ((⟨s.toArray⟩ : ByteArray).size + 1) - 1) ⟨s.toArray⟩).map D.str = (cutP b k [] s).map T := by
    have h1 := Lib.splitB_data ⟨[b].toArray⟩ 0 (min ((k + 1 : Nat) : Int).toNat ((⟨s.toArray⟩ : ByteArray).size + 1) - 1) ⟨s.toArray⟩
    rw [splitK_cut] at h1
    have hk : cutP b (min ((k + 1 : Nat) : Int).toNat ((⟨s.toArray⟩ : ByteArray).size + 1) - 1) [] s = cutP b k [] s := by
      have hs : (⟨s.toArray⟩ : ByteArray).size = s.length := by simp [ByteArray.size]
      rw [hs]
      by_cases h3 : k ≤ s.length
      · rw [show min ((k + 1 : Nat) : Int).toNat (s.length + 1) - 1 = k by omega]
      · exact cutP_ge b _ _ _ _ (by omega) (by omega)
    have h2 : (⟨s.toArray⟩ : ByteArray).data.toList = s := rfl
    rw [h2, hk] at h1
    rw [← h1, List.map_map]
    refine List.map_congr_left (fun x _ => ?_)
    simp [T]
  rw [e1] at h0
  exact h0
theorem splitN_ev (s : List UInt8) (b : UInt8) (h : s.length < 4294967281) : C 35 [.ro (T s), .ro (T [b]), .ro (.int .i64 4)] [] = some (.one (.own (SS (cutP b 3 [] s))), []) := splitNk_ev s b 3 4 rfl (by omega) h
end Go.Qz
namespace Go.Qz
open Go.Proofs
theorem l1Cut_ev (s : List UInt8) (b : UInt8) (most : Nat) (m0 : Int) (hm0 : m0 = most) (hs : s.length ≤ 1048576) (hm : most ≤ 2000000) :
    C fn_s_l1Cut [.ro (T s), .ro (.int .u8 b.toNat), .ro (.int .i64 m0)] [] = some (.one (.own (SS (cutP b most [] s))), []) := by
  subst hm0
  refine ctx_call Tryd.func44 conv_s_l1Cut rfl ?_
  simp
  refine loop_run (fun m e => ∃ (out : Lines) (pre rest : List UInt8) (i j : Nat), m = rest.length ∧ s.drop i = pre ++ rest ∧ j = i + pre.length ∧ j + rest.length = s.length ∧ out.length ≤ most ∧ out.length ≤ s.length ∧ out.length ≤ i ∧ e.size = 43 ∧ e.get 0 = .one (.ro (T s)) ∧ e.get 1 = .one (.ro (.int .u8 b.toNat)) ∧ e.get 2 = .one (.ro (N most)) ∧ e.get 7 = .one (.own (SS out)) ∧
      e.get 8 = .one (.ro (N i)) ∧ e.get 9 = .one (.ro (N j)) ∧ out ++ cutP b (most - out.length) pre rest = cutP b most [] s)
    ?_ s.length _ ⟨[], [], s, 0, 0, rfl, rfl, rfl, by simp, by simp, by simp, by simp, by simp, by simp, by simp, by simp, by simp, by simp, by simp, by simp⟩
  rintro m e ⟨out, pre, rest, i, j, rfl, hd, hj, hjl, ho, hos, hoi, hsz, h0, h1, h2, h7, h8, h9, hr⟩ ih
  have ha : out.length + 1 ≤ appendMax := by simp [appendMax]; omega
  have hil : i ≤ s.length := by omega
  have hil' : (i : Int) ≤ s.length := by omega
  have fin : List.drop i (List.take s.length s) = pre ++ rest := by rw [List.take_length]; exact hd
  cases rest with
  | nil =>
    have hlt : ¬ j < s.length := by simp at hjl; omega
    rw [cutP] at hr
    simp at fin
    simp [hsz, h0, h2, h7, h8, h9, hlt, ha, hil', hd, ← hr]
  | cons c r =>
    have hlt : j < s.length := by simp at hjl; omega
    by_cases hmo : out.length < most
    · have hget : s[j] = c := by
        have h3 : (s.drop i)[pre.length]? = some c := by rw [hd]; simp
        rw [List.getElem?_drop, ← hj, List.getElem?_eq_getElem hlt] at h3
        exact Option.some.inj h3
      have hsl : List.drop i (List.take j s) = pre := by
        rw [List.drop_take, hd, hj, Nat.add_sub_cancel_left, List.take_left]
      have hij : i ≤ j := by omega
      have hjs : j ≤ s.length := by omega
      have hij' : (i : Int) ≤ j := by omega
      have hwj : IntKind.i64.wrap ((j : Int) + 1) = ((j + 1 : Nat) : Int) := wrap64_succ (by omega)
      have hsd : s.drop (j + 1) = r := by
        have h3 : (s.drop i).drop (pre.length + 1) = r := by rw [hd]; simp
        rw [List.drop_drop] at h3
        rw [← h3]; congr 1; omega
      have hk : most - out.length = (most - out.length - 1) + 1 := by omega
      rw [hk, cutP] at hr
      cases hcb : c == b with
      | true =>
        obtain rfl : c = b := by simpa using hcb
        rw [if_pos hcb] at hr
        simp [hsz, h0, h1, h2, h7, h8, h9, hlt, ha, hmo, hget, hij', hjs, hwj, hsl]
        exact ih _ _ (by simp) ⟨out ++ [pre], [], r, j + 1, j + 1, rfl, by simp [hsd], by simp, by simp at hjl ⊢; omega, by simp; omega, by simp; omega, by simp; omega, by simp [hsz], by simp [h0], by simp [h1], by simp [h2], by simp, by simp, by simp, by
          rw [← hr]; simp [show most - (out.length + 1) = most - out.length - 1 by omega]⟩
      | false =>
        have hne : ¬ c = b := by simpa using hcb
        have hne' : (c.toNat == b.toNat) = false := by rw [beq_eq_false_iff_ne]; exact fun h => hne (UInt8.toNat_inj.1 h)
        rw [if_neg (by simp [hcb])] at hr
        simp [hsz, h0, h1, h2, h7, h9, hlt, hmo, hget, hwj, hne']
        refine ih r.length _ (by simp) ⟨out, pre ++ [c], r, i, j + 1, rfl, by simp [hd], by simp; omega, by simp at hjl ⊢; omega, ho, hos, hoi, by simp [hsz], by simp [h0], by simp [h1], by simp [h2], by simp [h7], by simp [h8], by simp, ?_⟩
        rw [← hr, ← hk]
    · have hmo' : most - out.length = 0 := by omega
      rw [hmo', cutP] at hr
      simp [hsz, h0, h2, h7, h8, h9, hlt, ha, hmo, hil', hd, ← hr]
end Go.Qz
namespace Go.Qz
open Go.Proofs
def figB (b : UInt8) : Bool := decide (48 ≤ b.toNat) && decide (b.toNat ≤ 57)
def goN : Nat → List UInt8 → Option Nat
  | n, [] => some n
  | n, c :: r => if figB c then goN (n * 10 + (c.toNat - 48)) r else none
def lead0 (l : List UInt8) : Bool := match l with
  | c :: _ :: _ => c == 48
  | _ => false
def numS (l : List UInt8) : Int := match goN 0 l with
  | some n => if decide (l.length ≤ 6) && !l.isEmpty && !lead0 l then n else -1
  | none => -1
def numI (l : List UInt8) (most : Nat) : Nat × Bool := if l.isEmpty || decide (9 < l.length) || lead0 l then (0, false) else match goN 0 l with
  | some n => if most < n then (0, false) else (n, true)
  | none => (0, false)
def numV (o : Option Nat) (most : Nat) : Nat × Bool := match o with
  | some n => if most < n then (0, false) else (n, true)
  | none => (0, false)
theorem fig_sub {c : UInt8} (h : figB c = true) : IntKind.u8.wrap ((c.toNat : Int) - 48) = ((c.toNat - 48 : Nat) : Int) ∧ ¬ c.toNat < 48 ∧ ¬ 57 < c.toNat ∧ c.toNat - 48 ≤ 9 := by
  unfold figB at h
  simp only [Bool.and_eq_true, decide_eq_true_eq] at h
  refine ⟨?_, by omega, by omega, by omega⟩
  show ((c.toNat : Int) - 48) % 256 = _
  omega
theorem fig_not {c : UInt8} (h : figB c = false) : c.toNat < 48 ∨ (¬ c.toNat < 48 ∧ 57 < c.toNat) := by
  unfold figB at h
  simp only [Bool.and_eq_false_iff, decide_eq_false_iff_not] at h
  omega
theorem number_loop (l : List UInt8) (most : Nat) (hlen : l.length ≤ 9) (_ : most ≤ 1000000) (e : Env) (hsz : e.size = 53) (h0 : e.get 0 = .one (.ro (T l))) (h1 : e.get 1 = .one (.ro (N most))) (h6 : e.get 6 = .one (.ro (N 0))) (h26 : e.get 26 = .one (.ro (N l.length))) (h27 : e.get 27 = .one (.ro (N 0))) :
    Run cx q_i_number_l0.loop e [Fr.blk 0, Fr.seq q_i_number_c4, Fr.fn [(ResultVar.tmp 4, 3), (ResultVar.tmp 5, 4)] []] = some (.tup [.ro (N (numV (goN 0 l) most).1), .ro (.bool (numV (goN 0 l) most).2)], []) := by
  refine loop_run (fun m e => ∃ i n, m = l.length - i ∧ i ≤ l.length ∧ n < 10 ^ i ∧ e.size = 53 ∧ e.get 0 = .one (.ro (T l)) ∧ e.get 1 = .one (.ro (N most)) ∧ e.get 6 = .one (.ro (N n)) ∧ e.get 26 = .one (.ro (N l.length)) ∧ e.get 27 = .one (.ro (N i)) ∧ goN n (l.drop i) = goN 0 l)
    ?_ l.length _ ⟨0, 0, rfl, Nat.zero_le _, by simp, hsz, h0, h1, h6, h26, h27, rfl⟩
  clear hsz h0 h1 h6 h26 h27
  rintro m e ⟨i, n, rfl, hi, hn, hsz, h0, h1, h6, h26, h27, hr⟩ ih
  rcases Nat.lt_or_ge i l.length with hlt | hge
  · have hp : 10 ^ i ≤ 10 ^ 8 := Nat.pow_le_pow_right (by omega) (by omega)
    have hp2 : 10 ^ (i + 1) = 10 ^ i * 10 := Nat.pow_succ _ _
    have hwi : IntKind.i64.wrap ((i : Int) + 1) = ((i + 1 : Nat) : Int) := wrap64_succ (by omega)
    have hd : l.drop i = l[i] :: l.drop (i + 1) := List.drop_eq_getElem_cons hlt
    rw [hd, goN] at hr
    obtain ⟨c, hc⟩ : ∃ c, l[i] = c := ⟨_, rfl⟩
    rw [hc] at hr
    cases hf : figB c with
    | false =>
      rw [hf] at hr
      simp only [Bool.false_eq_true, if_false] at hr
      rcases fig_not hf with h | ⟨h, h'⟩
      · simp [hsz, h0, h26, h27, hlt, hc, h, ← hr, numV]
      · simp [hsz, h0, h26, h27, hlt, hc, h, h', ← hr, numV]
    | true =>
      rw [hf] at hr
      simp only [if_true] at hr
      obtain ⟨g1, g2, g3, g4⟩ := fig_sub hf
      generalize c.toNat - 48 = d at *
      have hw1 : IntKind.i64.wrap ((n : Int) * 10) = ((n * 10 : Nat) : Int) := by rw [wrap64 (by omega) (by omega)]; omega
      have hw2 : IntKind.i64.wrap (d : Int) = d := wrap64 (by omega) (by omega)
      have hw3 : IntKind.i64.wrap (((n * 10 : Nat) : Int) + (d : Int)) = ((n * 10 + d : Nat) : Int) := by rw [wrap64 (by omega) (by omega)]; omega
      have hlt2 : n * 10 + d < 10 ^ (i + 1) := by omega
      generalize n * 10 + d = q at *
      generalize n * 10 = p at *
      simp [hsz, h0, h6, h26, h27, hlt, hc, g1, g2, g3, hwi, hw1, hw2, hw3]
      exact ih _ _ (by omega) ⟨i + 1, q, rfl, by omega, hlt2, by simp [hsz], by simp [h0], by simp [h1], by simp, by simp [h26], by simp, hr⟩
  · obtain rfl : i = l.length := by omega
    rw [List.drop_length, goN] at hr
    by_cases hmn : most < n
    · simp [hsz, h1, h6, h26, h27, hmn, ← hr, numV]
    · simp [hsz, h1, h6, h26, h27, hmn, ← hr, numV]
theorem number_ev (l : List UInt8) (most : Nat) (m0 : Int) (hm0 : m0 = most) (hl : l.length ≤ 1048576) (hm : most ≤ 1000000) :
    C fn_i_number [.ro (T l), .ro (.int .i64 m0)] [] = some (.tup [.ro (N (numI l most).1), .ro (.bool (numI l most).2)], []) := by
  subst hm0
  refine ctx_call Tryd.func36 conv_i_number rfl ?_
  unfold numI
  cases l with
  | nil => simp
  | cons c0 r0 =>
    by_cases h9 : 9 < r0.length + 1
    · have h9' : (9 : Int) < (r0.length : Int) + 1 := by omega
      simp [h9, h9']
    · have h9' : ¬ (9 : Int) < (r0.length : Int) + 1 := by omega
      have hlead : lead0 (c0 :: r0) = (decide ((1 : Int) < (r0.length : Int) + 1) && c0 == 48) := by
        cases r0 with
        | nil => simp [lead0]
        | cons b q => simp [lead0]; omega
      cases hl0 : lead0 (c0 :: r0) with
      | true =>
        rw [hl0] at hlead
        have h1 : (1 : Int) < (r0.length : Int) + 1 := by
          by_cases h : (1 : Int) < (r0.length : Int) + 1
          · exact h
          · simp [h] at hlead
        have h2 : (c0 == 48) = true := by simpa [h1] using hlead.symm
        simp [h9, h9', h1, h2]
      | false =>
        rw [hl0] at hlead
        have hg : (if (List.isEmpty (c0 :: r0) || decide (9 < List.length (c0 :: r0)) || false) = true then ((0 : Nat), false) else match goN 0 (c0 :: r0) with
            | some n => if most < n then (0, false) else (n, true)
            | none => (0, false)) = numV (goN 0 (c0 :: r0)) most := by
          rw [if_neg (by simp; omega)]
          rfl
        rw [hg]
        have hlen : (c0 :: r0).length ≤ 9 := by simp; omega
        by_cases h1 : (1 : Int) < (r0.length : Int) + 1
        · have h2 : (c0 == 48) = false := by simpa [h1] using hlead.symm
          simp [h9', h1, h2]
          exact number_loop (c0 :: r0) most hlen hm _ (by simp) (by simp) (by simp) (by simp) (by simp) (by simp)
        · simp [h9', h1]
          exact number_loop (c0 :: r0) most hlen hm _ (by simp) (by simp) (by simp) (by simp) (by simp) (by simp)
end Go.Qz
namespace Go.Qz
open Go.Proofs
theorem numS_long {l : List UInt8} (h : 6 < l.length) : numS l = -1 := by
  unfold numS
  split
  · rw [show decide (l.length ≤ 6) = false by simp; omega]
    simp
  · rfl
theorem l1Num_ev (l : List UInt8) (hl : l.length ≤ 1048576) : C fn_s_l1Num [.ro (T l)] [] = some (.one (.ro (I (numS l))), []) := by
  refine ctx_call Tryd.func45 conv_s_l1Num rfl ?_
  simp
  refine loop_run (fun m e => ∃ i n, m = l.length - i ∧ i ≤ l.length ∧ i ≤ 6 ∧ n < 10 ^ i ∧ e.size = 47 ∧ e.get 0 = .one (.ro (T l)) ∧ e.get 3 = .one (.ro (N n)) ∧ e.get 4 = .one (.ro (N i)) ∧ goN n (l.drop i) = goN 0 l)
    ?_ l.length _ ⟨0, 0, rfl, Nat.zero_le _, by omega, by simp, by simp, by simp, by simp, by simp, rfl⟩
  rintro m e ⟨i, n, rfl, hi, hi6, hn, hsz, h0, h3, h4, hr⟩ ih
  rcases Nat.lt_or_ge i l.length with hlt | hge
  · have hp : 10 ^ i ≤ 10 ^ 8 := Nat.pow_le_pow_right (by omega) (by omega)
    have hp2 : 10 ^ (i + 1) = 10 ^ i * 10 := Nat.pow_succ _ _
    have hwi : IntKind.i64.wrap ((i : Int) + 1) = ((i + 1 : Nat) : Int) := wrap64_succ (by omega)
    have hd : l.drop i = l[i] :: l.drop (i + 1) := List.drop_eq_getElem_cons hlt
    rw [hd, goN] at hr
    obtain ⟨c, hc⟩ : ∃ c, l[i] = c := ⟨_, rfl⟩
    rw [hc] at hr
    cases hf : figB c with
    | false =>
      rw [hf] at hr
      simp only [Bool.false_eq_true, if_false] at hr
      have hnum : numS l = -1 := by unfold numS; rw [← hr]
      rcases fig_not hf with h | ⟨h, h'⟩
      · simp [hsz, h0, h4, hlt, hc, h, hnum]
      · simp [hsz, h0, h4, hlt, hc, h, h', hnum]
    | true =>
      rw [hf] at hr
      simp only [if_true] at hr
      obtain ⟨g1, g2, g3, g4⟩ := fig_sub hf
      by_cases h6 : 6 ≤ i
      · have hnum := numS_long (l := l) (by omega)
        have h6' : (6 : Int) ≤ i := by omega
        simp [hsz, h0, h4, hlt, hc, g2, g3, h6', hnum]
      · have h6' : ¬ (6 : Int) ≤ i := by omega
        generalize c.toNat - 48 = d at *
        have hw1 : IntKind.i64.wrap ((n : Int) * 10) = ((n * 10 : Nat) : Int) := by rw [wrap64 (by omega) (by omega)]; omega
        have hw2 : IntKind.i64.wrap (d : Int) = d := wrap64 (by omega) (by omega)
        have hw3 : IntKind.i64.wrap (((n * 10 : Nat) : Int) + (d : Int)) = ((n * 10 + d : Nat) : Int) := by rw [wrap64 (by omega) (by omega)]; omega
        have hlt2 : n * 10 + d < 10 ^ (i + 1) := by omega
        generalize n * 10 + d = q at *
        generalize n * 10 = p at *
        simp [hsz, h0, h3, h4, hlt, hc, g1, g2, g3, h6', hwi, hw1, hw2, hw3]
        exact ih _ _ (by omega) ⟨i + 1, q, rfl, by omega, by omega, hlt2, by simp [hsz], by simp [h0], by simp, by simp, hr⟩
  · obtain rfl : i = l.length := by omega
    rw [List.drop_length, goN] at hr
    unfold numS
    rw [← hr]
    clear ih hr
    match l, hi6, hsz, h0, h3, h4 with
    | [], _, hsz, h0, h3, h4 => simp [hsz, h0, h4]
    | [c], _, hsz, h0, h3, h4 => simp [hsz, h0, h3, h4, lead0]
    | c :: b :: r, hi6, hsz, h0, h3, h4 =>
      simp only [List.length_cons] at hi6
      have h1 : (1 : Int) < (r.length : Int) + 1 + 1 := by omega
      have hne : ((r.length : Int) + 1 + 1 == 0) = false := by rw [beq_eq_false_iff_ne]; omega
      have h6 : r.length + 1 + 1 ≤ 6 := by omega
      cases hc : c == 48 with
      | true => simp [hsz, h0, h4, lead0, h1, hne, hc, h6]
      | false => simp [hsz, h0, h3, h4, lead0, h1, hne, hc, h6]
end Go.Qz
namespace Go.Qz
open Go.Proofs
theorem next_ev (t : List UInt8) (ht : t.length ≤ 1048576) : C fn_i_lineReader_next [.ptr 5000 0] [(5000, [.ro (T t)])] = (match brk 10 t with
    | some p => some (.tup [.ro (T p.1), .ro (.bool true)], [(5000, [.ro (T p.2)])])
    | none => some (.tup [.ro (T []), .ro (.bool false)], [(5000, [.ro (T t)])])) := by
  have h := cut_str t [10] (by omega)
  rw [cut_brk] at h
  cases hb : brk 10 t with
  | none =>
    rw [hb] at h
    refine ctx_call Tryd.func34 conv_i_lineReader_next rfl ?_
    simp at h
    simp [h]
  | some p =>
    rw [hb] at h
    refine ctx_call Tryd.func34 conv_i_lineReader_next rfl ?_
    simp at h
    simp [h]
end Go.Qz
namespace Go.Qz
open Go.Proofs
theorem dec_small (n : Nat) (h : n < 10) : Lib.decDigits n = [UInt8.ofNat (48 + n)] := by rw [Lib.decDigits, dif_pos h]
theorem dec_great (n : Nat) (h : 10 ≤ n) : Lib.decDigits n = Lib.decDigits (n / 10) ++ [UInt8.ofNat (48 + n % 10)] := by rw [Lib.decDigits, dif_neg (by omega)]
theorem dec_len : ∀ n : Nat, (Lib.decDigits n).length ≤ n + 1 := by
  intro n
  induction n using Nat.strongRecOn with
  | _ n ih =>
    rcases Nat.lt_or_ge n 10 with h | h
    · rw [dec_small n h]; simp
    · rw [dec_great n h, List.length_append]
      have := ih (n / 10) (by omega)
      simp only [List.length_singleton]
      omega
theorem dec_short : ∀ (k n : Nat), n < 10 ^ (k + 1) → (Lib.decDigits n).length ≤ k + 1
  | 0, n, h => by rw [dec_small n (by simpa using h)]; simp
  | k + 1, n, h => by
    rcases Nat.lt_or_ge n 10 with h1 | h1
    · rw [dec_small n h1]; simp
    · rw [dec_great n h1, List.length_append]
      have := dec_short k (n / 10) (by rw [Nat.pow_succ] at h; omega)
      simp only [List.length_singleton]
      omega
theorem l1Dec_ev : ∀ n : Nat, n ≤ 1099511627776 → C fn_s_l1Dec [.ro (N n)] [] = some (.one (.ro (T (Lib.decDigits n))), []) := by
  intro n
  induction n using Nat.strongRecOn with
  | _ n ih =>
    intro hn
    refine ctx_call Tryd.func37 conv_s_l1Dec rfl ?_
    have n1 : ¬ ((n : Int) < -9223372036854775807) := by omega
    have n2 : ¬ ((n : Int) < 0) := by omega
    rcases Nat.lt_or_ge n 10 with h | h
    · have hw1 : IntKind.i64.wrap (48 + (n : Int)) = ((48 + n : Nat) : Int) := by rw [wrap64 (by omega) (by omega)]; omega
      have hw3 : IntKind.u8.wrap ((48 + n : Nat) : Int) = ((48 + n : Nat) : Int) := by
        show ((48 + n : Nat) : Int) % 256 = _
        omega
      rw [dec_small n h]
      generalize hz : 48 + n = z at *
      simp [n1, n2, h, hw1, hw3]
    · have h3 : ¬ n < 10 := by omega
      have hr1 : ((n : Int)).tmod 10 = ((n % 10 : Nat) : Int) := by rw [Int.ofNat_tmod]; rfl
      have hq1 : ((n : Int)).tdiv 10 = ((n / 10 : Nat) : Int) := by rw [Int.ofNat_tdiv]; rfl
      have hi := ih (n / 10) (by omega) (by omega)
      have hl := dec_len (n / 10)
      rw [dec_great n h]
      have hrl : n % 10 < 10 := Nat.mod_lt _ (by omega)
      have hql : n / 10 < n := by omega
      generalize n % 10 = r at *
      generalize n / 10 = q at *
      have hw1 : IntKind.i64.wrap (48 + (r : Int)) = ((48 + r : Nat) : Int) := by rw [wrap64 (by omega) (by omega)]; omega
      have hw2 : IntKind.i64.wrap (q : Int) = (q : Int) := wrap64 (by omega) (by omega)
      have hw3 : IntKind.u8.wrap ((48 + r : Nat) : Int) = ((48 + r : Nat) : Int) := by
        show ((48 + r : Nat) : Int) % 256 = _
        omega
      have hms : (Lib.decDigits q).length + 1 ≤ maxStr := by simp [maxStr]; omega
      generalize 48 + r = z at *
      simp [n1, n2, h3, hr1, hq1, hw1, hw2, hw3, hi, hms]
end Go.Qz
namespace Go.Qz
open Go.Proofs
theorem goN_app (c : UInt8) : ∀ (l : List UInt8) (a : Nat), goN a (l ++ [c]) = (goN a l).bind fun m => if figB c then some (m * 10 + (c.toNat - 48)) else none
  | [], a => by simp only [List.nil_append, goN, Option.bind_some]
  | b :: l, a => by
    rw [List.cons_append, goN, goN]
    split
    · exact goN_app c l _
    · rfl
theorem goN_ge : ∀ (l : List UInt8) (a m : Nat), goN a l = some m → a ≤ m
  | [], a, m, h => by cases h; exact Nat.le_refl _
  | b :: l, a, m, h => by
    unfold goN at h
    split at h
    · have := goN_ge l _ m h; omega
    · cases h
theorem fig_of (d : Nat) (h : d < 10) : figB (UInt8.ofNat (48 + d)) = true ∧ (UInt8.ofNat (48 + d)).toNat = 48 + d := by
  have h1 : (UInt8.ofNat (48 + d)).toNat = 48 + d := by
    rw [UInt8.toNat_ofNat']
    omega
  refine ⟨?_, h1⟩
  unfold figB
  rw [h1]
  simp
  omega
theorem goN_dec (n : Nat) : goN 0 (Lib.decDigits n) = some n := by
  induction n using Nat.strongRecOn with
  | _ n ih =>
    rcases Nat.lt_or_ge n 10 with h | h
    · rw [dec_small n h, goN]
      obtain ⟨h1, h2⟩ := fig_of n h
      rw [if_pos h1, h2]
      simp [goN]
    · rw [dec_great n h, goN_app, ih (n / 10) (by omega)]
      obtain ⟨h1, h2⟩ := fig_of (n % 10) (Nat.mod_lt _ (by omega))
      simp only [Option.bind_some]
      rw [if_pos h1, h2]
      congr 1
      omega
theorem dec_head (n : Nat) (hn : 0 < n) : ∃ c r, Lib.decDigits n = c :: r ∧ (c == 48) = false := by
  induction n using Nat.strongRecOn with
  | _ n ih =>
    rcases Nat.lt_or_ge n 10 with h | h
    · refine ⟨_, [], dec_small n h, ?_⟩
      obtain ⟨h1, h2⟩ := fig_of n h
      rw [beq_eq_false_iff_ne]
      intro e
      rw [e] at h2
      simp at h2
      omega
    · obtain ⟨c, r, h1, h2⟩ := ih (n / 10) (by omega) (by omega)
      rw [dec_great n h, h1]
      exact ⟨c, r ++ [UInt8.ofNat (48 + n % 10)], rfl, h2⟩
theorem dec_lead (n : Nat) : lead0 (Lib.decDigits n) = false := by
  rcases Nat.lt_or_ge n 10 with h | h
  · rw [dec_small n h]; rfl
  · obtain ⟨c, r, h1, h2⟩ := dec_head n (by omega)
    rw [h1]
    cases r with
    | nil => rfl
    | cons b r => exact h2
theorem dec_ne (n : Nat) : Lib.decDigits n ≠ [] := by
  rcases Nat.lt_or_ge n 10 with h | h
  · rw [dec_small n h]; simp
  · rw [dec_great n h]; simp
theorem dec_fig (n : Nat) : ∀ b ∈ Lib.decDigits n, figB b = true := by
  induction n using Nat.strongRecOn with
  | _ n ih =>
    rcases Nat.lt_or_ge n 10 with h | h
    · rw [dec_small n h]
      intro b hb
      rw [List.mem_singleton] at hb
      subst hb
      exact (fig_of n h).1
    · rw [dec_great n h]
      intro b hb
      rcases List.mem_append.1 hb with h1 | h1
      · exact ih (n / 10) (by omega) b h1
      · rw [List.mem_singleton] at h1
        subst h1
        exact (fig_of (n % 10) (Nat.mod_lt _ (by omega))).1
theorem dec_three (n : Nat) (h : n ≤ 999) : (Lib.decDigits n).length ≤ 3 := dec_short 2 n (by omega)
theorem fig_back {c : UInt8} (h : figB c = true) : UInt8.ofNat (48 + (c.toNat - 48)) = c ∧ c.toNat - 48 < 10 := by
  unfold figB at h
  simp only [Bool.and_eq_true, decide_eq_true_eq] at h
  refine ⟨?_, by omega⟩
  rw [show 48 + (c.toNat - 48) = c.toNat by omega]
  exact UInt8.ofNat_toNat
theorem goN_all : ∀ (l : List UInt8) (a m : Nat), goN a l = some m → ∀ b ∈ l, figB b = true
  | [], _, _, _ => fun b hb => by simp at hb
  | c :: l, a, m, h => by
    unfold goN at h
    split at h
    · rename_i hc
      intro b hb
      rcases List.mem_cons.1 hb with rfl | hb
      · exact hc
      · exact goN_all l _ m h b hb
    · cases h
theorem dec_of : ∀ (k : Nat) (l : List UInt8) (n : Nat), l.length ≤ k → l ≠ [] → lead0 l = false → goN 0 l = some n → Lib.decDigits n = l := by
  intro k
  induction k with
  | zero =>
    intro l n hk hne
    exact absurd (List.length_eq_zero_iff.1 (by omega)) hne
  | succ k ih =>
    intro l n hk hne hld hg
    rcases List.eq_nil_or_concat l with rfl | ⟨l', c, rfl⟩
    · exact absurd rfl hne
    · have hc : figB c = true := goN_all _ 0 n hg c (by simp)
      obtain ⟨e1, e2⟩ := fig_back hc
      rw [List.concat_eq_append] at hg hld ⊢
      rw [goN_app] at hg
      cases l' with
      | nil =>
        simp only [goN, Option.bind_some, if_pos hc, Option.some.injEq] at hg
        simp only [List.nil_append]
        rw [← hg, dec_small _ (by omega)]
        rw [show 48 + (0 * 10 + (c.toNat - 48)) = 48 + (c.toNat - 48) by omega, e1]
      | cons x r =>
        cases hm : goN 0 (x :: r) with
        | none => rw [hm] at hg; cases hg
        | some m =>
          rw [hm] at hg
          simp only [Option.bind_some, if_pos hc, Option.some.injEq] at hg
          have hx : (x == 48) = false := by
            cases r with
            | nil => exact hld
            | cons y r => exact hld
          have hl2 : lead0 (x :: r) = false := by
            cases r with
            | nil => rfl
            | cons y r => exact hx
          have hih := ih (x :: r) m (by simp at hk ⊢; omega) (by simp) hl2 hm
          have hpos : 1 ≤ m := by
            have hxf : figB x = true := goN_all _ 0 m hm x (by simp)
            unfold goN at hm
            rw [if_pos hxf] at hm
            have := goN_ge r _ m hm
            have hne48 : x.toNat ≠ 48 := by
              intro e
              have : x = 48 := UInt8.toNat_inj.1 e
              rw [this] at hx
              simp at hx
            unfold figB at hxf
            simp only [Bool.and_eq_true, decide_eq_true_eq] at hxf
            omega
          rw [dec_great n (by omega), ← hg, show (m * 10 + (c.toNat - 48)) / 10 = m by omega, show (m * 10 + (c.toNat - 48)) % 10 = c.toNat - 48 by omega, hih, e1]
theorem numI_dec (n m : Nat) (h1 : n ≤ m) (h2 : n ≤ 999) : numI (Lib.decDigits n) m = (n, true) := by
  have h3 := dec_three n h2
  unfold numI
  rw [dec_lead, goN_dec]
  have h4 : (Lib.decDigits n).isEmpty = false := by
    cases h : Lib.decDigits n with
    | nil => exact absurd h (dec_ne n)
    | cons c r => rfl
  rw [h4, if_neg (by simp; omega)]
  simp only
  rw [if_neg (by omega)]
theorem numS_dec (n : Nat) (h2 : n ≤ 999) : numS (Lib.decDigits n) = n := by
  have h3 := dec_three n h2
  have h4 : (Lib.decDigits n).isEmpty = false := by
    cases h : Lib.decDigits n with
    | nil => exact absurd h (dec_ne n)
    | cons c r => rfl
  unfold numS
  rw [goN_dec, dec_lead, h4]
  simp only
  rw [if_pos (by simp; omega)]
theorem numI_is {l : List UInt8} {m x : Nat} (h : numI l m = (x, true)) : Lib.decDigits x = l := by
  unfold numI at h
  split at h
  · cases h
  · rename_i hc
    simp only [Bool.or_eq_true, not_or, Bool.not_eq_true, List.isEmpty_eq_false_iff, decide_eq_false_iff_not] at hc
    split at h
    · rename_i n hn
      split at h
      · cases h
      · cases h
        exact dec_of l.length l _ (Nat.le_refl _) hc.1.1 hc.2 hn
    · cases h
theorem fig_ne {b : UInt8} (h : figB b = true) : b ≠ 32 ∧ b ≠ 10 := by
  unfold figB at h
  simp only [Bool.and_eq_true, decide_eq_true_eq] at h
  constructor
  · rintro rfl; simp at h
  · rintro rfl; simp at h
theorem numI_le {l : List UInt8} {m : Nat} (_ : (numI l m).2 = true) : (numI l m).1 ≤ m := by
  unfold numI
  split
  · simp
  · split
    · split
      · simp
      · simp only; omega
    · simp
end Go.Qz
namespace Go.Qz
open Go.Proofs
def readN : Nat → List UInt8 → Option (Lines × List UInt8)
  | 0, t => some ([], t)
  | n + 1, t => match brk 10 t with
    | none => none
    | some p => match readN n p.2 with
      | none => none
      | some q => some (p.1 :: q.1, q.2)
def wordsR (ws : Lines) : Option (Nat × Nat) := match ws with
  | [a, b, c] => if a == [64] then (if (numI b 999).2 && (numI c 30).2 then some ((numI b 999).1, (numI c 30).1) else none) else none
  | _ => none
def headR (t : List UInt8) : Option (Nat × Nat × List UInt8) := match brk 10 t with
  | none => none
  | some p => match wordsR (cutP 32 3 [] p.1) with
    | none => none
    | some q => some (q.1, q.2, p.2)
def hunkR (t : List UInt8) : Option (Hk × List UInt8) := match headR t with
  | none => none
  | some q => match readN q.2.1 q.2.2 with
    | none => none
    | some p => some (((q.1 : Int), p.1), p.2)
theorem brk_len {b : UInt8} {d n r : List UInt8} (h : brk b d = some (n, r)) : d.length = n.length + 1 + r.length := by
  rw [brk_app h]; simp; omega
theorem cutP_len (b : UInt8) : ∀ (k : Nat) (s pre : List UInt8), ∀ x ∈ cutP b k pre s, x.length ≤ pre.length + s.length
  | _, [], pre, x, h => by rw [cutP] at h; simp at h; subst h; simp
  | 0, c :: r, pre, x, h => by rw [cutP] at h; simp at h; subst h; simp
  | k + 1, c :: r, pre, x, h => by
    rw [cutP] at h
    split at h
    · rcases List.mem_cons.1 h with rfl | h
      · simp
      · have := cutP_len b k r [] x h; simp at this ⊢; omega
    · have := cutP_len b (k + 1) r _ x h; simp at this ⊢; omega
theorem hunk_none (t : List UInt8) (ht : t.length ≤ 1048576) (h : headR t = none) : ∃ t', C fn_i_hunkReader_hunk [.ptr 5000 0] [(5000, [.ro (T t)])] = some (.tup [.own (HD (0, [])), .ro (.bool false)], [(5000, [.ro (T t')])]) := by
  unfold headR at h
  have hn := next_ev t ht
  cases hb : brk 10 t with
  | none =>
    rw [hb] at hn
    have hs := splitN_ev [] 32 (by simp)
    rw [show SS (cutP 32 3 [] []) = .sl 1 [T []] from rfl] at hs
    refine ⟨t, ctx_call Tryd.func18 conv_i_hunkReader_hunk rfl ?_⟩
    simp only at hn
    simp [hn, hs]
  | some p =>
    obtain ⟨hd, r⟩ := p
    have hbl := brk_len hb
    rw [hb] at hn h
    simp only at hn h
    have hs := splitN_ev hd 32 (by omega)
    refine ⟨r, ctx_call Tryd.func18 conv_i_hunkReader_hunk rfl ?_⟩
    match hws : cutP 32 3 [] hd with
    | [] =>
      rw [hws] at hs
      rw [show SS [] = .sl 1 [] from rfl] at hs
      simp [hn, hs]
    | [a] =>
      rw [hws] at hs
      rw [show SS [a] = .sl 1 [T a] from rfl] at hs
      simp [hn, hs]
    | [a, b] =>
      rw [hws] at hs
      rw [show SS [a, b] = .sl 1 [T a, T b] from rfl] at hs
      simp [hn, hs]
    | a :: b :: c :: d :: ws =>
      rw [hws] at hs
      rw [show SS (a :: b :: c :: d :: ws) = .sl 1 (T a :: T b :: T c :: T d :: ws.map T) from rfl] at hs
      have h3 : ((ws.length : Int) + 1 + 1 + 1 + 1 == 3) = false := by rw [beq_eq_false_iff_ne]; omega
      have h3' : ¬ ((ws.length : Int) + 1 + 1 + 1 + 1 = 3) := by omega
      simp [hn, hs, h3]
    | [a, b, c] =>
      rw [hws] at hs h
      rw [show SS [a, b, c] = .sl 1 [T a, T b, T c] from rfl] at hs
      simp only [wordsR] at h
      have hwl : ∀ z ∈ [a, b, c], z.length ≤ 1048576 := fun z hz => by
        have := cutP_len 32 3 hd [] z (by rw [hws]; exact hz)
        simp at this
        omega
      have hn1 := number_ev b 999 999 rfl (hwl _ (by simp)) (by omega)
      have hn2 := number_ev c 30 30 rfl (hwl _ (by simp)) (by omega)
      cases ha : a == [64] with
      | false => simp [hn, hs, ha]
      | true =>
        rw [ha] at h
        simp only [if_true] at h
        generalize numI b 999 = v1 at *
        generalize numI c 30 = v2 at *
        obtain ⟨x, ok1⟩ := v1
        obtain ⟨y, ok2⟩ := v2
        simp only at hn1 hn2 h
        cases ok1 <;> cases ok2 <;> simp at h <;> simp [hn, hs, ha, hn1, hn2]
theorem headR_some {t : List UInt8} {x y : Nat} {r : List UInt8} (h : headR t = some (x, y, r)) : ∃ hd a b c, brk 10 t = some (hd, r) ∧ cutP 32 3 [] hd = [a, b, c] ∧ a = [64] ∧ numI b 999 = (x, true) ∧ numI c 30 = (y, true) := by
  unfold headR at h
  split at h
  · cases h
  · rename_i p hb
    obtain ⟨hd, r'⟩ := p
    split at h
    · cases h
    · rename_i q hq
      cases h
      unfold wordsR at hq
      split at hq
      · rename_i a b c hws
        split at hq
        · rename_i ha
          split at hq
          · rename_i hok
            cases hq
            simp only [Bool.and_eq_true] at hok
            refine ⟨hd, a, b, c, hb, hws, by simpa using ha, ?_, ?_⟩
            · rw [← hok.1]
            · rw [← hok.2]
          · cases hq
        · cases hq
      · cases hq
def restN : Nat → List UInt8 → List UInt8
  | 0, t => t
  | n + 1, t => match brk 10 t with
    | none => t
    | some p => restN n p.2
def hunkV (x : Nat) (acc : Lines) (o : Option (Lines × List UInt8)) (rest : List UInt8) : V × Boxes := match o with
  | some p => (.tup [.own (HD ((x : Int), acc ++ p.1)), .ro (.bool true)], [(5000, [.ro (T p.2)])])
  | none => (.tup [.own (HD (0, [])), .ro (.bool false)], [(5000, [.ro (T rest)])])
theorem hunk_some (t : List UInt8) (ht : t.length ≤ 1048576) (x y : Nat) (r : List UInt8) (h : headR t = some (x, y, r)) :
    C fn_i_hunkReader_hunk [.ptr 5000 0] [(5000, [.ro (T t)])] = some (hunkV x [] (readN y r) (restN y r)) := by
  obtain ⟨hd, a, b, c, hb, hws, rfl, e1, e2⟩ := headR_some h
  have hbl := brk_len hb
  have hn := next_ev t ht
  rw [hb] at hn
  simp only at hn
  have hs := splitN_ev hd 32 (by omega)
  rw [hws] at hs
  rw [show SS [[64], b, c] = .sl 1 [T [64], T b, T c] from rfl] at hs
  have hwl : ∀ z ∈ [[64], b, c], z.length ≤ 1048576 := fun z hz => by
    have := cutP_len 32 3 hd [] z (by rw [hws]; exact hz)
    simp at this
    omega
  have hn1 := number_ev b 999 999 rfl (hwl _ (by simp)) (by omega)
  have hn2 := number_ev c 30 30 rfl (hwl _ (by simp)) (by omega)
  have hy : y ≤ 30 := by
    have := numI_le (l := c) (m := 30) (by rw [e2])
    rw [e2] at this
    exact this
  rw [e1] at hn1
  rw [e2] at hn2
  simp only at hn1 hn2
  refine ctx_call Tryd.func18 conv_i_hunkReader_hunk rfl ?_
  simp [hn, hs, hn1, hn2]
  refine loop_run (fun m e => ∃ (i : Nat) (acc : Lines) (u : List UInt8), m + i = y ∧ acc.length = i ∧ u.length ≤ 1048576 ∧ e.size = 77 ∧ e.get 0 = .one (.ptr 5000 0) ∧ e.get 2 = .one (.ptr 2 0) ∧ e.get 11 = .one (.ptr 11 0) ∧ e.get 56 = .one (.ro (N y)) ∧ e.get 57 = .one (.ro (N i)) ∧
      e.box 5000 = some [.ro (T u)] ∧ e.box 2 = some [.ro (.int .i64 0), .own (.sl 1 [])] ∧ e.box 11 = some [.ro (N x), .own (SS acc)] ∧ hunkV x acc (readN m u) (restN m u) = hunkV x [] (readN y r) (restN y r))
    ?_ y _ ⟨0, [], r, rfl, rfl, by omega, by simp, by simp, by simp, by simp, by simp, by simp, by simp, by simp, by simp, rfl⟩
  rintro m e ⟨i, acc, u, rfl, hac, hu, hsz, h0, h2, h11, h56, h57, b5, b2, b11, hr⟩ ih
  cases m with
  | zero =>
    rw [← hr]
    simp [hsz, h2, h11, h56, h57, b5, b2, b11, hunkV, readN]
  | succ m =>
    have hlt : (i : Int) < (m : Int) + 1 + i := by omega
    have hnx := next_ev u hu
    have hwi : IntKind.i64.wrap ((i : Int) + 1) = ((i + 1 : Nat) : Int) := wrap64_succ (by omega)
    have ha : acc.length + 1 ≤ appendMax := by simp [appendMax]; omega
    cases hbu : brk 10 u with
    | none =>
      rw [hbu] at hnx
      simp only [readN, restN, hbu] at hr
      rw [← hr]
      simp only at hnx
      simp [hsz, h0, h2, h56, h57, b5, b2, hlt, hnx, hunkV]
      | some p =>
      obtain ⟨z, u'⟩ := p
      have hul := brk_len hbu
      rw [hbu] at hnx
      simp only [readN, restN, hbu] at hr
      simp only at hnx
      simp [hsz, h0, h11, h56, h57, b5, b11, hlt, hnx, hwi, ha]
      refine ih m _ (by omega) ⟨i + 1, acc ++ [z], u', by omega, by simp [hac], by omega, by simp [hsz], by simp [h0], by simp [h2], by simp [h11], ?_, by simp, by simp, by simp [b2], by simp, ?_⟩
      · simp [h56]; try omega
      · rw [← hr]
        cases readN m u' with
        | none => rfl
        | some q => simp [hunkV]
end Go.Qz
namespace Go.Qz
open Go.Proofs
theorem readN_len : ∀ (n : Nat) (t : List UInt8) (p : Lines × List UInt8), readN n t = some p → p.2.length ≤ t.length ∧ p.1.length = n ∧ ∀ x ∈ p.1, x.length ≤ t.length
  | 0, t, p, h => by cases h; simp
  | n + 1, t, p, h => by
    unfold readN at h
    split at h
    · cases h
    · rename_i q hq
      have h1 := brk_len (n := q.1) (r := q.2) hq
      split at h
      · cases h
      · rename_i s hs
        cases h
        obtain ⟨a1, a2, a3⟩ := readN_len n q.2 s hs
        refine ⟨by simp only; omega, by simp [a2], fun x hx => ?_⟩
        rcases List.mem_cons.1 hx with rfl | hx
        · omega
        · have := a3 x hx; omega
theorem hunkR_parts {t : List UInt8} {p : Hk × List UInt8} (h : hunkR t = some p) : p.2.length < t.length ∧ p.1.2.length ≤ 30 ∧ ∀ x ∈ p.1.2, x.length ≤ t.length := by
  unfold hunkR at h
  split at h
  · cases h
  · rename_i q hq
    obtain ⟨x, y, r⟩ := q
    split at h
    · cases h
    · rename_i s hs
      cases h
      obtain ⟨hd, a, b, c, hb, hws, ha, e1, e2⟩ := headR_some hq
      have h1 := brk_len hb
      obtain ⟨a1, a2, a3⟩ := readN_len _ _ _ hs
      have hy : y ≤ 30 := by
        have := numI_le (l := c) (m := 30) (by rw [e2])
        rw [e2] at this
        exact this
      refine ⟨by simp only at a1 ⊢; omega, by simp only at a2 ⊢; omega, fun z hz => ?_⟩
      have := a3 z hz
      simp only at this
      omega
def getI (acc : List Hk) (t : List UInt8) : Option (List Hk) := if t = [] then some acc else match h : hunkR t with
  | none => none
  | some p => if acc.length = 4 then none else getI (acc ++ [p.1]) p.2
termination_by t.length
decreasing_by exact (hunkR_parts h).1
theorem getI_nil (acc : List Hk) : getI acc [] = some acc := by rw [getI, if_pos rfl]
theorem getI_none {acc : List Hk} {t : List UInt8} (ht : t ≠ []) (h : hunkR t = none) : getI acc t = none := by
  rw [getI, if_neg ht]
  split
  · rfl
  · rename_i p hp; rw [h] at hp; cases hp
theorem getI_some {acc : List Hk} {t : List UInt8} {p : Hk × List UInt8} (ht : t ≠ []) (h : hunkR t = some p) : getI acc t = if acc.length = 4 then none else getI (acc ++ [p.1]) p.2 := by
  rw [getI, if_neg ht]
  split
  · rename_i hp; rw [h] at hp; cases hp
  · rename_i q hp; rw [h] at hp; cases hp; rfl
theorem hunk_ev (t : List UInt8) (ht : t.length ≤ 1048576) : ∃ t', C fn_i_hunkReader_hunk [.ptr 5000 0] [(5000, [.ro (T t)])] = some (match hunkR t with
    | some p => (.tup [.own (HD p.1), .ro (.bool true)], [(5000, [.ro (T p.2)])])
    | none => (.tup [.own (HD (0, [])), .ro (.bool false)], [(5000, [.ro (T t')])])) := by
  unfold hunkR
  cases hh : headR t with
  | none =>
    obtain ⟨t', h⟩ := hunk_none t ht hh
    exact ⟨t', h⟩
  | some q =>
    obtain ⟨x, y, r⟩ := q
    refine ⟨restN y r, ?_⟩
    rw [hunk_some t ht x y r hh]
    unfold hunkV
    cases hrd : readN y r with
    | none => simp [hrd]
    | some p => simp [hrd]
def okI (o : Option (List Hk)) : List Hk × Bool := match o with
  | some hs => if hunksOkI hs then (hs, true) else ([], false)
  | none => ([], false)
theorem HunksGetI_ev (t : List UInt8) (ht : t.length ≤ 1048576) : C fn_i_HunksGet [.ro (T t)] [] = some (.tup [.own (HS (okI (getI [] t)).1), .ro (.bool (okI (getI [] t)).2)], []) := by
  refine ctx_call Tryd.func6 conv_i_HunksGet rfl ?_
  simp
  refine loop_run (fun m e => ∃ (acc : List Hk) (u : List UInt8), m = u.length ∧ u.length ≤ t.length ∧ acc.length ≤ 4 ∧ (∀ h ∈ acc, h.2.length ≤ 30) ∧ e.size = 34 ∧ e.get 4 = .one (.ptr 4 0) ∧ e.get 5 = .one (.own (HS acc)) ∧ e.box 4 = some [.ro (T u)] ∧ getI acc u = getI [] t)
    ?_ t.length _ ⟨[], t, rfl, Nat.le_refl _, by simp, by simp, by simp, by simp, by simp, by simp, rfl⟩
  rintro m e ⟨acc, u, rfl, hu, hacc, hl, hsz, h4, h5, b4, hr⟩ ih
  by_cases hnil : u = []
  · subst hnil
    rw [getI_nil] at hr
    rw [← hr]
    have hok := HunksOkI_ev acc (fun h hh => by have := hl h hh; omega)
    simp only [okI]
    cases hb : hunksOkI acc with
    | true =>
      rw [hb] at hok
      simp [hsz, h4, h5, b4, hok]
    | false =>
      rw [hb] at hok
      simp [hsz, h4, h5, b4, hok]
  · obtain ⟨t', hh⟩ := hunk_ev u (by omega)
    cases hq : hunkR u with
    | none =>
      rw [hq] at hh
      simp only at hh
      rw [getI_none hnil hq] at hr
      rw [← hr]
      simp only [okI]
      simp [hsz, h4, h5, b4, hnil, hh]
    | some p =>
      obtain ⟨p1, p2, p3⟩ := hunkR_parts hq
      rw [hq] at hh
      simp only at hh
      rw [getI_some hnil hq] at hr
      obtain ⟨⟨x, ls⟩, u'⟩ := p
      simp only at hh p1 p2
      have ha : acc.length + 1 ≤ appendMax := by simp [appendMax]; omega
      by_cases h4l : acc.length = 4
      · rw [if_pos h4l] at hr
        rw [← hr]
        simp only [okI]
        simp [hsz, h4, h5, b4, hnil, hh, h4l]
      · rw [if_neg h4l] at hr
        have hne : ((acc.length : Int) == 4) = false := by rw [beq_eq_false_iff_ne]; omega
        simp [hsz, h4, h5, b4, hnil, hh, hne, ha]
        exact ih _ _ p1 ⟨acc ++ [(x, ls)], u', rfl, by omega, by simp; omega, by
          intro h hh
          rcases List.mem_append.1 hh with h1 | h1
          · exact hl h h1
          · simp at h1; subst h1; exact p2, by simp [hsz], by simp [h4], by simp, by simp, hr⟩
end Go.Qz
namespace Go.Qz
open Go.Proofs
theorem l1DecI_ev (a : Int) (h0 : 0 ≤ a) (h1 : a ≤ 1099511627776) : C fn_s_l1Dec [.ro (.int .i64 a)] [] = some (.one (.ro (T (Lib.decDigits a.toNat))), []) := by
  obtain ⟨n, rfl⟩ := Int.eq_ofNat_of_zero_le h0
  exact l1Dec_ev n (by omega)
theorem write1_ev (m l : List UInt8) (h : m.length + l.length ≤ appendMax) :
    C 15 [.ptr 5000 0, .ro (T l)] [(5000, [.bnil 37, .own (.bs 5 ⟨m.toArray⟩)])] = some (.tup [.ro (N l.length), .ro .nili], [(5000, [.selfp, .own (.bs 5 ⟨(m ++ l).toArray⟩)])]) := by
  refine ctx_call Tryd.func15 conv_strings_Builder_WriteString rfl ?_
  have hc := copyNil_ev 5000 (.own (.bs 5 ⟨m.toArray⟩)) (by decide)
  simp [hc, h]
theorem write2_ev (m l : List UInt8) (h : m.length + l.length ≤ appendMax) :
    C 15 [.ptr 5000 0, .ro (T l)] [(5000, [.selfp, .own (.bs 5 ⟨m.toArray⟩)])] = some (.tup [.ro (N l.length), .ro .nili], [(5000, [.selfp, .own (.bs 5 ⟨(m ++ l).toArray⟩)])]) := by
  refine ctx_call Tryd.func15 conv_strings_Builder_WriteString rfl ?_
  have hc := copySelf_ev 5000 (.own (.bs 5 ⟨m.toArray⟩)) (by decide)
  simp [hc, h]
theorem itoaI_ev (a : Int) (h0 : 0 ≤ a) (h1 : a ≤ 1099511627776) : C 16 [.ro (.int .i64 a)] [] = some (.one (.ro (T (Lib.decDigits a.toNat))), []) := by
  have h := itoa_ev a (by omega) (by omega)
  have : ¬ a < 0 := by omega
  rw [Lib.itoa, if_neg this] at h
  exact h
theorem itoaN_ev (n : Nat) (h1 : n ≤ 1099511627776) : C 16 [.ro (N n)] [] = some (.one (.ro (T (Lib.decDigits n))), []) := itoaI_ev n (by omega) (by omega)
theorem write_ev {a0 : A} (ha : a0 = .bnil 37 ∨ a0 = .selfp) (m l : List UInt8) (h : m.length + l.length ≤ appendMax) :
    C 15 [.ptr 5000 0, .ro (T l)] [(5000, [a0, .own (.bs 5 ⟨m.toArray⟩)])] = some (.tup [.ro (N l.length), .ro .nili], [(5000, [.selfp, .own (.bs 5 ⟨(m ++ l).toArray⟩)])]) := by
  rcases ha with rfl | rfl
  · exact write1_ev m l h
  · exact write2_ev m l h
theorem text_ev (a0 : A) (m : List UInt8) : C 17 [.ptr 5000 0] [(5000, [a0, .own (.bs 5 ⟨m.toArray⟩)])] = some (.one (.ro (T m)), [(5000, [a0, .dead])]) := string_ev 5000 a0 ⟨m.toArray⟩ (by decide)
end Go.Qz
namespace Go.Qz
open Go.Proofs
def putLines : Lines → List UInt8
  | [] => []
  | x :: r => x ++ [10] ++ putLines r
def putHk (h : Hk) : List UInt8 := [64, 32] ++ Lib.decDigits h.1.toNat ++ [32] ++ Lib.decDigits h.2.length ++ [10] ++ putLines h.2
def putHs : List Hk → List UInt8
  | [] => []
  | h :: r => putHk h ++ putHs r
theorem putLines_len (xs : Lines) (b : Nat) (hx : ∀ x ∈ xs, x.length ≤ b) : (putLines xs).length ≤ xs.length * (b + 1) := by
  induction xs with
  | nil => simp [putLines]
  | cons x r ih =>
    have h1 := hx x List.mem_cons_self
    have h2 := ih (fun y hy => hx y (List.mem_cons_of_mem _ hy))
    simp only [putLines, List.length_append, List.length_cons, List.length_nil, Nat.add_mul, Nat.one_mul]
    omega
def fewHs (hs : List Hk) : Prop := hs.length ≤ 1000 ∧ ∀ h ∈ hs, 0 ≤ h.1 ∧ h.1 ≤ 1000000 ∧ h.2.length ≤ 1000000
theorem l5Put_ev (hs : List Hk) (hf : fewHs hs) (hB : (putHs hs).length ≤ 1099511627776) : C fn_s_l5Put [.ro (HS hs)] [] = some (.one (.ro (T (putHs hs))), []) := by
  refine ctx_call Tryd.func19 conv_s_l5Put rfl ?_
  simp
  have hN := hf.1
  refine loop_run (fun m e => ∃ i l, m = hs.length - i ∧ i ≤ hs.length ∧ e.size = 53 ∧ e.get 0 = .one (.ro (HS hs)) ∧ e.get 3 = .one (.ro (T l)) ∧ e.get 4 = .one (.ro (N i)) ∧ l ++ putHs (hs.drop i) = putHs hs)
    ?_ hs.length _ ⟨0, [], rfl, Nat.zero_le _, by simp, by simp, by simp, by simp, rfl⟩
  rintro m e ⟨i, l, rfl, hi, hsz, h0, h3, h4, hr⟩ ih
  rcases Nat.lt_or_ge i hs.length with hlt | hge
  · have hwi : IntKind.i64.wrap ((i : Int) + 1) = ((i + 1 : Nat) : Int) := wrap64_succ (by omega)
    have hd : hs.drop i = hs[i] :: hs.drop (i + 1) := List.drop_eq_getElem_cons hlt
    obtain ⟨f1, f2, f3⟩ := hf.2 _ (List.getElem_mem hlt)
    rw [hd, putHs] at hr
    have hlen := congrArg List.length hr
    simp only [List.length_append] at hlen
    have e1 := l1DecI_ev hs[i].1 f1 (by omega)
    have e2 := l1Dec_ev hs[i].2.length (by omega)
    have hp : (putHk hs[i]).length = 2 + (Lib.decDigits hs[i].1.toNat).length + 1 + (Lib.decDigits hs[i].2.length).length + 1 + (putLines hs[i].2).length := by
      simp only [putHk, List.length_append, List.length_cons, List.length_nil]
    have hpk : putHk hs[i] = ([64, 32] ++ Lib.decDigits hs[i].1.toNat ++ [32] ++ Lib.decDigits hs[i].2.length ++ [10]) ++ putLines hs[i].2 := rfl
    rw [hpk] at hr
    generalize Lib.decDigits hs[i].1.toNat = d1 at *
    generalize Lib.decDigits hs[i].2.length = d2 at *
    have m1 : l.length + 2 ≤ maxStr := by simp only [maxStr]; omega
    have m2 : l.length + (1 + 1) + d1.length ≤ maxStr := by simp only [maxStr]; omega
    have m3 : l.length + (d1.length + 1 + 1) + 1 ≤ maxStr := by simp only [maxStr]; omega
    have m4 : l.length + (d1.length + 1 + 1 + 1) + d2.length ≤ maxStr := by simp only [maxStr]; omega
    have m5 : l.length + (d1.length + (d2.length + 1) + 1 + 1) + 1 ≤ maxStr := by simp only [maxStr]; omega
    simp [hsz, h0, h3, h4, hlt, e1, e2, m1, m2, m3, m4, m5]
    refine loop_run (fun m e => ∃ k l', m = hs[i].2.length - k ∧ k ≤ hs[i].2.length ∧ e.size = 53 ∧ e.get 0 = .one (.ro (HS hs)) ∧ e.get 3 = .one (.ro (T l')) ∧ e.get 4 = .one (.ro (N i)) ∧ e.get 5 = .one (.ro (N k)) ∧ l' ++ (putLines (hs[i].2.drop k) ++ putHs (hs.drop (i + 1))) = putHs hs)
      ?_ hs[i].2.length _ ⟨0, l ++ 64 :: 32 :: (d1 ++ 32 :: (d2 ++ [10])), rfl, Nat.zero_le _, by simp [hsz], by simp [h0], by simp, by simp [h4], by simp, by rw [← hr]; simp⟩
    clear hr hlen hp hpk h0 h3 h4
    rintro m e' ⟨k, l', rfl, hk, hsz', h0, h3, h4, h5, hr⟩ ih2
    rcases Nat.lt_or_ge k hs[i].2.length with hlt2 | hge2
    · have hwk : IntKind.i64.wrap ((k : Int) + 1) = ((k + 1 : Nat) : Int) := wrap64_succ (by omega)
      have hd2 : hs[i].2.drop k = hs[i].2[k] :: hs[i].2.drop (k + 1) := List.drop_eq_getElem_cons hlt2
      rw [hd2, putLines] at hr
      have hlen := congrArg List.length hr
      simp only [List.length_append, List.length_cons, List.length_nil] at hlen
      have m6 : l'.length + hs[i].2[k].length ≤ maxStr := by simp only [maxStr]; omega
      have m7 : l'.length + hs[i].2[k].length + 1 ≤ maxStr := by simp only [maxStr]; omega
      simp [hsz', h0, h3, h4, h5, hlt, hlt2, hwk, m6, m7]
      exact ih2 _ _ (by omega) ⟨k + 1, l' ++ (hs[i].2[k] ++ [10]), rfl, by omega, by simp [hsz'], by simp [h0], by simp, by simp [h4], by simp, by rw [← hr]; simp⟩
    · obtain rfl : k = hs[i].2.length := by omega
      rw [List.drop_length] at hr
      simp [putLines] at hr
      simp [hsz', h0, h4, h5, hlt, hwi]
      exact ih _ _ (by omega) ⟨i + 1, l', rfl, by omega, by simp [hsz'], by simp [h0], by simp [h3], by simp, hr⟩
  · obtain rfl : i = hs.length := by omega
    rw [List.drop_length] at hr
    simp [putHs] at hr
    simp [hsz, h0, h3, h4, hr]
end Go.Qz
namespace Go.Qz
open Go.Proofs
theorem HunksPutS_ev (hs : List Hk) (b : Bool) (hok : C fn_s_HunksOk [.ro (HS hs)] [] = some (.one (.ro (.bool b)), [])) (hput : b = true → C fn_s_l5Put [.ro (HS hs)] [] = some (.one (.ro (T (putHs hs))), [])) :
    C fn_s_HunksPut [.ro (HS hs)] [] = some (.one (.ro (T (if b then putHs hs else []))), []) := by
  refine ctx_call Tryd.func7 conv_s_HunksPut rfl ?_
  cases b with
  | false => simp [hok]
  | true =>
    have h2 := hput rfl
    simp [hok, h2]
theorem HunksPutI_ev (hs : List Hk) (b : Bool) (hok : C fn_i_HunksOk [.ro (HS hs)] [] = some (.one (.ro (.bool b)), [])) (hf : b = true → fewHs hs ∧ (putHs hs).length ≤ 1073741824) :
    C fn_i_HunksPut [.ro (HS hs)] [] = some (.one (.ro (T (if b then putHs hs else []))), []) := by
  refine ctx_call Tryd.func5 conv_i_HunksPut rfl ?_
  cases b with
  | false => simp [hok]
  | true =>
    obtain ⟨hf, hB⟩ := hf rfl
    have hN := hf.1
    simp [hok]
    refine loop_run (fun m e => ∃ i l a0, m = hs.length - i ∧ i ≤ hs.length ∧ e.size = 42 ∧ e.get 3 = .one (.ptr 3 0) ∧ e.box 3 = some [a0, .own (.bs 5 ⟨l.toArray⟩)] ∧ (a0 = .bnil 37 ∨ a0 = .selfp) ∧ e.get 11 = .one (.ro (HS hs)) ∧ e.get 12 = .one (.ro (N hs.length)) ∧ e.get 13 = .one (.ro (N i)) ∧ l ++ putHs (hs.drop i) = putHs hs)
      ?_ hs.length _ ⟨0, [], .bnil 37, rfl, Nat.zero_le _, by simp, by simp, by simp; rfl, .inl rfl, by simp, by simp, by simp, rfl⟩
    rintro m e ⟨i, l, a0, rfl, hi, hsz, h3, hb3, ha0, h11, h12, h13, hr⟩ ih
    rcases Nat.lt_or_ge i hs.length with hlt | hge
    · have hwi : IntKind.i64.wrap ((i : Int) + 1) = ((i + 1 : Nat) : Int) := wrap64_succ (by omega)
      have hd : hs.drop i = hs[i] :: hs.drop (i + 1) := List.drop_eq_getElem_cons hlt
      obtain ⟨f1, f2, f3⟩ := hf.2 _ (List.getElem_mem hlt)
      rw [hd, putHs] at hr
      have hlen := congrArg List.length hr
      simp only [List.length_append] at hlen
      have e1 := itoaI_ev hs[i].1 f1 (by omega)
      have e2 := itoaN_ev hs[i].2.length (by omega)
      have hp : (putHk hs[i]).length = 2 + (Lib.decDigits hs[i].1.toNat).length + 1 + (Lib.decDigits hs[i].2.length).length + 1 + (putLines hs[i].2).length := by
        simp only [putHk, List.length_append, List.length_cons, List.length_nil]
      have hpk : putHk hs[i] = ([64, 32] ++ Lib.decDigits hs[i].1.toNat ++ [32] ++ Lib.decDigits hs[i].2.length ++ [10]) ++ putLines hs[i].2 := rfl
      rw [hpk] at hr
      generalize Lib.decDigits hs[i].1.toNat = d1 at *
      generalize Lib.decDigits hs[i].2.length = d2 at *
      have e3 := write_ev ha0 l (64 :: 32 :: (d1 ++ 32 :: (d2 ++ [10]))) (by simp [appendMax]; omega)
      have m2 : 2 + d1.length ≤ maxStr := by simp only [maxStr]; omega
      have m3 : d1.length + 1 + 1 + 1 ≤ maxStr := by simp only [maxStr]; omega
      have m4 : d1.length + 1 + 1 + 1 + d2.length ≤ maxStr := by simp only [maxStr]; omega
      have m5 : d1.length + (d2.length + 1) + 1 + 1 + 1 ≤ maxStr := by simp only [maxStr]; omega
      have go : ∀ e' : Env, e'.size = 42 → e'.get 3 = .one (.ptr 3 0) → e'.box 3 = some [.selfp, .own (.bs 5 ⟨(l ++ 64 :: 32 :: (d1 ++ 32 :: (d2 ++ [10]))).toArray⟩)] → e'.get 11 = .one (.ro (HS hs)) → e'.get 12 = .one (.ro (N hs.length)) → e'.get 13 = .one (.ro (N i)) →
          e'.get 30 = .one (.ro (SS hs[i].2)) → e'.get 31 = .one (.ro (N hs[i].2.length)) → e'.get 32 = .one (.ro (N 0)) →
          Run cx q_i_HunksPut_l0.loop e' [Fr.blk 2, Fr.blk 1, Fr.seq q_i_HunksPut_c2, Fr.loop q_i_HunksPut_l1, Fr.blk 0, Fr.seq q_i_HunksPut_c4, Fr.fn [(ResultVar.tmp 2, 9)] []] = some (V.one (A.ro (T (putHs hs))), []) := by
        intro e' hsz' h3' hb3' h11' h12' h13' h30' h31' h32'
        refine loop_run (fun m e => ∃ k l', m = hs[i].2.length - k ∧ k ≤ hs[i].2.length ∧ e.size = 42 ∧ e.get 3 = .one (.ptr 3 0) ∧ e.box 3 = some [.selfp, .own (.bs 5 ⟨l'.toArray⟩)] ∧ e.get 11 = .one (.ro (HS hs)) ∧ e.get 12 = .one (.ro (N hs.length)) ∧ e.get 13 = .one (.ro (N i)) ∧
            e.get 30 = .one (.ro (SS hs[i].2)) ∧ e.get 31 = .one (.ro (N hs[i].2.length)) ∧ e.get 32 = .one (.ro (N k)) ∧ l' ++ (putLines (hs[i].2.drop k) ++ putHs (hs.drop (i + 1))) = putHs hs)
          ?_ hs[i].2.length _ ⟨0, _, rfl, Nat.zero_le _, hsz', h3', hb3', h11', h12', h13', h30', h31', h32', by rw [← hr]; simp⟩
        clear hsz' h3' hb3' h11' h12' h13' h30' h31' h32' hr hlen hp hpk
        rintro m e' ⟨k, l', rfl, hk, hsz', h3', hb3', h11', h12', h13', h30', h31', h32', hr⟩ ih2
        rcases Nat.lt_or_ge k hs[i].2.length with hlt2 | hge2
        · have hwk : IntKind.i64.wrap ((k : Int) + 1) = ((k + 1 : Nat) : Int) := wrap64_succ (by omega)
          have hd2 : hs[i].2.drop k = hs[i].2[k] :: hs[i].2.drop (k + 1) := List.drop_eq_getElem_cons hlt2
          rw [hd2, putLines] at hr
          have hlen := congrArg List.length hr
          simp only [List.length_append, List.length_cons, List.length_nil] at hlen
          have m7 : hs[i].2[k].length + 1 ≤ maxStr := by simp only [maxStr]; omega
          have e5 := write2_ev l' (hs[i].2[k] ++ [10]) (by simp [appendMax]; omega)
          simp [hsz', h3', hb3', h30', h31', h32', hlt2, hwk, m7, e5]
          exact ih2 _ _ (by omega) ⟨k + 1, l' ++ (hs[i].2[k] ++ [10]), rfl, by omega, by simp [hsz'], by simp [h3'], by simp, by simp [h11'], by simp [h12'], by simp [h13'], by simp [h30'], by simp [h31'], by simp, by rw [← hr]; simp⟩
        · obtain rfl : k = hs[i].2.length := by omega
          rw [List.drop_length] at hr
          simp [putLines] at hr
          simp [hsz', h13', h31', h32', hwi]
          exact ih _ _ (by omega) ⟨i + 1, l', .selfp, rfl, by omega, by simp [hsz'], by simp [h3'], by simp [hb3'], .inr rfl, by simp [h11'], by simp [h12'], by simp, hr⟩
      rcases ha0 with rfl | rfl
      all_goals
        simp [hsz, h3, hb3, h11, h12, h13, hlt, e1, e2, e3, m2, m3, m4, m5]
        exact go _ (by simp [hsz]) (by simp [h3]) (by simp) (by simp [h11]) (by simp [h12]) (by simp [h13]) (by simp) (by simp) (by simp)
    · obtain rfl : i = hs.length := by omega
      rw [List.drop_length] at hr
      simp [putHs] at hr
      subst hr
      have e4 := text_ev a0 (putHs hs)
      rcases ha0 with rfl | rfl <;> simp [hsz, h3, hb3, h12, h13, e4]
end Go.Qz
namespace Go.Qz
open Go.Proofs
theorem goS_all : ∀ (hs : List Hk) (p : Option Hk), goS p hs = true → ∀ h ∈ hs, hunkS h = true
  | [], _, _, h, hh => by cases hh
  | a :: r, p, hg, h, hh => by
    cases p with
    | none =>
      rw [goS, Bool.and_eq_true] at hg
      cases hh with
      | head => exact hg.1
      | tail _ hh => exact goS_all r _ hg.2 h hh
    | some q =>
      rw [goS] at hg
      simp only [Bool.and_eq_true] at hg
      cases hh with
      | head => simp_all
      | tail _ hh => exact goS_all r (some a) (by simp_all) h hh
theorem putHs_len (hs : List Hk) (b : Nat) (hb : ∀ h ∈ hs, (putHk h).length ≤ b) : (putHs hs).length ≤ hs.length * b := by
  induction hs with
  | nil => simp [putHs]
  | cons h r ih =>
    have h1 := hb h List.mem_cons_self
    have h2 := ih (fun y hy => hb y (List.mem_cons_of_mem _ hy))
    simp only [putHs, List.length_append, List.length_cons, Nat.add_mul, Nat.one_mul]
    omega
theorem few_of_ok (hs : List Hk) (hok : hunksOkS hs = true) (hx : ∀ h ∈ hs, ∀ x ∈ h.2, x.length ≤ 1048576) : fewHs hs ∧ (putHs hs).length ≤ 1073741824 := by
  unfold hunksOkS at hok
  simp only [Bool.and_eq_true, decide_eq_true_eq] at hok
  have hall := goS_all hs none (by simp_all)
  have hlen : hs.length ≤ 4 := by simp_all
  refine ⟨⟨by omega, fun h hh => ?_⟩, ?_⟩
  · obtain ⟨_, _, q3, q4, q5⟩ := hunkS_parts (hall h hh)
    exact ⟨by omega, by omega, by omega⟩
  · have hb : ∀ h ∈ hs, (putHk h).length ≤ 40000000 := by
      intro h hh
      obtain ⟨_, _, q3, q4, q5⟩ := hunkS_parts (hall h hh)
      have h1 := dec_len h.1.toNat
      have h2 := dec_len h.2.length
      have h3 := putLines_len h.2 1048576 (hx h hh)
      have h4 : h.2.length * (1048576 + 1) ≤ 30 * (1048576 + 1) := Nat.mul_le_mul_right _ q3
      simp only [putHk, List.length_append, List.length_cons, List.length_nil]
      omega
    have := putHs_len hs 40000000 hb
    have h5 : hs.length * 40000000 ≤ 4 * 40000000 := Nat.mul_le_mul_right _ hlen
    omega
end Go.Qz
namespace Go.Qz
open Go.Proofs
def wordsS (ws : Lines) (most : Int) : Option (Int × Nat) := match ws with
  | [a, b, c] => if a == [64] then (if decide (1 ≤ numS c) && decide (numS c ≤ most) then some (numS b, (numS c).toNat) else none) else none
  | _ => none
def getS : Nat → List Hk → Lines → List Hk × Bool
  | 0, acc, _ => (acc, true)
  | k + 1, acc, L => match L with
    | l :: m :: r => if 4 < acc.length then (acc, true) else match wordsS (cutP 32 2 [] l) (r.length : Int) with
      | none => (acc, false)
      | some q => getS k (acc ++ [(q.1, (m :: r).take q.2)]) ((m :: r).drop q.2)
    | _ => (acc, true)
theorem cutP_count (b : UInt8) : ∀ (k : Nat) (s pre : List UInt8), (cutP b k pre s).length ≤ s.length + 1
  | _, [], pre => by rw [cutP]; simp
  | 0, c :: r, pre => by rw [cutP]; simp
  | k + 1, c :: r, pre => by
    rw [cutP]
    split
    · have := cutP_count b k r []; simp; omega
    · have := cutP_count b (k + 1) r (pre ++ [c]); simp; omega
set_option maxHeartbeats 2000000 in
set_option maxRecDepth 4000 in
theorem l5Get_ev (t : List UInt8) (ht : t.length ≤ 1048576) : ∃ b, C fn_s_l5Get [.ro (T t)] [] = some (.tup [.own (HS (getS (t.length + 2) [] (cutP 10 (t.length + 1) [] t)).1), .ro (.bool b)], []) ∧
    b = ((getS (t.length + 2) [] (cutP 10 (t.length + 1) [] t)).2 && (hunksOkS (getS (t.length + 2) [] (cutP 10 (t.length + 1) [] t)).1 && (putHs (getS (t.length + 2) [] (cutP 10 (t.length + 1) [] t)).1 == t))) := by
  refine ⟨_, ?_, rfl⟩
  refine ctx_call Tryd.func28 conv_s_l5Get rfl ?_
  have hcut : C fn_s_l1Cut [.ro (T t), .ro (.int .u8 10), .ro (.int .i64 ((t.length : Int) + 1))] [] = some (.one (.own (SS (cutP 10 (t.length + 1) [] t))), []) := l1Cut_ev t 10 (t.length + 1) ((t.length : Int) + 1) (by omega) ht (by omega)
  have w1 : IntKind.i64.wrap ((t.length : Int) + 1) = (t.length : Int) + 1 := wrap64 (by omega) (by omega)
  have hxl := cutP_len 10 (t.length + 1) t []
  have hcl : (cutP 10 (t.length + 1) [] t).length ≤ t.length + 1 := cutP_count 10 _ t []
  generalize cutP 10 (t.length + 1) [] t = lines at *
  simp [hcut, w1]
  refine loop_run (fun m e => ∃ (acc : List Hk) (i k : Nat), m = lines.length - i ∧ i ≤ lines.length ∧ lines.length < i + k ∧ (∀ h ∈ acc, h.2.length ≤ 1048576 ∧ ∀ x ∈ h.2, x.length ≤ 1048576) ∧ acc.length ≤ 5 ∧ e.size = 84 ∧ e.get 0 = .one (.ro (T t)) ∧ e.get 4 = .one (.own (HS acc)) ∧ (e.get 5 = .one (.own (SS lines)) ∨ e.get 5 = .one (.ro (SS lines))) ∧ e.get 6 = .one (.ro (N i)) ∧
      getS k acc (lines.drop i) = getS (t.length + 2) [] lines)
    ?_ lines.length _ ⟨[], 0, t.length + 2, rfl, Nat.zero_le _, by omega, by simp, by simp, by simp, by simp, by simp, by simp, by simp, rfl⟩
  rintro m e ⟨acc, i, k, rfl, hi, hk, hacc, ha5, hsz, h0, h4, h5, h6, hr⟩ ih
  obtain ⟨k, rfl⟩ : ∃ k', k = k' + 1 := ⟨k - 1, by omega⟩
  have hw1 : IntKind.i64.wrap ((i : Int) + 1) = ((i + 1 : Nat) : Int) := wrap64_succ (by omega)
  have hS := HunksOkS_ev acc (by omega) (fun h hh => by have := (hacc h hh).1; omega) (fun h hh x hx => by have := (hacc h hh).2 x hx; omega)
  have hP : hunksOkS acc = true → C fn_s_l5Put [.ro (HS acc)] [] = some (.one (.ro (T (putHs acc))), []) := fun hok => by
    obtain ⟨f1, f2⟩ := few_of_ok acc hok (fun h hh => (hacc h hh).2)
    exact l5Put_ev acc f1 (by omega)
  rcases h5 with h5 | h5
  all_goals
    by_cases hlt : i + 1 < lines.length
    · have hlti : i < lines.length := by omega
      have hi1 : (i : Int) + 1 < lines.length := by omega
      have hd : lines.drop i = lines[i] :: lines[i + 1] :: lines.drop (i + 1 + 1) := by
        rw [List.drop_eq_getElem_cons hlti, List.drop_eq_getElem_cons hlt]
      rw [hd, getS] at hr
      by_cases h4l : 4 < acc.length
      · rw [if_pos h4l] at hr
        have h4' : ¬ (acc.length : Int) ≤ 4 := by omega
        rw [← hr]
        cases hok : hunksOkS acc with
        | false =>
          rw [hok] at hS
          simp [hsz, h0, h4, h5, h6, hi1, hw1, h4', hS]
        | true =>
          rw [hok] at hS
          have hP := hP hok
          simp [hsz, h0, h4, h5, h6, hi1, hw1, h4', hS, hP]
      · rw [if_neg h4l] at hr
        have h4' : (acc.length : Int) ≤ 4 := by omega
        have hll := hxl lines[i] (List.getElem_mem hlti)
        simp only [List.length_nil, Nat.zero_add] at hll
        have hws : C fn_s_l1Cut [.ro (T lines[i]), .ro (.int .u8 32), .ro (.int .i64 2)] [] = some (.one (.own (SS (cutP 32 2 [] lines[i]))), []) := l1Cut_ev lines[i] 32 2 2 rfl (by omega) (by omega)
        have hwl := cutP_len 32 2 lines[i] []
        obtain ⟨l, hl⟩ : ∃ l, lines[i] = l := ⟨_, rfl⟩
        rw [hl] at hr hws hwl hll
        match hcw : cutP 32 2 [] l with
        | [] =>
          rw [hcw] at hws hr
          rw [show SS [] = .sl 1 [] from rfl] at hws
          simp only [wordsS] at hr
          rw [← hr]
          simp [hsz, h4, h5, h6, hi1, hw1, h4', hlti, hl, hws]
        | [a] =>
          rw [hcw] at hws hr
          rw [show SS [a] = .sl 1 [T a] from rfl] at hws
          simp only [wordsS] at hr
          rw [← hr]
          simp [hsz, h4, h5, h6, hi1, hw1, h4', hlti, hl, hws]
        | [a, b] =>
          rw [hcw] at hws hr
          rw [show SS [a, b] = .sl 1 [T a, T b] from rfl] at hws
          simp only [wordsS] at hr
          rw [← hr]
          simp [hsz, h4, h5, h6, hi1, hw1, h4', hlti, hl, hws]
        | a :: b :: c :: d :: ws =>
          rw [hcw] at hws hr
          rw [show SS (a :: b :: c :: d :: ws) = .sl 1 (T a :: T b :: T c :: T d :: ws.map T) from rfl] at hws
          simp only [wordsS] at hr
          rw [← hr]
          have h3 : ((ws.length : Int) + 1 + 1 + 1 + 1 == 3) = false := by rw [beq_eq_false_iff_ne]; omega
          have h3' : ¬ ((ws.length : Int) + 1 + 1 + 1 + 1 = 3) := by omega
          simp [hsz, h4, h5, h6, hi1, hw1, h4', hlti, hl, hws, h3]
        | [a, b, c] =>
          rw [hcw] at hws hr hwl
          rw [show SS [a, b, c] = .sl 1 [T a, T b, T c] from rfl] at hws
          simp only [wordsS] at hr
          simp only [List.length_nil, Nat.zero_add] at hwl
          have hN1 := l1Num_ev b (by have := hwl b (by simp); omega)
          have hN2 := l1Num_ev c (by have := hwl c (by simp); omega)
          cases ha : a == [64] with
          | false =>
            rw [ha] at hr
            simp only [Bool.false_eq_true, if_false] at hr
            rw [← hr]
            simp [hsz, h4, h5, h6, hi1, hw1, h4', hlti, hl, hws, ha]
          | true =>
            rw [ha] at hr
            simp only [if_true] at hr
            have hrl : ((lines.drop (i + 1 + 1)).length : Int) = (lines.length : Int) - i - 2 := by rw [List.length_drop]; omega
            have hw2 : IntKind.i64.wrap ((lines.length : Int) - i) = (lines.length : Int) - i := wrap64 (by omega) (by omega)
            have hw3 : IntKind.i64.wrap ((lines.length : Int) - i - 2) = (lines.length : Int) - i - 2 := wrap64 (by omega) (by omega)
            have hin := l1In_ev (numS c) 1 ((lines.length : Int) - i - 2)
            rw [hrl] at hr
            cases hc : decide (1 ≤ numS c) && decide (numS c ≤ (lines.length : Int) - i - 2) with
            | false =>
              have hin' : inI (numS c) 1 ((lines.length : Int) - i - 2) = false := hc
              rw [hin'] at hin
              rw [hc] at hr
              simp only [Bool.false_eq_true, if_false] at hr
              rw [← hr]
              simp [hsz, h4, h5, h6, hi1, hw1, h4', hlti, hl, hws, ha, hN2, hw2, hw3, hin]
            | true =>
              have hin' : inI (numS c) 1 ((lines.length : Int) - i - 2) = true := hc
              rw [hin'] at hin
              rw [hc] at hr
              simp only [if_true] at hr
              simp only [Bool.and_eq_true, decide_eq_true_eq] at hc
              obtain ⟨n, hn⟩ : ∃ n : Nat, numS c = n := ⟨(numS c).toNat, by omega⟩
              rw [hn] at hr hin hN2 hc
              simp only [Int.toNat_natCast] at hr
              have ham : acc.length + 1 ≤ appendMax := by simp [appendMax]; omega
              have hwn : IntKind.i64.wrap ((i : Int) + 1 + n) = ((i + 1 + n : Nat) : Int) := by rw [wrap64 (by omega) (by omega)]; omega
              have hin2 : i + 1 + n ≤ lines.length := by omega
              have hm2 : (lines[i + 1] :: lines.drop (i + 1 + 1)) = lines.drop (i + 1) := (List.drop_eq_getElem_cons hlt).symm
              rw [hm2] at hr
              have hsl : List.drop (i + 1) (List.take (i + 1 + n) lines) = (lines.drop (i + 1)).take n := by rw [List.drop_take]; congr 1; omega
              have hdd : List.drop n (lines.drop (i + 1)) = lines.drop (i + 1 + n) := by rw [List.drop_drop]
              rw [hdd] at hr
              have hal : (List.take n (lines.drop (i + 1))).length ≤ appendMax := by rw [List.length_take]; simp [appendMax]; omega
              have b1 : (i : Int) + 1 + n ≤ lines.length := by omega
              have b2 : (i : Int) + 1 ≤ (i : Int) + 1 + n := by omega
              have hmt : List.drop (i + 1) (List.take (i + 1 + n) (List.map T lines)) = List.take n (List.drop (i + 1) (List.map T lines)) := by
                rw [List.drop_take]; congr 1; omega
              have hfl : flats (List.drop (i + 1) (List.take (i + 1 + n) (List.map T lines))) = true := by
                rw [← List.map_take, ← List.map_drop]
                exact flats_T _
              have hna : n ≤ appendMax := by simp [appendMax]; omega
              have b3 : (0 : Int) ≤ (i : Int) + 1 + n := by omega
              have b4 : (0 : Int) ≤ (i : Int) + 1 := by omega
              have b5 : ((i : Int) + 1 + n).toNat = i + 1 + n := by omega
              simp [hsz, h4, h5, h6, hi1, hw1, h4', hlti, hl, hws, ha, hN1, hN2, hw2, hw3, hin, ham, hwn, b1, b2, b3, b4, b5, hin2, hfl, hna]
              refine ih _ _ (by omega) ⟨acc ++ [(numS b, List.take n (lines.drop (i + 1)))], i + 1 + n, k, rfl, hin2, by omega, ?_, by simp; omega, by simp [hsz], by simp [h0], by simp [hmt], .inr (by simp [h5]), by simp, hr⟩
              intro h hh
              rcases List.mem_append.1 hh with h1 | h1
              · exact hacc h h1
              · simp at h1
                subst h1
                refine ⟨by rw [List.length_take]; omega, fun x hx => ?_⟩
                have := hxl x (List.mem_of_mem_drop (List.mem_of_mem_take hx))
                simp at this
                omega
    · have hi1 : ¬ (i : Int) + 1 < lines.length := by omega
      have hend : getS (k + 1) acc (lines.drop i) = (acc, true) := by
        match hdr : lines.drop i with
        | [] => simp [getS]
        | [x] => simp [getS]
        | x :: y :: z =>
          have := congrArg List.length hdr
          simp at this
          omega
      rw [hend] at hr
      rw [← hr]
      cases hok : hunksOkS acc with
      | false =>
        rw [hok] at hS
        simp [hsz, h0, h4, h5, h6, hi1, hw1, hS]
      | true =>
        rw [hok] at hS
        have hP := hP hok
        simp [hsz, h0, h4, h5, h6, hi1, hw1, hS, hP]
end Go.Qz
namespace Go.Qz
open Go.Proofs
def headB (h : Hk) : List UInt8 := 64 :: 32 :: (Lib.decDigits h.1.toNat ++ 32 :: Lib.decDigits h.2.length)
theorem putHk_eq (h : Hk) (r : List UInt8) : putHk h ++ r = headB h ++ 10 :: (putLines h.2 ++ r) := by simp [putHk, headB]
theorem head_words (h : Hk) (k : Nat) : cutP 32 (k + 2) [] (headB h) = [[64], Lib.decDigits h.1.toNat, Lib.decDigits h.2.length] := by
  have e1 : brk 32 (headB h) = some ([64], Lib.decDigits h.1.toNat ++ 32 :: Lib.decDigits h.2.length) := brk_name (n := [64]) _ (by simp)
  have e2 : brk 32 (Lib.decDigits h.1.toNat ++ 32 :: Lib.decDigits h.2.length) = some (Lib.decDigits h.1.toNat, Lib.decDigits h.2.length) := brk_name _ (fun c hc => (fig_ne (dec_fig _ c hc)).1)
  have e3 : brk 32 (Lib.decDigits h.2.length) = none := brk_none (fun c hc => (fig_ne (dec_fig _ c hc)).1)
  rw [cutP_brk, e1]
  simp only [List.nil_append]
  rw [cutP_brk, e2]
  simp only [List.nil_append]
  cases k with
  | zero => rw [cutP_zero]; rfl
  | succ k => rw [cutP_brk, e3]; rfl
theorem head_free (h : Hk) : ∀ c ∈ headB h, c ≠ 10 := by
  intro c hc
  unfold headB at hc
  rcases List.mem_cons.1 hc with rfl | hc
  · decide
  rcases List.mem_cons.1 hc with rfl | hc
  · decide
  rcases List.mem_append.1 hc with hc | hc
  · exact (fig_ne (dec_fig _ c hc)).2
  rcases List.mem_cons.1 hc with rfl | hc
  · decide
  · exact (fig_ne (dec_fig _ c hc)).2
theorem words_join {hd a b c : List UInt8} (h : cutP 32 3 [] hd = [a, b, c]) : hd = a ++ 32 :: (b ++ 32 :: c) := by
  rw [cutP_brk] at h
  cases h1 : brk 32 hd with
  | none => rw [h1] at h; simp at h
  | some p =>
    obtain ⟨x, r⟩ := p
    rw [h1] at h
    simp only [List.nil_append, List.cons.injEq] at h
    obtain ⟨rfl, h⟩ := h
    rw [cutP_brk] at h
    cases h2 : brk 32 r with
    | none => rw [h2] at h; simp at h
    | some q =>
      obtain ⟨y, r'⟩ := q
      rw [h2] at h
      simp only [List.nil_append, List.cons.injEq] at h
      obtain ⟨rfl, h⟩ := h
      rw [cutP_brk] at h
      cases h3 : brk 32 r' with
      | none =>
        rw [h3] at h
        simp at h
        rw [brk_app h1, brk_app h2, h]
      | some q' =>
        rw [h3] at h
        simp at h
        have := congrArg List.length h.2
        rw [cutP_zero] at this
        simp at this
theorem readN_put : ∀ (n : Nat) (t : List UInt8) (p : Lines × List UInt8), readN n t = some p → t = putLines p.1 ++ p.2
  | 0, t, p, h => by cases h; rfl
  | n + 1, t, p, h => by
    unfold readN at h
    split at h
    · cases h
    · rename_i q hq
      split at h
      · cases h
      · rename_i s hs
        cases h
        have h1 := readN_put n q.2 s hs
        have h2 := brk_app (n := q.1) (r := q.2) hq
        rw [h2, h1]
        simp [putLines]
theorem hunkR_put {t : List UInt8} {p : Hk × List UInt8} (h : hunkR t = some p) : t = putHk p.1 ++ p.2 := by
  unfold hunkR at h
  split at h
  · cases h
  · rename_i q hq
    obtain ⟨x, y, r⟩ := q
    split at h
    · cases h
    · rename_i s hs
      cases h
      obtain ⟨hd, a, b, c, hb, hws, rfl, e1, e2⟩ := headR_some hq
      have h1 := readN_put _ _ _ hs
      have hl := (readN_len _ _ _ hs).2.1
      simp only at hl h1
      rw [putHk_eq, brk_app hb, words_join hws, h1]
      unfold headB
      rw [← numI_is e1, ← numI_is e2, hl]
      simp
theorem getI_put : ∀ (k : Nat) (acc hs : List Hk) (t : List UInt8), t.length ≤ k → getI acc t = some hs → ∃ tl, hs = acc ++ tl ∧ t = putHs tl := by
  intro k
  induction k with
  | zero =>
    intro acc hs t hk h
    obtain rfl := List.length_eq_zero_iff.1 (Nat.le_zero.1 hk)
    rw [getI_nil] at h
    cases h
    exact ⟨[], by simp, rfl⟩
  | succ k ih =>
    intro acc hs t hk h
    by_cases hn : t = []
    · subst hn
      rw [getI_nil] at h
      cases h
      exact ⟨[], by simp, rfl⟩
    · cases hq : hunkR t with
      | none => rw [getI_none hn hq] at h; cases h
      | some p =>
        rw [getI_some hn hq] at h
        split at h
        · cases h
        · have h1 := (hunkR_parts hq).1
          obtain ⟨tl, e1, e2⟩ := ih _ _ _ (by omega) h
          refine ⟨p.1 :: tl, by rw [e1]; simp, ?_⟩
          rw [putHs, ← e2]
          exact hunkR_put hq
end Go.Qz
namespace Go.Qz
open Go.Proofs
structure OkH (h : Hk) : Prop where
  at1 : 1 ≤ h.1
  at2 : h.1 ≤ 999
  len1 : 1 ≤ h.2.length
  len2 : h.2.length ≤ 30
  free : ∀ x ∈ h.2, ∀ c ∈ x, c ≠ 10
theorem okH_of {hs : List Hk} (h : hunksOkS hs = true) : hs.length ≤ 4 ∧ ∀ g ∈ hs, OkH g := by
  unfold hunksOkS at h
  simp only [Bool.and_eq_true, decide_eq_true_eq] at h
  refine ⟨h.2, fun g hg => ?_⟩
  have h1 := goS_all hs none h.1 g hg
  obtain ⟨_, a1, a2, a3, a4⟩ := hunkS_parts h1
  refine ⟨a3, a4, a1, a2, fun x hx c hc => ?_⟩
  unfold hunkS at h1
  simp only [Bool.and_eq_true, List.all_eq_true] at h1
  have h2 := h1.1 x hx
  rw [hlS_eq] at h2
  cases x with
  | nil => simp at hc
  | cons b r =>
    unfold hlOk at h2
    simp only [Bool.and_eq_true] at h2
    rcases List.mem_cons.1 hc with rfl | hc
    · have h3 := h2.1
      unfold signB at h3
      rintro rfl
      simp at h3
    · have h3 := h2.2
      unfold plainT at h3
      simp only [Bool.and_eq_true, List.all_eq_true] at h3
      have h4 := h3.2 c hc
      unfold plainB at h4
      rintro rfl
      simp at h4
theorem readN_app : ∀ (xs : Lines) (r : List UInt8), (∀ x ∈ xs, ∀ c ∈ x, c ≠ 10) → readN xs.length (putLines xs ++ r) = some (xs, r)
  | [], r, _ => rfl
  | x :: xs, r, h => by
    have e : putLines (x :: xs) ++ r = x ++ 10 :: (putLines xs ++ r) := by simp [putLines]
    rw [List.length_cons, readN, e, brk_name _ (h x (by simp))]
    simp only
    rw [readN_app xs r (fun y hy => h y (by simp [hy]))]
theorem hunkR_app {h : Hk} (hok : OkH h) (r : List UInt8) : hunkR (putHk h ++ r) = some (h, r) := by
  have e1 : headR (putHk h ++ r) = some (h.1.toNat, h.2.length, putLines h.2 ++ r) := by
    unfold headR
    rw [putHk_eq, brk_name _ (head_free h)]
    simp only
    rw [head_words h 1]
    have := hok.at2
    have := hok.len2
    simp only [wordsR, beq_self_eq_true, if_true]
    rw [numI_dec h.1.toNat 999 (by omega) (by omega), numI_dec h.2.length 30 (by omega) (by omega)]
    rfl
  unfold hunkR
  rw [e1]
  simp only
  rw [readN_app h.2 r hok.free]
  simp only [Option.some.injEq, Prod.mk.injEq, and_true]
  have := hok.at1
  have h2 : ((h.1.toNat : Nat) : Int) = h.1 := by omega
  rw [h2]
theorem putHk_ne (h : Hk) (r : List UInt8) : putHk h ++ r ≠ [] := by rw [putHk_eq]; simp [headB]
theorem getI_app : ∀ (hs acc : List Hk), (∀ h ∈ hs, OkH h) → acc.length + hs.length ≤ 4 → getI acc (putHs hs) = some (acc ++ hs)
  | [], acc, _, _ => by rw [putHs, getI_nil]; simp
  | h :: hs, acc, hok, hl => by
    simp only [List.length_cons] at hl
    rw [putHs, getI_some (putHk_ne h _) (hunkR_app (hok h (by simp)) _), if_neg (by omega)]
    rw [getI_app hs (acc ++ [h]) (fun g hg => hok g (by simp [hg])) (by simp; omega)]
    simp
def linesOf (hs : List Hk) : Lines := hs.flatMap fun h => headB h :: h.2
theorem putLines_app : ∀ (a b : Lines), putLines (a ++ b) = putLines a ++ putLines b
  | [], b => rfl
  | x :: a, b => by rw [List.cons_append, putLines, putLines, putLines_app a b]; simp
theorem putHs_lines : ∀ hs : List Hk, putHs hs = putLines (linesOf hs)
  | [] => rfl
  | h :: hs => by
    have e : linesOf (h :: hs) = (headB h :: h.2) ++ linesOf hs := by simp [linesOf]
    rw [putHs, e, putLines_app, ← putHs_lines hs, putLines]
    rw [putHk_eq]
    simp
theorem cutP_lines : ∀ (ls : Lines) (k : Nat), ls.length ≤ k → (∀ x ∈ ls, ∀ c ∈ x, c ≠ 10) → cutP 10 k [] (putLines ls) = ls ++ [[]]
  | [], k, _, _ => by rw [putLines, cutP]; rfl
  | x :: ls, 0, hk, _ => by simp at hk
  | x :: ls, k + 1, hk, h => by
    have e : putLines (x :: ls) = x ++ 10 :: putLines ls := by simp [putLines]
    rw [e, cutP_brk, brk_name _ (h x (by simp))]
    simp only [List.nil_append]
    rw [cutP_lines ls k (by simpa using hk) (fun y hy => h y (by simp [hy]))]
    rfl
theorem linesOf_free {hs : List Hk} (hok : ∀ h ∈ hs, OkH h) : ∀ x ∈ linesOf hs, ∀ c ∈ x, c ≠ 10 := by
  intro x hx
  unfold linesOf at hx
  obtain ⟨h, hh, hx⟩ := List.mem_flatMap.1 hx
  rcases List.mem_cons.1 hx with rfl | hx
  · exact head_free h
  · exact (hok h hh).free x hx
theorem getS_app : ∀ (hs acc : List Hk) (k : Nat), (∀ h ∈ hs, OkH h) → acc.length + hs.length ≤ 4 → hs.length < k → getS k acc (linesOf hs ++ [[]]) = (acc ++ hs, true)
  | _, _, 0, _, _, hk => by omega
  | [], acc, k + 1, _, _, _ => by simp [linesOf, getS]
  | h :: hs, acc, k + 1, hok, hl, hk => by
    simp only [List.length_cons] at hl hk
    have ho := hok h (by simp)
    have h1 := ho.len1
    have h2 := ho.len2
    have h3 := ho.at2
    have h4 := ho.at1
    have e : linesOf (h :: hs) ++ [[]] = headB h :: (h.2 ++ (linesOf hs ++ [[]])) := by simp [linesOf]
    match h2' : h.2, h1 with
    | m :: ms, _ =>
      rw [e, h2', List.cons_append, getS, if_neg (by omega), head_words h 0]
      have hlen : h.2.length = ms.length + 1 := by rw [h2']; rfl
      have hw : wordsS [[64], Lib.decDigits h.1.toNat, Lib.decDigits h.2.length] ((ms ++ (linesOf hs ++ [[]])).length : Int) = some (h.1, h.2.length) := by
        simp only [wordsS, beq_self_eq_true, if_true]
        rw [numS_dec _ (by omega), numS_dec _ (by omega), if_pos (by simp; omega)]
        simp only [Int.toNat_natCast, Option.some.injEq, Prod.mk.injEq, and_true]
        omega
      rw [hw]
      simp only
      have et : (m :: (ms ++ (linesOf hs ++ [[]]))) = h.2 ++ (linesOf hs ++ [[]]) := by rw [h2']; rfl
      rw [et, List.take_left, List.drop_left]
      rw [getS_app hs _ k (fun g hg => hok g (by simp [hg])) (by simp; omega) (by omega)]
      simp
theorem getS_put {hs : List Hk} (hok : hunksOkS hs = true) : getS ((putHs hs).length + 2) [] (cutP 10 ((putHs hs).length + 1) [] (putHs hs)) = (hs, true) := by
  obtain ⟨h4, ho⟩ := okH_of hok
  have hlen : ∀ ls : Lines, ls.length ≤ (putLines ls).length := by
    intro ls
    induction ls with
    | nil => simp
    | cons x ls ih => simp [putLines]; omega
  have h1 := hlen (linesOf hs)
  have h2 : hs.length ≤ (linesOf hs).length := by
    clear hok h4 ho h1
    induction hs with
    | nil => simp
    | cons h hs ih =>
      have e : linesOf (h :: hs) = (headB h :: h.2) ++ linesOf hs := by simp [linesOf]
      rw [e]; simp; omega
  rw [← putHs_lines] at h1
  have e : cutP 10 ((putHs hs).length + 1) [] (putHs hs) = linesOf hs ++ [[]] := by
    have := cutP_lines (linesOf hs) ((putHs hs).length + 1) (by omega) (linesOf_free ho)
    rw [← putHs_lines] at this
    exact this
  rw [e]
  have := getS_app hs [] ((putHs hs).length + 2) ho (by simpa using h4) (by omega)
  simpa using this
theorem okI_put {hs : List Hk} (hok : hunksOkS hs = true) : okI (getI [] (putHs hs)) = (hs, true) := by
  obtain ⟨h4, ho⟩ := okH_of hok
  have := getI_app hs [] ho (by simpa using h4)
  rw [this]
  simp only [okI, List.nil_append]
  rw [hunksOk_eq, if_pos hok]
theorem get_eq (t : List UInt8) : okI (getI [] t) = (if ((getS (t.length + 2) [] (cutP 10 (t.length + 1) [] t)).2 && (hunksOkS (getS (t.length + 2) [] (cutP 10 (t.length + 1) [] t)).1 && (putHs (getS (t.length + 2) [] (cutP 10 (t.length + 1) [] t)).1 == t))) = true
    then ((getS (t.length + 2) [] (cutP 10 (t.length + 1) [] t)).1, true) else ([], false)) := by
  by_cases hex : ∃ hs, hunksOkS hs = true ∧ t = putHs hs
  · obtain ⟨hs, hok, rfl⟩ := hex
    rw [getS_put hok, okI_put hok]
    simp [hok]
  · have e1 : okI (getI [] t) = ([], false) := by
      cases hg : getI [] t with
      | none => rfl
      | some hs =>
        obtain ⟨tl, e1, e2⟩ := getI_put t.length [] hs t (Nat.le_refl _) hg
        simp only [List.nil_append] at e1
        subst e1
        simp only [okI]
        rw [if_neg]
        intro hok
        rw [hunksOk_eq] at hok
        exact hex ⟨hs, hok, e2⟩
    rw [e1, if_neg]
    intro hb
    simp only [Bool.and_eq_true, beq_iff_eq] at hb
    exact hex ⟨_, hb.2.1, hb.2.2.symm⟩
end Go.Qz
namespace Go.Qz
open Go.Proofs
theorem HunksGetS_ev (t : List UInt8) (ht : t.length ≤ 1048576) : C fn_s_HunksGet [.ro (T t)] [] = some (.tup [.own (HS (okI (getI [] t)).1), .ro (.bool (okI (getI [] t)).2)], []) := by
  refine ctx_call Tryd.func12 conv_s_HunksGet rfl ?_
  obtain ⟨b, h1, h2⟩ := l5Get_ev t ht
  rw [get_eq t, ← h2]
  generalize getS (t.length + 2) [] (cutP 10 (t.length + 1) [] t) = v at *
  cases b with
  | true => simp [h1]
  | false => simp [h1]
theorem jsTexts_self (xs : Lines) (hn : xs.length ≤ 1048576) : C fn_w_jsTexts [.ro (SS xs), .ro (SS xs)] [] = some (.one (.ro (.bool true)), []) := by
  refine ctx_call Tryd.func25 conv_w_jsTexts rfl ?_
  simp
  refine loop_run (fun m e => ∃ i, m = xs.length - i ∧ i ≤ xs.length ∧ e.size = 26 ∧ e.get 0 = .one (.ro (SS xs)) ∧ e.get 1 = .one (.ro (SS xs)) ∧ e.get 5 = .one (.ro (N i)))
    ?_ xs.length _ ⟨0, rfl, Nat.zero_le _, by simp, by simp, by simp, by simp⟩
  rintro m e ⟨i, rfl, hi, hsz, h0, h1, h5⟩ ih
  rcases Nat.lt_or_ge i xs.length with hlt | hge
  · have hwi : IntKind.i64.wrap ((i : Int) + 1) = ((i + 1 : Nat) : Int) := wrap64_succ (by omega)
    simp [hsz, h0, h1, h5, hlt, hwi]
    exact ih _ _ (by omega) ⟨i + 1, rfl, by omega, by simp [hsz], by simp [h0], by simp [h1], by simp⟩
  · obtain rfl : i = xs.length := by omega
    simp [hsz, h0, h5]
theorem jsHunks_self (hs : List Hk) (hn : hs.length ≤ 1048576) (hl : ∀ h ∈ hs, h.2.length ≤ 1048576) : C fn_w_jsHunks [.ro (HS hs), .ro (HS hs)] [] = some (.one (.ro (.bool true)), []) := by
  refine ctx_call Tryd.func10 conv_w_jsHunks rfl ?_
  simp
  refine loop_run (fun m e => ∃ i, m = hs.length - i ∧ i ≤ hs.length ∧ e.size = 42 ∧ e.get 0 = .one (.ro (HS hs)) ∧ e.get 1 = .one (.ro (HS hs)) ∧ e.get 5 = .one (.ro (N i)))
    ?_ hs.length _ ⟨0, rfl, Nat.zero_le _, by simp, by simp, by simp, by simp⟩
  rintro m e ⟨i, rfl, hi, hsz, h0, h1, h5⟩ ih
  rcases Nat.lt_or_ge i hs.length with hlt | hge
  · have hwi : IntKind.i64.wrap ((i : Int) + 1) = ((i + 1 : Nat) : Int) := wrap64_succ (by omega)
    have hev := jsTexts_self hs[i].2 (hl _ (List.getElem_mem hlt))
    simp [hsz, h0, h1, h5, hlt, hwi, hev]
    exact ih _ _ (by omega) ⟨i + 1, rfl, by omega, by simp [hsz], by simp [h0], by simp [h1], by simp⟩
  · obtain rfl : i = hs.length := by omega
    simp [hsz, h0, h5]
theorem line_of_ok {hs : List Hk} (hok : hunksOkS hs = true) : ∀ h ∈ hs, ∀ x ∈ h.2, x.length ≤ 1000 := by
  intro h hh x hx
  unfold hunksOkS at hok
  simp only [Bool.and_eq_true] at hok
  have h1 := goS_all hs none hok.1 h hh
  simp only [hunkS, Bool.and_eq_true] at h1
  have h2 := List.all_eq_true.1 h1.1 x hx
  rw [hlS_eq] at h2
  exact hlOk_len h2
theorem put_few {hs : List Hk} (hok : hunksOkS hs = true) : fewHs hs ∧ (putHs hs).length ≤ 160000 := by
  have hx := line_of_ok hok
  refine ⟨(few_of_ok hs hok (fun h hh x hxx => by have := hx h hh x hxx; omega)).1, ?_⟩
  have hok' := hok
  unfold hunksOkS at hok
  simp only [Bool.and_eq_true, decide_eq_true_eq] at hok
  have hb : ∀ h ∈ hs, (putHk h).length ≤ 40000 := by
    intro h hh
    obtain ⟨_, p2, p3, p4, p5⟩ := hunkS_parts (goS_all hs none hok.1 h hh)
    have h1 := dec_three h.1.toNat (by omega)
    have h2 := dec_three h.2.length (by omega)
    have h3 := putLines_len h.2 1000 (hx h hh)
    have h4 : h.2.length * (1000 + 1) ≤ 30 * (1000 + 1) := Nat.mul_le_mul_right _ p3
    simp only [putHk, List.length_append, List.length_cons, List.length_nil]
    omega
  have := putHs_len hs 40000 hb
  have h5 : hs.length * 40000 ≤ 4 * 40000 := Nat.mul_le_mul_right _ hok.2
  omega
theorem drawHunksPut_ev (bs : List Int) (hb : ∀ b ∈ bs, 0 ≤ b ∧ b ≤ 255) : ∃ (hs : List Hk) (x : A), HkShort hs 4 ∧ (x = .own (HS hs) ∨ x = .ro (HS hs)) ∧ C fn_s_DrawHunksPut [.ro (BS bs)] [] = some (.one x, []) := by
  have h : Ends (fun r => ∃ (hs : List Hk) (x : A), HkShort hs 4 ∧ (x = .own (HS hs) ∨ x = .ro (HS hs)) ∧ r = (.one x, [])) (C fn_s_DrawHunksPut [.ro (BS bs)] []) := by
    refine call_ex Tryd.func4 conv_s_DrawHunksPut rfl ?_
    have hs := seed_take hb
    have ho := open_ev (bs.map (D.int .u8))
    rw [← List.map_take] at ho
    generalize bs.take 2000 = ts at *
    obtain ⟨r1, ⟨es, j, x, hes, hj, hx, rfl⟩, hl⟩ := anyHunks_ev ts hs 0 (by omega)
    have hl : C fn_s_l11AnyHunks [.ptr 5000 0] [(5000, [.ro (BS ts), .ro (.int .i64 0)])] = some (.one x, [(5000, RB ts j)]) := hl
    rcases hx with rfl | rfl
    · simp [ho, hl]
      exact .of ⟨es, hes, .inl rfl⟩
    · simp [ho, hl]
      exact .of ⟨es, hes, .inr rfl⟩
  obtain ⟨r, ⟨es, x, h1, h2, rfl⟩, h3⟩ := h
  exact ⟨es, x, h1, h2, h3⟩
theorem drawHunksGet_ev (bs : List Int) (hb : ∀ b ∈ bs, 0 ≤ b ∧ b ≤ 255) : ∃ s : List UInt8, s.length ≤ 100000 ∧ C fn_s_DrawHunksGet [.ro (BS bs)] [] = some (.one (.ro (T s)), []) := by
  have h : Ends (fun r => ∃ s : List UInt8, s.length ≤ 100000 ∧ r = (.one (.ro (T s)), [])) (C fn_s_DrawHunksGet [.ro (BS bs)] []) := by
    refine call_ex Tryd.func11 conv_s_DrawHunksGet rfl ?_
    have hs := seed_take hb
    have ho := open_ev (bs.map (D.int .u8))
    rw [← List.map_take] at ho
    generalize bs.take 2000 = ts at *
    obtain ⟨r1, ⟨es, j, hes, hj, rfl⟩, hl⟩ := hunks_ev ts hs 0 (by omega)
    have hl : C fn_s_l11Hunks [.ptr 5000 0] [(5000, [.ro (BS ts), .ro (.int .i64 0)])] = some (.one (.own (HS es)), [(5000, RB ts j)]) := hl
    have hlen := hes.len
    have kS := HunksOkS_ev es (by omega) (fun h hh => by have := hes.lines h hh; omega) (fun h hh x hx => by have := hes.each h hh x hx; omega)
    have pS := HunksPutS_ev es (hunksOkS es) kS (fun hok => l5Put_ev es (put_few hok).1 (by have := (put_few hok).2; omega))
    have hsl : (if hunksOkS es then putHs es else []).length ≤ 90000 := by
      split
      · rename_i hok
        have hb : ∀ h ∈ es, (putHk h).length ≤ 40000 := by
          intro h hh
          have hok' := hok
          unfold hunksOkS at hok
          simp only [Bool.and_eq_true, decide_eq_true_eq] at hok
          obtain ⟨_, p2, p3, p4, p5⟩ := hunkS_parts (goS_all es none hok.1 h hh)
          have h1 := dec_three h.1.toNat (by omega)
          have h2 := dec_three h.2.length (by omega)
          have h3 := putLines_len h.2 1000 (hes.each h hh)
          have h4 : h.2.length * (1000 + 1) ≤ 30 * (1000 + 1) := Nat.mul_le_mul_right _ p3
          simp only [putHk, List.length_append, List.length_cons, List.length_nil]
          omega
        have := putHs_len es 40000 hb
        have h5 : es.length * 40000 ≤ 2 * 40000 := Nat.mul_le_mul_right _ hlen
        omega
      · simp
    generalize (if hunksOkS es then putHs es else []) = s at *
    obtain ⟨r2, ⟨s2, j2, hs2, hj2, rfl⟩, hl2⟩ := cutDraw_ev hs s hsl (i := j) (by omega)
    simp [ho, hl, pS, hl2]
    exact .of ⟨s2, by omega, by simp⟩
  obtain ⟨r, ⟨s, h1, rfl⟩, h2⟩ := h
  exact ⟨s, h1, h2⟩
theorem okI_cases (t : List UInt8) : okI (getI [] t) = ([], false) ∨ ∃ hs, okI (getI [] t) = (hs, true) ∧ hunksOkS hs = true ∧ putHs hs = t := by
  unfold okI
  split
  · rename_i hs hg
    split
    · rename_i hok
      obtain ⟨tl, e1, e2⟩ := getI_put t.length [] hs t (Nat.le_refl _) hg
      simp only [List.nil_append] at e1
      subst e1
      rw [hunksOk_eq] at hok
      exact .inr ⟨_, rfl, hok, e2.symm⟩
    · exact .inl rfl
  · exact .inl rfl
theorem hunksLaw_ev (code more : List Int) (hb : ∀ b ∈ code, 0 ≤ b ∧ b ≤ 255) (hb2 : ∀ b ∈ more, 0 ≤ b ∧ b ≤ 255) : C fn_w_FnHunks [.ro (BS code), .ro (BS more)] [] = some (.one (.ro (.bool true)), []) := by
  refine ctx_call Tryd.func3 conv_w_FnHunks rfl ?_
  by_cases hl1 : 1048576 < code.length
  · simp [hl1]
  by_cases hl2 : 1048576 < more.length
  · simp [hl1, hl2]
  obtain ⟨hs, x, hsh, hx, d1⟩ := drawHunksPut_ev code hb
  obtain ⟨s2, hs2, d2⟩ := drawHunksGet_ev more hb2
  have hlen := hsh.len
  have kI := HunksOkI_ev hs (fun h hh => by have := hsh.lines h hh; omega)
  rw [hunksOk_eq] at kI
  have kS := HunksOkS_ev hs (by omega) (fun h hh => by have := hsh.lines h hh; omega) (fun h hh x hx => by have := hsh.each h hh x hx; omega)
  have pI := HunksPutI_ev hs (hunksOkS hs) kI (fun hok => ⟨(put_few hok).1, by have := (put_few hok).2; omega⟩)
  have pS := HunksPutS_ev hs (hunksOkS hs) kS (fun hok => l5Put_ev hs (put_few hok).1 (by have := (put_few hok).2; omega))
  have hj1 := jsHunks_self hs (by omega) (fun h hh => by have := hsh.lines h hh; omega)
  have gI := HunksGetI_ev (if hunksOkS hs then putHs hs else []) (by
    split
    · rename_i hok
      have := (put_few hok).2
      omega
    · simp)
  have g2 := HunksGetI_ev s2 (by omega)
  have g3 := HunksGetS_ev s2 (by omega)
  have back : hunksOkS hs = true → okI (getI [] (putHs hs)) = (hs, true) := okI_put
  have hj0 := jsHunks_self [] (by simp) (by simp)
  have fin : ∀ (y : List Hk) (fine : Bool), okI (getI [] s2) = (y, fine) → C fn_w_jsHunks [.ro (HS y), .ro (HS y)] [] = some (.one (.ro (.bool true)), []) ∧ (fine = true → C fn_i_HunksPut [.ro (HS y)] [] = some (.one (.ro (T s2)), [])) := by
    intro y fine hy
    rcases okI_cases s2 with h | ⟨gs, h, hok, hput⟩
    · rw [h] at hy
      cases hy
      exact ⟨hj0, fun h => by cases h⟩
    · rw [h] at hy
      cases hy
      have hok4 := okH_of hok
      refine ⟨jsHunks_self y (by have := hok4.1; omega) (fun h hh => by have := (hok4.2 h hh).len2; omega), fun _ => ?_⟩
      have k2 := HunksOkI_ev y (fun h hh => by have := (hok4.2 h hh).len2; omega)
      rw [hunksOk_eq, hok] at k2
      have := HunksPutI_ev y true k2 (fun _ => ⟨(put_few hok).1, by have := (put_few hok).2; omega⟩)
      rw [if_pos rfl, hput] at this
      exact this
  obtain ⟨y, fine, hv⟩ : ∃ y fine, okI (getI [] s2) = (y, fine) := ⟨_, _, rfl⟩
  obtain ⟨hj2, hy⟩ := fin y fine hv
  rw [hv] at g2 g3
  simp only at g2 g3
  clear fin hv
  cases ho : hunksOkS hs with
  | true =>
    rw [ho] at kI kS pI pS gI
    simp only [if_true] at pI pS gI
    rw [back ho] at gI
    simp only at gI
    generalize putHs hs = s at *
    cases fine with
    | true =>
      have hy := hy rfl
      rcases hx with rfl | rfl <;> simp [hl1, hl2, d1, d2, kI, kS, pI, pS, gI, g2, g3, hj1, hj2, hy]
    | false => rcases hx with rfl | rfl <;> simp [hl1, hl2, d1, d2, kI, kS, pI, pS, gI, g2, g3, hj1, hj2]
  | false =>
    rw [ho] at kI kS pI pS gI
    simp only [Bool.false_eq_true, if_false] at pI pS gI
    generalize okI (getI [] []) = v at *
    obtain ⟨x2, ok⟩ := v
    simp only at gI
    cases fine with
    | true =>
      have hy := hy rfl
      rcases hx with rfl | rfl <;> simp [hl1, hl2, d1, d2, kI, kS, pI, pS, gI, g2, g3, hj2, hy]
    | false => rcases hx with rfl | rfl <;> simp [hl1, hl2, d1, d2, kI, kS, pI, pS, gI, g2, g3, hj2]
end Go.Qz
