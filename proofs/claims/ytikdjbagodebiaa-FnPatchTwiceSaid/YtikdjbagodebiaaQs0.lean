/- The evaluator of the claim and what it says, part Qs0 (several texts in one). -/
import Derived.Test.YtikdjbagodebiaaQo0
import Derived.Test.YtikdjbagodebiaaQp0
import Derived.Test.YtikdjbagodebiaaQr0
import Derived.Test.YtikdjbagodebiaaQn0
import Derived.Test.YtikdjbagodebiaaQi2
/- What comes by contract, proved. -/
namespace Go.Qz
open Go.Proofs

theorem mixed : Try.prog.follows .mixedOrders = true := by kernel_rfl
theorem noGo : (Try.prog.funcs.all fun fn => !(fn.name == "runtime.NumGoroutine")) = true := by kernel_rfl
theorem noName (f : FuncId) (fn : Func) (hf : Try.prog.funcs[f]? = some fn) : fn.name ≠ "runtime.NumGoroutine" := fun hn => by
  have h := Array.all_eq_true_iff_forall_mem.1 noGo fn (Array.mem_of_getElem? hf)
  rw [hn] at h
  exact absurd h (by decide)
theorem hasBody {f : FuncId} {fn : Func} (hf : Try.prog.funcs[f]? = some fn) (hb : fn.body.isSome = true) : HasBody Try.prog f := ⟨fn, hf, hb, noName f fn hf⟩
def X0 : CallF := fun _ _ _ => none
theorem sound0 [Base] : CallSound Try.prog (callLim Try.prog ioS X0) :=
  callLim_sound mixed (fun f us bx r bx' h => by cases h) noName

theorem clone_snil : callLim Try.prog ioS X0 fn_slices_Clone_L_string_string [.ro .snil] [] = some (.one (.own (.sl 1 [])), []) := by
  refine ctx_call Try.func29 conv_slices_Clone_L_string_string rfl ?_
  simp
theorem clone_sne : callLim Try.prog ioS X0 fn_slices_Clone_L_string_string [.ro .sne] [] = some (.one (.own (.sl 1 [])), []) := by
  refine ctx_call Try.func29 conv_slices_Clone_L_string_string rfl ?_
  have ha : 0 ≤ appendMax := by simp [appendMax]
  simp [ha]

theorem open_sound [Base] {xs : List D} {g : G} {w : World} {vs : Array Value} (hsz : vs.size = [A.ro (.sl 1 xs)].length) (hs : Sim g (startEnv [A.ro (.sl 1 xs)].length [A.ro (.sl 1 xs)] []) vs w) :
    Calls Try.prog 19 vs w (fun en w' => ∃ v, en = .returned v ∧ Post g (startEnv [A.ro (.sl 1 xs)].length [A.ro (.sl 1 xs)] []) w (.agg [.ro (.sl 1 (xs.take 2000)), .ro (.int .i64 0)]) [] v w') := by
  have e0 : RO g.c (.sl 1 xs) (vs.getD 0 undef) := start_get hs (a := .ro (.sl 1 xs)) rfl
  obtain ⟨a, cap, hu, hcap, _⟩ := e0.sl_inv
  have e : vs = #[.slice a xs.length cap] := by
    simp only [List.length_singleton] at hsz
    refine Array.ext (by simpa using hsz) (fun k hk hk' => ?_)
    obtain rfl : k = 0 := by omega
    simpa [Array.getD_eq_getD_getElem?, hk] using hu
  subst e
  have hro : RO g.c (.sl 1 xs) (.slice a xs.length cap) := hu ▸ e0
  have fin : ∀ k, k ≤ xs.length → xs.take 2000 = xs.take k → Post g (startEnv 1 [A.ro (.sl 1 xs)] []) w (.agg [.ro (.sl 1 (xs.take 2000)), .ro (.int .i64 0)]) [] (.pointer (some ⟨w.heap.size, 0, none⟩)) (w.alloc (.cells #[.slice a k cap, .int .i64 0] 63)) := by
    intro k hk he
    refine ⟨#[.slice a k cap, .int .i64 0], 63, rfl, rfl, rfl, fun j d hd => ?_⟩
    match j, hd with
    | 0, hd =>
      simp only [List.getElem?_cons_zero, Option.some.injEq, A.ro.injEq] at hd
      subst hd
      rw [he]
      exact ⟨rfl, hro.head hk⟩
    | 1, hd =>
      simp at hd
      subst hd
      exact ⟨rfl, .int _ _⟩
    | j + 2, hd => simp at hd
  by_cases hlen : xs.length ≤ 2000
  · refine (open_short a xs.length cap hlen w).mono ?_
    rintro en w' ⟨rfl, rfl⟩
    exact ⟨_, rfl, fin xs.length (Nat.le_refl _) (by rw [List.take_of_length_le hlen, List.take_length])⟩
  · refine (open_long a xs.length cap (by omega) hcap w).mono ?_
    rintro en w' ⟨rfl, rfl⟩
    exact ⟨_, rfl, fin 2000 (by omega) rfl⟩

theorem arr_four {vs : Array Value} (h : vs.size = 4) : vs = #[vs.getD 0 undef, vs.getD 1 undef, vs.getD 2 undef, vs.getD 3 undef] := by
  refine Array.ext (by simpa using h) (fun k hk hk' => ?_)
  have : k = 0 ∨ k = 1 ∨ k = 2 ∨ k = 3 := by omega
  rcases this with rfl | rfl | rfl | rfl <;> simp [Array.getD_eq_getD_getElem?, hk]

theorem replace_sound [Base] {xs ys : List D} {i j : Nat} (hx : flats xs = true) (hy : flats ys = true) (hi : i ≤ j) (hj : j ≤ xs.length) (hb : (xs.length + ys.length) * 16 ≤ 140737488355328) {g : G} {w : World} {vs : Array Value} {us : List A}
    (hus : us = [.view ⟨.cell 10000 0, []⟩, .ro (.int .i64 i), .ro (.int .i64 j), .view ⟨.cell 10003 0, []⟩]) (hsz : vs.size = us.length) (hs : Sim g (startEnv us.length us [(10000, [.own (.sl 1 xs)]), (10003, [.own (.sl 1 ys)])]) vs w) :
    Calls Try.prog 52 vs w (fun en w' => ∃ v, en = .returned v ∧ ∃ g' Z, FnPost g (startEnv us.length us [(10000, [.own (.sl 1 xs)]), (10003, [.own (.sl 1 ys)])]) w (.one (.own (.sl 1 (xs.take i ++ ys ++ xs.drop j)))) [(10000, [.dead]), (10003, [.own (.sl 1 ys)])] v w' g' Z) := by
  obtain ⟨va, vb, Ua, Ub, hva, hvb, hoa, hob, hdis, hltA, hltB, fin⟩ := rows_post hs (by decide) (by decide) (by decide)
  have e0 : vs.getD 0 undef = va := hva 0 (by rw [hus]; rfl)
  have e3 : vs.getD 3 undef = vb := hvb 3 (by rw [hus]; rfl)
  have e1 : vs.getD 1 undef = .int .i64 i := (start_get hs (k := 1) (a := .ro (.int .i64 i)) (by rw [hus]; rfl) : RO g.c _ _).int_inv
  have e2 : vs.getD 2 undef = .int .i64 j := (start_get hs (k := 2) (a := .ro (.int .i64 j)) (by rw [hus]; rfl) : RO g.c _ _).int_inv
  have ev := arr_four (by rw [hsz, hus]; rfl : vs.size = 4)
  rw [e0, e1, e2, e3] at ev
  have hcx : ∀ x ∈ xs, x.cells.length = 1 := by
    rcases own_open hoa hx with ⟨_, rfl⟩ | ⟨b, c, e, L, T', h1, h2, h3, h4, h5, h6, h7, h8, h9, h10⟩
    · exact fun x h => by cases h
    · exact h8
  have hcy : ∀ x ∈ ys, x.cells.length = 1 := by
    rcases own_open hob hy with ⟨_, rfl⟩ | ⟨b, c, e, L, T', h1, h2, h3, h4, h5, h6, h7, h8, h9, h10⟩
    · exact fun x h => by cases h
    · exact h8
  have hcr : ∀ x ∈ xs.take i ++ ys ++ xs.drop j, x.cells.length = 1 := by
    intro x h
    rcases List.mem_append.1 h with h | h
    · rcases List.mem_append.1 h with h | h
      · exact hcx x (List.mem_of_mem_take h)
      · exact hcy x h
    · exact hcx x (List.mem_of_mem_drop h)
  have hfr : flats (xs.take i ++ ys ++ xs.drop j) = true := by
    refine flats_of (fun x h => ?_)
    rcases List.mem_append.1 h with h | h
    · rcases List.mem_append.1 h with h | h
      · exact flats_mem hx (List.mem_of_mem_take h)
      · exact flats_mem hy h
    · exact flats_mem hx (List.mem_of_mem_drop h)
  -- what is put in
  have hV : ∀ b, (∀ x, x = b → ¬ Ub x) → ∃ va' vc cs, vb = .slice va' ys.length vc ∧ RowV w va' ys.length vc cs b ∧ Says (ys.flatMap D.cells) cs := by
    intro b hbn
    rcases own_open hob hy with ⟨rfl, rfl⟩ | ⟨b', c, e, L, T', rfl, h2, h3, h4, h5, h6, h7, h8, h9, h10⟩
    · exact ⟨none, 0, [], rfl, ⟨rfl, (fun _ h => by cases h), .inl ⟨rfl, rfl, rfl⟩⟩, ⟨rfl, (fun k d u h => by simp at h)⟩⟩
    · exact ⟨_, c, L, rfl, ⟨by omega, h10.one, .inr ⟨b', e, T', rfl, h2, fun e => hbn b' e h9, h2.lt⟩⟩, h10⟩
  rcases own_open hoa hx with ⟨hv, rfl⟩ | ⟨b, c, e, L, T', hv, h2, h3, h4, h5, h6, h7, h8, h9, h10⟩
  · obtain ⟨va', vc, cs, hvb', hrv, hsy⟩ := hV w.heap.size (fun x hx hu => by have := hltB x hu; omega)
    have hi0 : i = 0 := by simp at hj; omega
    have hj0 : j = 0 := by simpa using hj
    subst hi0 hj0
    rw [ev, hv, hvb']
    refine rep_ins none 0 0 0 _ (Nat.le_refl _) (Nat.le_refl _) w _ ((insert_nil hrv (by simp at hb; omega)).mono ?_)
    rintro en w' ⟨v, rfl, hc⟩
    refine ⟨⟨v, rfl⟩, v, rfl, ?_⟩
    refine fin w' v _ hc.turns.os hc.turns.tape hc.turns.output hc.turns.size (fun x hx _ => hc.turns.old x hx (by simp)) (came_own hc ?_ hcr (by decide) hfr (fun b h => by cases h))
    simpa using hsy
  · obtain ⟨va', vc, cs, hvb', hrv, hsy⟩ := hV b (fun x hx hu => by subst hx; exact hdis _ h9 hu)
    rw [ev, hv, hvb']
    refine (replace_came (L := L) (T := T') (e := e) ⟨h2, by omega, by omega, h6, h10.one⟩ hrv hi hj hb).mono ?_
    rintro en w' ⟨v, rfl, hc⟩
    refine ⟨v, rfl, fin w' v _ hc.turns.os hc.turns.tape hc.turns.output hc.turns.size (fun x hx hn => hc.turns.old x hx (fun e => hn (by cases e; exact h9))) (came_own hc ?_ hcr (by decide) hfr (fun b' h => by cases h; exact h9))⟩
    rw [List.flatMap_append, List.flatMap_append, flatMap_take i h8, flatMap_drop j h8, Nat.mul_one, Nat.mul_one]
    exact ((h10.take i).append hsy).append (h10.drop j)

theorem XS_sound [Base] : CallSound Try.prog XS := by
  intro f us bx r bx' h
  unfold XS at h
  split at h
  · rename_i hf
    subst hf
    split at h
    · rename_i z
      simp only [Option.some.injEq, Prod.mk.injEq] at h
      obtain ⟨rfl, rfl⟩ := h
      exact empties sound0 (z := z) (k := 0) (ds := [.sl z []]) rfl clone_snil clone_sne
    · cases h
  · split at h
    · rename_i hf
      subst hf
      split at h
      · rename_i z xs
        split at h
        · rename_i hc
          subst hc
          simp only [Option.some.injEq, Prod.mk.injEq] at h
          obtain ⟨rfl, rfl⟩ := h
          exact ⟨hasBody Try.func19 (by kernel_rfl), fun g w vs hsz hs => open_sound hsz hs⟩
        · cases h
      · cases h
    · split at h
      · rename_i hf
        subst hf
        split at h
        · rename_i l0 i j l3 n z xs m z' ys
          split at h
          · rename_i hc
            obtain ⟨rfl, rfl, rfl, rfl, rfl, rfl, h1, h2, h3, h4, h5, h6⟩ := hc
            simp only [Option.some.injEq, Prod.mk.injEq] at h
            obtain ⟨rfl, rfl⟩ := h
            obtain ⟨i, rfl⟩ := Int.eq_ofNat_of_zero_le h3
            obtain ⟨j, rfl⟩ := Int.eq_ofNat_of_zero_le (Int.le_trans h3 h4)
            simp only [Int.toNat_natCast]
            exact ⟨hasBody Try.func52 (by kernel_rfl), fun g w vs hsz hs => replace_sound h1 h2 (by omega) (by omega) h6 rfl hsz hs⟩
          · cases h
        · cases h
      · cases h
theorem sound [Base] : CallSound Try.prog C := callLim_sound mixed XS_sound noName

theorem clone_ev (xs : Lines) (hn : xs.length ≤ 1048576) : C fn_slices_Clone_L_string_string [.ro (SS xs)] [] = some (.one (.own (SS xs)), []) := by
  cases xs with
  | nil =>
    show callLim Try.prog ioS XS fn_slices_Clone_L_string_string [.ro (.sl 1 [])] [] = _
    exact callLim_x rfl
  | cons x r =>
    show C fn_slices_Clone_L_string_string [.ro (.sl 1 (T x :: r.map T))] [] = some (.one (.own (.sl 1 (T x :: r.map T))), [])
    refine ctx_call Try.func29 conv_slices_Clone_L_string_string rfl ?_
    have ha : r.length + 1 ≤ appendMax := by simp at hn; simp [appendMax]; omega
    simp [ha]
end Go.Qz

/- What the functions come to: hunks are done. -/
namespace Go.Qz
open Go.Proofs

/-- A hunk done with the first fuzz that lets it be done. -/
def applyFrom (h : Hk) (p : Pt) : Nat → Nat → Option Pt
  | _, 0 => none
  | f, n + 1 => match fitP h f p with
    | some q => some q
    | none => applyFrom h p (f + 1) n
def applyP (h : Hk) (most : Nat) (p : Pt) : Option Pt := applyFrom h p 0 (most + 1)
theorem applyFrom_ok {h : Hk} {k : Nat} {p q : Pt} (hp : PtOk p k) (hl : h.2.length ≤ 30) : ∀ (n f : Nat), applyFrom h p f n = some q → PtOk q (k + 1)
  | 0, f, e => by cases e
  | n + 1, f, e => by
    unfold applyFrom at e
    split at e
    · rename_i r hr
      cases e
      exact fitP_ok hp hl hr
    · exact applyFrom_ok hp hl n (f + 1) e

theorem apply_ev (p : Pt) (h : Hk) (most k : Nat) (hm : most ≤ 2) (hk : k ≤ 4) (hp : PtOk p k) (hl : h.2.length ≤ 30) (hat : 1 ≤ h.1 ∧ h.1 ≤ 999) (hne : ∀ x ∈ h.2, x ≠ []) :
    C fn_i_patcher_apply [.ptr 5000 0, .ro (HD h), .ro (N most)] [(5000, PB p)] = some (fitV p (applyP h most p)) := by
  refine ctx_call Try.func30 conv_i_patcher_apply rfl ?_
  have hw0 : IntKind.i64.wrap ((most : Int) + 1) = ((most + 1 : Nat) : Int) := wrap64_succ (by omega)
  unfold applyP
  obtain ⟨n, hn⟩ : ∃ n, most + 1 = n := ⟨_, rfl⟩
  rw [hn] at hw0
  rw [hn]
  simp [hw0]
  refine loop_run (fun m e => ∃ f : Nat, m = n - f ∧ f ≤ n ∧ e.size = 18 ∧ e.get 0 = .one (.ptr 5000 0) ∧ e.get 4 = .one (.ptr 4 0) ∧ e.get 9 = .one (.ro (N n)) ∧ e.get 10 = .one (.ro (N f)) ∧ e.box 5000 = some (PB p) ∧ e.box 4 = some [.ro (I h.1), .ro (SS h.2)] ∧
    applyFrom h p f (n - f) = applyFrom h p 0 n) ?_ n _ ⟨0, rfl, Nat.zero_le _, by simp, by simp, by simp, by simp, by simp, by simp, by simp, rfl⟩
  rintro m e ⟨f, rfl, hf, hsz, h0, h4, h9, h10, hb, hb4, hr⟩ ih
  rcases Nat.lt_or_ge f n with hlt | hge
  · have hwi : IntKind.i64.wrap ((f : Int) + 1) = ((f + 1 : Nat) : Int) := wrap64_succ (by omega)
    have hfit := fit_ev p h f k (by omega) hk hp hl hat hne
    rw [show n - f = (n - (f + 1)) + 1 by omega, applyFrom] at hr
    cases hq : fitP h f p with
    | some q =>
      rw [hq] at hr hfit
      simp only [fitV] at hr hfit
      rw [← hr]
      simp [hsz, h0, h4, h9, h10, hb, hb4, hlt, hfit, fitV]
    | none =>
      rw [hq] at hr hfit
      simp only [fitV] at hr hfit
      simp [hsz, h0, h4, h9, h10, hb, hb4, hlt, hfit, hwi]
      exact ih _ _ (by omega) ⟨f + 1, rfl, by omega, by simp [hsz], by simp [h0], by simp [h4], by simp [h9], by simp, by simp, by simp [hb4], hr⟩
  · obtain rfl : f = n := by omega
    rw [Nat.sub_self, applyFrom] at hr
    rw [← hr]
    simp [hsz, h9, h10, hb, fitV]

/-- All hunks. -/
def patchAll (most : Nat) : List Hk → Pt → Option Pt
  | [], p => some p
  | h :: r, p => match applyP h most p with
    | some q => patchAll most r q
    | none => none
def patchR (lines : Lines) (hs : List Hk) (fuzz : Int) : Lines × List Int × Bool :=
  if !linesI lines || !hunksOkI hs || decide (fuzz < 0) || decide (2 < fuzz) then ([], [], false) else match patchAll fuzz.toNat hs ⟨lines, 0, 0, []⟩ with
  | none => (lines, [], false)
  | some p => if linesI p.lines then (p.lines, p.offs, true) else (lines, [], false)
def patchV (r : Lines × List Int × Bool) : V := .tup [.own (SS r.1), .own (IS r.2.1), .ro (.bool r.2.2)]

/-- What hunks that are ok are. -/
structure HkOk (h : Hk) : Prop where
  at_ : 1 ≤ h.1 ∧ h.1 ≤ 999
  len : h.2.length ≤ 30
  ne : ∀ x ∈ h.2, x ≠ []
theorem goI_ok : ∀ {hs : List Hk} {l : Int}, 1 ≤ l → goI l hs = true → ∀ h ∈ hs, HkOk h
  | [], _, _, _, h, hh => by cases hh
  | a :: r, l, hl, hg, h, hh => by
    unfold goI at hg
    simp only [Bool.and_eq_true, decide_eq_true_eq] at hg
    obtain ⟨⟨⟨⟨⟨h1, h2⟩, h3⟩, h4⟩, h5⟩, h6⟩ := hg
    rcases List.mem_cons.1 hh with rfl | hh
    · exact ⟨⟨by omega, by omega⟩, by omega, fun x hx => hlOk_ne (List.all_eq_true.1 h5 x hx)⟩
    · exact goI_ok (by omega) h6 h hh
theorem hunksOkI_ok {hs : List Hk} (h : hunksOkI hs = true) : hs.length ≤ 4 ∧ ∀ h ∈ hs, HkOk h := by
  unfold hunksOkI at h
  simp only [Bool.and_eq_true, decide_eq_true_eq] at h
  exact ⟨h.1, goI_ok (by omega) h.2⟩

theorem patchI_ev (lines : Lines) (hs : List Hk) (fuzz : Int) (hn : lines.length ≤ 1048576) (hl : ∀ h ∈ hs, h.2.length ≤ 1048576) :
    C fn_i_Patch [.ro (SS lines), .ro (HS hs), .ro (I fuzz)] [] = some (patchV (patchR lines hs fuzz), []) := by
  refine ctx_call Try.func13 conv_i_Patch rfl ?_
  have hlo := linesOk_ev lines (by omega)
  have hho := HunksOkI_ev hs (fun h hh => by have := hl h hh; omega)
  unfold patchR
  cases c1 : linesI lines with
  | false =>
    rw [c1] at hlo
    simp [hlo, patchV]
  | true =>
  cases c2 : hunksOkI hs with
  | false =>
    rw [c1] at hlo
    rw [c2] at hho
    simp [hlo, hho, patchV]
  | true =>
  rw [c1] at hlo
  rw [c2] at hho
  by_cases f1 : fuzz < 0
  · simp [hlo, hho, f1, patchV]
  by_cases f2 : 2 < fuzz
  · simp [hlo, hho, f1, f2, patchV]
  obtain ⟨most, rfl⟩ := Int.eq_ofNat_of_zero_le (show 0 ≤ fuzz by omega)
  have hcl := clone_ev lines hn
  obtain ⟨hs4, hok⟩ := hunksOkI_ok c2
  have hl30 : lines.length ≤ 30 := by
    unfold linesI at c1
    simp only [Bool.and_eq_true, decide_eq_true_eq] at c1
    exact c1.1
  have f2' : ¬ 2 < most := by omega
  simp [hlo, hho, f2', hcl]
  have hp0 : PtOk ⟨lines, 0, 0, []⟩ 0 := ⟨by simp only; omega, by simp, rfl⟩
  refine loop_run (fun m e => ∃ (i : Nat) (p : Pt), m = hs.length - i ∧ i ≤ hs.length ∧ PtOk p i ∧ e.size = 54 ∧ e.get 0 = .one (.ro (SS lines)) ∧ e.get 2 = .one (.ro (I most)) ∧ e.get 9 = .one (.ptr 9 0) ∧ e.get 31 = .one (.ro (HS hs)) ∧ e.get 32 = .one (.ro (N hs.length)) ∧ e.get 33 = .one (.ro (N i)) ∧ e.box 9 = some (PB p) ∧
    patchAll most (hs.drop i) p = patchAll most hs ⟨lines, 0, 0, []⟩) ?_ hs.length _ ⟨0, ⟨lines, 0, 0, []⟩, rfl, Nat.zero_le _, hp0, by simp, by simp, by simp, by simp, by simp, by simp, by simp, by simp, rfl⟩
  rintro m e ⟨i, p, rfl, hi, hp, hsz, h0, h2, h9, h31, h32, h33, hb, hr⟩ ih
  rcases Nat.lt_or_ge i hs.length with hlt | hge
  · have hd : hs.drop i = hs[i] :: hs.drop (i + 1) := List.drop_eq_getElem_cons hlt
    have hwi : IntKind.i64.wrap ((i : Int) + 1) = ((i + 1 : Nat) : Int) := wrap64_succ (by omega)
    have ho := hok _ (List.getElem_mem hlt)
    have hap := apply_ev p hs[i] most i (by omega) (by omega) hp ho.len ho.at_ ho.ne
    rw [hd, patchAll] at hr
    cases hq : applyP hs[i] most p with
    | none =>
      rw [hq] at hr hap
      simp only [fitV] at hr hap
      rw [← hr]
      simp [hsz, h0, h2, h9, h31, h32, h33, hb, hlt, hap, hcl, patchV]
    | some q =>
      rw [hq] at hr hap
      simp only [fitV] at hr hap
      simp [hsz, h2, h9, h31, h32, h33, hb, hlt, hap, hwi]
      exact ih _ _ (by omega) ⟨i + 1, q, rfl, by omega, applyFrom_ok hp ho.len _ _ hq, by simp [hsz], by simp [h0], by simp [h2], by simp [h9], by simp [h31], by simp [h32], by simp, by simp, hr⟩
  · obtain rfl : i = hs.length := by omega
    rw [List.drop_length, patchAll] at hr
    rw [← hr]
    have hlo2 := linesOk_ev p.lines (by have := hp.len; omega)
    simp only
    cases c3 : linesI p.lines with
    | false =>
      rw [c3] at hlo2
      simp [hsz, h0, h9, h32, h33, hb, hlo2, hcl, patchV]
    | true =>
      rw [c3] at hlo2
      simp [hsz, h9, h32, h33, hb, hlo2, patchV]
end Go.Qz

/- What the functions come to: patches of the reference. -/
namespace Go.Qz
open Go.Proofs

theorem l5New_ev (h : Hk) (hl : h.2.length ≤ 30) (hne : ∀ x ∈ h.2, x ≠ []) : C fn_s_l5New [.ro (HD h)] [] = some (.one (.own (SS (newL h.2))), []) := by
  refine ctx_call Try.func38 conv_s_l5New rfl ?_
  simp
  refine loop_run (fun m e => ∃ i, m = h.2.length - i ∧ i ≤ h.2.length ∧ e.size = 30 ∧ e.get 1 = .one (.ptr 1 0) ∧ e.box 1 = some [.ro (I h.1), .ro (SS h.2)] ∧ e.get 3 = .one (.own (SS (newL (h.2.take i)))) ∧ e.get 4 = .one (.ro (N i)))
    ?_ h.2.length _ ⟨0, rfl, Nat.zero_le _, by simp, by simp, by simp, by simp [newL], by simp⟩
  rintro m e ⟨i, rfl, hi, hsz, h1, hb, h3, h4⟩ ih
  rcases Nat.lt_or_ge i h.2.length with hlt | hge
  · have hwi : IntKind.i64.wrap ((i : Int) + 1) = ((i + 1 : Nat) : Int) := wrap64_succ (by omega)
    have hl1 : (newL (h.2.take i)).length ≤ 30 := Nat.le_trans (newL_le _) (by simp; omega)
    obtain ⟨c, r, hcr⟩ : ∃ c r, h.2[i] = c :: r := by
      cases hq : h.2[i] with
      | nil => exact absurd hq (hne _ (List.getElem_mem hlt))
      | cons c r => exact ⟨c, r, rfl⟩
    have ht : h.2.take (i + 1) = h.2.take i ++ [c :: r] := by rw [List.take_succ_eq_append_getElem hlt, hcr]
    have o : newL (h.2.take (i + 1)) = newL (h.2.take i) ++ if c == 45 then [] else [r] := by
      rw [ht]; unfold newL; rw [List.filter_append, List.map_append]; cases h : c == 45 <;> simp [h]
    have ha1 : (newL (h.2.take i)).length + 1 ≤ appendMax := by simp [appendMax]; omega
    cases h1' : c == 45
    all_goals
      simp [hsz, h1, hb, h3, h4, hlt, hcr, h1', ha1, hwi]
      exact ih _ _ (by omega) ⟨i + 1, rfl, by omega, by simp [hsz], by simp [h1], by simp [hb], by simp [o, h1', h3], by simp⟩
  · obtain rfl : i = h.2.length := by omega
    rw [List.take_length] at h3
    simp [hsz, h1, hb, h3, h4]

@[simp] theorem take_T (xs : Lines) : List.take xs.length (List.map T xs) = List.map T xs := by rw [← List.map_take, List.take_length]

/-- The end of l5Trim: what is behind goes. -/
theorem trim_rest (h : Hk) (f n : Nat) (hf : f ≤ 2) (hl : h.2.length ≤ 30) (hat : 1 ≤ h.1 ∧ h.1 ≤ 999) (hne : ∀ x ∈ h.2, x ≠ []) (hn : ctxN h.2 f = n) (e : Env) (hsz : e.size = 62) (h1 : e.get 1 = .one (.ro (N f))) (h2 : e.get 2 = .one (.ptr 2 0)) (h4 : e.get 4 = .one (.ptr 4 0))
    (h6 : e.get 6 = .one (.ro (SS (h.2.drop n)))) (h7 : e.get 7 = .one (.ro (N n))) (hb2 : e.box 2 = some [.ro (I h.1), .ro (SS h.2)]) (hb4 : e.box 4 = some [.ro (I 0), .own (.sl 1 [])]) :
    Run cx q_s_l5Trim_c4 e [.fn [(.cell 4 39, 39), (.tmp 5, 3)] []] = some (.tup [.ro (HD (h.1 + ctxN h.2 f, trimL h.2 f)), .ro (N (ctxN h.2 f))], []) := by
  rw [hn]
  have hnf := (ctxN_le h.2 f).1
  have hwn : IntKind.i64.wrap (h.1 + n) = h.1 + n := wrap64 (by omega) (by omega)
  unfold trimL
  rw [hn]
  obtain ⟨ys, hys⟩ : ∃ ys, h.2.drop n = ys := ⟨_, rfl⟩
  have hyl : ys.length ≤ 30 := by rw [← hys]; simp; omega
  have hyne : ∀ x ∈ ys, x ≠ [] := fun x hx => hne x (List.mem_of_mem_drop (hys ▸ hx))
  rw [hys] at h6 ⊢
  simp [hsz]
  refine loop_run (fun m e => ∃ k : Nat, m = f - k ∧ k ≤ f ∧ k ≤ ys.length ∧ e.size = 62 ∧ e.get 1 = .one (.ro (N f)) ∧ e.get 2 = .one (.ptr 2 0) ∧ e.get 4 = .one (.ptr 4 0) ∧ e.get 6 = .one (.ro (SS (ys.take (ys.length - k)))) ∧ e.get 7 = .one (.ro (N n)) ∧ e.get 8 = .one (.ro (N k)) ∧ e.box 2 = some [.ro (I h.1), .ro (SS h.2)] ∧ e.box 4 = some [.ro (I 0), .own (.sl 1 [])] ∧
    ctxN (ys.reverse.drop k) (f - k) + k = ctxN ys.reverse f) ?_ f _ ⟨0, rfl, Nat.zero_le _, Nat.zero_le _, by simp [hsz], by simp [h1], by simp [h2], by simp [h4], by simp [h6], by simp [h7], by simp, by simp [hb2], by simp [hb4], rfl⟩
  rintro m e ⟨k, rfl, hk, hky, hsz, h1, h2, h4, h6, h7, h8, hb2, hb4, hr⟩ ih
  by_cases hlt : k < f
  · by_cases hlx : k < ys.length
    · obtain ⟨q, hq⟩ : ∃ q, ys.length - k = q + 1 := ⟨ys.length - k - 1, by omega⟩
      have hql : q < ys.length := by omega
      have hlr : k < ys.reverse.length := by simpa using hlx
      have hd : ys.reverse.drop k = ys.reverse[k] :: ys.reverse.drop (k + 1) := List.drop_eq_getElem_cons hlr
      have hg : ys.reverse[k] = ys[q] := by rw [List.getElem_reverse]; congr 1; omega
      obtain ⟨c, r, hcr⟩ : ∃ c r, ys[q] = c :: r := by
        cases hq : ys[q] with
        | nil => exact absurd hq (hyne _ (List.getElem_mem hql))
        | cons c r => exact ⟨c, r, rfl⟩
      rw [hd, show f - k = (f - (k + 1)) + 1 by omega, ctxN, hg, hcr] at hr
      rw [hq] at h6
      have hzl : (ys.take (q + 1)).length = q + 1 := by rw [List.length_take]; omega
      obtain ⟨zs, hzs⟩ : ∃ zs, ys.take (q + 1) = zs := ⟨_, rfl⟩
      have hzq : zs[q]? = some (c :: r) := by rw [← hzs, List.getElem?_take, if_pos (by omega), List.getElem?_eq_getElem hql, hcr]
      have hzt : zs.take q = ys.take q := by rw [← hzs, List.take_take, Nat.min_eq_left (by omega)]
      rw [hzs] at h6 hzl
      have hqz : q < zs.length := by omega
      have hzg : zs[q] = c :: r := by rw [List.getElem?_eq_getElem hqz] at hzq; exact Option.some.inj hzq
      have hzm : List.take q (List.map T zs) = List.map T (ys.take q) := by rw [← List.map_take, hzt]
      have wq : IntKind.i64.wrap (((q : Int) + 1) - 1) = (q : Int) := by rw [wrap64 (by omega) (by omega)]; omega
      have wq' : IntKind.i64.wrap (q : Int) = (q : Int) := wrap64 (by omega) (by omega)
      have hpos : (0 : Int) < (q : Int) + 1 := by omega
      have hwk : IntKind.i64.wrap ((k : Int) + 1) = ((k + 1 : Nat) : Int) := wrap64_succ (by omega)
      have hq1 : (q : Int) ≤ (q : Int) + 1 := by omega
      cases hc : c == 32 with
      | false =>
        have : isCtx (c :: r) = false := by simpa [isCtx] using hc
        rw [this] at hr
        simp at hr
        rw [← hr, hq, hzs]
        simp [hsz, h1, h2, h4, h6, h7, h8, hb2, hb4, hlt, hzl, hzg, hpos, wq', hc, hwn]
      | true =>
        have : isCtx (c :: r) = true := by simpa [isCtx] using hc
        rw [this, if_pos rfl] at hr
        simp [hsz, h1, h6, h8, hlt, hzl, hzg, hpos, wq', hc, hwk, hq1, hzm]
        exact ih _ _ (by omega) ⟨k + 1, rfl, by omega, by omega, by simp [hsz], by simp [h1], by simp [h2], by simp [h4], by simp; congr 1; omega, by simp [h7], by simp, by simp [hb2], by simp [hb4], by omega⟩
    · obtain rfl : k = ys.length := by omega
      have e0 : ys.reverse.drop ys.length = [] := List.drop_eq_nil_of_le (by simp)
      rw [e0, ctxN_nil] at hr
      rw [← hr]
      rw [Nat.sub_self, List.take_zero] at h6
      simp [hsz, h1, h2, h4, h6, h7, h8, hb2, hb4, hlt, hwn]
  · obtain rfl : k = f := by omega
    rw [Nat.sub_self] at hr
    have : ctxN (ys.reverse.drop k) 0 = 0 := by unfold ctxN; rfl
    rw [this] at hr
    rw [← hr]
    simp [hsz, h1, h2, h4, h6, h7, h8, hb2, hb4, hwn]

theorem l5Trim_ev (h : Hk) (f : Nat) (hf : f ≤ 2) (hl : h.2.length ≤ 30) (hat : 1 ≤ h.1 ∧ h.1 ≤ 999) (hne : ∀ x ∈ h.2, x ≠ []) :
    C fn_s_l5Trim [.ro (HD h), .ro (N f)] [] = some (.tup [.ro (HD (h.1 + ctxN h.2 f, trimL h.2 f)), .ro (N (ctxN h.2 f))], []) := by
  refine ctx_call Try.func46 conv_s_l5Trim rfl ?_
  simp
  refine loop_run (fun m e => ∃ n : Nat, m = f - n ∧ n ≤ f ∧ n ≤ h.2.length ∧ e.size = 62 ∧ e.get 1 = .one (.ro (N f)) ∧ e.get 2 = .one (.ptr 2 0) ∧ e.get 4 = .one (.ptr 4 0) ∧ e.get 6 = .one (.ro (SS (h.2.drop n))) ∧ e.get 7 = .one (.ro (N n)) ∧ e.box 2 = some [.ro (I h.1), .ro (SS h.2)] ∧ e.box 4 = some [.ro (I 0), .own (.sl 1 [])] ∧
    ctxN (h.2.drop n) (f - n) + n = ctxN h.2 f) ?_ f _ ⟨0, rfl, Nat.zero_le _, Nat.zero_le _, by simp, by simp, by simp, by simp, by simp, by simp, by simp, by simp, rfl⟩
  rintro m e ⟨n, rfl, hn, hnl, hsz, h1, h2, h4, h6, h7, hb2, hb4, hr⟩ ih
  by_cases hlt : n < f
  · by_cases hlx : n < h.2.length
    · have hd : h.2.drop n = h.2[n] :: h.2.drop (n + 1) := List.drop_eq_getElem_cons hlx
      obtain ⟨c, r, hcr⟩ : ∃ c r, h.2[n] = c :: r := by
        cases hq : h.2[n] with
        | nil => exact absurd hq (hne _ (List.getElem_mem hlx))
        | cons c r => exact ⟨c, r, rfl⟩
      rw [hd, show f - n = (f - (n + 1)) + 1 by omega, ctxN, hcr] at hr
      obtain ⟨zs, hzs⟩ : ∃ zs, h.2.drop (n + 1) = zs := ⟨_, rfl⟩
      rw [hd, hcr, hzs] at h6
      have hzl : zs.length ≤ 30 := by rw [← hzs]; simp; omega
      have hwn : IntKind.i64.wrap ((n : Int) + 1) = ((n + 1 : Nat) : Int) := wrap64_succ (by omega)
      have hpos : (0 : Int) < (zs.length : Int) + 1 := by omega
      have hone : (1 : Int) ≤ (zs.length : Int) + 1 := by omega
      cases hc : c == 32 with
      | false =>
        have : isCtx (c :: r) = false := by simpa [isCtx] using hc
        rw [this] at hr
        simp at hr
        simp [-q_s_l5Trim_c4_run, hsz, h1, h6, h7, hlt, hpos, hc]
        exact trim_rest h f n hf hl hat hne hr.symm _ (by simp [hsz]) (by simp [h1]) (by simp [h2]) (by simp [h4]) (by simp [h6, hd, hcr, hzs]) (by simp [h7]) (by simp [hb2]) (by simp [hb4])
      | true =>
        have : isCtx (c :: r) = true := by simpa [isCtx] using hc
        rw [this, if_pos rfl] at hr
        simp [hsz, h1, h6, h7, hlt, hpos, hc, hwn, hone]
        exact ih _ _ (by omega) ⟨n + 1, rfl, by omega, by omega, by simp [hsz], by simp [h1], by simp [h2], by simp [h4], by simp [hzs], by simp, by simp [hb2], by simp [hb4], by omega⟩
    · obtain rfl : n = h.2.length := by omega
      rw [List.drop_length, ctxN_nil] at hr
      simp [-q_s_l5Trim_c4_run, hsz, h1, h6, h7, hlt]
      exact trim_rest h f h.2.length hf hl hat hne (by omega) _ (by simp [hsz]) (by simp [h1]) (by simp [h2]) (by simp [h4]) (by simp [h6]) (by simp [h7]) (by simp [hb2]) (by simp [hb4])
  · obtain rfl : n = f := by omega
    rw [Nat.sub_self] at hr
    have : ctxN (h.2.drop n) 0 = 0 := by unfold ctxN; rfl
    rw [this] at hr
    simp [-q_s_l5Trim_c4_run, hsz, h1, h6, h7]
    exact trim_rest h n n hf hl hat hne (by omega) _ (by simp [hsz]) (by simp [h1]) (by simp [h2]) (by simp [h4]) (by simp [h6]) (by simp [h7]) (by simp [hb2]) (by simp [hb4])
end Go.Qz

/- What the functions come to: a hunk is done, in the reference. -/
namespace Go.Qz
open Go.Proofs

def oneV (lines : Lines) (low : Nat) (o : Option Pt) : V := match o with
  | some q => .tup [.own (SS q.lines), .ro (N q.fin), .ro (I (q.offs.getLastD 0)), .ro (.bool true)]
  | none => .tup [.ro (SS lines), .ro (N low), .ro (I 0), .ro (.bool false)]

theorem l5One_ev (lines : Lines) (h : Hk) (low : Nat) (shift : Int) (fuzz k : Nat) (hf : fuzz ≤ 2) (hk : k ≤ 4) (hp : PtOk ⟨lines, low, shift, []⟩ 0 ∨ PtOk ⟨lines, low, shift, List.replicate k 0⟩ k) (hl : h.2.length ≤ 30) (hat : 1 ≤ h.1 ∧ h.1 ≤ 999) (hne : ∀ x ∈ h.2, x ≠ []) :
    C fn_s_l5One [.ro (SS lines), .ro (HD h), .ro (N low), .ro (I shift), .ro (N fuzz)] [] = some (oneV lines low (applyP h fuzz ⟨lines, low, shift, []⟩), []) := by
  have hll : lines.length ≤ 150 := by
    rcases hp with hp | hp
    · have := hp.len; simp only at this; omega
    · have := hp.len; simp only at this; omega
  have hsh : -400 ≤ shift ∧ shift ≤ 400 := by
    rcases hp with hp | hp
    · have := hp.shift; simp only at this; omega
    · have := hp.shift; simp only at this; omega
  refine ctx_call Try.func37 conv_s_l5One rfl ?_
  unfold applyP
  simp
  refine loop_run (fun m e => ∃ f : Nat, m = fuzz + 1 - f ∧ f ≤ fuzz + 1 ∧ e.size = 75 ∧ e.get 0 = .one (.ro (SS lines)) ∧ e.get 2 = .one (.ro (N low)) ∧ e.get 3 = .one (.ro (I shift)) ∧ e.get 4 = .one (.ro (N fuzz)) ∧ e.get 6 = .one (.ptr 6 0) ∧ e.get 14 = .one (.ro (N f)) ∧ e.box 6 = some [.ro (I h.1), .ro (SS h.2)] ∧
    applyFrom h ⟨lines, low, shift, []⟩ f (fuzz + 1 - f) = applyFrom h ⟨lines, low, shift, []⟩ 0 (fuzz + 1)) ?_ (fuzz + 1) _ ⟨0, rfl, Nat.zero_le _, by simp, by simp, by simp, by simp, by simp, by simp, by simp, by simp, rfl⟩
  rintro m e ⟨f, rfl, hff, hsz, h0, h2, h3, h4, h6, h14, hb6, hr⟩ ih
  rcases Nat.lt_or_ge fuzz f with hgt | hlt
  · obtain rfl : f = fuzz + 1 := by omega
    rw [Nat.sub_self, applyFrom] at hr
    rw [← hr]
    have hle : ¬ ((fuzz : Int) + 1 ≤ fuzz) := by omega
    simp [hsz, h0, h2, h4, h14, hle, oneV]
  · have hwf : IntKind.i64.wrap ((f : Int) + 1) = ((f + 1 : Nat) : Int) := wrap64_succ (by omega)
    have htr := l5Trim_ev h f (by omega) hl hat hne
    obtain ⟨hk1, hk2⟩ := ctxN_le h.2 f
    have l1 := oldL_len (trimL h.2 f)
    have l2 := newL_len (trimL h.2 f)
    have l3 := trimL_len h.2 f
    have hol := l5Old_ev (h.1 + ctxN h.2 f, trimL h.2 f) (Nat.le_trans l3 hl) (fun x hx => hne x (trimL_mem hx))
    have hnw := l5New_ev (h.1 + ctxN h.2 f, trimL h.2 f) (Nat.le_trans l3 hl) (fun x hx => hne x (trimL_mem hx))
    simp only at hol hnw
    have hfd := l5Find_ev lines (oldL (trimL h.2 f)) (h.1 - 1 + ctxN h.2 f + shift) low (by omega) (by omega) (by omega) (by omega)
    rw [show fuzz + 1 - f = (fuzz + 1 - (f + 1)) + 1 by omega, applyFrom] at hr
    have hA : fitP h f ⟨lines, low, shift, []⟩ = match findP lines low (oldL (trimL h.2 f)) (h.1 - 1 + ctxN h.2 f + shift) with
      | none => none
      | some a => some ⟨lines.take a.toNat ++ newL (trimL h.2 f) ++ lines.drop (a.toNat + (oldL (trimL h.2 f)).length), a.toNat + (newL (trimL h.2 f)).length,
          shift + (a - (h.1 - 1 + ctxN h.2 f + shift) + (newL (trimL h.2 f)).length - (oldL (trimL h.2 f)).length), [a - (h.1 - 1 + ctxN h.2 f + shift)]⟩ := rfl
    rw [hA] at hr
    clear hA
    generalize ctxN h.2 f = cn at *
    generalize trimL h.2 f = tl at *
    generalize oldL tl = od at *
    generalize newL tl = nw at *
    obtain ⟨W, hW⟩ : ∃ W, h.1 - 1 + cn + shift = W := ⟨_, rfl⟩
    rw [hW] at hr hfd
    have w1 : IntKind.i64.wrap (h.1 + cn - 1) = h.1 + cn - 1 := wrap64 (by omega) (by omega)
    have w2 : IntKind.i64.wrap (h.1 + cn - 1 + shift) = W := by rw [wrap64 (by omega) (by omega)]; omega
    cases hfo : findP lines low od W with
    | none =>
      rw [hfo] at hr hfd
      simp only [findZ] at hr hfd
      have hneg : ¬ (0 : Int) ≤ -1 := by omega
      simp [hsz, h0, h2, h3, h4, h6, h14, hb6, hlt, htr, hol, hnw, w1, w2, hfd, hwf]
      exact ih _ _ (by omega) ⟨f + 1, rfl, by omega, by simp [hsz], by simp [h0], by simp [h2], by simp [h3], by simp [h4], by simp [h6], by simp, by simp [hb6], hr⟩
    | some a =>
      obtain ⟨g1, g2, g3, g4⟩ := findP_some hfo
      rw [hfo] at hr hfd
      simp only [findZ] at hr hfd
      obtain ⟨a, rfl⟩ := Int.eq_ofNat_of_zero_le (show 0 ≤ a by omega)
      simp only [Int.toNat_natCast] at hr
      rw [← hr]
      obtain ⟨q, hq⟩ : ∃ q, a + od.length = q := ⟨_, rfl⟩
      obtain ⟨r, hrr⟩ : ∃ r, a + nw.length = r := ⟨_, rfl⟩
      have w3 : IntKind.i64.wrap ((a : Int) + od.length) = (q : Int) := by rw [wrap64 (by omega) (by omega)]; omega
      have w4 : IntKind.i64.wrap ((a : Int) + nw.length) = (r : Int) := by rw [wrap64 (by omega) (by omega)]; omega
      have w5 : IntKind.i64.wrap ((a : Int) - W) = (a : Int) - W := wrap64 (by omega) (by omega)
      have ha : a ≤ lines.length := by omega
      have hql : q ≤ lines.length := by omega
      have a1 : a ≤ appendMax := by simp [appendMax]; omega
      have a2 : r ≤ appendMax := by simp [appendMax]; omega
      have a3 : r + (lines.length - q) ≤ appendMax := by simp [appendMax]; omega
      have f1 : flats (List.take a (List.map T lines)) = true := by rw [← List.map_take]; exact flats_T _
      have f2 : flats (List.drop q (List.map T lines)) = true := by rw [← List.map_drop]; exact flats_T _
      simp [hsz, h0, h2, h3, h4, h6, h14, hb6, hlt, htr, hol, hnw, w1, w2, hfd, w3, w4, w5, ha, hql, a1, a2, a3, f1, f2, oneV, hq, hrr]
end Go.Qz

/- What the functions come to: Patch of the reference. -/
namespace Go.Qz
open Go.Proofs

/-! ### Context counts on both sides -/
theorem oldL_append (a b : Lines) : oldL (a ++ b) = oldL a ++ oldL b := by simp [oldL]
theorem newL_append (a b : Lines) : newL (a ++ b) = newL a ++ newL b := by simp [newL]
theorem oldL_cons (x : List UInt8) (r : Lines) : oldL (x :: r) = (if x.head? == some 43 then [] else [x.tail]) ++ oldL r := by
  unfold oldL; cases h : x.head? == some 43 <;> simp [h]
theorem newL_cons (x : List UInt8) (r : Lines) : newL (x :: r) = (if x.head? == some 45 then [] else [x.tail]) ++ newL r := by
  unfold newL; cases h : x.head? == some 45 <;> simp [h]
theorem ctx_both {x : List UInt8} (h : isCtx x = true) (r : Lines) : oldL (x :: r) = x.tail :: oldL r ∧ newL (x :: r) = x.tail :: newL r := by
  unfold isCtx at h
  have e : x.head? = some 32 := by simpa using h
  rw [oldL_cons, newL_cons, e]
  exact ⟨rfl, rfl⟩
theorem ctx_all {xs : Lines} (h : ∀ x ∈ xs, isCtx x = true) : oldL xs = xs.map List.tail ∧ newL xs = xs.map List.tail := by
  induction xs with
  | nil => exact ⟨rfl, rfl⟩
  | cons x r ih =>
    obtain ⟨h1, h2⟩ := ctx_both (h x List.mem_cons_self) r
    obtain ⟨h3, h4⟩ := ih (fun y hy => h y (List.mem_cons_of_mem _ hy))
    rw [h1, h2, h3, h4]
    exact ⟨rfl, rfl⟩
theorem ctxN_take : ∀ (xs : Lines) (n : Nat), ∀ x ∈ xs.take (ctxN xs n), isCtx x = true
  | _, 0, x, hx => by unfold ctxN at hx; simp at hx
  | [], n + 1, x, hx => by simp at hx
  | y :: r, n + 1, x, hx => by
    unfold ctxN at hx
    split at hx
    · rename_i hy
      rw [List.take_succ_cons] at hx
      rcases List.mem_cons.1 hx with rfl | hx
      · exact hy
      · exact ctxN_take r n x hx
    · simp at hx
/-- A hunk's lines: context, what is left, context. -/
theorem trim_parts (xs : Lines) (f : Nat) : ∃ a b : Lines, xs = a ++ trimL xs f ++ b ∧ a.length = ctxN xs f ∧ (∀ x ∈ a, isCtx x = true) ∧ (∀ x ∈ b, isCtx x = true) := by
  refine ⟨xs.take (ctxN xs f), (xs.drop (ctxN xs f)).drop ((xs.drop (ctxN xs f)).length - ctxN (xs.drop (ctxN xs f)).reverse f), ?_, ?_, ctxN_take xs f, fun x hx => ?_⟩
  · unfold trimL
    rw [List.append_assoc, List.take_append_drop, List.take_append_drop]
  · have := (ctxN_le xs f).2
    rw [List.length_take]; omega
  · generalize xs.drop (ctxN xs f) = ys at *
    refine ctxN_take ys.reverse f x ?_
    rw [List.take_reverse]
    exact List.mem_reverse.2 hx
theorem trim_diff (xs : Lines) (f : Nat) : ((newL (trimL xs f)).length : Int) - (oldL (trimL xs f)).length = ((newL xs).length : Int) - (oldL xs).length := by
  obtain ⟨a, b, h, _, ha, hb⟩ := trim_parts xs f
  obtain ⟨h1, h2⟩ := ctx_all ha
  obtain ⟨h3, h4⟩ := ctx_all hb
  have e1 : (newL xs).length = a.length + (newL (trimL xs f)).length + b.length := by
    conv => lhs; rw [h]
    rw [newL_append, newL_append, h2, h4]; simp [Nat.add_assoc]
  have e2 : (oldL xs).length = a.length + (oldL (trimL xs f)).length + b.length := by
    conv => lhs; rw [h]
    rw [oldL_append, oldL_append, h1, h3]; simp [Nat.add_assoc]
  omega

/-! ### What was done ahead -/
def withOffs (offs : List Int) (q : Pt) : Pt := ⟨q.lines, q.fin, q.shift, offs ++ q.offs⟩
theorem fitP_offs (h : Hk) (f : Nat) (l : Lines) (n : Nat) (s : Int) (offs : List Int) : fitP h f ⟨l, n, s, offs⟩ = (fitP h f ⟨l, n, s, []⟩).map (withOffs offs) := by
  unfold fitP
  simp only
  split
  · rfl
  · simp [withOffs]
theorem applyFrom_offs (h : Hk) (l : Lines) (n : Nat) (s : Int) (offs : List Int) : ∀ (k f : Nat), applyFrom h ⟨l, n, s, offs⟩ f k = (applyFrom h ⟨l, n, s, []⟩ f k).map (withOffs offs)
  | 0, f => rfl
  | k + 1, f => by
    unfold applyFrom
    rw [fitP_offs, applyFrom_offs h l n s offs k (f + 1)]
    cases fitP h f ⟨l, n, s, []⟩ <;> rfl
theorem applyFrom_one {h : Hk} {l : Lines} {n : Nat} {s : Int} {q : Pt} : ∀ {k f : Nat}, applyFrom h ⟨l, n, s, []⟩ f k = some q → ∃ o, q.offs = [o] ∧ q.shift = s + o + (newL h.2).length - (oldL h.2).length ∧ -8 ≤ o ∧ o ≤ 8
  | 0, f, e => by cases e
  | k + 1, f, e => by
    unfold applyFrom at e
    split at e
    · rename_i r hr
      cases e
      unfold fitP at hr
      split at hr
      · cases hr
      · rename_i a ha
        cases hr
        have := trim_diff h.2 f
        obtain ⟨_, _, h3, h4⟩ := findP_some ha
        simp only at h3 h4
        refine ⟨_, rfl, ?_, ?_, ?_⟩
        · simp only; omega
        · simp only; omega
        · simp only; omega
    · exact applyFrom_one e

theorem newL_mem {xs : Lines} {x : List UInt8} (h : x ∈ newL xs) : ∃ y ∈ xs, x = y.tail := by
  unfold newL at h
  obtain ⟨y, hy, rfl⟩ := List.mem_map.1 h
  exact ⟨y, (List.mem_filter.1 hy).1, rfl⟩
theorem applyFrom_each {h : Hk} {p q : Pt} {B : Nat} (hp : ∀ x ∈ p.lines, x.length ≤ B) (hh : ∀ x ∈ h.2, x.length ≤ B) : ∀ {k f : Nat}, applyFrom h p f k = some q → ∀ x ∈ q.lines, x.length ≤ B
  | 0, f, e => by cases e
  | k + 1, f, e => by
    unfold applyFrom at e
    split at e
    · rename_i r hr
      cases e
      unfold fitP at hr
      split at hr
      · cases hr
      · cases hr
        intro x hx
        rcases List.mem_append.1 hx with hx | hx
        · rcases List.mem_append.1 hx with hx | hx
          · exact hp x (List.mem_of_mem_take hx)
          · obtain ⟨y, hy, rfl⟩ := newL_mem hx
            have := hh y (trimL_mem hy)
            simp; omega
        · exact hp x (List.mem_of_mem_drop hx)
    · exact applyFrom_each hp hh e

theorem patchS_ev (lines : Lines) (hs : List Hk) (fuzz : Int) (hn : lines.length ≤ 1048576) (hx : ∀ x ∈ lines, x.length ≤ 1048576) (hnh : hs.length ≤ 1048576) (hl : ∀ h ∈ hs, h.2.length ≤ 1048576) (hlx : ∀ h ∈ hs, ∀ x ∈ h.2, x.length ≤ 1048576) :
    C fn_s_Patch [.ro (SS lines), .ro (HS hs), .ro (I fuzz)] [] = some (patchV (patchR lines hs fuzz), []) := by
  refine ctx_call Try.func18 conv_s_Patch rfl ?_
  have hlo := l5Lines_ev lines (by omega) (fun x h => by have := hx x h; omega)
  have hho := HunksOkS_ev hs (by omega) (fun h hh => by have := hl h hh; omega) (fun h hh x hxx => by have := hlx h hh x hxx; omega)
  have hfz := l1In_ev fuzz 0 2
  rw [lines_eq] at hlo
  rw [← hunksOk_eq] at hho
  unfold patchR
  cases c1 : linesI lines with
  | false =>
    rw [c1] at hlo
    simp [hlo, patchV]
  | true =>
  cases c2 : hunksOkI hs with
  | false =>
    rw [c1] at hlo
    rw [c2] at hho
    simp [hlo, hho, patchV]
  | true =>
  rw [c1] at hlo
  rw [c2] at hho
  by_cases f1 : fuzz < 0
  · have : inI fuzz 0 2 = false := by simp [inI]; omega
    rw [this] at hfz
    simp [hlo, hho, hfz, f1, patchV]
  by_cases f2 : 2 < fuzz
  · have : inI fuzz 0 2 = false := by simp [inI]; omega
    rw [this] at hfz
    simp [hlo, hho, hfz, f1, f2, patchV]
  have : inI fuzz 0 2 = true := by simp [inI]; omega
  rw [this] at hfz
  obtain ⟨most, rfl⟩ := Int.eq_ofNat_of_zero_le (show 0 ≤ fuzz by omega)
  obtain ⟨hs4, hok⟩ := hunksOkI_ok c2
  have hl30 : lines.length ≤ 30 := by
    unfold linesI at c1
    simp only [Bool.and_eq_true, decide_eq_true_eq] at c1
    exact c1.1
  have f2' : ¬ 2 < most := by omega
  have ha0 : lines.length ≤ appendMax := by simp [appendMax]; omega
  simp [hlo, hho, hfz, f2', ha0]
  have hp0 : PtOk ⟨lines, 0, 0, []⟩ 0 := ⟨by simp only; omega, by simp, rfl⟩
  refine loop_run (fun m e => ∃ (i : Nat) (p : Pt), m = hs.length - i ∧ i ≤ hs.length ∧ PtOk p i ∧ (∀ x ∈ p.lines, x.length ≤ 1048576) ∧ e.size = 95 ∧ e.get 0 = .one (.ro (SS lines)) ∧ e.get 1 = .one (.ro (HS hs)) ∧ e.get 2 = .one (.ro (I most)) ∧ e.get 9 = .one (.own (SS p.lines)) ∧ e.get 10 = .one (.own (IS p.offs)) ∧ e.get 11 = .one (.ro (N p.fin)) ∧ e.get 12 = .one (.ro (I p.shift)) ∧ e.get 13 = .one (.ro (N i)) ∧
    patchAll most (hs.drop i) p = patchAll most hs ⟨lines, 0, 0, []⟩) ?_ hs.length _ ⟨0, ⟨lines, 0, 0, []⟩, rfl, Nat.zero_le _, hp0, hx, by simp, by simp, by simp, by simp, by simp, by simp, by simp, by simp, by simp, rfl⟩
  rintro m e ⟨i, p, rfl, hi, hp, hpx, hsz, h0, h1, h2, h9, h10, h11, h12, h13, hr⟩ ih
  rcases Nat.lt_or_ge i hs.length with hlt | hge
  · have hd : hs.drop i = hs[i] :: hs.drop (i + 1) := List.drop_eq_getElem_cons hlt
    have hwi : IntKind.i64.wrap ((i : Int) + 1) = ((i + 1 : Nat) : Int) := wrap64_succ (by omega)
    have ho := hok _ (List.getElem_mem hlt)
    obtain ⟨pl, pf, ps, po⟩ := p
    have hone := l5One_ev pl hs[i] pf ps most i (by omega) (by omega) (.inr ⟨hp.len, hp.shift, by simp⟩) ho.len ho.at_ ho.ne
    rw [hd, patchAll] at hr
    unfold applyP at hr hone
    rw [applyFrom_offs] at hr
    cases hq : applyFrom hs[i] ⟨pl, pf, ps, []⟩ 0 (most + 1) with
    | none =>
      rw [hq] at hr hone
      simp only [oneV, Option.map_none] at hr hone
      rw [← hr]
      simp [hsz, h0, h1, h2, h9, h11, h12, h13, hlt, hone, ha0, patchV]
    | some q =>
      obtain ⟨o, ho1, ho2, ho3, ho4⟩ := applyFrom_one hq
      have hok2 := applyFrom_ok hp ho.len (most + 1) 0 (q := withOffs po q) (by rw [applyFrom_offs, hq]; rfl)
      rw [hq] at hr hone
      simp only [oneV, Option.map_some, ho1, List.getLastD_cons, List.getLastD_nil] at hr hone
      have hnw := l5New_ev hs[i] ho.len ho.ne
      have hol := l5Old_ev hs[i] ho.len ho.ne
      have n1 := newL_len hs[i].2
      have n2 := oldL_len hs[i].2
      have hs2 := hp.shift
      have hl3 := ho.len
      simp only at hs2
      have w1 : IntKind.i64.wrap (ps + o) = ps + o := wrap64 (by omega) (by omega)
      have w2 : IntKind.i64.wrap (ps + o + (newL hs[i].2).length) = ps + o + (newL hs[i].2).length := wrap64 (by omega) (by omega)
      have w3 : IntKind.i64.wrap (ps + o + (newL hs[i].2).length - (oldL hs[i].2).length) = q.shift := by rw [wrap64 (by omega) (by omega), ho2]
      have ha1 : po.length + 1 ≤ appendMax := by have := hp.offs; simp only at this; simp [appendMax]; omega
      simp [hsz, h1, h2, h9, h10, h11, h12, h13, hlt, hone, hnw, hol, w1, w2, w3, ha1, hwi]
      exact ih _ _ (by omega) ⟨i + 1, withOffs po q, rfl, by omega, hok2, applyFrom_each hpx (hlx _ (List.getElem_mem hlt)) (q := withOffs po q) (by rw [applyFrom_offs, hq]; rfl), by simp [hsz], by simp [h0], by simp [h1], by simp [h2], by simp [withOffs], by simp [withOffs, ho1], by simp [withOffs], by simp [withOffs], by simp, hr⟩
  · obtain rfl : i = hs.length := by omega
    rw [List.drop_length, patchAll] at hr
    rw [← hr]
    have hpl := hp.len
    have hlo2 := l5Lines_ev p.lines (by omega) (fun x h => by have := hpx x h; omega)
    rw [lines_eq] at hlo2
    simp only
    cases c3 : linesI p.lines with
    | false =>
      rw [c3] at hlo2
      simp [hsz, h0, h1, h9, h13, hlo2, ha0, patchV]
    | true =>
      rw [c3] at hlo2
      simp [hsz, h1, h9, h10, h13, hlo2, patchV]
end Go.Qz

/- Plain laws of differences: what makes lines of others, and back. -/
namespace Go.Qz
open Go.Proofs

theorem headFrom_eq (a b : Lines) : ∀ f p, (∀ j, j < p → a[j]? = b[j]?) → ∀ j, j < headFrom a b f p → a[j]? = b[j]? := by
  intro f
  induction f with
  | zero => intro p h; exact h
  | succ f ih =>
    intro p h
    rw [headFrom]
    split
    · rename_i x y hx hy
      split
      · rename_i hxy
        refine ih (p + 1) (fun j hj => ?_)
        rcases Nat.lt_or_ge j p with h1 | h1
        · exact h j h1
        · obtain rfl : j = p := by omega
          rw [hx, hy]
          exact congrArg some (by simpa using hxy)
      · exact h
    · exact h
theorem tailFrom_eq (a b : Lines) (m : Nat) : ∀ f s, (∀ j, j < s → a[a.length - 1 - j]? = b[b.length - 1 - j]?) → ∀ j, j < tailFrom a b m f s → a[a.length - 1 - j]? = b[b.length - 1 - j]? := by
  intro f
  induction f with
  | zero => intro p h; exact h
  | succ f ih =>
    intro p h
    rw [tailFrom]
    split
    · split
      · rename_i x y hx hy
        split
        · rename_i hxy
          refine ih (p + 1) (fun j hj => ?_)
          rcases Nat.lt_or_ge j p with h1 | h1
          · exact h j h1
          · obtain rfl : j = p := by omega
            rw [hx, hy]
            exact congrArg some (by simpa using hxy)
        · exact h
      · exact h
    · exact h
theorem headL_le (a b : Lines) : headL a b ≤ min a.length b.length := by
  have := (headFrom_le a b (min a.length b.length) 0 (by omega)).2
  unfold headL; omega
theorem tailL_le (a b : Lines) : tailL a b ≤ min a.length b.length - headL a b := (tailFrom_le a b _ _ 0 (Nat.zero_le _)).2
theorem head_take (a b : Lines) : a.take (headL a b) = b.take (headL a b) := by
  apply List.ext_getElem?
  intro j
  rw [List.getElem?_take, List.getElem?_take]
  split
  · rename_i hj
    exact headFrom_eq a b _ 0 (fun j h => by omega) j hj
  · rfl
theorem tail_drop (a b : Lines) : a.drop (a.length - tailL a b) = b.drop (b.length - tailL a b) := by
  have h1 := tailL_le a b
  have h2 := headL_le a b
  apply List.ext_getElem?
  intro j
  rw [List.getElem?_drop, List.getElem?_drop]
  rcases Nat.lt_or_ge j (tailL a b) with hj | hj
  · have := tailFrom_eq a b (min a.length b.length - headL a b) (min a.length b.length) 0 (fun j h => by omega) (tailL a b - 1 - j) (by show _ < tailL a b; omega)
    rw [show a.length - tailL a b + j = a.length - 1 - (tailL a b - 1 - j) by omega, show b.length - tailL a b + j = b.length - 1 - (tailL a b - 1 - j) by omega]
    exact this
  · rw [List.getElem?_eq_none (by omega), List.getElem?_eq_none (by omega)]

theorem oldL_sign (c : UInt8) (xs : Lines) : oldL (signL [c] xs) = if c == 43 then [] else xs := by
  induction xs with
  | nil => cases c == 43 <;> rfl
  | cons x r ih =>
    show oldL ((c :: x) :: signL [c] r) = _
    rw [oldL_cons, ih]
    cases h : c == 43 <;> simp [h]
theorem newL_sign (c : UInt8) (xs : Lines) : newL (signL [c] xs) = if c == 45 then [] else xs := by
  induction xs with
  | nil => cases c == 45 <;> rfl
  | cons x r ih =>
    show newL ((c :: x) :: signL [c] r) = _
    rw [newL_cons, ih]
    cases h : c == 45 <;> simp [h]

/-- The parts of a difference. -/
structure Parts (a b X S D N S' Z : Lines) : Prop where
  one : a = X ++ (S ++ D ++ S') ++ Z
  two : b = X ++ (S ++ N ++ S') ++ Z
  hunk : diffHunk a b = ((X.length : Int) + 1, signL [32] S ++ signL [45] D ++ signL [43] N ++ signL [32] S')
theorem diff_parts (a b : Lines) : ∃ X S D N S' Z, Parts a b X S D N S' Z := by
  have h1 := tailL_le a b
  have h2 := headL_le a b
  have h3 := head_take a b
  have h4 := tail_drop a b
  generalize hp : headL a b = p at *
  generalize hs : tailL a b = s at *
  have hb1 : b.drop (b.length - s) = a.drop (a.length - s) := h4.symm
  refine ⟨a.take (p - 2), (a.take p).drop (p - 2), (a.take (a.length - s)).drop p, (b.take (b.length - s)).drop p, (a.take (min (a.length - s + 2) a.length)).drop (a.length - s), a.drop (min (a.length - s + 2) a.length), ?_, ?_, ?_⟩
  · have e1 : a.take (p - 2) ++ (a.take p).drop (p - 2) = a.take p := by
      conv => lhs; arg 1; rw [show a.take (p - 2) = (a.take p).take (p - 2) by rw [List.take_take, Nat.min_eq_left (by omega)]]
      rw [List.take_append_drop]
    have e2 : a.take p ++ (a.take (a.length - s)).drop p = a.take (a.length - s) := by
      conv => lhs; arg 1; rw [show a.take p = (a.take (a.length - s)).take p by rw [List.take_take, Nat.min_eq_left (by omega)]]
      rw [List.take_append_drop]
    have e3 : a.take (a.length - s) ++ (a.take (min (a.length - s + 2) a.length)).drop (a.length - s) = a.take (min (a.length - s + 2) a.length) := by
      conv => lhs; arg 1; rw [show a.take (a.length - s) = (a.take (min (a.length - s + 2) a.length)).take (a.length - s) by rw [List.take_take, Nat.min_eq_left (by omega)]]
      rw [List.take_append_drop]
    rw [← List.append_assoc, ← List.append_assoc, e1, e2, e3, List.take_append_drop]
  · have e1 : a.take (p - 2) ++ (a.take p).drop (p - 2) = b.take p := by
      conv => lhs; arg 1; rw [show a.take (p - 2) = (a.take p).take (p - 2) by rw [List.take_take, Nat.min_eq_left (by omega)]]
      rw [List.take_append_drop, h3]
    have e2 : b.take p ++ (b.take (b.length - s)).drop p = b.take (b.length - s) := by
      conv => lhs; arg 1; rw [show b.take p = (b.take (b.length - s)).take p by rw [List.take_take, Nat.min_eq_left (by omega)]]
      rw [List.take_append_drop]
    have e3 : (a.take (min (a.length - s + 2) a.length)).drop (a.length - s) ++ a.drop (min (a.length - s + 2) a.length) = b.drop (b.length - s) := by
      rw [hb1]
      obtain ⟨E, hE⟩ : ∃ E, a.length - s = E := ⟨_, rfl⟩
      obtain ⟨M, hM⟩ : ∃ M, min (E + 2) a.length = M := ⟨_, rfl⟩
      rw [hE, hM]
      have : a.drop E = (a.take M ++ a.drop M).drop E := by rw [List.take_append_drop]
      rw [this, List.drop_append_of_le_length (by rw [List.length_take]; omega)]
    rw [← List.append_assoc, ← List.append_assoc, e1, e2, List.append_assoc, e3, List.take_append_drop]
  · unfold diffHunk
    rw [hp, hs]
    have : (a.take (p - 2)).length = p - 2 := by rw [List.length_take]; omega
    rw [this]

/-- A hunk whose old lines stand at its place. -/
theorem fit_there (h : Hk) (X Z o n : Lines) (ho : oldL h.2 = o) (hn : newL h.2 = n) (hat : h.1 = (X.length : Int) + 1) :
    fitP h 0 ⟨X ++ o ++ Z, 0, 0, []⟩ = some ⟨X ++ n ++ Z, X.length + n.length, (n.length : Int) - o.length, [0]⟩ := by
  have ht : trimL h.2 0 = h.2 := by
    have e1 : ∀ xs : Lines, ctxN xs 0 = 0 := fun xs => by unfold ctxN; rfl
    unfold trimL
    rw [e1, e1]
    simp
  have hc : ctxN h.2 0 = 0 := by unfold ctxN; rfl
  have hf : findP (X ++ o ++ Z) 0 o (X.length : Int) = some (X.length : Int) := by
    unfold findP places
    rw [show List.range 9 = 0 :: (List.range 8).map (· + 1) from rfl, List.flatMap_cons]
    have : occB (X ++ o ++ Z) 0 o ((X.length : Int) - (0 : Nat)) = true := by
      unfold occB
      rw [show ((X.length : Int) - (0 : Nat)) = ((X.length : Nat) : Int) by omega, sameAt_nat (by simp)]
      rw [List.append_assoc, List.drop_left, List.take_left]
      simp
    rw [List.cons_append, List.find?_cons, this]
    simp
  unfold fitP
  rw [ht, hc, ho, hn, hat]
  simp only
  rw [show ((X.length : Int) + 1 - 1 + ((0 : Nat) : Int) + 0) = (X.length : Int) by omega, hf]
  simp only [Int.toNat_natCast, Int.sub_self, List.nil_append, Option.some.injEq, Pt.mk.injEq, and_true]
  refine ⟨?_, trivial, by omega⟩
  have e1 : (X ++ o ++ Z).take X.length = X := by rw [List.append_assoc, List.take_left]
  have e2 : (X ++ o ++ Z).drop (X.length + o.length) = Z := by
    rw [show X.length + o.length = (X ++ o).length by simp, List.drop_left]
  rw [e1, e2]
theorem patch_there (h : Hk) (X Z o n : Lines) (ho : oldL h.2 = o) (hn : newL h.2 = n) (hat : h.1 = (X.length : Int) + 1) (h1 : linesI (X ++ o ++ Z) = true) (h2 : hunksOkI [h] = true) (h3 : linesI (X ++ n ++ Z) = true) :
    patchR (X ++ o ++ Z) [h] 0 = (X ++ n ++ Z, [0], true) := by
  unfold patchR
  rw [h1, h2]
  have e : patchAll (0 : Int).toNat [h] ⟨X ++ o ++ Z, 0, 0, []⟩ = some ⟨X ++ n ++ Z, X.length + n.length, (n.length : Int) - o.length, [0]⟩ := by
    show (match applyFrom h ⟨X ++ o ++ Z, 0, 0, []⟩ 0 (0 + 1) with | some q => patchAll 0 [] q | none => none) = _
    unfold applyFrom
    rw [fit_there h X Z o n ho hn hat]
    rfl
  rw [e]
  simp only [h3]
  rfl

/-- A line turned about. -/
def turnB (x : List UInt8) : List UInt8 := match x with
  | 45 :: r => 43 :: r
  | 43 :: r => 45 :: r
  | x => x
theorem turn_sign (c : UInt8) (xs : Lines) : (signL [c] xs).map turnB = signL [if c == 45 then 43 else if c == 43 then 45 else c] xs := by
  unfold signL
  rw [List.map_map]
  apply List.map_congr_left
  intro x _
  show turnB (c :: x) = _ :: x
  unfold turnB
  split
  · rename_i r h; cases h; rfl
  · rename_i r h; cases h; rfl
  · rename_i h1 h2
    have n1 : (c == 45) = false := by rw [beq_eq_false_iff_ne]; rintro rfl; exact h1 x rfl
    have n2 : (c == 43) = false := by rw [beq_eq_false_iff_ne]; rintro rfl; exact h2 x rfl
    rw [n1, n2]; rfl
theorem hlOk_turn (x : List UInt8) (h : hlOk x = true) : hlOk (turnB x) = true := by
  unfold turnB
  split
  · rename_i r; simpa [hlOk, signB] using h
  · rename_i r; simpa [hlOk, signB] using h
  · exact h
theorem hunksOk_single (h : Hk) : hunksOkI [h] = true ↔ (1 ≤ h.1 ∧ h.1 ≤ 999) ∧ 1 ≤ h.2.length ∧ h.2.length ≤ 30 ∧ h.2.all hlOk = true := by
  unfold hunksOkI goI goI
  simp only [Bool.and_eq_true, decide_eq_true_eq, List.length_singleton, and_true]
  constructor
  · rintro ⟨_, ⟨⟨⟨h1, h2⟩, h3⟩, h4⟩, h5⟩
    exact ⟨⟨h1, h2⟩, h3, h4, h5⟩
  · rintro ⟨⟨h1, h2⟩, h3, h4, h5⟩
    exact ⟨by decide, ⟨⟨⟨h1, h2⟩, h3⟩, h4⟩, h5⟩

/-- What makes others of lines makes them. -/
theorem diff_does (a b : Lines) (ha : linesI a = true) (hb : linesI b = true) (hk : hunksOkI [diffHunk a b] = true) : patchR a [diffHunk a b] 0 = (b, [0], true) := by
  obtain ⟨X, S, D, N, S', Z, h1, h2, h3⟩ := diff_parts a b
  have ho : oldL (diffHunk a b).2 = S ++ D ++ S' := by
    rw [h3]
    simp only [oldL_append, oldL_sign]
    simp
  have hn : newL (diffHunk a b).2 = S ++ N ++ S' := by
    rw [h3]
    simp only [newL_append, newL_sign]
    simp
  have := patch_there (diffHunk a b) X Z _ _ ho hn (by rw [h3]) (by rw [← h1]; exact ha) hk (by rw [← h2]; exact hb)
  rw [← h1, ← h2] at this
  exact this
/-- .. and turned about it makes lines of the others. -/
theorem diff_back (a b : Lines) (ha : linesI a = true) (hb : linesI b = true) (hk : hunksOkI [diffHunk a b] = true) : patchR b [((diffHunk a b).1, (diffHunk a b).2.map turnB)] 0 = (a, [0], true) := by
  obtain ⟨X, S, D, N, S', Z, h1, h2, h3⟩ := diff_parts a b
  have ht : (diffHunk a b).2.map turnB = signL [32] S ++ signL [43] D ++ signL [45] N ++ signL [32] S' := by
    rw [h3]
    simp only [List.map_append, turn_sign]
    rfl
  have ho : oldL ((diffHunk a b).2.map turnB) = S ++ N ++ S' := by
    rw [ht]
    simp only [oldL_append, oldL_sign]
    simp
  have hn : newL ((diffHunk a b).2.map turnB) = S ++ D ++ S' := by
    rw [ht]
    simp only [newL_append, newL_sign]
    simp
  have hk2 : hunksOkI [((diffHunk a b).1, (diffHunk a b).2.map turnB)] = true := by
    rw [hunksOk_single] at hk ⊢
    simp only [List.length_map]
    refine ⟨hk.1, hk.2.1, hk.2.2.1, ?_⟩
    rw [List.all_map]
    exact List.all_eq_true.2 (fun x hx => hlOk_turn x (List.all_eq_true.1 hk.2.2.2 x hx))
  have := patch_there ((diffHunk a b).1, (diffHunk a b).2.map turnB) X Z _ _ ho hn (by rw [h3]) (by rw [← h2]; exact hb) hk2 (by rw [← h1]; exact ha)
  rw [← h1, ← h2] at this
  exact this
end Go.Qz

/- Plain laws of patches: where a hunk fits, and what is left of the lines. -/
namespace Go.Qz
open Go.Proofs

theorem places_near {want a : Int} (d : Nat) (hd : d ≤ 8) (h : a = want - d ∨ a = want + d) : a ∈ places want := by
  unfold places
  simp only [List.mem_flatMap, List.mem_range]
  exact ⟨d, by omega, by rcases h with rfl | rfl <;> simp⟩

/-- What is found is no farther than a place that is there. -/
theorem find_near (P : Int → Bool) (want : Int) (n : Nat) (hn : n ≤ 8) (h : P (want + n) = true) :
    ∃ a, (places want).find? P = some a ∧ want - n ≤ a ∧ a ≤ want + n := by
  have hs : places want = (List.range (n + 1)).flatMap (fun (d : Nat) => [want - d, want + d]) ++ (List.range' (n + 1) (8 - n)).flatMap (fun (d : Nat) => [want - d, want + d]) := by
    unfold places
    rw [← List.flatMap_append, List.range_eq_range', List.range_eq_range', show (9 : Nat) = (n + 1) + (8 - n) by omega, ← List.range'_append]
    simp
  have hm : want + n ∈ (List.range (n + 1)).flatMap (fun (d : Nat) => [want - d, want + d]) := by
    simp only [List.mem_flatMap, List.mem_range]
    exact ⟨n, by omega, by simp⟩
  rw [hs, List.find?_append]
  cases hf : ((List.range (n + 1)).flatMap (fun (d : Nat) => [want - d, want + d])).find? P with
  | none => exact absurd h (List.find?_eq_none.1 hf _ hm)
  | some a =>
    have h2 := List.mem_of_find?_eq_some hf
    simp only [List.mem_flatMap, List.mem_range] at h2
    obtain ⟨d, hd, h3⟩ := h2
    refine ⟨a, rfl, ?_⟩
    simp at h3
    omega

theorem ctxN_zero (xs : Lines) : ctxN xs 0 = 0 := by unfold ctxN; rfl
theorem trimL_zero (xs : Lines) : trimL xs 0 = xs := by
  unfold trimL
  rw [ctxN_zero, ctxN_zero]
  simp
theorem plain_newL {xs : Lines} (h : xs.all hlOk = true) : (newL xs).all plainT = true := by
  unfold newL
  rw [List.all_eq_true]
  intro x hx
  obtain ⟨y, hy, rfl⟩ := List.mem_map.1 hx
  have := List.all_eq_true.1 h y (List.mem_filter.1 hy).1
  cases y with
  | nil => cases this
  | cons c r => simp only [hlOk, Bool.and_eq_true] at this; exact this.2

/-- A hunk whose old lines stand a little after its place. -/
theorem patch_near (h : Hk) (X Z o n : Lines) (k : Nat) (hk : k ≤ 8) (ho : oldL h.2 = o) (hn : newL h.2 = n) (hat : h.1 + k = (X.length : Int) + 1) (h1 : linesI (X ++ o ++ Z) = true) (h2 : hunksOkI [h] = true) (h3 : (X ++ n ++ Z).length ≤ 30) :
    ∃ x d, patchR (X ++ o ++ Z) [h] 0 = (x, [d], true) ∧ x.length = (X ++ n ++ Z).length ∧ d ≤ k := by
  have hocc : occB (X ++ o ++ Z) 0 o (h.1 - 1 + k) = true := by
    unfold occB
    rw [show h.1 - 1 + (k : Int) = (X.length : Int) by omega, sameAt_nat (by simp)]
    rw [List.append_assoc, List.drop_left, List.take_left]
    simp
  obtain ⟨a, hf, ha1, ha2⟩ := find_near _ (h.1 - 1) k hk hocc
  have hf' : findP (X ++ o ++ Z) 0 o (h.1 - 1) = some a := hf
  obtain ⟨hs0, hs1, _, _⟩ := findP_some hf'
  have hfit : fitP h 0 ⟨X ++ o ++ Z, 0, 0, []⟩ = some ⟨(X ++ o ++ Z).take a.toNat ++ n ++ (X ++ o ++ Z).drop (a.toNat + o.length), a.toNat + n.length, a - (h.1 - 1) + n.length - o.length, [a - (h.1 - 1)]⟩ := by
    unfold fitP
    rw [trimL_zero, ctxN_zero, ho, hn]
    simp only [Int.add_zero, Int.natCast_zero, hf', Int.zero_add, List.nil_append]
  have hlen : ((X ++ o ++ Z).take a.toNat ++ n ++ (X ++ o ++ Z).drop (a.toNat + o.length)).length = (X ++ n ++ Z).length := by
    simp at hs1 ⊢
    omega
  have hpl : linesI ((X ++ o ++ Z).take a.toNat ++ n ++ (X ++ o ++ Z).drop (a.toNat + o.length)) = true := by
    have hka := ((hunksOk_single h).1 h2).2.2.2
    have hnp := plain_newL hka
    rw [hn] at hnp
    unfold linesI at h1 ⊢
    simp only [Bool.and_eq_true, decide_eq_true_eq] at h1 ⊢
    refine ⟨by omega, ?_⟩
    rw [List.all_append, List.all_append]
    simp only [Bool.and_eq_true]
    refine ⟨⟨?_, hnp⟩, ?_⟩
    · exact List.all_eq_true.2 (fun x hx => List.all_eq_true.1 h1.2 x (List.mem_of_mem_take hx))
    · exact List.all_eq_true.2 (fun x hx => List.all_eq_true.1 h1.2 x (List.mem_of_mem_drop hx))
  refine ⟨_, a - (h.1 - 1), ?_, hlen, by omega⟩
  unfold patchR
  rw [h1, h2]
  have e : patchAll (0 : Int).toNat [h] ⟨X ++ o ++ Z, 0, 0, []⟩ = some ⟨(X ++ o ++ Z).take a.toNat ++ n ++ (X ++ o ++ Z).drop (a.toNat + o.length), a.toNat + n.length, a - (h.1 - 1) + n.length - o.length, [a - (h.1 - 1)]⟩ := by
    show (match applyFrom h ⟨X ++ o ++ Z, 0, 0, []⟩ 0 (0 + 1) with | some q => patchAll 0 [] q | none => none) = _
    unfold applyFrom
    rw [hfit]
    rfl
  rw [e]
  simp only [hpl]
  rfl

/-- Lines that others follow: what makes others of these is done as much later. -/
theorem diff_later (A a b : Lines) (hA : A.length ≤ 8) (hAp : A.all plainT = true) (ha : linesI a = true) (hk : hunksOkI [diffHunk a b] = true) (la : a.length + A.length ≤ 30) (lb : b.length + A.length ≤ 30) :
    ∃ x d, patchR (A ++ a) [diffHunk a b] 0 = (x, [d], true) ∧ x.length = A.length + b.length ∧ d ≤ A.length := by
  obtain ⟨X, S, D, N, S', Z, h1, h2, h3⟩ := diff_parts a b
  have ho : oldL (diffHunk a b).2 = S ++ D ++ S' := by
    rw [h3]
    simp only [oldL_append, oldL_sign]
    simp
  have hn : newL (diffHunk a b).2 = S ++ N ++ S' := by
    rw [h3]
    simp only [newL_append, newL_sign]
    simp
  have e1 : A ++ a = (A ++ X) ++ (S ++ D ++ S') ++ Z := by rw [h1]; simp only [List.append_assoc]
  have e2 : A ++ b = (A ++ X) ++ (S ++ N ++ S') ++ Z := by rw [h2]; simp only [List.append_assoc]
  have hl : linesI (A ++ a) = true := by
    unfold linesI at ha ⊢
    simp only [Bool.and_eq_true, decide_eq_true_eq] at ha ⊢
    refine ⟨by simp; omega, ?_⟩
    rw [List.all_append, hAp, ha.2]; rfl
  have := patch_near (diffHunk a b) (A ++ X) Z _ _ A.length hA ho hn (by rw [h3]; simp; omega) (by rw [← e1]; exact hl) hk (by rw [← e2]; simp; omega)
  rw [← e1, ← e2] at this
  obtain ⟨x, d, g1, g2, g3⟩ := this
  exact ⟨x, d, g1, by simpa using g2, g3⟩
end Go.Qz

/- Plain laws of patches: how many lines they leave, that fuzz is used only if necessary, and that the first hunks can be done. -/
namespace Go.Qz
open Go.Proofs

/-- What a hunk's line adds to the number of lines. -/
def sgL : List UInt8 → Int
  | 43 :: _ => 1
  | 45 :: _ => -1
  | _ => 0
def growL : Lines → Int
  | [] => 0
  | x :: r => sgL x + growL r
def growH : List Hk → Int
  | [] => 0
  | h :: r => growL h.2 + growH r

theorem growL_is (xs : Lines) : growL xs = (newL xs).length - (oldL xs).length := by
  induction xs with
  | nil => rfl
  | cons x r ih =>
    rw [growL, ih]
    unfold newL oldL
    match x with
    | [] => simp [sgL]; omega
    | c :: y =>
      by_cases h1 : c = 43
      · subst h1; simp [sgL]; omega
      · by_cases h2 : c = 45
        · subst h2; simp [sgL]; omega
        · have : sgL (c :: y) = 0 := by
            unfold sgL
            split
            · rename_i h; cases h; exact absurd rfl h1
            · rename_i h; cases h; exact absurd rfl h2
            · rfl
          rw [this]
          have k1 : ((c :: y).head? == some 45) = false := by simpa using h2
          have k2 : ((c :: y).head? == some 43) = false := by simpa using h1
          rw [List.filter_cons, List.filter_cons, k1, k2]
          simp; omega
theorem growL_append (xs ys : Lines) : growL (xs ++ ys) = growL xs + growL ys := by
  induction xs with
  | nil => simp [growL]
  | cons x r ih => rw [List.cons_append, growL, growL, ih]; omega
theorem growL_reverse (xs : Lines) : growL xs.reverse = growL xs := by
  induction xs with
  | nil => rfl
  | cons x r ih => rw [List.reverse_cons, growL_append, ih, growL, growL, growL]; omega
theorem growL_take (xs : Lines) (n : Nat) : growL (xs.take n) + growL (xs.drop n) = growL xs := by
  rw [← growL_append, List.take_append_drop]
theorem grow_ctx (x : List UInt8) (h : isCtx x = true) : sgL x = 0 := by
  match x with
  | [] => rfl
  | c :: y =>
    have : c = 32 := by simpa [isCtx] using h
    subst this; rfl
theorem growL_ctx : ∀ (xs : Lines) (f : Nat), growL (xs.take (ctxN xs f)) = 0
  | _, 0 => by unfold ctxN; rfl
  | [], f + 1 => by rw [ctxN_nil]; rfl
  | x :: r, f + 1 => by
    unfold ctxN
    split
    · rename_i h
      rw [List.take_succ_cons, growL, grow_ctx x h, growL_ctx r f]; rfl
    · rfl
theorem growL_trim (xs : Lines) (f : Nat) : growL (trimL xs f) = growL xs := by
  unfold trimL
  have h1 := growL_take xs (ctxN xs f)
  rw [growL_ctx] at h1
  generalize xs.drop (ctxN xs f) = ys at *
  have h2 := growL_take ys (ys.length - ctxN ys.reverse f)
  have h3 : growL (ys.drop (ys.length - ctxN ys.reverse f)) = 0 := by
    have := growL_ctx ys.reverse f
    rw [List.take_reverse, growL_reverse] at this
    exact this
  omega

theorem fitP_grow {h : Hk} {f : Nat} {p q : Pt} (e : fitP h f p = some q) : (q.lines.length : Int) = p.lines.length + growL h.2 ∧ (∃ d, q.offs = p.offs ++ [d] ∧ -8 ≤ d ∧ d ≤ 8) ∧ q.lines.length ≤ p.lines.length + h.2.length ∧ (linesI p.lines = true → h.2.all hlOk = true → q.lines.all plainT = true) := by
  unfold fitP at e
  split at e
  · cases e
  · rename_i a ha
    obtain ⟨h1, h2, h3, h4⟩ := findP_some ha
    cases e
    have l1 := growL_is (trimL h.2 f)
    rw [growL_trim] at l1
    have l2 := newL_len (trimL h.2 f)
    have l3 := trimL_len h.2 f
    refine ⟨by simp only [List.length_append, List.length_take, List.length_drop]; omega, ⟨_, rfl, by omega, by omega⟩, by simp only [List.length_append, List.length_take, List.length_drop]; omega, fun hp hh => ?_⟩
    unfold linesI at hp
    simp only [Bool.and_eq_true, decide_eq_true_eq] at hp
    have hn : (newL (trimL h.2 f)).all plainT = true := plain_newL (List.all_eq_true.2 (fun x hx => List.all_eq_true.1 hh x (trimL_mem hx)))
    rw [List.all_append, List.all_append, hn]
    simp only [Bool.and_eq_true, and_true]
    exact ⟨List.all_eq_true.2 (fun x hx => List.all_eq_true.1 hp.2 x (List.mem_of_mem_take hx)), List.all_eq_true.2 (fun x hx => List.all_eq_true.1 hp.2 x (List.mem_of_mem_drop hx))⟩
theorem fitP_plain {h : Hk} {f : Nat} {p q : Pt} (e : fitP h f p = some q) (hp : p.lines.all plainT = true) (hh : h.2.all hlOk = true) : q.lines.all plainT = true := by
  unfold fitP at e
  split at e
  · cases e
  · cases e
    have hn : (newL (trimL h.2 f)).all plainT = true := plain_newL (List.all_eq_true.2 (fun x hx => List.all_eq_true.1 hh x (trimL_mem hx)))
    rw [List.all_append, List.all_append, hn]
    simp only [Bool.and_eq_true, and_true]
    exact ⟨List.all_eq_true.2 (fun x hx => List.all_eq_true.1 hp x (List.mem_of_mem_take hx)), List.all_eq_true.2 (fun x hx => List.all_eq_true.1 hp x (List.mem_of_mem_drop hx))⟩
theorem applyFrom_fit {h : Hk} {p q : Pt} : ∀ (n f : Nat), applyFrom h p f n = some q → ∃ g, fitP h g p = some q
  | 0, f, e => by cases e
  | n + 1, f, e => by
    unfold applyFrom at e
    split at e
    · rename_i r hr
      cases e
      exact ⟨f, hr⟩
    · exact applyFrom_fit n (f + 1) e
theorem applyP_zero {h : Hk} {p q : Pt} {m : Nat} (e : applyP h 0 p = some q) : applyP h m p = some q := by
  unfold applyP applyFrom at e ⊢
  split at e
  · rename_i r hr
    exact e
  · unfold applyFrom at e; cases e
theorem patchAll_zero {m : Nat} : ∀ {hs : List Hk} {p q : Pt}, patchAll 0 hs p = some q → patchAll m hs p = some q
  | [], p, q, e => e
  | h :: r, p, q, e => by
    unfold patchAll at e ⊢
    split at e
    · rename_i s hs
      rw [applyP_zero hs]
      exact patchAll_zero e
    · cases e

theorem patchAll_grow {m : Nat} : ∀ {hs : List Hk} {p q : Pt}, patchAll m hs p = some q → (q.lines.length : Int) = p.lines.length + growH hs ∧ ∃ ds : List Int, q.offs = p.offs ++ ds ∧ ds.length = hs.length ∧ ∀ d ∈ ds, -8 ≤ d ∧ d ≤ 8
  | [], p, q, e => by cases e; exact ⟨by simp [growH], [], by simp, rfl, by simp⟩
  | h :: r, p, q, e => by
    unfold patchAll at e
    split at e
    · rename_i s hs
      obtain ⟨g, hg⟩ := applyFrom_fit _ _ hs
      obtain ⟨e1, ⟨d, e2, e3, e4⟩, _⟩ := fitP_grow hg
      obtain ⟨f1, ds, f2, f3, f4⟩ := patchAll_grow e
      refine ⟨by rw [growH]; omega, d :: ds, by rw [f2, e2]; simp, by simp [f3], fun x hx => ?_⟩
      rcases List.mem_cons.1 hx with rfl | hx
      · exact ⟨e3, e4⟩
      · exact f4 x hx
    · cases e
theorem sumH (hs : List Hk) : ∃ n : Nat, n = (hs.map (fun h => h.2.length)).sum := ⟨_, rfl⟩
/-- The first hunks can be done as all were. -/
theorem patchAll_less {m : Nat} : ∀ {hs : List Hk} {p q : Pt} (n : Nat), n ≤ hs.length → patchAll m hs p = some q → p.lines.all plainT = true → (∀ h ∈ hs, h.2.all hlOk = true) →
    ∃ q', patchAll m (hs.take n) p = some q' ∧ q'.offs = q.offs.take (p.offs.length + n) ∧ q'.lines.all plainT = true ∧ q'.lines.length ≤ p.lines.length + ((hs.take n).map (fun h => h.2.length)).sum
  | hs, p, q, 0, _, e, hp, _ => by
    obtain ⟨_, ds, f2, _⟩ := patchAll_grow e
    exact ⟨p, rfl, by rw [f2]; simp, hp, by simp⟩
  | [], p, q, n + 1, hn, e, hp, _ => by simp at hn
  | h :: r, p, q, n + 1, hn, e, hp, hh => by
    unfold patchAll at e
    split at e
    · rename_i s hs
      obtain ⟨g, hg⟩ := applyFrom_fit _ _ hs
      have e1 := fitP_plain hg hp (hh h List.mem_cons_self)
      obtain ⟨_, ⟨d, e2, _⟩, e3, _⟩ := fitP_grow hg
      obtain ⟨q', f1, f2, f3, f4⟩ := patchAll_less n (by simpa using hn) e e1 (fun x hx => hh x (List.mem_cons_of_mem _ hx))
      refine ⟨q', ?_, ?_, f3, ?_⟩
      · rw [List.take_succ_cons, patchAll, hs]
        exact f1
      · rw [f2, e2, List.length_append, List.length_singleton]
        congr 1; omega
      · rw [List.take_succ_cons, List.map_cons, List.sum_cons]; omega
    · cases e

theorem patchR_cases (l : Lines) (hs : List Hk) (f : Int) : patchR l hs f = ([], [], false) ∨ patchR l hs f = (l, [], false) ∨
    ∃ p, patchR l hs f = (p.lines, p.offs, true) ∧ 0 ≤ f ∧ f ≤ 2 ∧ linesI l = true ∧ hunksOkI hs = true ∧ patchAll f.toNat hs ⟨l, 0, 0, []⟩ = some p ∧ linesI p.lines = true := by
  unfold patchR
  split
  · exact .inl rfl
  · rename_i hc
    have c1 : linesI l = true := by
      cases c : linesI l with
      | true => rfl
      | false => rw [c] at hc; simp at hc
    have c2 : hunksOkI hs = true := by
      cases c : hunksOkI hs with
      | true => rfl
      | false => rw [c] at hc; simp at hc
    rw [c1, c2] at hc
    simp at hc
    split
    · exact .inr (.inl rfl)
    · rename_i p hp
      split
      · rename_i c3
        exact .inr (.inr ⟨p, rfl, hc.1, hc.2, c1, c2, hp, c3⟩)
      · exact .inr (.inl rfl)
theorem patchR_done {l : Lines} {hs : List Hk} {f : Int} {p : Pt} (f0 : 0 ≤ f) (f2 : f ≤ 2) (h1 : linesI l = true) (h2 : hunksOkI hs = true) (h3 : patchAll f.toNat hs ⟨l, 0, 0, []⟩ = some p) (h4 : linesI p.lines = true) : patchR l hs f = (p.lines, p.offs, true) := by
  unfold patchR
  rw [h1, h2, h3]
  simp only [h4]
  rw [if_neg (by simp; omega)]
  rfl

/-- Hunks that are done leave as many lines as they tell; no one is done far off. -/
theorem patch_counts {l x : Lines} {hs : List Hk} {f : Int} {far : List Int} (e : patchR l hs f = (x, far, true)) : (x.length : Int) = l.length + growH hs ∧ far.length = hs.length ∧ (∀ d ∈ far, -8 ≤ d ∧ d ≤ 8) ∧ x.length ≤ 30 ∧ l.length ≤ 30 ∧ hunksOkI hs = true := by
  rcases patchR_cases l hs f with h | h | ⟨p, h, _, _, c1, c2, hp, c3⟩
  · rw [h] at e; cases e
  · rw [h] at e; cases e
  · rw [h] at e
    cases e
    obtain ⟨g1, ds, g2, g3, g4⟩ := patchAll_grow hp
    simp only [List.nil_append] at g2
    unfold linesI at c1 c3
    simp only [Bool.and_eq_true, decide_eq_true_eq] at c1 c3
    exact ⟨g1, by rw [g2, g3], by rw [g2]; exact g4, c3.1, c1.1, c2⟩
/-- What can be done without a fuzz is done so with one. -/
theorem patch_fuzz {l x : Lines} {hs : List Hk} {far : List Int} (e : patchR l hs 0 = (x, far, true)) (f : Int) (f0 : 0 ≤ f) (f2 : f ≤ 2) : patchR l hs f = (x, far, true) := by
  rcases patchR_cases l hs 0 with h | h | ⟨p, h, _, _, c1, c2, hp, c3⟩
  · rw [h] at e; cases e
  · rw [h] at e; cases e
  · rw [h] at e
    cases e
    exact patchR_done f0 f2 c1 c2 (patchAll_zero hp) c3
/-- Done again: as many lines more, or nothing. -/
theorem patch_twice {l x : Lines} {hs : List Hk} {f : Int} {far : List Int} (e : patchR l hs f = (x, far, true)) :
    (∃ g, patchR x hs f = (x, g, false)) ∨ ∃ y g, patchR x hs f = (y, g, true) ∧ (y.length : Int) - x.length = x.length - l.length ∧ y.length ≤ 30 := by
  have hx : ∃ p : Pt, x = p.lines ∧ 0 ≤ f ∧ f ≤ 2 ∧ hunksOkI hs = true ∧ linesI x = true := by
    rcases patchR_cases l hs f with h | h | ⟨p, h, q1, q2, c1, c2, hp, c3⟩
    · rw [h] at e; cases e
    · rw [h] at e; cases e
    · rw [h] at e
      cases e
      exact ⟨p, rfl, q1, q2, c2, c3⟩
  obtain ⟨_, _, f0, f2, c2, c3⟩ := hx
  cases hr : patchAll f.toNat hs ⟨x, 0, 0, []⟩ with
  | none =>
    left
    refine ⟨[], ?_⟩
    unfold patchR
    rw [c3, c2, hr]
    simp only
    rw [if_neg (by simp; omega)]
  | some p =>
    cases c4 : linesI p.lines with
    | false =>
      left
      refine ⟨[], ?_⟩
      unfold patchR
      rw [c3, c2, hr]
      simp only [c4]
      rw [if_neg (by simp; omega)]
      rfl
    | true =>
      right
      have e2 := patchR_done f0 f2 c3 c2 hr c4
      have g1 := patch_counts e
      have g2 := patch_counts e2
      exact ⟨_, _, e2, by omega, g2.2.2.2.1⟩
/-- The first hunks of some that are ok are ok. -/
theorem goI_take : ∀ {hs : List Hk} {l : Int} (n : Nat), goI l hs = true → goI l (hs.take n) = true
  | [], l, n, h => by simp [goI]
  | h :: r, l, 0, _ => by simp [goI]
  | h :: r, l, n + 1, e => by
    rw [List.take_succ_cons]
    unfold goI at e ⊢
    simp only [Bool.and_eq_true] at e ⊢
    exact ⟨e.1, goI_take n e.2⟩
theorem hunksOkI_take {hs : List Hk} (n : Nat) (h : hunksOkI hs = true) : hunksOkI (hs.take n) = true := by
  unfold hunksOkI at h ⊢
  simp only [Bool.and_eq_true, decide_eq_true_eq] at h ⊢
  exact ⟨by rw [List.length_take]; omega, goI_take n h.2⟩
theorem goI_all : ∀ {hs : List Hk} {l : Int}, goI l hs = true → ∀ h ∈ hs, h.2.all hlOk = true
  | [], _, _, h, hh => by cases hh
  | a :: r, l, hg, h, hh => by
    unfold goI at hg
    simp only [Bool.and_eq_true, decide_eq_true_eq] at hg
    rcases List.mem_cons.1 hh with rfl | hh
    · exact hg.1.2
    · exact goI_all hg.2 h hh
theorem patch_less {l x : Lines} {hs : List Hk} {f : Int} {far : List Int} (n : Nat) (hn : n ≤ hs.length) (e : patchR l hs f = (x, far, true)) (hm : l.length + ((hs.take n).map (fun h => h.2.length)).sum ≤ 30) :
    ∃ y, patchR l (hs.take n) f = (y, far.take n, true) := by
  rcases patchR_cases l hs f with h | h | ⟨p, h, f0, f2, c1, c2, hp, c3⟩
  · rw [h] at e; cases e
  · rw [h] at e; cases e
  · rw [h] at e
    cases e
    have c1' := c1
    unfold linesI at c1'
    simp only [Bool.and_eq_true, decide_eq_true_eq] at c1'
    have hall : ∀ h ∈ hs, h.2.all hlOk = true := by
      unfold hunksOkI at c2
      simp only [Bool.and_eq_true] at c2
      exact goI_all c2.2
    obtain ⟨q, g1, g2, g3, g4⟩ := patchAll_less n hn hp c1'.2 hall
    simp only [List.length_nil, Nat.zero_add] at g2
    refine ⟨q.lines, ?_⟩
    rw [← g2]
    refine patchR_done f0 f2 c1 (hunksOkI_take n c2) g1 ?_
    unfold linesI
    simp only [Bool.and_eq_true, decide_eq_true_eq]
    exact ⟨by simp only at g4; omega, g3⟩
end Go.Qz

/- What the functions come to: lines and hunks compared; lines and others that the reference draws. -/
namespace Go.Qz
open Go.Proofs

theorem jsTexts_self (xs : Lines) (hn : xs.length ≤ 1048576) : C fn_w_jsTexts [.ro (SS xs), .ro (SS xs)] [] = some (.one (.ro (.bool true)), []) := by
  refine ctx_call Try.func15 conv_w_jsTexts rfl ?_
  simp
  refine loop_run (fun m e => ∃ i, m = xs.length - i ∧ i ≤ xs.length ∧ e.size = 26 ∧ e.get 0 = .one (.ro (SS xs)) ∧ e.get 1 = .one (.ro (SS xs)) ∧ e.get 5 = .one (.ro (N i)))
    ?_ xs.length _ ⟨0, rfl, Nat.zero_le _, by simp, by simp, by simp, by simp⟩
  rintro m e ⟨i, rfl, hi, hsz, h0, h1, h5⟩ ih
  rcases Nat.lt_or_ge i xs.length with hlt | hge
  · have hwi : IntKind.i64.wrap ((i : Int) + 1) = ((i + 1 : Nat) : Int) := wrap64_succ (by omega)
    simp [hsz, h0, h1, h5, hlt, hwi]
    exact ih _ _ (by omega) ⟨i + 1, rfl, by omega, by simp [hsz], by simp [h0], by simp [h1], by simp⟩
  · obtain rfl : i = xs.length := by omega
    simp [hsz, h0, h5]

theorem jsHunks_self (hs : List Hk) (hn : hs.length ≤ 1048576) (hl : ∀ h ∈ hs, h.2.length ≤ 1048576) : C fn_w_jsHunks [.ro (HS hs), .ro (HS hs)] [] = some (.one (.ro (.bool true)), []) := by
  refine ctx_call Try.func11 conv_w_jsHunks rfl ?_
  simp
  refine loop_run (fun m e => ∃ i, m = hs.length - i ∧ i ≤ hs.length ∧ e.size = 42 ∧ e.get 0 = .one (.ro (HS hs)) ∧ e.get 1 = .one (.ro (HS hs)) ∧ e.get 5 = .one (.ro (N i)))
    ?_ hs.length _ ⟨0, rfl, Nat.zero_le _, by simp, by simp, by simp, by simp⟩
  rintro m e ⟨i, rfl, hi, hsz, h0, h1, h5⟩ ih
  rcases Nat.lt_or_ge i hs.length with hlt | hge
  · have hwi : IntKind.i64.wrap ((i : Int) + 1) = ((i + 1 : Nat) : Int) := wrap64_succ (by omega)
    have hev := jsTexts_self hs[i].2 (hl _ (List.getElem_mem hlt))
    simp [hsz, h0, h1, h5, hlt, hwi, hev]
    exact ih _ _ (by omega) ⟨i + 1, rfl, by omega, by simp [hsz], by simp [h0], by simp [h1], by simp⟩
  · obtain rfl : i = hs.length := by omega
    simp [hsz, h0, h5]

def TwoOut (r : V × Boxes) : Prop := ∃ a b x, Short a 40 ∧ Short b 50 ∧ (x = .own (SS a) ∨ x = .ro (SS a)) ∧ r = (.tup [x, .own (SS b)], [])

theorem drawDiff_ev (bs : List Int) (hb : ∀ b ∈ bs, 0 ≤ b ∧ b ≤ 255) : Ends TwoOut (C fn_s_DrawDiffOf [.ro (BS bs)] []) := by
  refine call_ex Try.func9 conv_s_DrawDiffOf rfl ?_
  have hs : Seed (bs.take 2000) := ⟨fun b h => hb b (List.mem_of_mem_take h), by simp; omega⟩
  have ho := open_ev (bs.map (D.int .u8))
  rw [← List.map_take] at ho
  generalize bs.take 2000 = ts at *
  obtain ⟨r1, ⟨a, j, hsa, hj, rfl⟩, hl⟩ := lines_ev ts hs 0 (by omega)
  have hl : C fn_s_l11Lines [.ptr 5000 0] [(5000, [.ro (BS ts), .ro (.int .i64 0)])] = some (.one (.own (SS a)), [(5000, RB ts j)]) := hl
  obtain ⟨k, j1, hk, hj1, hp⟩ := draw_pick hs (i := j) (by omega) 14 14 rfl (by omega) (by omega)
  have hal := hsa.len
  by_cases k0 : k = 0
  · subst k0
    obtain ⟨r2, ⟨b, j2, hsb, hj2, rfl⟩, hl2⟩ := lines_ev ts hs j1 (by omega)
    have hbl := hsb.len
    have ha : b.length + 1 ≤ appendMax := by simp [appendMax]; omega
    simp [ho, hl, hp, hl2, ha]
    refine .of ⟨a, b ++ [[1]], .own (SS a), ⟨by omega, hsa.each⟩, ⟨by simp; omega, fun x hx => ?_⟩, .inl rfl, by simp⟩
    rcases List.mem_append.1 hx with h | h
    · exact hsb.each x h
    · simp at h; subst h; simp
  have near : ∀ (a : Lines) (j1 n : Nat), j1 ≤ 500 → n ≤ 40 → Short a n → ∃ b j2, Short b 50 ∧ C fn_s_l11Near [.ptr 5000 0, .ro (SS a)] [(5000, RB ts j1)] = some (.one (.own (SS b)), [(5000, RB ts j2)]) := fun a j1 n h1 h2 h3 => by
    obtain ⟨r2, ⟨b, j2, hsb, hj2, rfl⟩, hl2⟩ := near_ev ts hs j1 (by omega) a n h3 (by omega)
    exact ⟨b, j2, ⟨by have := hsb.len; omega, hsb.each⟩, hl2⟩
  by_cases k1 : k = 1
  · subst k1
    simp [ho, hl, hp]
    refine loop_ex (fun m e => ∃ (xs : Lines) (j : Nat), m = 40 - xs.length ∧ Short xs 31 ∧ j ≤ 11 + xs.length ∧ e.size = 34 ∧ e.get 4 = .one (.ptr 7 0) ∧ e.get 5 = .one (.own (SS xs)) ∧ e.box 7 = some (RB ts j))
      ?_ (40 - a.length) _ ⟨a, j1, rfl, ⟨by omega, hsa.each⟩, by omega, by simp, by simp, by simp, by simp⟩
    rintro m e ⟨xs, j, rfl, hsx, hj, hsz, h4, h5, hb4⟩ ih
    have hxl := hsx.len
    obtain ⟨r, j2, hr, hj2, hp2⟩ := draw_pick hs (i := j) (by omega) 2 2 rfl (by omega) (by omega)
    have hw : IntKind.i64.wrap (30 + (r : Int)) = ((30 + r : Nat) : Int) := by rw [wrap64 (by omega) (by omega)]; omega
    obtain ⟨q, hq⟩ : ∃ q, 30 + r = q := ⟨_, rfl⟩
    rw [hq] at hw
    by_cases hlt : xs.length < q
    · have ha : xs.length + 1 ≤ appendMax := by simp [appendMax]; omega
      simp [hsz, h4, h5, hb4, hp2, hw, hlt, ha]
      exact ih (40 - (xs.length + 1)) _ (by omega) ⟨xs ++ [[109]], j2, by simp, ⟨by simp; omega, fun x hx => by
        rcases List.mem_append.1 hx with h | h
        · exact hsx.each x h
        · simp at h; subst h; simp⟩, by simp; omega, by simp [hsz], by simp [h4], by simp, by simp⟩
    · obtain ⟨b, j3, hsb, hl2⟩ := near xs j2 31 (by omega) (by omega) hsx
      simp [hsz, h4, h5, hb4, hp2, hw, hlt, hl2]
      exact .of ⟨xs, b, .ro (SS xs), ⟨by omega, hsx.each⟩, hsb, .inr rfl, rfl⟩
  · have k2 : (k == 0) = false := by simp [k0]
    have k3 : (k == 1) = false := by simp [k1]
    obtain ⟨b, j3, hsb, hl2⟩ := near a j1 8 (by omega) (by omega) hsa
    simp [ho, hl, hp, k2, k3, hl2]
    exact .of ⟨a, b, .ro (SS a), ⟨by omega, hsa.each⟩, hsb, .inr rfl, rfl⟩
end Go.Qz

/- The law that differences can be reversed, by the evaluator. -/
namespace Go.Qz
open Go.Proofs

theorem wf_byte {b : Int} (h : (Lit.int .u8 b).wf = true) : 0 ≤ b ∧ b ≤ 255 := by
  simp [Lit.wf, IntKind.min, IntKind.max, IntKind.bits, IntKind.signed] at h
  omega

theorem diffI_cases (a b : Lines) : diffI a b = [] ∨ (diffI a b = [diffHunk a b] ∧ linesI a = true ∧ linesI b = true ∧ hunksOkI [diffHunk a b] = true) := by
  unfold diffI
  split
  · exact .inl rfl
  · rename_i hc
    split
    · rename_i hk
      refine .inr ⟨rfl, ?_, ?_, hk⟩
      · cases c : linesI a with
        | true => rfl
        | false => rw [c] at hc; simp at hc
      · cases c : linesI b with
        | true => rfl
        | false => rw [c] at hc; simp at hc
    · exact .inl rfl

end Go.Qz

/- What the functions come to: hunks that the reference draws. -/
namespace Go.Qz
open Go.Proofs

theorem draw_one {bs : List Int} (hb : Seed bs) {i : Nat} (hi : i ≤ 100000) (xs : List Int) (h0 : 0 < xs.length) (hn : xs.length ≤ 100000) :
    ∃ x j, x ∈ xs ∧ j ≤ i + 1 ∧ C fn_s_l1Rd_one [.ptr 5000 0, .ro (.sl 1 (xs.map I))] [(5000, RB bs i)] = some (.one (.ro (I x)), [(5000, RB bs j)]) := by
  obtain ⟨r, hr, hp⟩ := pick_ev bs hb.byte hb.len i hi xs.length h0 hn
  refine ⟨xs[r], i + 1, List.getElem_mem hr, Nat.le_refl _, ctx_call Try.func45 conv_s_l1Rd_one rfl ?_⟩
  simp [hp, hr]

/-- Few and short hunks. -/
structure HkShort (hs : List Hk) (n : Nat) : Prop where
  len : hs.length ≤ n
  lines : ∀ h ∈ hs, h.2.length ≤ 100
  each : ∀ h ∈ hs, ∀ x ∈ h.2, x.length ≤ 1000
theorem hkShort_nil : HkShort [] 0 := ⟨by simp, by simp, by simp⟩
theorem HkShort.mono {hs : List Hk} {n m : Nat} (h : HkShort hs n) (hm : n ≤ m) : HkShort hs m := ⟨Nat.le_trans h.len hm, h.lines, h.each⟩
theorem HkShort.append {hs gs : List Hk} {n m : Nat} (h : HkShort hs n) (g : HkShort gs m) : HkShort (hs ++ gs) (n + m) :=
  ⟨by rw [List.length_append]; exact Nat.add_le_add h.len g.len, fun x hx => (List.mem_append.1 hx).elim (h.lines x) (g.lines x), fun x hx => (List.mem_append.1 hx).elim (h.each x) (g.each x)⟩
theorem hkShort_one {a : Int} {ls : Lines} (hl : ls.length ≤ 100) (he : ∀ x ∈ ls, x.length ≤ 1000) : HkShort [(a, ls)] 1 :=
  ⟨by simp, fun h hh => by simp at hh; subst hh; exact hl, fun h hh => by simp at hh; subst hh; exact he⟩
theorem hlOk_len {x : List UInt8} (h : hlOk x = true) : x.length ≤ 1000 := by
  cases x with
  | nil => cases h
  | cons c r => simp only [hlOk, Bool.and_eq_true, plainT, decide_eq_true_eq] at h; have := h.2.1; simp; omega
theorem diffI_short (a b : Lines) : HkShort (diffI a b) 1 := by
  rcases diffI_cases a b with h | ⟨h, _, _, hk⟩
  · rw [h]; exact hkShort_nil.mono (by omega)
  · rw [h]
    have := (hunksOk_single _).1 hk
    exact ⟨by simp, fun h hh => by simp at hh; subst hh; omega, fun h hh x hx => by simp at hh; subst hh; exact hlOk_len (List.all_eq_true.1 this.2.2.2 x hx)⟩

def HunksOut (bs : List Int) (n i : Nat) (r : V × Boxes) : Prop := ∃ hs j, HkShort hs n ∧ j ≤ i ∧ r = (.one (.own (HS hs)), [(5000, RB bs j)])

theorem hunks_ev (bs : List Int) (hb : Seed bs) (i : Nat) (hi : i ≤ 500) : Ends (HunksOut bs 2 (i + 40)) (C fn_s_l11Hunks [.ptr 5000 0] [(5000, RB bs i)]) := by
  refine call_ex Try.func44 conv_s_l11Hunks rfl ?_
  obtain ⟨r1, ⟨a, j, hsa, hj, rfl⟩, hl⟩ := lines_ev bs hb i (by omega)
  have hal := hsa.len
  obtain ⟨r2, ⟨b, j2, hsb, hj2, rfl⟩, hl2⟩ := near_ev bs hb j (by omega) a 8 hsa (by omega)
  have hbl := hsb.len
  have hS := diffOfS_ev a b (by omega) (by omega) (fun x h => by have := hsa.each x h; omega) (fun x h => by have := hsb.each x h; omega)
  rw [← diff_eq] at hS
  have hd := diffI_short a b
  generalize diffI a b = hs at *
  have hdl := hd.len
  obtain ⟨k, j3, hk, hj3, hp⟩ := draw_pick hb (i := j2) (by omega) 2 2 rfl (by omega) (by omega)
  by_cases k0 : k = 0
  · subst k0
    obtain ⟨q, j4, hq, hj4, hp2⟩ := draw_pick hb (i := j3) (by omega) 9 9 rfl (by omega) (by omega)
    obtain ⟨m, j5, hm, hj5, hp3⟩ := draw_pick hb (i := j4) (by omega) 4 4 rfl (by omega) (by omega)
    have w1 : IntKind.i64.wrap (1 + (q : Int)) = ((1 + q : Nat) : Int) := by rw [wrap64 (by omega) (by omega)]; omega
    have w2 : IntKind.i64.wrap (1 + (m : Int)) = ((1 + m : Nat) : Int) := by rw [wrap64 (by omega) (by omega)]; omega
    simp [hl, hl2, hS, hp, hp2, hp3, w1, w2]
    refine loop_ex (fun m e => ∃ (ls : Lines) (j : Nat), Short ls (4 - m) ∧ m ≤ 4 ∧ j + 2 * m ≤ i + 35 ∧ e.size = 45 ∧ e.get 0 = .one (.ptr 5000 0) ∧ e.get 4 = .one (.own (HS hs)) ∧ e.get 5 = .one (.ptr 5 0) ∧ e.get 6 = .one (.ro (N m)) ∧ e.box 5 = some [.ro (N (1 + q)), .own (SS ls)] ∧ e.box 5000 = some (RB bs j))
      ?_ (1 + m) _ ⟨[], j5, ⟨by simp, by simp⟩, by omega, by omega, by simp, by simp, by simp, by simp, by simp, by simp, by simp⟩
    rintro m e ⟨ls, j, hsl, hm4, hj, hsz, h0, h4, h5, h6, b5, b50⟩ ih
    have hll := hsl.len
    by_cases hm : m = 0
    · subst hm
      have a1 : hs.length + 1 ≤ appendMax := by simp [appendMax]; omega
      simp [hsz, h4, h5, h6, b5, b50, a1]
      exact .of ⟨hs ++ [(((1 + q : Nat) : Int), ls)], j, (hd.append (hkShort_one (by omega) hsl.each)), by omega, by simp⟩
    · have hm0 : 0 < m := by omega
      have hwm : IntKind.i64.wrap ((m : Int) - 1) = ((m - 1 : Nat) : Int) := by rw [wrap64 (by omega) (by omega)]; omega
      obtain ⟨x, j1, hx, hj1, ho⟩ := draw_of hb (i := j) (by omega) [[32], [45], [43]] (by simp) (by simp)
      obtain ⟨y, j2, hy, hj2, ho2⟩ := draw_of hb (i := j1) (by omega) [[97], [98], [115, 97, 109, 101], []] (by simp) (by simp)
      simp only [List.map_cons, List.map_nil] at ho ho2
      have hxl : x.length ≤ 10 := by simp at hx; rcases hx with rfl | rfl | rfl <;> simp
      have hyl : y.length ≤ 10 := by simp at hy; rcases hy with rfl | rfl | rfl | rfl <;> simp
      have hxy : x.length + y.length ≤ maxStr := by simp [maxStr]; omega
      have a1 : ls.length + 1 ≤ appendMax := by simp [appendMax]; omega
      simp [hsz, h0, h5, h6, b5, b50, hm0, ho, ho2, hxy, a1, hwm]
      exact ih (m - 1) _ (by omega) ⟨ls ++ [x ++ y], j2, ⟨by simp; omega, fun z hz => by
        rcases List.mem_append.1 hz with h | h
        · exact hsl.each z h
        · simp at h; subst h; simp; omega⟩, by omega, by omega, by simp [hsz], by simp [h0], by simp [h4], by simp [h5], by simp, by simp, by simp⟩
  · simp [hl, hl2, hS, hp, k0]
    exact .of ⟨hs, j3, hd.mono (by omega), by omega, rfl⟩
end Go.Qz

/- What the functions come to: a patch that the reference draws. -/
namespace Go.Qz
open Go.Proofs

def AnyOut (bs : List Int) (n i : Nat) (r : V × Boxes) : Prop := ∃ hs j x, HkShort hs n ∧ j ≤ i ∧ (x = .own (HS hs) ∨ x = .ro (HS hs)) ∧ r = (.one x, [(5000, RB bs j)])
theorem anyHunks_ev (bs : List Int) (hb : Seed bs) (i : Nat) (hi : i ≤ 400) : Ends (AnyOut bs 4 (i + 50)) (C fn_s_l11AnyHunks [.ptr 5000 0] [(5000, RB bs i)]) := by
  refine call_ex Try.func34 conv_s_l11AnyHunks rfl ?_
  obtain ⟨r1, ⟨hs, j, hsh, hj, rfl⟩, hl⟩ := hunks_ev bs hb i (by omega)
  have hlen := hsh.len
  have a0 : hs.length ≤ appendMax := by simp [appendMax]; omega
  obtain ⟨k, j3, hk, hj3, hp⟩ := draw_pick hb (i := j) (by omega) 12 12 rfl (by omega) (by omega)
  by_cases k0 : k = 0
  · subst k0
    obtain ⟨q, j4, hq, hj4, ho⟩ := draw_one hb (i := j3) (by omega) [0, 1, 1000, 30] (by simp) (by simp)
    obtain ⟨x, j5, hx, hj5, ho2⟩ := draw_of hb (i := j4) (by omega) [[], [120], [32, 10], [43, 111, 107]] (by simp) (by simp)
    simp only [List.map_cons, List.map_nil, I] at ho
    simp only [List.map_cons, List.map_nil] at ho2
    have hxl : x.length ≤ 1000 := by simp at hx; rcases hx with rfl | rfl | rfl | rfl <;> simp
    have a1 : hs.length + 1 ≤ appendMax := by simp [appendMax]; omega
    cases hfl : flats (List.map HD hs) <;> simp [hl, hp, ho, ho2, a0, a1, hfl]
    all_goals exact .of ⟨hs ++ [(q, [x])], j5, .own (HS (hs ++ [(q, [x])])), (hsh.append (hkShort_one (by simp) (by simp; exact hxl))).mono (by omega), by omega, .inl rfl, by simp⟩
  by_cases k1 : k = 1
  · subst k1
    have a1 : hs.length + hs.length ≤ appendMax := by simp [appendMax]; omega
    cases hfl : flats (List.map HD hs) with
    | true =>
      simp [hl, hp, a0, a1, hfl]
      exact .of ⟨hs ++ hs, j3, .own (HS (hs ++ hs)), (hsh.append hsh).mono (by omega), by omega, .inl rfl, by simp⟩
    | false =>
      have hne : hs ≠ [] := fun h => by subst h; cases hfl
      simp [hl, hp, a0, a1, hfl, hne]
      exact .of ⟨hs ++ hs, j3, .ro (HS (hs ++ hs)), (hsh.append hsh).mono (by omega), by omega, .inr rfl, by simp⟩
  · have k2 : (k == 0) = false := by simp [k0]
    have k3 : (k == 1) = false := by simp [k1]
    cases hfl : flats (List.map HD hs) <;> simp [hl, hp, a0, k2, k3, hfl]
    all_goals exact .of ⟨hs, j3, .own (HS hs), hsh.mono (by omega), by omega, .inl rfl, by simp⟩

def PatchOut (r : V × Boxes) : Prop := ∃ l hs fz x y, Short l 50 ∧ HkShort hs 4 ∧ -1 ≤ fz ∧ fz ≤ 3 ∧ (x = .own (SS l) ∨ x = .ro (SS l)) ∧ (y = .own (HS hs) ∨ y = .ro (HS hs)) ∧ r = (.tup [x, y, .ro (I fz)], [])

theorem drawPatch_ev (bs : List Int) (hb : ∀ b ∈ bs, 0 ≤ b ∧ b ≤ 255) : Ends PatchOut (C fn_s_DrawPatch [.ro (BS bs)] []) := by
  refine call_ex Try.func17 conv_s_DrawPatch rfl ?_
  have hs : Seed (bs.take 2000) := ⟨fun b h => hb b (List.mem_of_mem_take h), by simp; omega⟩
  have ho := open_ev (bs.map (D.int .u8))
  rw [← List.map_take] at ho
  generalize bs.take 2000 = ts at *
  obtain ⟨r1, ⟨a, j, hsa, hj, rfl⟩, hl⟩ := lines_ev ts hs 0 (by omega)
  have hal := hsa.len
  obtain ⟨r2, ⟨b, j2, hsb, hj2, rfl⟩, hl2⟩ := near_ev ts hs j (by omega) a 8 hsa (by omega)
  have hbl := hsb.len
  have hS := diffOfS_ev a b (by omega) (by omega) (fun x h => by have := hsa.each x h; omega) (fun x h => by have := hsb.each x h; omega)
  rw [← diff_eq] at hS
  have hd := (diffI_short a b).mono (show 1 ≤ 4 by omega)
  generalize diffI a b = gs at *
  have hl : C fn_s_l11Lines [.ptr 5000 0] [(5000, [.ro (BS ts), .ro (.int .i64 0)])] = some (.one (.own (SS a)), [(5000, RB ts j)]) := hl
  obtain ⟨k, j3, hk, hj3, hp⟩ := draw_pick hs (i := j2) (by omega) 4 4 rfl (by omega) (by omega)
  /- The rest: the lines may be turned; a fuzz. -/
  have rest : ∀ (j : Nat), j ≤ 100 → ∃ k j1, k < 2 ∧ j1 ≤ j + 1 ∧ C fn_s_l1Rd_pick [.ptr 5000 0, .ro (.int .i64 2)] [(5000, RB ts j)] = some (.one (.ro (N k)), [(5000, RB ts j1)]) ∧
      (∃ b j2, Short b 50 ∧ j2 ≤ j1 + 7 ∧ C fn_s_l11Near [.ptr 5000 0, .ro (SS a)] [(5000, RB ts j1)] = some (.one (.own (SS b)), [(5000, RB ts j2)])) := fun j h => by
    obtain ⟨k, j1, hk, hj1, hp⟩ := draw_pick hs (i := j) (by omega) 2 2 rfl (by omega) (by omega)
    obtain ⟨r2, ⟨b, j2, hsb, hj2, rfl⟩, hl2⟩ := near_ev ts hs j1 (by omega) a 8 hsa (by omega)
    exact ⟨k, j1, hk, hj1, hp, b, j2, ⟨by have := hsb.len; omega, hsb.each⟩, hj2, hl2⟩
  have fz : ∀ (j : Nat), j ≤ 200 → ∃ (k j1 : Nat), k < 5 ∧ C fn_s_l1Rd_pick [.ptr 5000 0, .ro (.int .i64 5)] [(5000, RB ts j)] = some (.one (.ro (N k)), [(5000, RB ts j1)]) ∧ IntKind.i64.wrap ((k : Int) - 1) = (k : Int) - 1 := fun j h => by
    obtain ⟨k, j1, hk, hj1, hp⟩ := draw_pick hs (i := j) (by omega) 5 5 rfl (by omega) (by omega)
    exact ⟨k, j1, hk, hp, wrap64 (by omega) (by omega)⟩
  by_cases k0 : k = 0
  · subst k0
    obtain ⟨r3, ⟨gs2, j4, y, hg2, hj4, hy, rfl⟩, hl3⟩ := anyHunks_ev ts hs j3 (by omega)
    obtain ⟨q, j5, hq, hj5, hp2, b2, j6, hsb2, hj6, hl4⟩ := rest j4 (by omega)
    by_cases q0 : q = 0
    · subst q0
      obtain ⟨f, j7, hf, hp3, hw⟩ := fz j6 (by omega)
      rcases hy with rfl | rfl
      · simp [ho, hl, hl2, hS, hp, hl3, hp2, hl4, hp3, hw]
        exact .of ⟨b2, gs2, (f : Int) - 1, _, _, hsb2, hg2, by omega, by omega, .inl rfl, .inl rfl, rfl⟩
      · simp [ho, hl, hl2, hS, hp, hl3, hp2, hl4, hp3, hw]
        exact .of ⟨b2, gs2, (f : Int) - 1, _, _, hsb2, hg2, by omega, by omega, .inl rfl, .inr rfl, rfl⟩
    · have q1 : (q == 0) = false := by simp [q0]
      obtain ⟨f, j7, hf, hp3, hw⟩ := fz j5 (by omega)
      rcases hy with rfl | rfl
      · simp [ho, hl, hl2, hS, hp, hl3, hp2, q1, hp3, hw]
        exact .of ⟨a, gs2, (f : Int) - 1, _, _, ⟨by omega, hsa.each⟩, hg2, by omega, by omega, .inr rfl, .inl rfl, rfl⟩
      · simp [ho, hl, hl2, hS, hp, hl3, hp2, q1, hp3, hw]
        exact .of ⟨a, gs2, (f : Int) - 1, _, _, ⟨by omega, hsa.each⟩, hg2, by omega, by omega, .inr rfl, .inr rfl, rfl⟩
  · have k1 : (k == 0) = false := by simp [k0]
    obtain ⟨q, j5, hq, hj5, hp2, b2, j6, hsb2, hj6, hl4⟩ := rest j3 (by omega)
    by_cases q0 : q = 0
    · subst q0
      obtain ⟨f, j7, hf, hp3, hw⟩ := fz j6 (by omega)
      simp [ho, hl, hl2, hS, hp, k1, hp2, hl4, hp3, hw]
      exact .of ⟨b2, gs, (f : Int) - 1, _, _, hsb2, hd, by omega, by omega, .inl rfl, .inl rfl, rfl⟩
    · have q1 : (q == 0) = false := by simp [q0]
      obtain ⟨f, j7, hf, hp3, hw⟩ := fz j5 (by omega)
      simp [ho, hl, hl2, hS, hp, k1, hp2, q1, hp3, hw]
      exact .of ⟨a, gs, (f : Int) - 1, _, _, ⟨by omega, hsa.each⟩, hd, by omega, by omega, .inr rfl, .inl rfl, rfl⟩
end Go.Qz

/- The law that a difference transforms one text into the other, by the evaluator. -/
namespace Go.Qz
open Go.Proofs

theorem jsInts_self (xs : List Int) (hn : xs.length ≤ 1048576) : C fn_w_jsInts [.ro (IS xs), .ro (IS xs)] [] = some (.one (.ro (.bool true)), []) := by
  refine ctx_call Try.func16 conv_w_jsInts rfl ?_
  simp
  refine loop_run (fun m e => ∃ i, m = xs.length - i ∧ i ≤ xs.length ∧ e.size = 26 ∧ e.get 0 = .one (.ro (IS xs)) ∧ e.get 1 = .one (.ro (IS xs)) ∧ e.get 5 = .one (.ro (N i)))
    ?_ xs.length _ ⟨0, rfl, Nat.zero_le _, by simp, by simp, by simp, by simp⟩
  rintro m e ⟨i, rfl, hi, hsz, h0, h1, h5⟩ ih
  rcases Nat.lt_or_ge i xs.length with hlt | hge
  · have hwi : IntKind.i64.wrap ((i : Int) + 1) = ((i + 1 : Nat) : Int) := wrap64_succ (by omega)
    simp [hsz, h0, h1, h5, hlt, hwi]
    exact ih _ _ (by omega) ⟨i + 1, rfl, by omega, by simp [hsz], by simp [h0], by simp [h1], by simp⟩
  · obtain rfl : i = xs.length := by omega
    simp [hsz, h0, h5]

theorem diffI_same (a : Lines) : diffI a a = [] := by
  unfold diffI
  simp

set_option maxHeartbeats 4000000 in
set_option maxRecDepth 10000 in
theorem fnDiffOf_ev (bs : List Int) (hl : bs.length ≤ 140737488351232) (hw : ∀ b ∈ bs, (Lit.int .u8 b).wf = true) : C fn_w_FnDiffOf [.ro (BS bs)] [] = some (.one (.ro (.bool true)), []) := by
  refine ctx_call Try.func3 conv_w_FnDiffOf rfl ?_
  by_cases hlong : 1048576 < bs.length
  · have h1 : (1048576 : Int) < bs.length := by omega
    simp [h1]
  have h1 : ¬ (1048576 : Int) < bs.length := by omega
  obtain ⟨r, ⟨a, b, x, hsa, hsb, hx, rfl⟩, hd⟩ := drawDiff_ev bs (fun b h => wf_byte (hw b h))
  have ha := hsa.len
  have hb := hsb.len
  have hI := diffOf_ev a b (by omega) (by omega) (fun x h => by have := hsa.each x h; omega) (fun x h => by have := hsb.each x h; omega)
  have hA := diffOf_ev a a (by omega) (by omega) (fun x h => by have := hsa.each x h; omega) (fun x h => by have := hsa.each x h; omega)
  have hS := diffOfS_ev a b (by omega) (by omega) (fun x h => by have := hsa.each x h; omega) (fun x h => by have := hsb.each x h; omega)
  rw [← diff_eq] at hS
  rw [diffI_same] at hA
  rcases diffI_cases a b with h0 | ⟨h0, c1, c2, c3⟩
  · rw [h0] at hI hS
    have hj := jsHunks_self [] (by simp) (by simp)
    simp only [HS, List.map_nil] at hI hS hj
    rcases hx with rfl | rfl <;> simp [h1, hd, hI, hS, hj]
  · have hk := (hunksOk_single _).1 c3
    have hj := jsHunks_self [diffHunk a b] (by simp) (fun h hh => by simp at hh; subst hh; omega)
    have hP := patchI_ev a [diffHunk a b] 0 (by omega) (fun h hh => by simp at hh; subst hh; omega)
    rw [diff_does a b c1 c2 c3] at hP
    have hH := HunksOkI_ev [diffHunk a b] (fun h hh => by simp at hh; subst hh; omega)
    rw [c3] at hH
    have hjb := jsTexts_self b (by omega)
    have hji := jsInts_self [0] (by simp)
    rw [h0] at hI hS
    generalize diffHunk a b = g at *
    obtain ⟨hat, hls⟩ := g
    simp only [HS, List.map_cons, List.map_nil, patchV, IS, I] at hI hS hj hP hH hA hji
    rcases hx with rfl | rfl <;> simp [h1, hd, hI, hS, hj, hP, hH, hjb, hji, hA]
end Go.Qz

/- The law of Patch, by the evaluator. -/
namespace Go.Qz
open Go.Proofs

def markI (n k : Nat) : List Int := (List.range n).map fun j => ((k + j : Nat) : Int)
@[simp] theorem markI_len (n k : Nat) : (markI n k).length = n := by simp [markI]
theorem markI_get (n k j : Nat) (h : j < n) : (markI n k)[j]? = some ((k + j : Nat) : Int) := by simp [markI, h]
theorem markI_elem (n k j : Nat) (h : j < (markI n k).length) : (markI n k)[j] = ((k + j : Nat) : Int) := by simp [markI]

theorem patchAll_small {most : Nat} : ∀ {hs : List Hk} {p q : Pt} {k : Nat}, PtOk p k → (∀ h ∈ hs, h.2.length ≤ 30) → patchAll most hs p = some q → PtOk q (k + hs.length)
  | [], p, q, k, hp, _, e => by cases e; exact hp
  | h :: r, p, q, k, hp, hl, e => by
    unfold patchAll at e
    split at e
    · rename_i q1 hq1
      have := patchAll_small (applyFrom_ok hp (hl h List.mem_cons_self) _ _ hq1) (fun x hx => hl x (List.mem_cons_of_mem _ hx)) e
      rw [List.length_cons, show k + (r.length + 1) = k + 1 + r.length by omega]
      exact this
    · cases e
theorem patchR_small (lines : Lines) (hs : List Hk) (fuzz : Int) : (patchR lines hs fuzz).1.length ≤ 30 ∧ (patchR lines hs fuzz).2.1.length ≤ 4 := by
  unfold patchR
  split
  · simp
  · rename_i hc
    have c1 : linesI lines = true := by
      cases c : linesI lines with
      | true => rfl
      | false => rw [c] at hc; simp at hc
    have c2 : hunksOkI hs = true := by
      cases c : hunksOkI hs with
      | true => rfl
      | false => rw [c] at hc; simp at hc
    obtain ⟨h4, hok⟩ := hunksOkI_ok c2
    have hl : lines.length ≤ 30 := by
      unfold linesI at c1
      simp only [Bool.and_eq_true, decide_eq_true_eq] at c1
      exact c1.1
    split
    · exact ⟨hl, by simp⟩
    · rename_i p hp
      split
      · rename_i c3
        have := patchAll_small (k := 0) (p := ⟨lines, 0, 0, []⟩) ⟨by simpa using hl, by simp, rfl⟩ (fun h hh => (hok h hh).len) hp
        refine ⟨?_, by rw [this.offs]; omega⟩
        unfold linesI at c3
        simp only [Bool.and_eq_true, decide_eq_true_eq] at c3
        exact c3.1
      · exact ⟨hl, by simp⟩

theorem szL_sum : ∀ (xs : Lines) (l : Int), 0 ≤ l → szL xs l ≤ l
  | [], l, _ => Int.le_refl l
  | x :: r, l, h => by
    unfold szL
    split
    · omega
    · have := szL_sum r (l - x.length) (by omega)
      omega
theorem szHL_end : ∀ (hs : List Hk) (l : Int) (k : Nat), 0 ≤ l → 0 ≤ szHL hs l → (endHs hs k : Int) ≤ k + hs.length + l
  | [], l, k, hl, _ => by simp [endHs]; omega
  | h :: r, l, k, hl, hz => by
    unfold szHL at hz
    split at hz
    · omega
    · rename_i hk
      have := szHL_end r (szHk h l) (k + 1 + h.2.length) (by omega) hz
      have h3 : szHk h l ≤ l - h.2.length := by
        unfold szHk szSS at hk ⊢
        split
        · omega
        · exact szL_sum _ _ (by omega)
      unfold endHs
      rw [List.length_cons]
      push_cast at this ⊢
      omega
theorem szHS_end (hs : List Hk) (l : Int) (k : Nat) (h : 0 ≤ szHS hs l) : (endHs hs k : Int) ≤ k + l := by
  unfold szHS at h
  split at h
  · omega
  · have := szHL_end hs (l - hs.length) k (by omega) h
    omega

end Go.Qz

/- The laws that the empty patch changes nothing and that fuzz is used only if necessary, by the evaluator. -/
namespace Go.Qz
open Go.Proofs

theorem patchR_nil (l : Lines) (f : Int) : patchR l [] f = ([], [], false) ∨ patchR l [] f = (l, [], false) ∨ patchR l [] f = (l, [], true) := by
  rcases patchR_cases l [] f with h | h | ⟨p, h, _, _, _, _, hp, _⟩
  · exact .inl h
  · exact .inr (.inl h)
  · cases hp; exact .inr (.inr h)

set_option maxHeartbeats 4000000 in
set_option maxRecDepth 10000 in
theorem patchNone_ev (bs : List Int) (hl : bs.length ≤ 140737488351232) (hw : ∀ b ∈ bs, (Lit.int .u8 b).wf = true) : C fn_w_FnPatchNone [.ro (BS bs)] [] = some (.one (.ro (.bool true)), []) := by
  refine ctx_call Try.func4 conv_w_FnPatchNone rfl ?_
  by_cases hlong : 1048576 < bs.length
  · have h1 : (1048576 : Int) < bs.length := by omega
    simp [h1]
  have h1 : ¬ (1048576 : Int) < bs.length := by omega
  obtain ⟨r, ⟨l, hs, fz, x, y, hsl, hsh, hf1, hf2, hx, hy, rfl⟩, hd⟩ := drawPatch_ev bs (fun b h => wf_byte (hw b h))
  have hll := hsl.len
  have hP := patchI_ev l [] fz (by omega) (by simp)
  have hQ := patchS_ev l [] fz (by omega) (fun x h => by have := hsl.each x h; omega) (by simp) (by simp) (by simp)
  have hj := jsTexts_self l (by omega)
  have hj0 := jsTexts_self [] (by simp)
  have hH := HunksOkI_ev [] (by simp)
  rcases patchR_nil l fz with h0 | h0 | h0
  all_goals
    rw [h0] at hP hQ
    simp only [patchV, HS, IS, SS, List.map_nil] at hP hQ hH hj0
    rcases hx with rfl | rfl <;> rcases hy with rfl | rfl <;> simp [h1, hd, hP, hQ, hj, hj0, hH, hunksOkI, goI]

set_option maxHeartbeats 4000000 in
set_option maxRecDepth 10000 in
theorem patchFuzz_ev (bs : List Int) (hl : bs.length ≤ 140737488351232) (hw : ∀ b ∈ bs, (Lit.int .u8 b).wf = true) : C fn_w_FnPatchFuzz [.ro (BS bs)] [] = some (.one (.ro (.bool true)), []) := by
  refine ctx_call Try.func7 conv_w_FnPatchFuzz rfl ?_
  by_cases hlong : 1048576 < bs.length
  · have h1 : (1048576 : Int) < bs.length := by omega
    simp [h1]
  have h1 : ¬ (1048576 : Int) < bs.length := by omega
  obtain ⟨r, ⟨l, hs, fz, x, y, hsl, hsh, hf1, hf2, hx, hy, rfl⟩, hd⟩ := drawPatch_ev bs (fun b h => wf_byte (hw b h))
  have hll := hsl.len
  have hhl := hsh.len
  have hP := patchI_ev l hs 0 (by omega) (fun h hh => by have := hsh.lines h hh; omega)
  have hQ := patchS_ev l hs 0 (by omega) (fun x h => by have := hsl.each x h; omega) (by omega) (fun h hh => by have := hsh.lines h hh; omega) (fun h hh x hx => by have := hsh.each h hh x hx; omega)
  have hP1 := patchI_ev l hs 1 (by omega) (fun h hh => by have := hsh.lines h hh; omega)
  have hP2 := patchI_ev l hs 2 (by omega) (fun h hh => by have := hsh.lines h hh; omega)
  have sm := patchR_small l hs 0
  obtain ⟨z, far, ok, hR⟩ : ∃ z far ok, patchR l hs 0 = (z, far, ok) := ⟨_, _, _, rfl⟩
  rw [hR] at sm
  simp only at sm
  have hjz := jsTexts_self z (by omega)
  have hji := jsInts_self far (by omega)
  cases ok with
  | false =>
    rw [hR] at hP hQ
    simp only [patchV] at hP hQ
    rcases hx with rfl | rfl <;> rcases hy with rfl | rfl <;> simp [h1, hd, hP, hQ, hjz, hji]
  | true =>
    rw [patch_fuzz hR 1 (by omega) (by omega)] at hP1
    rw [patch_fuzz hR 2 (by omega) (by omega)] at hP2
    rw [hR] at hP hQ
    simp only [patchV] at hP hQ hP1 hP2
    rcases hx with rfl | rfl <;> rcases hy with rfl | rfl <;> simp [h1, hd, hP, hQ, hP1, hP2, hjz, hji]
end Go.Qz

/- The law that repeating a patch inserts again or fails, by the evaluator. -/
namespace Go.Qz
open Go.Proofs

set_option maxHeartbeats 4000000 in
set_option maxRecDepth 10000 in
theorem patchTwice_ev (bs : List Int) (hl : bs.length ≤ 140737488351232) (hw : ∀ b ∈ bs, (Lit.int .u8 b).wf = true) : C fn_w_FnPatchTwice [.ro (BS bs)] [] = some (.one (.ro (.bool true)), []) := by
  refine ctx_call Try.func8 conv_w_FnPatchTwice rfl ?_
  by_cases hlong : 1048576 < bs.length
  · have h1 : (1048576 : Int) < bs.length := by omega
    simp [h1]
  have h1 : ¬ (1048576 : Int) < bs.length := by omega
  obtain ⟨r, ⟨l, hs, fz, x, y, hsl, hsh, hf1, hf2, hx, hy, rfl⟩, hd⟩ := drawPatch_ev bs (fun b h => wf_byte (hw b h))
  have hll := hsl.len
  have hhl := hsh.len
  have hP := patchI_ev l hs fz (by omega) (fun h hh => by have := hsh.lines h hh; omega)
  have hQ := patchS_ev l hs fz (by omega) (fun x h => by have := hsl.each x h; omega) (by omega) (fun h hh => by have := hsh.lines h hh; omega) (fun h hh x hx => by have := hsh.each h hh x hx; omega)
  have sm := patchR_small l hs fz
  obtain ⟨z, far, ok, hR⟩ : ∃ z far ok, patchR l hs fz = (z, far, ok) := ⟨_, _, _, rfl⟩
  rw [hR] at sm
  simp only at sm
  have hjz := jsTexts_self z (by omega)
  have hji := jsInts_self far (by omega)
  rw [hR] at hP hQ
  simp only [patchV] at hP hQ
  cases ok with
  | false =>
    rcases hx with rfl | rfl <;> rcases hy with rfl | rfl <;> simp [h1, hd, hP, hQ, hjz, hji]
  | true =>
    have hA := patchI_ev z hs fz (by omega) (fun h hh => by have := hsh.lines h hh; omega)
    rcases patch_twice hR with ⟨g, hT⟩ | ⟨w, g, hT, hT2, hT3⟩
    · rw [hT] at hA
      simp only [patchV] at hA
      rcases hx with rfl | rfl <;> rcases hy with rfl | rfl <;> simp [h1, hd, hP, hQ, hjz, hji, hA]
    · rw [hT] at hA
      simp only [patchV] at hA
      have w1 : IntKind.i64.wrap ((w.length : Int) - z.length) = (z.length : Int) - l.length := by rw [hT2]; exact wrap64 (by omega) (by omega)
      have w2 : IntKind.i64.wrap ((z.length : Int) - l.length) = (z.length : Int) - l.length := wrap64 (by omega) (by omega)
      rcases hx with rfl | rfl <;> rcases hy with rfl | rfl <;> simp [h1, hd, hP, hQ, hjz, hji, hA, w1, w2]
end Go.Qz

/- The law that patches change the number of lines as stated, by the evaluator. -/
namespace Go.Qz
open Go.Proofs

theorem growL_abs (xs : Lines) : -(xs.length : Int) ≤ growL xs ∧ growL xs ≤ xs.length := by
  induction xs with
  | nil => exact ⟨Int.le_refl _, Int.le_refl _⟩
  | cons x r ih =>
    rw [growL, List.length_cons]
    have : -1 ≤ sgL x ∧ sgL x ≤ 1 := by unfold sgL; split <;> omega
    omega
theorem growL_succ (xs : Lines) (k : Nat) (h : k < xs.length) : growL (xs.take (k + 1)) = growL (xs.take k) + sgL xs[k] := by
  rw [List.take_succ_eq_append_getElem h, growL_append]
  simp [growL]
theorem growH_append (hs gs : List Hk) : growH (hs ++ gs) = growH hs + growH gs := by
  induction hs with
  | nil => simp [growH]
  | cons h r ih => rw [List.cons_append, growH, growH, ih]; omega
theorem growH_succ (hs : List Hk) (i : Nat) (h : i < hs.length) : growH (hs.take (i + 1)) = growH (hs.take i) + growL hs[i].2 := by
  rw [List.take_succ_eq_append_getElem h, growH_append]
  simp [growH]
theorem growH_abs (hs : List Hk) (hl : ∀ h ∈ hs, h.2.length ≤ 30) : -(30 * hs.length : Int) ≤ growH hs ∧ growH hs ≤ 30 * hs.length := by
  induction hs with
  | nil => simp [growH]
  | cons h r ih =>
    have h1 := ih (fun x hx => hl x (List.mem_cons_of_mem _ hx))
    have h2 := growL_abs h.2
    have h3 := hl h List.mem_cons_self
    rw [growH, List.length_cons]
    omega

set_option maxHeartbeats 8000000 in
set_option maxRecDepth 10000 in
theorem patchLaw_ev (bs : List Int) (hl : bs.length ≤ 140737488351232) (hw : ∀ b ∈ bs, (Lit.int .u8 b).wf = true) : C fn_w_FnPatch [.ro (BS bs)] [] = some (.one (.ro (.bool true)), []) := by
  refine ctx_call Try.func6 conv_w_FnPatch rfl ?_
  by_cases hlong : 1048576 < bs.length
  · have h1 : (1048576 : Int) < bs.length := by omega
    simp [h1]
  have h1 : ¬ (1048576 : Int) < bs.length := by omega
  obtain ⟨r, ⟨l, hs, fz, x, y, hsl, hsh, hf1, hf2, hx, hy, rfl⟩, hd⟩ := drawPatch_ev bs (fun b h => wf_byte (hw b h))
  have hll := hsl.len
  have hhl := hsh.len
  have hP := patchI_ev l hs fz (by omega) (fun h hh => by have := hsh.lines h hh; omega)
  have hQ := patchS_ev l hs fz (by omega) (fun x h => by have := hsl.each x h; omega) (by omega) (fun h hh => by have := hsh.lines h hh; omega) (fun h hh x hx => by have := hsh.each h hh x hx; omega)
  have hjl := jsTexts_self l (by omega)
  have hj0 := jsTexts_self [] (by simp)
  have hji0 := jsInts_self [] (by simp)
  have sm := patchR_small l hs fz
  rcases patchR_cases l hs fz with hR | hR | ⟨p, hR, _⟩
  · rw [hR] at hP hQ
    simp only [patchV, SS, IS, List.map_nil] at hP hQ hj0 hji0
    rcases hx with rfl | rfl <;> rcases hy with rfl | rfl <;> simp [h1, hd, hP, hQ, hj0, hji0]
  · rw [hR] at hP hQ
    simp only [patchV, IS, List.map_nil] at hP hQ hji0
    by_cases hl0 : l = []
    · subst hl0
      simp only [SS, List.map_nil] at hP hQ hj0 hd hx
      rcases hx with rfl | rfl <;> rcases hy with rfl | rfl <;> simp [h1, hd, hP, hQ, hj0, hji0]
    · have hl1 : (l.length == 0) = false := by simpa using hl0
      rcases hx with rfl | rfl <;> rcases hy with rfl | rfl <;> simp [h1, hd, hP, hQ, hjl, hji0, hl1]
  · obtain ⟨z, far, hzf⟩ : ∃ z far, p.lines = z ∧ p.offs = far := ⟨_, _, rfl, rfl⟩
    rw [hzf.1, hzf.2] at hR
    obtain ⟨c1, c2, c3, c4, c5, c6⟩ := patch_counts hR
    rw [hR] at hP hQ sm
    simp only at sm
    have hjz := jsTexts_self z (by omega)
    have hji := jsInts_self far (by omega)
    simp only [patchV] at hP hQ
    obtain ⟨hs4, hok⟩ := hunksOkI_ok c6
    have outer : ∀ e : Env, (∃ i, i ≤ hs.length ∧ e.size = 140 ∧ (e.get 4 = .one (.own (HS hs)) ∨ e.get 4 = .one (.ro (HS hs))) ∧ e.get 6 = .one (.own (SS z)) ∧ e.get 7 = .one (.own (IS far)) ∧ e.get 12 = .one (.ro (I ((l.length : Int) + growH (hs.take i)))) ∧ e.get 13 = .one (.ro (N i))) →
        Run cx (.loop q_w_FnPatch_l1) e [.blk 0, .seq q_w_FnPatch_c5, .fn [(.tmp 2, 4)] []] = some (.one (.ro (.bool true)), []) := by
      rintro e ⟨i, hi, h⟩
      refine loop_run (fun m e => ∃ i, m = hs.length - i ∧ i ≤ hs.length ∧ e.size = 140 ∧ (e.get 4 = .one (.own (HS hs)) ∨ e.get 4 = .one (.ro (HS hs))) ∧ e.get 6 = .one (.own (SS z)) ∧ e.get 7 = .one (.own (IS far)) ∧ e.get 12 = .one (.ro (I ((l.length : Int) + growH (hs.take i)))) ∧ e.get 13 = .one (.ro (N i)))
        ?_ (hs.length - i) _ ⟨i, rfl, hi, h⟩
      rintro m e ⟨i, rfl, hi, hsz, h4, h6, h7, h12, h13⟩ ih
      rcases Nat.lt_or_ge i hs.length with hlt | hge
      · obtain ⟨q, hq⟩ : ∃ q, (l.length : Int) + growH (hs.take i) = q := ⟨_, rfl⟩
        have hb := growH_abs (hs.take i) (fun h hh => (hok h (List.mem_of_mem_take hh)).len)
        have htl : ((hs.take i).length : Int) ≤ 4 := by rw [List.length_take]; omega
        have hqb : -200 ≤ q ∧ q ≤ 200 := by omega
        rw [hq] at h12
        have hlen := (hok _ (List.getElem_mem hlt)).len
        have hne := (hok _ (List.getElem_mem hlt)).ne
        have hgs := growH_succ hs i hlt
        obtain ⟨ls, hls⟩ : ∃ ls, hs[i].2 = ls := ⟨_, rfl⟩
        rw [hls] at hlen hne hgs
        have hfi : i < far.length := by omega
        obtain ⟨d, hfd⟩ : ∃ d, far[i] = d := ⟨_, rfl⟩
        have hd8 := c3 _ (List.getElem_mem hfi)
        rw [hfd] at hd8
        have d1 : ¬ (8 < d) := by omega
        have d2 : ¬ (d < -8) := by omega
        have hwi : IntKind.i64.wrap ((i : Int) + 1) = ((i + 1 : Nat) : Int) := wrap64_succ (by omega)
        have inner : ∀ e : Env, (∃ k, k ≤ ls.length ∧ e.size = 140 ∧ (e.get 4 = .one (.own (HS hs)) ∨ e.get 4 = .one (.ro (HS hs))) ∧ e.get 6 = .one (.own (SS z)) ∧ e.get 7 = .one (.own (IS far)) ∧ e.get 12 = .one (.ro (I (q + growL (ls.take k)))) ∧ e.get 13 = .one (.ro (N i)) ∧ e.get 14 = .one (.ro (N k))) →
            Run cx (.loop q_w_FnPatch_l0) e [.blk 2, .seq q_w_FnPatch_c2, .blk 1, .seq q_w_FnPatch_c3, .loop q_w_FnPatch_l1, .blk 0, .seq q_w_FnPatch_c5, .fn [(.tmp 2, 4)] []] = some (.one (.ro (.bool true)), []) := by
          rintro e ⟨k, hk, h⟩
          refine loop_run (fun m e => ∃ k, m = ls.length - k ∧ k ≤ ls.length ∧ e.size = 140 ∧ (e.get 4 = .one (.own (HS hs)) ∨ e.get 4 = .one (.ro (HS hs))) ∧ e.get 6 = .one (.own (SS z)) ∧ e.get 7 = .one (.own (IS far)) ∧ e.get 12 = .one (.ro (I (q + growL (ls.take k)))) ∧ e.get 13 = .one (.ro (N i)) ∧ e.get 14 = .one (.ro (N k)))
            ?_ (ls.length - k) _ ⟨k, rfl, hk, h⟩
          rintro m e ⟨k, rfl, hk, hsz, h4, h6, h7, h12, h13, h14⟩ ih2
          rcases Nat.lt_or_ge k ls.length with hlt2 | hge2
          · have hwk : IntKind.i64.wrap ((k : Int) + 1) = ((k + 1 : Nat) : Int) := wrap64_succ (by omega)
            have hgk := growL_succ ls k hlt2
            obtain ⟨c, r, hcr⟩ : ∃ c r, ls[k] = c :: r := by
              cases hq : ls[k] with
              | nil => exact absurd hq (hne _ (List.getElem_mem hlt2))
              | cons c r => exact ⟨c, r, rfl⟩
            rw [hcr] at hgk
            have hga := growL_abs (ls.take k)
            have htk : ((ls.take k).length : Int) ≤ 30 := by rw [List.length_take]; omega
            obtain ⟨s, hs1⟩ : ∃ s, q + growL (ls.take k) = s := ⟨_, rfl⟩
            rw [hs1] at h12
            have w1 : IntKind.i64.wrap (s + 1) = s + 1 := wrap64 (by omega) (by omega)
            have w2 : IntKind.i64.wrap (s - 1) = s - 1 := wrap64 (by omega) (by omega)
            have go : ∀ e' : Env, e'.size = 140 → (e'.get 4 = .one (.own (HS hs)) ∨ e'.get 4 = .one (.ro (HS hs))) → e'.get 6 = .one (.own (SS z)) → e'.get 7 = .one (.own (IS far)) → e'.get 12 = .one (.ro (I (s + sgL (c :: r)))) → e'.get 13 = .one (.ro (N i)) → e'.get 14 = .one (.ro (N (k + 1))) →
                Run cx (.loop q_w_FnPatch_l0) e' [.blk 2, .seq q_w_FnPatch_c2, .blk 1, .seq q_w_FnPatch_c3, .loop q_w_FnPatch_l1, .blk 0, .seq q_w_FnPatch_c5, .fn [(.tmp 2, 4)] []] = some (.one (.ro (.bool true)), []) := fun e' a1 a2 a3 a4 a5 a6 a7 =>
              ih2 (ls.length - (k + 1)) e' (by omega) ⟨k + 1, rfl, by omega, a1, a2, a3, a4, by rw [a5, hgk, ← hs1, Int.add_assoc], a6, a7⟩
            cases e1 : c == 43 with
            | true =>
              have e1' : c = 43 := by simpa using e1
              subst e1'
              rcases h4 with h4 | h4
              all_goals
                simp [hsz, h4, h12, h13, h14, hlt, hls, hlt2, hcr, w1, hwk]
                exact go _ (by simp [hsz]) (by simp [h4]) (by simp [h6]) (by simp [h7]) (by simp [sgL]) (by simp [h13]) (by simp)
            | false =>
              cases e2 : c == 45 with
              | true =>
                have e2' : c = 45 := by simpa using e2
                subst e2'
                rcases h4 with h4 | h4
                all_goals
                  simp [hsz, h4, h12, h13, h14, hlt, hls, hlt2, hcr, w2, hwk]
                  exact go _ (by simp [hsz]) (by simp [h4]) (by simp [h6]) (by simp [h7]) (by simp [sgL]; omega) (by simp [h13]) (by simp)
              | false =>
                have sg0 : sgL (c :: r) = 0 := by
                  unfold sgL
                  split
                  · rename_i h; cases h; simp at e1
                  · rename_i h; cases h; simp at e2
                  · rfl
                rcases h4 with h4 | h4
                all_goals
                  simp [hsz, h4, h13, h14, hlt, hls, hlt2, hcr, e1, e2, hwk]
                  exact go _ (by simp [hsz]) (by simp [h4]) (by simp [h6]) (by simp [h7]) (by simp [sg0, h12]) (by simp [h13]) (by simp)
          · obtain rfl : k = ls.length := by omega
            rw [List.take_length] at h12
            have go : ∀ e' : Env, e'.size = 140 → (e'.get 4 = .one (.own (HS hs)) ∨ e'.get 4 = .one (.ro (HS hs))) → e'.get 6 = .one (.own (SS z)) → e'.get 7 = .one (.own (IS far)) → e'.get 12 = .one (.ro (I (q + growL ls))) → e'.get 13 = .one (.ro (N (i + 1))) →
                Run cx (.loop q_w_FnPatch_l1) e' [.blk 0, .seq q_w_FnPatch_c5, .fn [(.tmp 2, 4)] []] = some (.one (.ro (.bool true)), []) := fun e' a1 a2 a3 a4 a5 a6 =>
              ih (hs.length - (i + 1)) e' (by omega) ⟨i + 1, rfl, by omega, a1, a2, a3, a4, by rw [a5, hgs, ← hq, Int.add_assoc], a6⟩
            rcases h4 with h4 | h4
            all_goals
              simp [hsz, h4, h7, h13, h14, hlt, hls, hfi, hfd, d1, d2, hwi]
              exact go _ (by simp [hsz]) (by simp [h4]) (by simp [h6]) (by simp [h7]) (by simp [h12]) (by simp)
        rcases h4 with h4 | h4
        all_goals
          simp [hsz, h4, h13, hlt]
          exact inner _ ⟨0, Nat.zero_le _, by simp [hsz], by simp [h4], by simp [h6], by simp [h7], by simp [h12, growL], by simp [h13], by simp⟩
      · obtain rfl : i = hs.length := by omega
        rw [List.take_length] at h12
        obtain ⟨q, hq⟩ : ∃ q, (l.length : Int) + growH hs = q := ⟨_, rfl⟩
        rw [hq] at h12 c1
        rcases h4 with h4 | h4 <;> simp [hsz, h4, h6, h7, h12, h13, c1, c2]
    rcases hx with rfl | rfl <;> rcases hy with rfl | rfl
    all_goals
      simp [h1, hd, hP, hQ, hjz, hji]
      exact outer _ ⟨0, Nat.zero_le _, by simp, by simp, by simp, by simp, by simp [growH], by simp⟩
end Go.Qz

/- The law that hunks can be applied partially, by the evaluator. -/
namespace Go.Qz
open Go.Proofs

def sumL (hs : List Hk) : Nat := (hs.map (fun h => h.2.length)).sum
theorem sumL_succ (hs : List Hk) (k : Nat) (h : k < hs.length) : sumL (hs.take (k + 1)) = sumL (hs.take k) + hs[k].2.length := by
  unfold sumL
  rw [List.take_succ_eq_append_getElem h, List.map_append, List.sum_append]
  simp
theorem sumL_le (hs : List Hk) (hl : ∀ h ∈ hs, h.2.length ≤ 100) : sumL hs ≤ 100 * hs.length := by
  induction hs with
  | nil => simp [sumL]
  | cons h r ih =>
    have h1 := ih (fun x hx => hl x (List.mem_cons_of_mem _ hx))
    have h2 := hl h List.mem_cons_self
    unfold sumL at h1 ⊢
    rw [List.map_cons, List.sum_cons, List.length_cons]
    omega

set_option maxHeartbeats 8000000 in
set_option maxRecDepth 10000 in
theorem hunksLess_ev (bs ms : List Int) (hl : bs.length ≤ 140737488351232) (hw : ∀ b ∈ bs, (Lit.int .u8 b).wf = true) (hlm : ms.length ≤ 140737488351232) (_ : ∀ b ∈ ms, (Lit.int .u8 b).wf = true) : C fn_w_FnHunksLess [.ro (BS bs), .ro (BS ms)] [] = some (.one (.ro (.bool true)), []) := by
  refine ctx_call Try.func5 conv_w_FnHunksLess rfl ?_
  by_cases hlong : 1048576 < bs.length
  · have h1 : (1048576 : Int) < bs.length := by omega
    simp [h1]
  have h1 : ¬ (1048576 : Int) < bs.length := by omega
  by_cases hlong2 : 1048576 < ms.length
  · have h2 : (1048576 : Int) < ms.length := by omega
    simp [h1, h2]
  have h2 : ¬ (1048576 : Int) < ms.length := by omega
  obtain ⟨r, ⟨l, hs, fz, x, y, hsl, hsh, hf1, hf2, hx, hy, rfl⟩, hd⟩ := drawPatch_ev bs (fun b h => wf_byte (hw b h))
  have hll := hsl.len
  have hhl := hsh.len
  have hP := patchI_ev l hs fz (by omega) (fun h hh => by have := hsh.lines h hh; omega)
  have hQ := patchS_ev l hs fz (by omega) (fun x h => by have := hsl.each x h; omega) (by omega) (fun h hh => by have := hsh.lines h hh; omega) (fun h hh x hx => by have := hsh.each h hh x hx; omega)
  have sm := patchR_small l hs fz
  obtain ⟨z, far, ok, hR⟩ : ∃ z far ok, patchR l hs fz = (z, far, ok) := ⟨_, _, _, rfl⟩
  rw [hR] at sm
  simp only at sm
  have hjz := jsTexts_self z (by omega)
  have hji := jsInts_self far (by omega)
  rw [hR] at hP hQ
  simp only [patchV] at hP hQ
  cases ok with
  | false => rcases hx with rfl | rfl <;> rcases hy with rfl | rfl <;> simp [h1, h2, hd, hP, hQ, hjz, hji]
  | true =>
    obtain ⟨c1, c2, c3, c4, c5, c6⟩ := patch_counts hR
    obtain ⟨n, hn⟩ : ∃ n : Nat, ms.length % (hs.length + 1) = n := ⟨_, rfl⟩
    have hnl : n ≤ hs.length := by have := Nat.mod_lt ms.length (show 0 < hs.length + 1 by omega); omega
    have hr1 : (ms.length : Int).tmod ((hs.length : Int) + 1) = (n : Int) := by
      rw [show (hs.length : Int) + 1 = ((hs.length + 1 : Nat) : Int) by omega, ← hn]; rfl
    have hr2 : (ms.length : Int).tmod ((hs.length + 1 : Nat) : Int) = (n : Int) := by rw [← hn]; rfl
    have hz0 : ¬ ((hs.length : Int) + 1 = 0) := by omega
    have hw1 : IntKind.i64.wrap ((hs.length : Int) + 1) = ((hs.length + 1 : Nat) : Int) := wrap64_succ (by omega)
    obtain ⟨gs, hgs⟩ : ∃ gs, hs.take n = gs := ⟨_, rfl⟩
    obtain ⟨fs, hfs⟩ : ∃ fs, far.take n = fs := ⟨_, rfl⟩
    have tg : List.take n (List.map HD hs) = List.map HD gs := by rw [← List.map_take, hgs]
    have tf : List.take n (List.map I far) = List.map I fs := by rw [← List.map_take, hfs]
    have hgl : gs.length = n := by rw [← hgs, List.length_take]; omega
    have hg100 : ∀ h ∈ gs, h.2.length ≤ 100 := fun h hh => hsh.lines h (by rw [← hgs] at hh; exact List.mem_of_mem_take hh)
    have hfl : n ≤ far.length := by omega
    have hA := patchI_ev l gs fz (by omega) (fun h hh => by have := hg100 h hh; omega)
    have hH := HunksOkI_ev gs (fun h hh => by have := hg100 h hh; omega)
    have hho := hunksOkI_take n c6
    rw [hgs] at hho
    rw [hho] at hH
    have hjf := jsInts_self fs (by rw [← hfs, List.length_take]; omega)
    have hless := fun hm => patch_less n hnl hR hm
    rw [hgs, hfs] at hless
    obtain ⟨y2, some2, fine, hR2⟩ : ∃ y2 some2 fine, patchR l gs fz = (y2, some2, fine) := ⟨_, _, _, rfl⟩
    rw [hR2] at hA hless
    simp only [patchV] at hA
    have hS := sumL_le gs hg100
    have loop : ∀ e : Env, (∃ i, i ≤ n ∧ e.size = 131 ∧ e.get 9 = .one (.own (IS far)) ∧ e.get 14 = .one (.ro (N n)) ∧ e.get 15 = .one (.ro (HS gs)) ∧ e.get 17 = .one (.own (IS some2)) ∧ e.get 18 = .one (.ro (.bool fine)) ∧ e.get 19 = .one (.ro (N (l.length + sumL (gs.take i)))) ∧ e.get 20 = .one (.ro (N i))) →
        Run cx (.loop q_w_FnHunksLess_l0) e [.blk 0, .seq q_w_FnHunksLess_c2, .fn [(.tmp 4, 4)] []] = some (.one (.ro (.bool true)), []) := by
      rintro e ⟨i, hi, h⟩
      refine loop_run (fun m e => ∃ i, m = n - i ∧ i ≤ n ∧ e.size = 131 ∧ e.get 9 = .one (.own (IS far)) ∧ e.get 14 = .one (.ro (N n)) ∧ e.get 15 = .one (.ro (HS gs)) ∧ e.get 17 = .one (.own (IS some2)) ∧ e.get 18 = .one (.ro (.bool fine)) ∧ e.get 19 = .one (.ro (N (l.length + sumL (gs.take i)))) ∧ e.get 20 = .one (.ro (N i)))
        ?_ (n - i) _ ⟨i, rfl, hi, h⟩
      rintro m e ⟨i, rfl, hi, hsz, h9, h14, h15, h17, h18, h19, h20⟩ ih
      rcases Nat.lt_or_ge i n with hlt | hge
      · have hlt2 : i < gs.length := by omega
        have hsu := sumL_succ gs i hlt2
        have hb := sumL_le (gs.take i) (fun h hh => hg100 h (List.mem_of_mem_take hh))
        have htl : (gs.take i).length ≤ 4 := by rw [List.length_take]; omega
        have h100 := hg100 _ (List.getElem_mem hlt2)
        obtain ⟨ls, hls⟩ : ∃ ls, gs[i].2 = ls := ⟨_, rfl⟩
        rw [hls] at hsu h100
        obtain ⟨q, hq⟩ : ∃ q, l.length + sumL (gs.take i) = q := ⟨_, rfl⟩
        rw [hq] at h19
        have w1 : IntKind.i64.wrap ((q : Int) + ls.length) = ((q + ls.length : Nat) : Int) := by rw [wrap64 (by omega) (by omega)]; omega
        have hwi : IntKind.i64.wrap ((i : Int) + 1) = ((i + 1 : Nat) : Int) := wrap64_succ (by omega)
        simp [hsz, h14, h15, h19, h20, hlt, hlt2, hls, w1, hwi]
        exact ih (n - (i + 1)) _ (by omega) ⟨i + 1, rfl, by omega, by simp [hsz], by simp [h9], by simp [h14], by simp [h15], by simp [h17], by simp [h18], by rw [hsu]; simp; omega, by simp⟩
      · obtain rfl : i = n := by omega
        rw [List.take_of_length_le (by omega)] at h19
        obtain ⟨q, hq⟩ : ∃ q, l.length + sumL gs = q := ⟨_, rfl⟩
        rw [hq] at h19
        by_cases hm : 30 < q
        · simp [hsz, h9, h14, h15, h17, h18, h19, h20, hH, hm]
        · obtain ⟨y3, hy3⟩ := hless (by unfold sumL at hq; omega)
          simp only [Prod.mk.injEq] at hy3
          obtain ⟨_, rfl, rfl⟩ := hy3
          simp [hsz, h9, h14, h15, h17, h18, h19, h20, hH, hm, hfl, tf, hjf]
    rcases hx with rfl | rfl <;> rcases hy with rfl | rfl
    all_goals
      simp [h1, h2, hd, hP, hQ, hjz, hji, hw1, hr1, hz0, hnl, tg, hA]
      exact loop _ ⟨0, Nat.zero_le _, by simp, by simp, by simp, by simp, by simp, by simp, by simp [sumL], by simp⟩
end Go.Qz
