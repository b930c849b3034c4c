import Derived.Test.YtcadiohekccmiaaGreatDoorQl0
import Derived.Test.YtcadiohekccmiaaGreatDoorQb3
namespace Go.Qz
def CallLe (c c' : CallF) : Prop := ∀ f as bx r, c f as bx = some r → c' f as bx = some r
structure Chain (c : Nat → CallF) (C : CallF) : Prop where
 mono : ∀ n m, n ≤ m → CallLe (c n) (c m)
 lim : ∀ f as bx r, C f as bx = some r → ∃ n, c n f as bx = some r
 le : ∀ n, CallLe (c n) C
section
variable {P : Program} {io : FuncId → List Nat}
theorem evCall1_mono {c c' : CallF} (h : CallLe c c') {e : Env} {f : FuncId} {caps : List Cap} {args : List Operand} {tys : List TypeId} {x : V × Env} (hx : evCall1 P io c e f caps args tys = some x) : evCall1 P io c' e f caps args tys = some x := by
 unfold evCall1 at hx ⊢
 split at hx
 ·rename_i as m bx hp
  split at hx
  ·rename_i r bx' hc
   simp only [h _ _ _ _ hc]
   exact hx
  ·cases hx
 ·cases hx
theorem evCall_mono {c c' : CallF} (h : CallLe c c') {e : Env} {f : FuncId} {caps : List Cap} {args : List Operand} {tys : List TypeId} {x : V × Env} (hx : evCall P io c e f caps args tys = some x) : evCall P io c' e f caps args tys = some x := by
 unfold evCall at hx ⊢
 split at hx
 ·rename_i as m bx hp
  split at hx
  ·rename_i r bx' hc
   simp only [h _ _ _ _ hc]
   split at hx
   ·rename_i hok
    rw [if_pos hok]
    exact hx
   ·rename_i hok
    rw [if_neg hok]
    exact evCall1_mono h hx
  ·cases hx
 ·exact evCall1_mono h hx
theorem evCall1_lim {c : Nat → CallF} {C : CallF} (H : Chain c C) {e : Env} {f : FuncId} {caps : List Cap} {args : List Operand} {tys : List TypeId} {x : V × Env} (hx : evCall1 P io C e f caps args tys = some x) : ∃ n, evCall1 P io (c n) e f caps args tys = some x := by
 unfold evCall1 at hx ⊢
 split at hx
 ·rename_i as m bx hp
  split at hx
  ·rename_i r bx' hc
   obtain ⟨n, hn⟩ := H.lim _ _ _ _ hc
   refine ⟨n, ?_⟩
   simp only [hn]
   exact hx
  ·cases hx
 ·cases hx
theorem evCall_lim {c : Nat → CallF} {C : CallF} (H : Chain c C) {e : Env} {f : FuncId} {caps : List Cap} {args : List Operand} {tys : List TypeId} {x : V × Env} (hx : evCall P io C e f caps args tys = some x) : ∃ n, evCall P io (c n) e f caps args tys = some x := by
 unfold evCall at hx ⊢
 split at hx
 ·rename_i as m bx hp
  split at hx
  ·rename_i r bx' hc
   obtain ⟨n, hn⟩ := H.lim _ _ _ _ hc
   split at hx
   ·rename_i hok
    refine ⟨n, ?_⟩
    simp only [hn]
    rw [if_pos hok]
    exact hx
   ·rename_i hok
    obtain ⟨m', hm⟩ := evCall1_lim H hx
    refine ⟨max n m', ?_⟩
    simp only [H.mono n _ (Nat.le_max_left _ _) _ _ _ _ hn]
    rw [if_neg hok]
    exact evCall1_mono (H.mono m' _ (Nat.le_max_right _ _)) hm
  ·cases hx
 ·exact evCall1_lim H hx
theorem evOp_same {c c' : CallF} {e : Env} {o : Oper} (h : Op.callsValue o.op = false) : evOp P io c e o = evOp P io c' e o := by
 obtain ⟨d, op, ty, p, af, gd⟩ := o
 cases op with
 | call k =>
   obtain ⟨callee, args, argTypes⟩ := k
   cases callee with
   | value f => cases h
   | builtin b => cases b <;> rfl
   | invoke r m => rfl
 | store t a x => cases a <;> rfl
 | makeFunc fn a b => cases fn <;> rfl
 | extract t i => cases t <;> rfl
 | _ => rfl
theorem coldRes_some {dst : Option Nat} {x : Option (V × Env)} {e' : Env} (h : coldRes dst x = some e') : ∃ y, x = some y := by
 cases x with
 | none => cases h
 | some y => exact ⟨y, rfl⟩
theorem evOpen_mono {c c' : CallF} (h : CallLe c c') {e e' : Env} {f : FuncId} {caps : List Cap} {args : List Operand} {tys : List TypeId} {dst : Option Nat} (hx : evOpen P io c e f caps args tys dst = some e') : evOpen P io c' e f caps args tys dst = some e' := by
 unfold evOpen at hx ⊢
 split at hx
 ·rename_i as hp
  split at hx
  ·rename_i cs hc
   simp only [h _ _ _ _ hc]
   exact hx
  ·rename_i d hc
   simp only [h _ _ _ _ hc]
   obtain ⟨y, hy⟩ := coldRes_some hx
   rw [hy] at hx
   rw [evCall1_mono h hy]
   exact hx
  ·cases hx
 ·cases hx
theorem evOpen_lim {c : Nat → CallF} {C : CallF} (H : Chain c C) {e e' : Env} {f : FuncId} {caps : List Cap} {args : List Operand} {tys : List TypeId} {dst : Option Nat} (hx : evOpen P io C e f caps args tys dst = some e') : ∃ n, evOpen P io (c n) e f caps args tys dst = some e' := by
 unfold evOpen at hx
 split at hx
 ·rename_i as hp
  split at hx
  ·rename_i cs hc
   obtain ⟨n, hn⟩ := H.lim _ _ _ _ hc
   refine ⟨n, ?_⟩
   unfold evOpen
   rw [hp]
   simp only [hn]
   exact hx
  ·rename_i d hc
   obtain ⟨n, hn⟩ := H.lim _ _ _ _ hc
   obtain ⟨y, hy⟩ := coldRes_some hx
   obtain ⟨m', hm⟩ := evCall1_lim H hy
   rw [hy] at hx
   refine ⟨max n m', ?_⟩
   unfold evOpen
   rw [hp]
   simp only [H.mono n _ (Nat.le_max_left _ _) _ _ _ _ hn]
   rw [evCall1_mono (H.mono m' _ (Nat.le_max_right _ _)) hm]
   exact hx
  ·cases hx
 ·cases hx
theorem evOp_mono {c c' : CallF} (h : CallLe c c') {e e' : Env} {o : Oper} (hx : evOp P io c e o = some e') : evOp P io c' e o = some e' := by
 cases hv : Op.callsValue o.op with
 | false => rw [← evOp_same hv (c := c)]; exact hx
 | true =>
   obtain ⟨d, op, ty, p, af, gd⟩ := o
   cases op with
   | call k =>
     obtain ⟨callee, args, argTypes⟩ := k
     cases callee with
     | value f =>
       simp only [evOp] at hx ⊢
       split at hx
       ·rename_i g caps hg
        split at hx
        ·rename_i hop
         rw [if_pos hop]
         exact evOpen_mono h hx
        ·rename_i hop
         rw [if_neg hop]
         split at hx
         ·rename_i v e1 hc
          simp only [evCall_mono h hc]
          exact hx
         ·cases hx
       ·cases hx
     | _ => cases hv
   | _ => cases hv
theorem evOp_lim {c : Nat → CallF} {C : CallF} (H : Chain c C) {e e' : Env} {o : Oper} (hx : evOp P io C e o = some e') : ∃ n, evOp P io (c n) e o = some e' := by
 cases hv : Op.callsValue o.op with
 | false => exact ⟨0, by rw [evOp_same hv (c' := C)]; exact hx⟩
 | true =>
   obtain ⟨d, op, ty, p, af, gd⟩ := o
   cases op with
   | call k =>
     obtain ⟨callee, args, argTypes⟩ := k
     cases callee with
     | value f =>
       simp only [evOp] at hx ⊢
       split at hx
       ·rename_i g caps hg
        split at hx
        ·rename_i hop
         obtain ⟨n, hn⟩ := evOpen_lim H hx
         exact ⟨n, by rw [if_pos hop]; exact hn⟩
        ·rename_i hop
         split at hx
         ·rename_i v e1 hc
          obtain ⟨n, hn⟩ := evCall_lim H hc
          refine ⟨n, ?_⟩
          rw [if_neg hop]
          simp only [hn]
          exact hx
         ·cases hx
       ·cases hx
     | _ => cases hv
   | _ => cases hv
theorem stepQ_mono {c c' : CallF} (h : CallLe c c') {q : QOp} {e e' : Env} (hx : stepQ P io c q e = some e') : stepQ P io c' q e = some e' := by
 unfold stepQ at hx ⊢
 split at hx
 ·rename_i hg; exact evOp_mono h hx
 ·exact hx
 ·cases hx
theorem stepQ_lim {c : Nat → CallF} {C : CallF} (H : Chain c C) {q : QOp} {e e' : Env} (hx : stepQ P io C q e = some e') : ∃ n, stepQ P io (c n) q e = some e' := by
 unfold stepQ at hx ⊢
 split at hx
 ·exact evOp_lim H hx
 ·exact ⟨0, hx⟩
 ·cases hx
theorem evL_mono {c c' : CallF} (h : CallLe c c') : ∀ {l : List QOp} {e e' : Env}, evL P io c l e = some e' → evL P io c' l e = some e'
 | [], _, _, hx => hx
 | q :: r, e, e', hx => by
   simp only [evL, Option.then_] at hx ⊢
   split at hx
   ·rename_i e1 h1
    rw [stepQ_mono h h1]
    exact evL_mono h hx
   ·cases hx
theorem evL_lim {c : Nat → CallF} {C : CallF} (H : Chain c C) : ∀ {l : List QOp} {e e' : Env}, evL P io C l e = some e' → ∃ n, evL P io (c n) l e = some e'
 | [], _, _, hx => ⟨0, hx⟩
 | q :: r, e, e', hx => by
   simp only [evL, Option.then_] at hx ⊢
   split at hx
   ·rename_i e1 h1
    obtain ⟨n, hn⟩ := stepQ_lim H h1
    obtain ⟨m, hm⟩ := evL_lim H hx
    refine ⟨max n m, ?_⟩
    rw [stepQ_mono (H.mono n _ (Nat.le_max_left _ _)) hn]
    exact evL_mono (H.mono m _ (Nat.le_max_right _ _)) hm
   ·cases hx
theorem quietV_parts {c : CallF} {e : Env} {f : FuncId} {caps : List Cap} {args : List Operand} {tys : List TypeId} {x : V} (hx : quietV P io c e f caps args tys = some x) :
  args.length = tys.length ∧ ∃ vs, operandsV P e (args.zip tys) = some vs ∧ ∃ as m, lend e (io f) 0 (vs.zip (args.map tmpOf) ++ capArgs caps) = some (as, m) ∧ m.all Lent.isRead = true ∧ ∃ bx', c f as [] = some (x, bx') ∧ okRet m x bx' = true := by
 have hno := quietV_open hx
 unfold quietV at hx
 rw [hno] at hx
 simp only [Bool.false_eq_true, if_false] at hx
 split at hx
 ·rename_i h1
  split at hx
  ·rename_i vs h2
   split at hx
   ·rename_i as m h3
    split at hx
    ·rename_i h4
     split at hx
     ·rename_i r bx' h5
      split at hx
      ·rename_i h6
       obtain rfl := Option.some.inj hx
       exact ⟨h1, vs, h2, as, m, h3, h4, bx', h5, h6⟩
      ·cases hx
     ·cases hx
    ·cases hx
   ·cases hx
  ·cases hx
 ·cases hx
theorem quietV_mono {c c' : CallF} (h : CallLe c c') {e : Env} {f : FuncId} {caps : List Cap} {args : List Operand} {tys : List TypeId} {x : V} (hx : quietV P io c e f caps args tys = some x) : quietV P io c' e f caps args tys = some x := by
 obtain ⟨h1, vs, h2, as, m, h3, h4, bx', h5, h6⟩ := quietV_parts hx
 have hno := quietV_open hx
 unfold quietV
 simp only [hno, h1, h2, h3, h4, h _ _ _ _ h5, h6, if_true, Bool.false_eq_true, if_false]
theorem quietV_lim {c : Nat → CallF} {C : CallF} (H : Chain c C) {e : Env} {f : FuncId} {caps : List Cap} {args : List Operand} {tys : List TypeId} {x : V} (hx : quietV P io C e f caps args tys = some x) : ∃ n, quietV P io (c n) e f caps args tys = some x := by
 obtain ⟨h1, vs, h2, as, m, h3, h4, bx', h5, h6⟩ := quietV_parts hx
 obtain ⟨n, hn⟩ := H.lim _ _ _ _ h5
 have hno := quietV_open hx
 exact ⟨n, by unfold quietV; simp only [hno, h1, h2, h3, h4, hn, h6, if_true, Bool.false_eq_true, if_false]⟩
theorem calmV_same {c c' : CallF} {ds : List Nat} {e : Env} {ty : TypeId} {op : Op} (h : Op.callsValue op = false) : calmV P io c ds e ty op = calmV P io c' ds e ty op := by
 cases op with
 | call k =>
   obtain ⟨callee, args, argTypes⟩ := k
   cases callee with
   | value f => cases h
   | builtin b => cases b <;> rfl
   | invoke r m => rfl
 | _ => rfl
theorem calmV_mono {c c' : CallF} (h : CallLe c c') {ds : List Nat} {e : Env} {ty : TypeId} {op : Op} {x : V × Option Nat} (hx : calmV P io c ds e ty op = some x) : calmV P io c' ds e ty op = some x := by
 cases hv : Op.callsValue op with
 | false => rw [← calmV_same hv (c := c)]; exact hx
 | true =>
   cases op with
   | call k =>
     obtain ⟨callee, args, argTypes⟩ := k
     cases callee with
     | value f =>
       simp only [calmV] at hx ⊢
       split at hx
       ·rename_i g caps hg
        cases hq : quietV P io c e g caps args.toList argTypes.toList with
        | none => rw [hq] at hx; cases hx
        | some v => rw [quietV_mono h hq]; rw [hq] at hx; exact hx
       ·cases hx
     | _ => cases hv
   | _ => cases hv
theorem calmV_lim {c : Nat → CallF} {C : CallF} (H : Chain c C) {ds : List Nat} {e : Env} {ty : TypeId} {op : Op} {x : V × Option Nat} (hx : calmV P io C ds e ty op = some x) : ∃ n, calmV P io (c n) ds e ty op = some x := by
 cases hv : Op.callsValue op with
 | false => exact ⟨0, by rw [calmV_same hv (c' := C)]; exact hx⟩
 | true =>
   cases op with
   | call k =>
     obtain ⟨callee, args, argTypes⟩ := k
     cases callee with
     | value f =>
       simp only [calmV] at hx ⊢
       split at hx
       ·rename_i g caps hg
        cases hq : quietV P io C e g caps args.toList argTypes.toList with
        | none => rw [hq] at hx; cases hx
        | some v =>
          obtain ⟨n, hn⟩ := quietV_lim H hq
          exact ⟨n, by rw [hn]; rw [hq] at hx; exact hx⟩
       ·cases hx
     | _ => cases hv
   | _ => cases hv
theorem wr_parts {c : CallF} {ds : List Nat} {e : Env} {op : Op} {x : V × Nat × List A} (h : wrV P io c ds e op = some x) : (∃ g us bx r, c g us bx = some r ∧
  (∀ c' : CallF, c' g us bx = some r → wrV P io c' ds e op = some x) ∧ ∀ (c' : CallF) (ty : TypeId), calmV P io c' ds e ty op = none) ∨ ∀ c' : CallF, wrV P io c' ds e op = some x ∧ ∀ ty : TypeId, calmV P io c' ds e ty op = none := by
 unfold wrV at h
 split at h
 rotate_left
 ·exact .inr (fun c' => ⟨h, fun ty => rfl⟩)
 ·cases h
 ·rename_i k
  obtain ⟨callee, args, argTypes⟩ := k
  cases callee with
  | value f =>
    dsimp only at h
    split at h
    ·rename_i g hf
     split at h
     ·cases h
     ·rename_i hop
      split at h
      ·rename_i hlen
       split at h
       ·rename_i vs hvs
        split at h
        ·rename_i us n b' m hl
         split at h
         ·rename_i hc
          split at h
          ·rename_i cs0 hb
           split at h
           ·rename_i hpo
            split at h
            ·rename_i r bx' hcall
             refine .inl ⟨g, us, [(n, cs0)], (r, bx'), hcall, fun c' hc' => ?_, fun c' ty => ?_⟩
             ·unfold wrV
              dsimp only
              rw [hf]
              dsimp only
              rw [if_neg hop, if_pos hlen, hvs]
              dsimp only
              rw [hl]
              dsimp only
              rw [if_pos hc, hb]
              dsimp only
              rw [if_pos hpo, hc']
              exact h
             ·simp only [calmV, hf, calleeV_fn]
              have : quietV P io c' e g [] args.toList argTypes.toList = none := by
               unfold quietV
               rw [if_neg hop, if_pos hlen, hvs]
               dsimp only
               rw [show capArgs [] = [] from rfl, List.append_nil, hl]
               rfl
              rw [this]
              rfl
            ·cases h
           ·cases h
          ·cases h
         ·cases h
        ·cases h
       ·cases h
      ·cases h
    ·cases h
  | _ => cases h
theorem stpQ_calm {c : CallF} {ds : List Nat} {q : QOp} {e : Env} {v : V} {t : Option Nat} (hg : guardQ e q.g = some true) (hv : calmV P io c ds e q.ty q.op = some (v, t)) (hc : (iceR (noKeys ds) q.op v).clean ds = true) (hd : okDst e q.dst = true) (hf : freeB ds e q.op = true) : stpQ P io c ds q e = some ⟨q.dst, iceR (noKeys ds) q.op v, t, none⟩ := by
 unfold stpQ
 rw [hg, hv]
 simp only [stp1, hc, hd, hf]
 rfl
theorem stpQ_wr {c : CallF} {ds : List Nat} {q : QOp} {e : Env} {v : V} {b : Nat} {cs : List A} (hg : guardQ e q.g = some true) (hn : calmV P io c ds e q.ty q.op = none) (hw : wrV P io c ds e q.op = some (v, b, cs)) (hc : v.clean ds = true) (hd : okDst e q.dst = true) (hf : fitD q.dst q.op = true) : stpQ P io c ds q e = some ⟨q.dst, v, none, some (b, cs)⟩ := by
 unfold stpQ
 rw [hg, hn, hw]
 simp only [stp1, hc, hd, hf]
 rfl
theorem stpQ_idle {c c' : CallF} {ds : List Nat} {q : QOp} {e : Env} (hg : guardQ e q.g = some false) : stpQ P io c ds q e = stpQ P io c' ds q e := by
 unfold stpQ
 rw [hg]
theorem stpQ_mono {c c' : CallF} (h : CallLe c c') {ds : List Nat} {q : QOp} {e : Env} {s : Stp} (hx : stpQ P io c ds q e = some s) : stpQ P io c' ds q e = some s := by
 obtain ⟨h1, h2, h3, ⟨hg, _⟩ | ⟨hg, ⟨v, t, hv, hf, rfl⟩ | ⟨v, b, cs, _, hw, rfl, hfd⟩⟩⟩ := stpQ_cases hx
 ·rw [← stpQ_idle hg]; exact hx
 ·exact stpQ_calm hg (calmV_mono h hv) h3 h2 hf
 ·rcases wr_parts hw with ⟨g, us, bx, r, k1, k2, k3⟩ | k
  ·exact stpQ_wr hg (k3 _ _) (k2 _ (h _ _ _ _ k1)) h3 h2 hfd
  ·exact stpQ_wr hg ((k _).2 _) (k _).1 h3 h2 hfd
theorem stpQ_lim {c : Nat → CallF} {C : CallF} (H : Chain c C) {ds : List Nat} {q : QOp} {e : Env} {s : Stp} (hx : stpQ P io C ds q e = some s) : ∃ n, stpQ P io (c n) ds q e = some s := by
 obtain ⟨h1, h2, h3, ⟨hg, _⟩ | ⟨hg, ⟨v, t, hv, hf, rfl⟩ | ⟨v, b, cs, _, hw, rfl, hfd⟩⟩⟩ := stpQ_cases hx
 ·exact ⟨0, by rw [← stpQ_idle hg]; exact hx⟩
 ·obtain ⟨n, hn⟩ := calmV_lim H hv
  exact ⟨n, stpQ_calm hg hn h3 h2 hf⟩
 ·rcases wr_parts hw with ⟨g, us, bx, r, k1, k2, k3⟩ | k
  ·obtain ⟨n, hn⟩ := H.lim _ _ _ _ k1
   exact ⟨n, stpQ_wr hg (k3 _ _) (k2 _ hn) h3 h2 hfd⟩
  ·exact ⟨0, stpQ_wr hg ((k _).2 _) (k _).1 h3 h2 hfd⟩
theorem evH_mono {c c' : CallF} (h : CallLe c c') {ds : List Nat} : ∀ {l : List QOp} {e e' : Env}, evH P io c ds l e = some e' → evH P io c' ds l e = some e'
 | [], _, _, hx => hx
 | q :: r, e, e', hx => by
   simp only [evH, appO] at hx ⊢
   split at hx
   ·rename_i s h1
    rw [stpQ_mono h h1]
    exact evH_mono h hx
   ·cases hx
theorem evH_lim {c : Nat → CallF} {C : CallF} (H : Chain c C) {ds : List Nat} : ∀ {l : List QOp} {e e' : Env}, evH P io C ds l e = some e' → ∃ n, evH P io (c n) ds l e = some e'
 | [], _, _, hx => ⟨0, hx⟩
 | q :: r, e, e', hx => by
   simp only [evH, appO] at hx ⊢
   split at hx
   ·rename_i s h1
    obtain ⟨n, hn⟩ := stpQ_lim H h1
    obtain ⟨m, hm⟩ := evH_lim H hx
    refine ⟨max n m, ?_⟩
    rw [stpQ_mono (H.mono n _ (Nat.le_max_left _ _)) hn]
    exact evH_mono (H.mono m _ (Nat.le_max_right _ _)) hm
   ·cases hx
theorem loopLim_mono {f f' : Env → Res} (h : ∀ e r, f e = some r → f' e = some r) {e : Env} {r : Ex × Env} (hx : loopLim f e = some r) : loopLim f' e = some r := by
 obtain ⟨n, hn⟩ := loopLim_some hx
 have : ∀ (n : Nat) (e : Env), iter f n e = some r → iter f' n e = some r := by
  intro n
  induction n with
  | zero => intro e h; cases h
  | succ n ih =>
    intro e hi
    rw [iter] at hi ⊢
    cases hf : f e with
    | none => rw [hf] at hi; cases hi
    | some x =>
      obtain ⟨ex, e1⟩ := x
      rw [hf] at hi
      rw [h _ _ hf]
      cases ex with
      | n => exact ih e1 hi
      | x i => exact hi
      | r => exact hi
 exact loopLim_of (this n e hn)
theorem evRange_mono {fa fa' fb fb' : Env → Res} (ha : ∀ e r, fa e = some r → fa' e = some r) (hb : ∀ e r, fb e = some r → fb' e = some r) {ps : List Nat} {o i : Env} {r : Ex × Env} : ∀ {l : List ByteArray} {e : Env}, evRange fa fb ps o i l e = some r → evRange fa' fb' ps o i l e = some r
 | [], _, h => h
 | x :: l, e, h => by
   simp only [evRange] at h ⊢
   split at h
   ·rename_i e1 h1
    cases hfa : fa e1 with
    | none => rw [hfa] at h; cases h
    | some y =>
      rw [hfa] at h
      rw [ha _ _ hfa]
      obtain ⟨ex, e2⟩ := y
      cases ex with
      | n =>
        simp only at h ⊢
        cases hfb : fb e2 with
        | none => rw [hfb] at h; cases h
        | some z =>
          rw [hfb] at h
          rw [hb _ _ hfb]
          obtain ⟨ex2, e3⟩ := z
          cases ex2 with
          | n => exact evRange_mono ha hb (l := l) h
          | _ => exact h
      | _ => exact h
   ·cases h
theorem rangeQ_mono {fa fa' fb fb' : Env → Res} (ha : ∀ e r, fa e = some r → fa' e = some r) (hb : ∀ e r, fb e = some r → fb' e = some r) {ps : List Nat} {e : Env} {x : Option (FuncId × ByteArray × ByteArray)} {r : Ex × Env} (h : rangeQ io fa fb ps e x = some r) : rangeQ io fa' fb' ps e x = some r := by
 unfold rangeQ at h ⊢
 split at h
 ·split at h
  ·rename_i hc
   rw [if_pos hc]
   exact evRange_mono ha hb h
  ·cases h
 ·cases h
theorem rangeQ_lim {Fa Fb : Env → Res} {fa fb : Nat → Env → Res} (ma : ∀ n m, n ≤ m → ∀ e r, fa n e = some r → fa m e = some r) (mb : ∀ n m, n ≤ m → ∀ e r, fb n e = some r → fb m e = some r) (ha : ∀ e r, Fa e = some r → ∃ n, fa n e = some r) (hb : ∀ e r, Fb e = some r → ∃ n, fb n e = some r)
  {ps : List Nat} {e : Env} {x : Option (FuncId × ByteArray × ByteArray)} {r : Ex × Env} (h : rangeQ io Fa Fb ps e x = some r) : ∃ n, rangeQ io (fa n) (fb n) ps e x = some r := by
 have key : ∀ (o i : Env) (l : List ByteArray) (e : Env), evRange Fa Fb ps o i l e = some r → ∃ n, evRange (fa n) (fb n) ps o i l e = some r := by
  intro o i l
  induction l with
  | nil => exact fun e h => ⟨0, h⟩
  | cons x l ih =>
    intro e h
    simp only [evRange] at h
    split at h
    ·rename_i e1 h1
     cases hfa : Fa e1 with
     | none => rw [hfa] at h; cases h
     | some y =>
       rw [hfa] at h
       obtain ⟨n, hn⟩ := ha _ _ hfa
       obtain ⟨ex, e2⟩ := y
       cases ex with
       | n =>
         simp only at h
         cases hfb : Fb e2 with
         | none => rw [hfb] at h; cases h
         | some z =>
           rw [hfb] at h
           obtain ⟨m, hm⟩ := hb _ _ hfb
           obtain ⟨ex2, e3⟩ := z
           cases ex2 with
           | n =>
             obtain ⟨k, hk⟩ := ih _ h
             refine ⟨max n (max m k), ?_⟩
             simp only [evRange, h1, ma n _ (Nat.le_max_left _ _) _ _ hn, mb m (max n (max m k)) (by omega) _ _ hm]
             exact evRange_mono (ma k _ (by omega)) (mb k _ (by omega)) hk
           | x id =>
             refine ⟨max n m, ?_⟩
             simp only [evRange, h1, ma n _ (Nat.le_max_left _ _) _ _ hn, mb m _ (Nat.le_max_right _ _) _ _ hm]
             exact h
           | r =>
             refine ⟨max n m, ?_⟩
             simp only [evRange, h1, ma n _ (Nat.le_max_left _ _) _ _ hn, mb m _ (Nat.le_max_right _ _) _ _ hm]
             exact h
       | x id => cases h
       | r => cases h
    ·cases h
 unfold rangeQ at h ⊢
 split at h
 ·split at h
  ·rename_i hc
   obtain ⟨n, hn⟩ := key _ _ _ _ h
   refine ⟨n, ?_⟩
   rw [if_pos hc]
   exact hn
  ·cases h
 ·cases h
theorem evQ_mono {c c' : CallF} (h : CallLe c c') : ∀ {q : QCode} {e : Env} {r : Ex × Env}, evQ P io c loopLim q e = some r → evQ P io c' loopLim q e = some r
 | .skip, _, _, hx => hx
 | .ice _, _, _, hx => hx
 | .ops l, e, r, hx => by
   simp only [evQ, Option.then_] at hx ⊢
   split at hx
   ·rename_i e1 h1
    rw [evL_mono h h1]
    exact hx
   ·cases hx
 | .draw w hd tl, e, r, hx => by
   simp only [evQ, Option.then_] at hx ⊢
   split at hx
   ·rename_i e1 h1
    unfold drawL at h1 ⊢
    simp only [Option.then_] at h1 ⊢
    split at h1
    ·rename_i e2 h2
     rw [evH_mono h h2]
     simp only [evL_mono h h1]
     exact hx
    ·cases h1
   ·cases hx
 | .seq a b, e, r, hx => by
   simp only [evQ, Option.then_] at hx ⊢
   split at hx
   ·rename_i x h1
    rw [evQ_mono h h1]
    obtain ⟨ex, e1⟩ := x
    cases ex with
    | n => exact evQ_mono h (q := b) hx
    | _ => exact hx
   ·cases hx
 | .cond k a b, e, r, hx => by
   simp only [evQ] at hx ⊢
   split at hx
   ·split at hx
    ·rename_i ht; rw [if_pos ht]; exact evQ_mono h hx
    ·rename_i ht; rw [if_neg ht]; exact evQ_mono h hx
   ·cases hx
 | .block id a, e, r, hx => by
   simp only [evQ, Option.then_] at hx ⊢
   split at hx
   ·rename_i x h1
    rw [evQ_mono h h1]
    exact hx
   ·cases hx
 | .loop a, e, r, hx => loopLim_mono (fun e r h' => evQ_mono h h') hx
 | .exit id, _, _, hx => hx
 | .ret, _, _, hx => hx
 | .range t ps a b, e, r, hx => rangeQ_mono (fun e r h' => evQ_mono h h') (fun e r h' => evQ_mono h h') hx
theorem evQ_lim {c : Nat → CallF} {C : CallF} (H : Chain c C) : ∀ {q : QCode} {e : Env} {r : Ex × Env}, evQ P io C loopLim q e = some r → ∃ n, evQ P io (c n) loopLim q e = some r
 | .skip, _, _, hx => ⟨0, hx⟩
 | .ice _, _, _, hx => ⟨0, hx⟩
 | .ops l, e, r, hx => by
   simp only [evQ, Option.then_] at hx ⊢
   split at hx
   ·rename_i e1 h1
    obtain ⟨n, hn⟩ := evL_lim H h1
    exact ⟨n, by rw [hn]; exact hx⟩
   ·cases hx
 | .draw w hd tl, e, r, hx => by
   simp only [evQ, Option.then_] at hx ⊢
   split at hx
   ·rename_i e1 h1
    unfold drawL at h1 ⊢
    simp only [Option.then_] at h1 ⊢
    split at h1
    ·rename_i e2 h2
     obtain ⟨n, hn⟩ := evH_lim H h2
     obtain ⟨m, hm⟩ := evL_lim H h1
     refine ⟨max n m, ?_⟩
     rw [evH_mono (H.mono n _ (Nat.le_max_left _ _)) hn]
     simp only [evL_mono (H.mono m _ (Nat.le_max_right _ _)) hm]
     exact hx
    ·cases h1
   ·cases hx
 | .seq a b, e, r, hx => by
   simp only [evQ, Option.then_] at hx ⊢
   split at hx
   ·rename_i x h1
    obtain ⟨n, hn⟩ := evQ_lim H h1
    obtain ⟨ex, e1⟩ := x
    cases ex with
    | n =>
      obtain ⟨m, hm⟩ := evQ_lim H (q := b) hx
      refine ⟨max n m, ?_⟩
      rw [evQ_mono (H.mono n _ (Nat.le_max_left _ _)) hn]
      exact evQ_mono (H.mono m _ (Nat.le_max_right _ _)) hm
    | _ => exact ⟨n, by rw [hn]; exact hx⟩
   ·cases hx
 | .cond k a b, e, r, hx => by
   simp only [evQ] at hx ⊢
   split at hx
   ·split at hx
    ·rename_i ht
     obtain ⟨n, hn⟩ := evQ_lim H hx
     exact ⟨n, by rw [if_pos ht]; exact hn⟩
    ·rename_i ht
     obtain ⟨n, hn⟩ := evQ_lim H hx
     exact ⟨n, by rw [if_neg ht]; exact hn⟩
   ·cases hx
 | .block id a, e, r, hx => by
   simp only [evQ, Option.then_] at hx ⊢
   split at hx
   ·rename_i x h1
    obtain ⟨n, hn⟩ := evQ_lim H h1
    exact ⟨n, by rw [hn]; exact hx⟩
   ·cases hx
 | .loop a, e, r, hx => by
   simp only [evQ] at hx ⊢
   obtain ⟨k, hk⟩ := loopLim_some hx
   have : ∀ (k : Nat) (e : Env), iter (evQ P io C loopLim a) k e = some r → ∃ n, iter (evQ P io (c n) loopLim a) k e = some r := by
    intro k
    induction k with
    | zero => intro e h; cases h
    | succ k ih =>
      intro e hi
      rw [iter] at hi
      cases hf : evQ P io C loopLim a e with
      | none => rw [hf] at hi; cases hi
      | some x =>
        obtain ⟨ex, e1⟩ := x
        rw [hf] at hi
        obtain ⟨n, hn⟩ := evQ_lim H hf
        cases ex with
        | n =>
          obtain ⟨m, hm⟩ := ih e1 hi
          refine ⟨max n m, ?_⟩
          rw [iter, evQ_mono (H.mono n _ (Nat.le_max_left _ _)) hn]
          have up : ∀ (k : Nat) (e : Env), iter (evQ P io (c m) loopLim a) k e = some r → iter (evQ P io (c (max n m)) loopLim a) k e = some r := by
           intro k e h
           have := loopLim_mono (fun e r h' => evQ_mono (H.mono m _ (Nat.le_max_right n m)) h') (loopLim_of h)
           have gen : ∀ (k : Nat) (e : Env), iter (evQ P io (c m) loopLim a) k e = some r → iter (evQ P io (c (max n m)) loopLim a) k e = some r := by
            intro k
            induction k with
            | zero => intro e h; cases h
            | succ k ih2 =>
              intro e hi
              rw [iter] at hi ⊢
              cases hf : evQ P io (c m) loopLim a e with
              | none => rw [hf] at hi; cases hi
              | some x =>
                obtain ⟨ex, e1⟩ := x
                rw [hf] at hi
                rw [evQ_mono (H.mono m _ (Nat.le_max_right n m)) hf]
                cases ex with
                | n => exact ih2 e1 hi
                | _ => exact hi
           exact gen k e h
          exact up k e1 hm
        | x i => exact ⟨n, by rw [iter, hn]; exact hi⟩
        | r => exact ⟨n, by rw [iter, hn]; exact hi⟩
   obtain ⟨n, hn⟩ := this k e hk
   exact ⟨n, loopLim_of hn⟩
 | .exit id, _, _, hx => ⟨0, hx⟩
 | .ret, _, _, hx => ⟨0, hx⟩
 | .range t ps a b, e, r, hx => rangeQ_lim (fa := fun n => evQ P io (c n) loopLim a) (fb := fun n => evQ P io (c n) loopLim b) (fun n m hnm e r h' => evQ_mono (H.mono n m hnm) h') (fun n m hnm e r h' => evQ_mono (H.mono n m hnm) h') (fun e r h' => evQ_lim H h') (fun e r h' => evQ_lim H h') hx
theorem evBodyQ_mono {c c' : CallF} (h : CallLe c c') {q : QFn} {args : List A} {bx : Boxes} {r : V × Boxes} (hx : evBodyQ P io c loopLim q args bx = some r) : evBodyQ P io c' loopLim q args bx = some r := by
 unfold evBodyQ at hx ⊢
 simp only [Option.then_] at hx ⊢
 split at hx
 ·rename_i x h1
  rw [evQ_mono h h1]
  exact hx
 ·cases hx
theorem evBodyQ_lim {c : Nat → CallF} {C : CallF} (H : Chain c C) {q : QFn} {args : List A} {bx : Boxes} {r : V × Boxes} (hx : evBodyQ P io C loopLim q args bx = some r) : ∃ n, evBodyQ P io (c n) loopLim q args bx = some r := by
 unfold evBodyQ at hx ⊢
 simp only [Option.then_] at hx ⊢
 split at hx
 ·rename_i x h1
  obtain ⟨n, hn⟩ := evQ_lim H h1
  exact ⟨n, by rw [hn]; exact hx⟩
 ·cases hx
theorem evFQ_step (X : CallF) : ∀ n, CallLe (evFQ P io X loopLim n) (evFQ P io X loopLim (n + 1))
 | 0 => fun f as bx r h => by cases h
 | n + 1 => fun f as bx r h => by
   rw [evFQ] at h ⊢
   split at h
   ·exact h
   ·split at h
    ·split at h
     ·exact evBodyQ_mono (evFQ_step X n) h
     ·cases h
    ·cases h
theorem evFQ_mono (X : CallF) (n m : Nat) (h : n ≤ m) : CallLe (evFQ P io X loopLim n) (evFQ P io X loopLim m) := by
 induction h with
 | refl => exact fun _ _ _ _ h => h
 | step _ ih => exact fun f as bx r h => evFQ_step X _ f as bx r (ih f as bx r h)
end
noncomputable def callLim (P : Program) (io : FuncId → List Nat) (X : CallF) : CallF := fun f as bx => open Classical in if h : ∃ r, ∃ n, evFQ P io X loopLim n f as bx = some r then some h.choose else none
theorem chain (P : Program) (io : FuncId → List Nat) (X : CallF) : Chain (evFQ P io X loopLim) (callLim P io X) where
 mono := evFQ_mono X
 lim := fun f as bx r h => by
  unfold callLim at h
  split at h
  ·rename_i hex
   have := hex.choose_spec
   rwa [Option.some.inj h] at this
  ·cases h
 le := fun n f as bx r h => by
  unfold callLim
  have hex : ∃ r, ∃ n, evFQ P io X loopLim n f as bx = some r := ⟨r, n, h⟩
  rw [dif_pos hex]
  obtain ⟨m, hm⟩ := hex.choose_spec
  have h1 := evFQ_mono X m _ (Nat.le_max_left m n) _ _ _ _ hm
  have h2 := evFQ_mono X n _ (Nat.le_max_right m n) _ _ _ _ h
  rw [h1] at h2
  exact congrArg some (Option.some.inj h2)
theorem callLim_x {P : Program} {io : FuncId → List Nat} {X : CallF} {f : FuncId} {as : List A} {bx : Boxes} {r : V × Boxes} (h : X f as bx = some r) : callLim P io X f as bx = some r := by
 refine (chain P io X).le 1 f as bx r ?_
 rw [evFQ, h]
theorem callLim_body {P : Program} {io : FuncId → List Nat} {X : CallF} {f : FuncId} {as : List A} {bx : Boxes} {r : V × Boxes} {fn : Func} {q : QFn} (hf : P.funcs[f]? = some fn) (hq : convF fn = some q) (hX : X f as bx = none) (h : evBodyQ P io (callLim P io X) loopLim q as bx = some r) : callLim P io X f as bx = some r := by
 obtain ⟨n, hn⟩ := evBodyQ_lim (chain P io X) h
 refine (chain P io X).le (n + 1) f as bx r ?_
 rw [evFQ, hX]
 simp only [hf, hq]
 exact hn
theorem callLim_sound [Base] {P : Program} {io : FuncId → List Nat} {X : CallF} (hm : P.follows .mixedOrders = true) (hX : CallSound P X) (hseq : SeqOk P io) (hname : ∀ (f : FuncId) (fn : Func), P.funcs[f]? = some fn → fn.name ≠ "runtime.NumGoroutine") : CallSound P (callLim P io X) := fun f as bx r bx' h => by
 obtain ⟨n, hn⟩ := (chain P io X).lim f as bx _ h
 exact evFQ_sim hm hX (fun f e r h => loopLim_some h) hseq hname n f as bx r bx' hn
theorem loopLim_eq (f : Env → Res) (e : Env) : loopLim f e = match f e with
  | some (.n, e') => loopLim f e'
  | r => r := by
 cases hf : f e with
 | none =>
   cases h : loopLim f e with
   | none => rfl
   | some r =>
     obtain ⟨n, hn⟩ := loopLim_some h
     cases n with
     | zero => cases hn
     | succ n => rw [iter, hf] at hn; cases hn
 | some x =>
   obtain ⟨ex, e'⟩ := x
   cases ex with
   | n =>
     dsimp only
     cases h : loopLim f e' with
     | some r =>
       obtain ⟨n, hn⟩ := loopLim_some h
       exact loopLim_of (n := n + 1) (by rw [iter, hf]; exact hn)
     | none =>
       cases h' : loopLim f e with
       | none => rfl
       | some r =>
         obtain ⟨n, hn⟩ := loopLim_some h'
         cases n with
         | zero => cases hn
         | succ n =>
           rw [iter, hf] at hn
           rw [loopLim_of hn] at h
           cases h
   | x i => exact loopLim_of (n := 1) (by rw [iter, hf])
   | r => exact loopLim_of (n := 1) (by rw [iter, hf])
end Go.Qz
namespace Go.Qz
variable {P : Program}
theorem Next.of_box {g g' : G} {e1 e2 e' : Env} {w w' : World} (hb : e1.boxes = e2.boxes) (h : Next g e1 w g' e' w') : Next g e2 w g' e' w' := by
 have hm : ∀ x, Mine g e1 x ↔ Mine g e2 x := fun x => by simp only [Mine, Env.box, hb]
 exact ⟨h.os, h.tape, h.output, h.size, fun x hx hn => h.old x hx (fun hc => hn ((hm x).1 hc)), fun x hx => (h.mine x hx).imp (hm x).1 id, h.c, fun b o v hv => (h.cnew b o v hv).imp id (fun hq => hq.imp (hm b).1 id), h.lent⟩
theorem FnPost.of_box [Base] {g g' : G} {e1 e2 : Env} {w w' : World} {r : V} {bx : Boxes} {v : Value} {Y : Nat → Blk} (hb : e1.boxes = e2.boxes) (h : FnPost g e1 w r bx v w' g' Y) : FnPost g e2 w r bx v w' g' Y := by
 have hm : ∀ x, Mine g e1 x ↔ Mine g e2 x := fun x => by simp only [Mine, Env.box, hb]
 exact ⟨h.sim, h.hold, h.free, h.next.of_box hb, fun k x hx => (h.mine k x hx).imp (hm x).1 id⟩
theorem startEnv_set [Base] {g : G} {w : World} {vs : Array Value} {ds : List D} {k : Nat} {d' : D} (hlt : k < ds.length) (hs : Sim g (startEnv ds.length (ds.map .ro) []) vs w) (hr : RO g.c d' (vs.getD k undef)) :
  Sim g (startEnv ds.length ((ds.set k d').map .ro) []) vs w where
 size := hs.size
 tv := fun t => by
  have ht := hs.tv t
  show RepV _ _ _ _ t (match ((ds.set k d').map A.ro)[t]? with | some a => .one a | none => .undef) _
  by_cases htk : t = k
  ·subst htk
   rw [List.getElem?_map, List.getElem?_set_self hlt]
   exact hr
  ·rw [List.getElem?_map, List.getElem?_set_ne (fun h => htk h.symm)]
   have ht' : RepV g (startEnv ds.length (ds.map .ro) []) vs w t (match (ds.map A.ro)[t]? with | some a => .one a | none => .undef) (vs.getD t undef) := ht
   rw [List.getElem?_map] at ht'
   cases hq : ds[t]? with
   | some d => rw [hq] at ht'; exact ht'
   | none => rw [hq] at ht'; exact ht'
 bx := fun b cs hcs => by cases hcs
 binj := fun b b' hb => by cases hb
 sdis := hs.sdis
 sbox := fun s b x _ hb => by cases hb
 slt := hs.slt
 cmem := hs.cmem
 base := hs.base
 fix := hs.fix
 cdis := fun b o v hv => ⟨(hs.cdis b o v hv).1, fun id hid => by cases hid⟩
theorem Post.of_box [Base] {g : G} {e1 e2 : Env} {w w' : World} {r : V} {bx : Boxes} {v : Value} (hb : e1.boxes = e2.boxes) (h : Post g e1 w r bx v w') : Post g e2 w r bx v w' := by
 cases r with
 | one a => obtain ⟨g', Y, hp⟩ := h; exact ⟨g', Y, hp.of_box hb⟩
 | tup as => obtain ⟨g', Y, hp⟩ := h; exact ⟨g', Y, hp.of_box hb⟩
 | agg as => exact h
theorem empties [Base] {call : CallF} (hcs : CallSound P call) {f : FuncId} {r : V} {z k : Nat} {ds : List D} (hk : ds[k]? = some (.sl z [])) (h1 : call f ((ds.set k .snil).map .ro) [] = some (r, [])) (h2 : call f ((ds.set k .sne).map .ro) [] = some (r, [])) :
  (∃ fn, P.funcs[f]? = some fn ∧ fn.body.isSome = true ∧ fn.name ≠ "runtime.NumGoroutine") ∧
  ∀ (g : G) (w : World) (vs : Array Value), vs.size = (ds.map A.ro).length → Sim g (startEnv (ds.map A.ro).length (ds.map .ro) []) vs w →
    Calls P f vs w (fun en w' => ∃ v, en = .returned v ∧ Post g (startEnv (ds.map A.ro).length (ds.map .ro) []) w r [] v w') := by
 obtain ⟨hfn, c1⟩ := hcs _ _ _ _ _ h1
 obtain ⟨_, c2⟩ := hcs _ _ _ _ _ h2
 refine ⟨hfn, fun g w vs hsz hs => ?_⟩
 have hlt : k < ds.length := (List.getElem?_eq_some_iff.1 hk).1
 have hro : RO g.c (.sl z []) (vs.getD k undef) := by
  have ht := hs.tv k
  have ht' : RepV g (startEnv (ds.map A.ro).length (ds.map .ro) []) vs w k (match (ds.map A.ro)[k]? with | some a => .one a | none => .undef) (vs.getD k undef) := ht
  rw [List.getElem?_map, hk] at ht'
  exact ht'
 rw [List.length_map] at hs
 have key : ∀ (d' : D), RO g.c d' (vs.getD k undef) → (∀ (g : G) (w : World) (vs : Array Value), vs.size = ((ds.set k d').map A.ro).length → Sim g (startEnv ((ds.set k d').map A.ro).length ((ds.set k d').map .ro) []) vs w →
   Calls P f vs w (fun en w' => ∃ v, en = .returned v ∧ Post g (startEnv ((ds.set k d').map A.ro).length ((ds.set k d').map .ro) []) w r [] v w')) →
   Calls P f vs w (fun en w' => ∃ v, en = .returned v ∧ Post g (startEnv (ds.map A.ro).length (ds.map .ro) []) w r [] v w') := by
  intro d' hr hc
  have hl : ((ds.set k d').map A.ro).length = ds.length := by simp
  refine (hc g w vs (by simpa using hsz) (by rw [hl]; exact startEnv_set hlt hs hr)).mono ?_
  rintro en w' ⟨v, rfl, hp⟩
  exact ⟨v, rfl, hp.of_box (by rfl)⟩
 have hcase : RO g.c .snil (vs.getD k undef) ∨ RO g.c .sne (vs.getD k undef) := by
  generalize vs.getD k undef = v at hro
  cases hro with
  | @sl0 _ a cap =>
    cases a with
    | none => exact .inl .snil
    | some p => exact .inr .sne
  | @sl _ _ b off cap u _ _ _ _ => exact .inr .sne
 rcases hcase with hr | hr
 ·exact key _ hr c1
 ·exact key _ hr c2
end Go.Qz
