/- The evaluator of the claim and what it says, part Qa2 (several texts in one). -/
import Derived.Test.YtikdjbagodebiaaQa1
/- The evaluator Qz: calm operations come to the same wherever what they look at is the same. -/
namespace Go.Qz

variable {ds : List Nat} {e1 e2 : Env} {ts : List Nat}

theorem Agree.quiet (h : Agree ds e1 e2 ts) {P : Program} {io : FuncId → List Nat} {call : CallF} {f : FuncId} {caps : List Cap} {args : List Operand} {tys : List TypeId} (hx : ∀ x ∈ args, ∀ t, x = .tmp t → t ∈ ts) :
    quietV P io call e1 f caps args tys = quietV P io call e2 f caps args tys := by
  have hz : ∀ p ∈ args.zip tys, ∀ t, p.1 = .tmp t → t ∈ ts := fun p hp t e => hx p.1 (List.of_mem_zip hp).1 t e
  unfold quietV
  rw [h.operands hz]
  cases hv : operandsV P e2 (args.zip tys) with
  | none => rfl
  | some vs =>
    have hcl := h.operandsClean hz (by rw [h.operands hz]; exact hv)
    have hl : ∀ p ∈ vs.zip (args.map tmpOf) ++ capArgs caps, p.1.clean ds = true := by
      intro p hp
      rcases List.mem_append.1 hp with hp | hp
      · exact hcl _ (List.of_mem_zip hp).1
      · simp only [capArgs, List.mem_map] at hp
        obtain ⟨c, _, rfl⟩ := hp
        cases c <;> rfl
    dsimp only
    rw [h.lend hl]

theorem Agree.part (h : Agree ds e1 e2 ts) {P : Program} {ty : TypeId} {x : Operand} (hx : ∀ t, x = .tmp t → t ∈ ts) : partRo P ty e1 x = partRo P ty e2 x := by
  cases x with
  | tmp t => simp only [partRo, h.tmp t (hx t rfl)]
  | _ => rfl
theorem Agree.parts (h : Agree ds e1 e2 ts) {P : Program} {ty : TypeId} : ∀ {l : List Operand}, (∀ x ∈ l, ∀ t, x = .tmp t → t ∈ ts) → partsRo P ty e1 l = partsRo P ty e2 l
  | [], _ => rfl
  | x :: r, hx => by
    simp only [partsRo, h.part (hx x (by simp)), Agree.parts h (l := r) (fun y hy => hx y (by simp [hy]))]
theorem Agree.loose (h : Agree ds e1 e2 ts) {x : Operand} (hx : ∀ t, x = .tmp t → t ∈ ts) : looseOp e1 x = looseOp e2 x := by
  cases x with
  | tmp t => simp only [looseOp, locOf, h.tmp t (hx t rfl)]
  | _ => rfl

theorem Agree.move (h : Agree ds e1 e2 ts) {P : Program} {ty : TypeId} {x : Operand} (hx : ∀ t, x = .tmp t → t ∈ ts) : calmMove P e1 ty x = calmMove P e2 ty x := by
  cases x with
  | tmp t => simp only [calmMove, h.tmp t (hx t rfl)]
  | _ => rfl

theorem Agree.calm (h : Agree ds e1 e2 ts) {P : Program} {io : FuncId → List Nat} {call : CallF} {ty : TypeId} {op : Op} (hx : ∀ t ∈ opTmps op, t ∈ ts) : calmV P io call ds e1 ty op = calmV P io call ds e2 ty op := by
  have hp := h.pure (P := P) (ty := ty) hx
  cases op with
  | move x => exact h.move (fun t e => hx t (by simp [opTmps, Op.operands, e]))
  | assign x => exact h.move (fun t e => hx t (by simp [opTmps, Op.operands, e]))
  | extract x i =>
    cases x with
    | tmp t => simp only [calmV, calmEx, h.tmp t (hx t (by simp [opTmps, Op.operands]))]
    | _ => rfl
  | slice s x lo hi mx =>
    cases mx with
    | some m => rfl
    | none =>
      simp only [calmV]
      have h1 : ∀ t, x = .tmp t → t ∈ ts := fun t e => hx t (by subst e; cases lo <;> cases hi <;> simp [opTmps, Op.operands])
      have h2 : ∀ t, lo = some (.tmp t) → t ∈ ts := fun t e => hx t (by subst e; cases hi <;> simp [opTmps, Op.operands])
      have h3 : ∀ t, hi = some (.tmp t) → t ∈ ts := fun t e => hx t (by subst e; cases lo <;> simp [opTmps, Op.operands])
      have h4 : pviewOf e1 x = pviewOf e2 x := by
        cases x with
        | tmp t => simp only [pviewOf, h.tmp t (h1 t rfl)]
        | _ => rfl
      have h5 : ∀ pl, evPview P e1 s x lo hi pl = evPview P e2 s x lo hi pl := fun pl => by
        unfold evPview
        rw [h.rd h1, h.rdO h2, h.rdO h3]
      rw [h.loose h1, h.rd h1, h.rdO h2, h.rdO h3, h4]
      simp only [h5]
  | buildSlice s n parts =>
    have hps : ∀ el, partsRo P el e1 (parts.toList.map (·.2)) = partsRo P el e2 (parts.toList.map (·.2)) := fun el => h.parts (fun x hm t e => hx t (by
      simp only [opTmps, Op.operands, List.mem_filterMap]
      refine ⟨.tmp t, ?_, rfl⟩
      rw [← e]
      simpa using hm))
    simp only [calmV, hps]
  | convert s d x =>
    simp only [calmV]
    rw [h.rd (x := x) (fun t e => hx t (by simp [opTmps, Op.operands, e])), hp]
  | call c =>
    obtain ⟨callee, args, argTypes⟩ := c
    have harg : ∀ x ∈ args.toList, ∀ t, x = .tmp t → t ∈ ts := fun x hm t e => hx t (by
      simp only [opTmps, Op.operands, Call.operands, List.mem_filterMap]
      refine ⟨.tmp t, ?_, rfl⟩
      rw [← e]
      simp only [Array.toList_append, List.mem_append]
      exact .inr hm)
    cases callee with
    | builtin b =>
      cases b with
      | append =>
        simp only [calmV]
        split
        · rename_i x y s u ha _
          unfold calmAppend
          rw [h.tmp x (harg _ (by rw [ha]; simp) x rfl), h.rd (x := y) (harg y (by rw [ha]; simp))]
        · rfl
      | _ => simp only [calmV, hp]
    | value f =>
      simp only [calmV]
      rw [h.operand (x := f) (fun t e => hx t (by simp [opTmps, Op.operands, Call.operands, e]))]
      split
      · rw [h.quiet harg]
      · rfl
    | invoke r m => rfl
  | binOp a b c d e' => simp only [calmV, hp]
  | unOp a b c => simp only [calmV, hp]
  | pick a b c => simp only [calmV, hp]
  | nilCheck a => simp only [calmV, hp]
  | fieldAddr a b c => simp only [calmV, hp]
  | indexAddr a b c => simp only [calmV, hp]
  | index a b c => simp only [calmV, hp]
  | field a b c => simp only [calmV, hp]
  | load a b => simp only [calmV, hp]
  | makeInterface a b => simp only [calmV, hp]
  | _ => rfl

theorem guard_calm (h : Agree ds e1 e2 ts) (t : Nat) (ht : t ∈ ts) : e1.get t = e2.get t := h.tmp t ht
end Go.Qz
