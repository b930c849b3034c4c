import Derived.Test.YtcadiohekccmiaaGreatDoorQm1
import Derived.Test.YtcadiohekccmiaaGreatDoorQc0
namespace Go.Qz
structure Ctx where
 P : Program
 io : FuncId → List Nat
 call : zal
inductive Fr where
 | seq (b : zab)
 | blk (id : Nat)
 | loop (a : zab)
 | fn (res : List (ResultVar × TypeId)) (bx : zaq)
 | asg (b : zab)
 | rnd (o i : Env) (ps : List Nat) (a b : zab) (r : List ByteArray)
section
variable (c : Ctx)
noncomputable def cont : List Fr → Res → Option (V × zaq)
 | [],_ => none
 | .seq b :: ks,x => cont ks (x.then_ (zko (evQ c.P c.io c.call zap b)))
 | .blk id :: ks,x => cont ks (x.then_ (zgk id))
 | .loop a :: ks,x => cont ks (match x with | some (.n,e) => zap (evQ c.P c.io c.call zap a) e | r => r)
 | .fn res bx :: _,x => x.then_ (z77 c.P res bx)
 | .asg b :: ks,x => cont ks (match x with
   | some (.n,e) => evQ c.P c.io c.call zap b e
   | _ => none)
 | .rnd o i ps a b r :: ks,x => cont ks (match x with
   | some (.n,e) => zb6 (evQ c.P c.io c.call zap a) (evQ c.P c.io c.call zap b) ps o i r (i.again e)
   | some (ex,e) => some (ex,o.leave (i.again e))
   | none => none)
noncomputable def Run (q : zab) (e : Env) (ks : List Fr) : Option (V × zaq) := cont c ks (evQ c.P c.io c.call zap q e)
noncomputable def Kk (ks : List Fr) (ex : Ex) (e : Env) : Option (V × zaq) := cont c ks (some (ex,e))
noncomputable def RunL (l : List QOp) (e : Env) (ks : List Fr) : Option (V × zaq) := cont c ks ((evL c.P c.io c.call l e).then_ znb)
noncomputable def RunS (l : List QOp) (ks : List Fr) (x : Option Env) : Option (V × zaq) := cont c ks ((x.then_ (evL c.P c.io c.call l)).then_ znb)
noncomputable def RunH (ds : List Nat) (h t : List QOp) (e : Env) (ks : List Fr) : Option (V × zaq) := cont c ks (((evH c.P c.io c.call ds h e).then_ (evL c.P c.io c.call t)).then_ znb)
noncomputable def RunT (ds : List Nat) (h t : List QOp) (ks : List Fr) (e : Env) (s : Option Stp) : Option (V × zaq) := cont c ks (((appO (evH c.P c.io c.call ds h) e s).then_ (evL c.P c.io c.call t)).then_ znb)
@[simp] theorem ya4 (e : Env) (ks : List Fr) : Run c .skip e ks = Kk c ks .n e := (rfl)
@[simp] theorem ya5 (e : Env) : iceE e [] = e := (rfl)
@[simp] theorem z78 (e : Env) (y : Nat) (r : List Nat) : iceE e (y :: r) = iceE (iceV e y (e.get y)) r := (rfl)
@[simp] theorem yc5 (e : Env) (y : Nat) (d : D) : iceV e y (.one (.ro d)) = e := (rfl)
@[simp] theorem yc6 (l : List Nat) (e : Env) (ks : List Fr) : Run c (.ice l) e ks = Kk c ks .n (iceE e l) := (rfl)
@[simp] theorem yc7 (l : List QOp) (e : Env) (ks : List Fr) : Run c (.ops l) e ks = RunL c l e ks := (rfl)
noncomputable def RunD (h t : List QOp) (e : Env) (ks : List Fr) (bs : List Nat) : Option (V × zaq) := RunH c (bs.map zbe ++ zc3 h) h t ((znt e bs).clear (zc3 h)) ks
@[simp] theorem ya6 (w : List Nat) (h t : List QOp) (e : Env) (ks : List Fr) : Run c (.draw w h t) e ks = RunD c h t e ks (wrBs e w) := (rfl)
@[simp] theorem ya7 (h t : List QOp) (e : Env) (ks : List Fr) : RunD c h t e ks [] = RunH c (zc3 h) h t (e.clear (zc3 h)) ks := (rfl)
@[simp] theorem yc8 (a b : zab) (e : Env) (ks : List Fr) : Run c (.seq a b) e ks = Run c a e (.seq b :: ks) := (rfl)
noncomputable def RunC (a b : zab) (e : Env) (ks : List Fr) (x : Option D) : Option (V × zaq) := cont c ks (match x with
 | some (.bool t) => if t then evQ c.P c.io c.call zap a e else evQ c.P c.io c.call zap b e
 | _ => none)
@[simp] theorem ya8 (x : Operand) (a b : zab) (e : Env) (ks : List Fr) : Run c (.cond x a b) e ks = RunC c a b e ks (rd c.P e 0 x) := (rfl)
@[simp] theorem z79 (a b : zab) (e : Env) (ks : List Fr) (t : Bool) : RunC c a b e ks (some (.bool t)) = if t then Run c a e ks else Run c b e ks := by cases t <;> rfl
@[simp] theorem z8a (id : Nat) (a : zab) (e : Env) (ks : List Fr) : Run c (.block id a) e ks = Run c a e (.blk id :: ks) := (rfl)
@[simp] theorem ya9 (id : Nat) (e : Env) (ks : List Fr) : Run c (.exit id) e ks = Kk c ks (.x id) e := (rfl)
@[simp] theorem yc9 (e : Env) (ks : List Fr) : Run c .ret e ks = Kk c ks .r e := (rfl)
theorem zvp (a : zab) (e : Env) (ks : List Fr) : Run c (.loop a) e ks = Run c a e (.loop a :: ks) := by
 unfold Run
 simp only [evQ,cont]
 rw [zw8]
 cases evQ c.P c.io c.call zap a e with
 | none => rfl
 | some x =>
   obtain ⟨ex,e1⟩ := x
   cases ex <;> rfl
@[simp] theorem yda (b : zab) (ks : List Fr) (e : Env) : Kk c (.seq b :: ks) .n e = Run c b e ks := (rfl)
@[simp] theorem ydb (b : zab) (ks : List Fr) (i : Nat) (e : Env) : Kk c (.seq b :: ks) (.x i) e = Kk c ks (.x i) e := (rfl)
@[simp] theorem ydc (b : zab) (ks : List Fr) (e : Env) : Kk c (.seq b :: ks) .r e = Kk c ks .r e := (rfl)
@[simp] theorem ydd (i : Nat) (ks : List Fr) (e : Env) : Kk c (.blk i :: ks) .n e = Kk c ks .n e := (rfl)
@[simp] theorem yde (i j : Nat) (ks : List Fr) (e : Env) : Kk c (.blk i :: ks) (.x j) e = if j = i then Kk c ks .n e else Kk c ks (.x j) e := by
  show cont c ks (if j = i then some (.n,e) else some (.x j,e)) = _
  split <;> rfl
@[simp] theorem ydf (i : Nat) (ks : List Fr) (e : Env) : Kk c (.blk i :: ks) .r e = Kk c ks .r e := (rfl)
@[simp] theorem yba (a : zab) (ks : List Fr) (e : Env) : Kk c (.loop a :: ks) .n e = Run c (.loop a) e ks := (rfl)
@[simp] theorem ybb (a : zab) (ks : List Fr) (i : Nat) (e : Env) : Kk c (.loop a :: ks) (.x i) e = Kk c ks (.x i) e := (rfl)
@[simp] theorem ybc (a : zab) (ks : List Fr) (e : Env) : Kk c (.loop a :: ks) .r e = Kk c ks .r e := (rfl)
@[simp] theorem ylp (res : List (ResultVar × TypeId)) (bx : zaq) (ks : List Fr) (e : Env) : Kk c (.fn res bx :: ks) .n e = zg1 c.P res e bx := (rfl)
@[simp] theorem ylq (res : List (ResultVar × TypeId)) (bx : zaq) (ks : List Fr) (e : Env) : Kk c (.fn res bx :: ks) .r e = zg1 c.P res e bx := (rfl)
@[simp] theorem ybd (e : Env) (ks : List Fr) : RunL c [] e ks = Kk c ks .n e := (rfl)
@[simp] theorem z8b (q : QOp) (r : List QOp) (e : Env) (ks : List Fr) : RunL c (q :: r) e ks = RunS c r ks (zk9 c.P c.io c.call q e) := (rfl)
@[simp] theorem z8c (r : List QOp) (ks : List Fr) (e : Env) : RunS c r ks (some e) = RunL c r e ks := (rfl)
@[simp] theorem ybe (ds : List Nat) (t : List QOp) (e : Env) (ks : List Fr) : RunH c ds [] t e ks = RunL c t e ks := (rfl)
@[simp] theorem z8d (ds : List Nat) (q : QOp) (h t : List QOp) (e : Env) (ks : List Fr) : RunH c ds (q :: h) t e ks = RunT c ds h t ks e (stpQ c.P c.io c.call ds q e) := (rfl)
@[simp] theorem z8e (ds : List Nat) (h t : List QOp) (ks : List Fr) (e : Env) (s : Stp) : RunT c ds h t ks e (some s) = RunH c ds h t (s.app e) ks := (rfl)
noncomputable def RunG (ps : List Nat) (a b : zab) (e : Env) (ks : List Fr) (x : Option (FuncId × ByteArray × ByteArray)) : Option (V × zaq) := cont c ks (zgp c.io (evQ c.P c.io c.call zap a) (evQ c.P c.io c.call zap b) ps e x)
noncomputable def RunR (o i : Env) (ps : List Nat) (a b : zab) (r : List ByteArray) (e : Env) (ks : List Fr) : Option (V × zaq) := cont c ks (zb6 (evQ c.P c.io c.call zap a) (evQ c.P c.io c.call zap b) ps o i r e)
noncomputable def RunP (o i : Env) (ps : List Nat) (a b : zab) (r : List ByteArray) (ks : List Fr) : Option Env → Option (V × zaq)
 | some e => Run c a e (.asg b :: .rnd o i ps a b r :: ks)
 | none => cont c ks none
@[simp] theorem z8f (t : Nat) (ps : List Nat) (a b : zab) (e : Env) (ks : List Fr) : Run c (.range t ps a b) e ks = RunG c ps a b e ks (zs0 e t) := (rfl)
@[simp] theorem z8g (ps : List Nat) (a b : zab) (e : Env) (ks : List Fr) (f : FuncId) (s p : ByteArray) (h : (zlv c.io f && decide (p.size = 1) && decide (s.size ≤ 9223372036854775807)) = true) : RunG c ps a b e ks (some (f,s,p)) = RunR c e e.enter ps a b (zgo s p) e.enter ks := by
  unfold RunG RunR zgp
  simp only
  rw [if_pos h]
@[simp] theorem ybf (o i : Env) (ps : List Nat) (a b : zab) (e : Env) (ks : List Fr) : RunR c o i ps a b [] e ks = Kk c ks .n (o.leave e) := (rfl)
@[simp] theorem z8h (o i : Env) (ps : List Nat) (a b : zab) (x : ByteArray) (r : List ByteArray) (e : Env) (ks : List Fr) : RunR c o i ps a b (x :: r) e ks = RunP c o i ps a b r ks (zye e ps x) := by
  unfold RunR RunP
  rw [zb6]
  cases zye e ps x with
  | none => rfl
  | some e1 =>
    show _ = cont c ks _
    simp only
    cases evQ c.P c.io c.call zap a e1 with
    | none => rfl
    | some y =>
      obtain ⟨ex,e2⟩ := y
      cases ex with
      | n =>
        simp only
        cases evQ c.P c.io c.call zap b e2 with
        | none => rfl
        | some z =>
          obtain ⟨ex2,e3⟩ := z
          cases ex2 <;> rfl
      | x id => rfl
      | r => rfl
@[simp] theorem z8i (o i : Env) (ps : List Nat) (a b : zab) (r : List ByteArray) (e : Env) (ks : List Fr) : RunP c o i ps a b r ks (some e) = Run c a e (.asg b :: .rnd o i ps a b r :: ks) := (rfl)
@[simp] theorem ydg (b : zab) (ks : List Fr) (e : Env) : Kk c (.asg b :: ks) .n e = Run c b e ks := (rfl)
@[simp] theorem ydh (o i : Env) (ps : List Nat) (a b : zab) (r : List ByteArray) (ks : List Fr) (e : Env) : Kk c (.rnd o i ps a b r :: ks) .n e = RunR c o i ps a b r (i.again e) ks := (rfl)
@[simp] theorem ydi (o i : Env) (ps : List Nat) (a b : zab) (r : List ByteArray) (ks : List Fr) (e : Env) : Kk c (.rnd o i ps a b r :: ks) .r e = Kk c ks .r (o.leave (i.again e)) := (rfl)
@[simp] theorem z8j (e : Env) (p : Nat) (x : ByteArray) : zye e [p] x = zar e (some p) (.one (.ro (.str x))) := (rfl)
end
attribute [simp] zs0 idIn zqf zc2 zkq A.named
@[simp] theorem z8k (e : Env) (t : Nat) : e.enter.get t = (e.get t).mapA (A.named idIn) := (rfl)
@[simp] theorem z63 (e : Env) : e.enter.size = e.size := (rfl)
theorem zbi (e : Env) (b : Nat) : e.enter.box b = if 9000 ≤ b ∧ b < 9999 then e.box (b - 9000) else if zc2 b then e.box b else none := (rfl)
@[simp] theorem z8l (i e : Env) (t : Nat) : (i.again e).get t = i.get t := (rfl)
@[simp] theorem z64 (i e : Env) : (i.again e).size = i.size := (rfl)
theorem zcm (i e : Env) (b : Nat) : (i.again e).box b = if zas ≤ b ∧ (i.box b).isSome then e.box b else none := (rfl)
@[simp] theorem z8m (o e : Env) (t : Nat) : (o.leave e).get t = (o.get t).mapA (A.named zqf) := (rfl)
@[simp] theorem z65 (o e : Env) : (o.leave e).size = o.size := (rfl)
theorem zfk (o e : Env) (b : Nat) : (o.leave e).box b = if b < 999 then (if (o.box b).isSome then e.box (9000 + b) else none) else if zc2 b ∧ (o.box b).isSome then e.box b else none := (rfl)
theorem zac {P : Program} {io : FuncId → List Nat} {X : zal} {f : FuncId} {as : List A} {bx : zaq} {r : V × zaq} {fn : Func} {q : QFn} (hf : P.funcs[f]? = some fn) (hq : zan fn = some q) (hX : X f as bx = none)
  (h : Run ⟨P,io,zcr P io X⟩ q.body (zai q.n as bx) [.fn q.res bx] = some r) : zcr P io X f as bx = some r :=
 zrm hf hq hX h
def Root.cleanT (ds : List Nat) : Root → Bool
 | .tmp t => !ds.contains t
 | .cell _ _ => true
def A.dropAll (ds : List Nat) : A → A
 | .view l => if l.root.cleanT ds then .view l else .dead
 | .eptr l z i o => if l.root.cleanT ds then .eptr l z i o else .dead
 | .pview l i k => if l.root.cleanT ds then .pview l i k else .dead
 | a => a
theorem ztx (a : A) : A.dropAll [] a = a := by
 have hr : ∀ r : Root,r.cleanT [] = true := fun r => by cases r <;> rfl
 cases a <;> simp [A.dropAll,hr]
theorem zil (d : Nat) (ds : List Nat) (r : Root) : r.cleanT (d :: ds) = (decide (r ≠ .tmp d) && r.cleanT ds) := by
 cases r with
 | cell b o => simp [Root.cleanT]
 | tmp t =>
   by_cases h : t = d
   ·subst h; simp [Root.cleanT]
   ·simp [Root.cleanT,h]
theorem zro (d : Nat) (ds : List Nat) (a : A) : A.dropAll (d :: ds) a = A.dropAll ds (A.drop (.tmp d) a) := by
 cases a with
 | view l =>
   simp only [A.dropAll,A.drop,zil]
   by_cases h : l.root = .tmp d <;> simp [h]
 | eptr l z i o =>
   simp only [A.dropAll,A.drop,zil]
   by_cases h : l.root = .tmp d <;> simp [h]
 | pview l i k =>
   simp only [A.dropAll,A.drop,zil]
   by_cases h : l.root = .tmp d <;> simp [h]
 | _ => rfl
theorem zz4 (v : V) (f g : A → A) : (v.mapA f).mapA g = v.mapA (fun a => g (f a)) := by cases v <;> simp [V.mapA]
@[simp] theorem z8n (e : Env) (ds : List Nat) (t : Nat) : (e.clear ds).get t = if ds.contains t then .one .dead else (e.get t).mapA (A.dropAll ds) := by
  induction ds generalizing e with
  | nil =>
    have : (e.get t).mapA (A.dropAll []) = e.get t := by
     rw [show A.dropAll [] = id from funext ztx]
     exact zl3 _
    simp only [Env.clear,List.contains_nil,Bool.false_eq_true,if_false,this]
  | cons d r ih =>
    rw [Env.clear,ih]
    by_cases hr : r.contains t
    ·simp only [hr,if_true,List.contains_cons,Bool.or_true]
    ·by_cases ht : t = d
     ·subst ht
      have e1 : ((e.mapA (A.drop (.tmp t))).set0 t .dead).get t = .one .dead := by simp [Env.get,Env.set0,V.dead]
      rw [e1]
      simp only [hr,List.contains_cons,beq_self_eq_true,Bool.true_or,if_true]
      rfl
     ·have e1 : ((e.mapA (A.drop (.tmp d))).set0 d .dead).get t = (e.get t).mapA (A.drop (.tmp d)) := by simp [Env.get,Env.set0,Env.mapA,ht]
      have hb : (t == d) = false := by simp [ht]
      rw [e1,zz4]
      simp only [hr,List.contains_cons,hb,Bool.false_or,Bool.false_eq_true,if_false]
      congr 1
      funext a
      exact (zro d r a).symm
@[simp] theorem z8o (e : Env) (ds : List Nat) (b : Nat) : (e.clear ds).box b = e.box b := by
  induction ds generalizing e with
  | nil => rfl
  | cons d r ih => rw [Env.clear,ih]; rfl
@[simp] theorem z66 (e : Env) (ds : List Nat) : (e.clear ds).size = e.size := by
  induction ds generalizing e with
  | nil => rfl
  | cons d r ih => rw [Env.clear,ih]; rfl
end Go.Qz
