import Derived.Test.YtcadiohekccmiaaGreatDoorQm0
import Derived.Test.YtcadiohekccmiaaGreatDoorQb3
namespace Go.Qz
def zdw (c c' : zal) : Prop := ∀ f as bx r,c f as bx = some r → c' f as bx = some r
structure zkd (c : Nat → zal) (C : zal) : Prop where
 mono : ∀ n m,n ≤ m → zdw (c n) (c m)
 lim : ∀ f as bx r,C f as bx = some r → ∃ n,c n f as bx = some r
 le : ∀ n,zdw (c n) C
section
variable {P : Program} {io : FuncId → List Nat}
theorem zdm {c c' : zal} (h : zdw c c') {e : Env} {f : FuncId} {caps : List Cap} {args : List Operand} {tys : List TypeId} {x : V × Env} (hx : zb5 P io c e f caps args tys = some x) : zb5 P io c' e f caps args tys = some x := by
 unfold zb5 at hx ⊢
 split at hx
 ·rename_i as m bx hp
  split at hx
  ·rename_i r bx' hc
   simp only [h _ _ _ _ hc]
   exact hx
  ·cases hx
 ·cases hx
theorem ztr {c c' : zal} (h : zdw c c') {e : Env} {f : FuncId} {caps : List Cap} {args : List Operand} {tys : List TypeId} {x : V × Env} (hx : ze6 P io c e f caps args tys = some x) : ze6 P io c' e f caps args tys = some x := by
 unfold ze6 at hx ⊢
 split at hx
 ·rename_i as m bx hp
  split at hx
  ·rename_i r bx' hc
   simp only [h _ _ _ _ hc]
   split at hx
   ·rename_i hok
    rw [if_pos hok]
    exact hx
   ·rename_i hok
    rw [if_neg hok]
    exact zdm h hx
  ·cases hx
 ·exact zdm h hx
theorem zik {c : Nat → zal} {C : zal} (H : zkd c C) {e : Env} {f : FuncId} {caps : List Cap} {args : List Operand} {tys : List TypeId} {x : V × Env} (hx : zb5 P io C e f caps args tys = some x) : ∃ n,zb5 P io (c n) e f caps args tys = some x := by
 unfold zb5 at hx ⊢
 split at hx
 ·rename_i as m bx hp
  split at hx
  ·rename_i r bx' hc
   obtain ⟨n,hn⟩ := H.lim _ _ _ _ hc
   refine ⟨n,?_⟩
   simp only [hn]
   exact hx
  ·cases hx
 ·cases hx
theorem zw3 {c : Nat → zal} {C : zal} (H : zkd c C) {e : Env} {f : FuncId} {caps : List Cap} {args : List Operand} {tys : List TypeId} {x : V × Env} (hx : ze6 P io C e f caps args tys = some x) : ∃ n,ze6 P io (c n) e f caps args tys = some x := by
 unfold ze6 at hx ⊢
 split at hx
 ·rename_i as m bx hp
  split at hx
  ·rename_i r bx' hc
   obtain ⟨n,hn⟩ := H.lim _ _ _ _ hc
   split at hx
   ·rename_i hok
    refine ⟨n,?_⟩
    simp only [hn]
    rw [if_pos hok]
    exact hx
   ·rename_i hok
    obtain ⟨m',hm⟩ := zik H hx
    refine ⟨max n m',?_⟩
    simp only [H.mono n _ (Nat.le_max_left _ _) _ _ _ _ hn]
    rw [if_neg hok]
    exact zdm (H.mono m' _ (Nat.le_max_right _ _)) hm
  ·cases hx
 ·exact zik H hx
theorem zrg {c c' : zal} {e : Env} {o : Oper} (h : Op.callsValue o.op = false) : evOp P io c e o = evOp P io c' e o := by
 obtain ⟨d,op,ty,p,af,gd⟩ := o
 cases op with
 | call k =>
   obtain ⟨callee,args,argTypes⟩ := k
   cases callee with
   | value f => cases h
   | builtin b => cases b <;> rfl
   | invoke r m => rfl
 | store t a x => cases a <;> rfl
 | makeFunc fn a b => cases fn <;> rfl
 | extract t i => cases t <;> rfl
 | _ => rfl
theorem zk1 {dst : Option Nat} {x : Option (V × Env)} {e' : Env} (h : zlp dst x = some e') : ∃ y,x = some y := by
 cases x with
 | none => cases h
 | some y => exact ⟨y,rfl⟩
theorem zts {c c' : zal} (h : zdw c c') {e e' : Env} {f : FuncId} {caps : List Cap} {args : List Operand} {tys : List TypeId} {dst : Option Nat} (hx : ze7 P io c e f caps args tys dst = some e') : ze7 P io c' e f caps args tys dst = some e' := by
 unfold ze7 at hx ⊢
 split at hx
 ·rename_i as hp
  split at hx
  ·rename_i cs hc
   simp only [h _ _ _ _ hc]
   exact hx
  ·rename_i d hc
   simp only [h _ _ _ _ hc]
   obtain ⟨y,hy⟩ := zk1 hx
   rw [hy] at hx
   rw [zdm h hy]
   exact hx
  ·cases hx
 ·cases hx
theorem zw4 {c : Nat → zal} {C : zal} (H : zkd c C) {e e' : Env} {f : FuncId} {caps : List Cap} {args : List Operand} {tys : List TypeId} {dst : Option Nat} (hx : ze7 P io C e f caps args tys dst = some e') : ∃ n,ze7 P io (c n) e f caps args tys dst = some e' := by
 unfold ze7 at hx
 split at hx
 ·rename_i as hp
  split at hx
  ·rename_i cs hc
   obtain ⟨n,hn⟩ := H.lim _ _ _ _ hc
   refine ⟨n,?_⟩
   unfold ze7
   rw [hp]
   simp only [hn]
   exact hx
  ·rename_i d hc
   obtain ⟨n,hn⟩ := H.lim _ _ _ _ hc
   obtain ⟨y,hy⟩ := zk1 hx
   obtain ⟨m',hm⟩ := zik H hy
   rw [hy] at hx
   refine ⟨max n m',?_⟩
   unfold ze7
   rw [hp]
   simp only [H.mono n _ (Nat.le_max_left _ _) _ _ _ _ hn]
   rw [zdm (H.mono m' _ (Nat.le_max_right _ _)) hm]
   exact hx
  ·cases hx
 ·cases hx
theorem zz0 {c c' : zal} (h : zdw c c') {e e' : Env} {o : Oper} (hx : evOp P io c e o = some e') : evOp P io c' e o = some e' := by
 cases hv : Op.callsValue o.op with
 | false => rw [← zrg hv (c := c)]; exact hx
 | true =>
   obtain ⟨d,op,ty,p,af,gd⟩ := o
   cases op with
   | call k =>
     obtain ⟨callee,args,argTypes⟩ := k
     cases callee with
     | value f =>
       simp only [evOp] at hx ⊢
       split at hx
       ·rename_i g caps hg
        split at hx
        ·rename_i hop
         rw [if_pos hop]
         exact zts h hx
        ·rename_i hop
         rw [if_neg hop]
         split at hx
         ·rename_i v e1 hc
          simp only [ztr h hc]
          exact hx
         ·cases hx
       ·cases hx
     | _ => cases hv
   | _ => cases hv
theorem z23 {c : Nat → zal} {C : zal} (H : zkd c C) {e e' : Env} {o : Oper} (hx : evOp P io C e o = some e') : ∃ n,evOp P io (c n) e o = some e' := by
 cases hv : Op.callsValue o.op with
 | false => exact ⟨0,by rw [zrg hv (c' := C)]; exact hx⟩
 | true =>
   obtain ⟨d,op,ty,p,af,gd⟩ := o
   cases op with
   | call k =>
     obtain ⟨callee,args,argTypes⟩ := k
     cases callee with
     | value f =>
       simp only [evOp] at hx ⊢
       split at hx
       ·rename_i g caps hg
        split at hx
        ·rename_i hop
         obtain ⟨n,hn⟩ := zw4 H hx
         exact ⟨n,by rw [if_pos hop]; exact hn⟩
        ·rename_i hop
         split at hx
         ·rename_i v e1 hc
          obtain ⟨n,hn⟩ := zw3 H hc
          refine ⟨n,?_⟩
          rw [if_neg hop]
          simp only [hn]
          exact hx
         ·cases hx
       ·cases hx
     | _ => cases hv
   | _ => cases hv
theorem zoa {c c' : zal} (h : zdw c c') {q : QOp} {e e' : Env} (hx : zk9 P io c q e = some e') : zk9 P io c' q e = some e' := by
 unfold zk9 at hx ⊢
 split at hx
 ·rename_i hg; exact zz0 h hx
 ·exact hx
 ·cases hx
theorem zz1 {c : Nat → zal} {C : zal} (H : zkd c C) {q : QOp} {e e' : Env} (hx : zk9 P io C q e = some e') : ∃ n,zk9 P io (c n) q e = some e' := by
 unfold zk9 at hx ⊢
 split at hx
 ·exact z23 H hx
 ·exact ⟨0,hx⟩
 ·cases hx
theorem zjg {c c' : zal} (h : zdw c c') : ∀ {l : List QOp} {e e' : Env},evL P io c l e = some e' → evL P io c' l e = some e'
 | [],_,_,hx => hx
 | q :: r,e,e',hx => by
   simp only [evL,Option.then_] at hx ⊢
   split at hx
   ·rename_i e1 h1
    rw [zoa h h1]
    exact zjg h hx
   ·cases hx
theorem ztt {c : Nat → zal} {C : zal} (H : zkd c C) : ∀ {l : List QOp} {e e' : Env},evL P io C l e = some e' → ∃ n,evL P io (c n) l e = some e'
 | [],_,_,hx => ⟨0,hx⟩
 | q :: r,e,e',hx => by
   simp only [evL,Option.then_] at hx ⊢
   split at hx
   ·rename_i e1 h1
    obtain ⟨n,hn⟩ := zz1 H h1
    obtain ⟨m,hm⟩ := ztt H hx
    refine ⟨max n m,?_⟩
    rw [zoa (H.mono n _ (Nat.le_max_left _ _)) hn]
    exact zjg (H.mono m _ (Nat.le_max_right _ _)) hm
   ·cases hx
theorem zk2 {c : zal} {e : Env} {f : FuncId} {caps : List Cap} {args : List Operand} {tys : List TypeId} {x : V} (hx : zcl P io c e f caps args tys = some x) :
  args.length = tys.length ∧ ∃ vs,za7 P e (args.zip tys) = some vs ∧ ∃ as m,lend e (io f) 0 (vs.zip (args.map zh7) ++ zcj caps) = some (as,m) ∧ m.all Lent.isRead = true ∧ ∃ bx',c f as [] = some (x,bx') ∧ zp7 m x bx' = true := by
 have hno := zec hx
 unfold zcl at hx
 rw [hno] at hx
 simp only [Bool.false_eq_true,if_false] at hx
 split at hx
 ·rename_i h1
  split at hx
  ·rename_i vs h2
   split at hx
   ·rename_i as m h3
    split at hx
    ·rename_i h4
     split at hx
     ·rename_i r bx' h5
      split at hx
      ·rename_i h6
       obtain rfl := Option.some.inj hx
       exact ⟨h1,vs,h2,as,m,h3,h4,bx',h5,h6⟩
      ·cases hx
     ·cases hx
    ·cases hx
   ·cases hx
  ·cases hx
 ·cases hx
theorem ztu {c c' : zal} (h : zdw c c') {e : Env} {f : FuncId} {caps : List Cap} {args : List Operand} {tys : List TypeId} {x : V} (hx : zcl P io c e f caps args tys = some x) : zcl P io c' e f caps args tys = some x := by
 obtain ⟨h1,vs,h2,as,m,h3,h4,bx',h5,h6⟩ := zk2 hx
 have hno := zec hx
 unfold zcl
 simp only [hno,h1,h2,h3,h4,h _ _ _ _ h5,h6,if_true,Bool.false_eq_true,if_false]
theorem zw5 {c : Nat → zal} {C : zal} (H : zkd c C) {e : Env} {f : FuncId} {caps : List Cap} {args : List Operand} {tys : List TypeId} {x : V} (hx : zcl P io C e f caps args tys = some x) : ∃ n,zcl P io (c n) e f caps args tys = some x := by
 obtain ⟨h1,vs,h2,as,m,h3,h4,bx',h5,h6⟩ := zk2 hx
 obtain ⟨n,hn⟩ := H.lim _ _ _ _ h5
 have hno := zec hx
 exact ⟨n,by unfold zcl; simp only [hno,h1,h2,h3,h4,hn,h6,if_true,Bool.false_eq_true,if_false]⟩
theorem zob {c c' : zal} {ds : List Nat} {e : Env} {ty : TypeId} {op : Op} (h : Op.callsValue op = false) : zbb P io c ds e ty op = zbb P io c' ds e ty op := by
 cases op with
 | call k =>
   obtain ⟨callee,args,argTypes⟩ := k
   cases callee with
   | value f => cases h
   | builtin b => cases b <;> rfl
   | invoke r m => rfl
 | _ => rfl
theorem zw6 {c c' : zal} (h : zdw c c') {ds : List Nat} {e : Env} {ty : TypeId} {op : Op} {x : V × Option Nat} (hx : zbb P io c ds e ty op = some x) : zbb P io c' ds e ty op = some x := by
 cases hv : Op.callsValue op with
 | false => rw [← zob hv (c := c)]; exact hx
 | true =>
   cases op with
   | call k =>
     obtain ⟨callee,args,argTypes⟩ := k
     cases callee with
     | value f =>
       simp only [zbb] at hx ⊢
       split at hx
       ·rename_i g caps hg
        cases hq : zcl P io c e g caps args.toList argTypes.toList with
        | none => rw [hq] at hx; cases hx
        | some v => rw [ztu h hq]; rw [hq] at hx; exact hx
       ·cases hx
     | _ => cases hv
   | _ => cases hv
theorem zz2 {c : Nat → zal} {C : zal} (H : zkd c C) {ds : List Nat} {e : Env} {ty : TypeId} {op : Op} {x : V × Option Nat} (hx : zbb P io C ds e ty op = some x) : ∃ n,zbb P io (c n) ds e ty op = some x := by
 cases hv : Op.callsValue op with
 | false => exact ⟨0,by rw [zob hv (c' := C)]; exact hx⟩
 | true =>
   cases op with
   | call k =>
     obtain ⟨callee,args,argTypes⟩ := k
     cases callee with
     | value f =>
       simp only [zbb] at hx ⊢
       split at hx
       ·rename_i g caps hg
        cases hq : zcl P io C e g caps args.toList argTypes.toList with
        | none => rw [hq] at hx; cases hx
        | some v =>
          obtain ⟨n,hn⟩ := zw5 H hq
          exact ⟨n,by rw [hn]; rw [hq] at hx; exact hx⟩
       ·cases hx
     | _ => cases hv
   | _ => cases hv
theorem zvo {c : zal} {ds : List Nat} {e : Env} {op : Op} {x : V × Nat × List A} (h : wrV P io c ds e op = some x) : (∃ g us bx r,c g us bx = some r ∧
  (∀ c' : zal,c' g us bx = some r → wrV P io c' ds e op = some x) ∧ ∀ (c' : zal) (ty : TypeId),zbb P io c' ds e ty op = none) ∨ ∀ c' : zal,wrV P io c' ds e op = some x ∧ ∀ ty : TypeId,zbb P io c' ds e ty op = none := by
 unfold wrV at h
 split at h
 rotate_left
 ·exact .inr (fun c' => ⟨h,fun ty => rfl⟩)
 ·cases h
 ·rename_i k
  obtain ⟨callee,args,argTypes⟩ := k
  cases callee with
  | value f =>
    dsimp only at h
    split at h
    ·rename_i g hf
     split at h
     ·cases h
     ·rename_i hop
      split at h
      ·rename_i hlen
       split at h
       ·rename_i vs hvs
        split at h
        ·rename_i us n b' m hl
         split at h
         ·rename_i hc
          split at h
          ·rename_i cs0 hb
           split at h
           ·rename_i hpo
            split at h
            ·rename_i r bx' hcall
             refine .inl ⟨g,us,[(n,cs0)],(r,bx'),hcall,fun c' hc' => ?_,fun c' ty => ?_⟩
             ·unfold wrV
              dsimp only
              rw [hf]
              dsimp only
              rw [if_neg hop,if_pos hlen,hvs]
              dsimp only
              rw [hl]
              dsimp only
              rw [if_pos hc,hb]
              dsimp only
              rw [if_pos hpo,hc']
              exact h
             ·simp only [zbb,hf,zju]
              have : zcl P io c' e g [] args.toList argTypes.toList = none := by
               unfold zcl
               rw [if_neg hop,if_pos hlen,hvs]
               dsimp only
               rw [show zcj [] = [] from rfl,List.append_nil,hl]
               rfl
              rw [this]
              rfl
            ·cases h
           ·cases h
          ·cases h
         ·cases h
        ·cases h
       ·cases h
      ·cases h
    ·cases h
  | _ => cases h
theorem zrh {c : zal} {ds : List Nat} {q : QOp} {e : Env} {v : V} {t : Option Nat} (hg : zdu e q.g = some true) (hv : zbb P io c ds e q.ty q.op = some (v,t)) (hc : (iceR (ze9 ds) q.op v).clean ds = true) (hd : zgn e q.dst = true) (hf : znd ds e q.op = true) : stpQ P io c ds q e = some ⟨q.dst,iceR (ze9 ds) q.op v,t,none⟩ := by
 unfold stpQ
 rw [hg,hv]
 simp only [stp1,hc,hd,hf]
 rfl
theorem zpg {c : zal} {ds : List Nat} {q : QOp} {e : Env} {v : V} {b : Nat} {cs : List A} (hg : zdu e q.g = some true) (hn : zbb P io c ds e q.ty q.op = none) (hw : wrV P io c ds e q.op = some (v,b,cs)) (hc : v.clean ds = true) (hd : zgn e q.dst = true) (hf : fitD q.dst q.op = true) : stpQ P io c ds q e = some ⟨q.dst,v,none,some (b,cs)⟩ := by
 unfold stpQ
 rw [hg,hn,hw]
 simp only [stp1,hc,hd,hf]
 rfl
theorem zri {c c' : zal} {ds : List Nat} {q : QOp} {e : Env} (hg : zdu e q.g = some false) : stpQ P io c ds q e = stpQ P io c' ds q e := by
 unfold stpQ
 rw [hg]
theorem zrj {c c' : zal} (h : zdw c c') {ds : List Nat} {q : QOp} {e : Env} {s : Stp} (hx : stpQ P io c ds q e = some s) : stpQ P io c' ds q e = some s := by
 obtain ⟨h1,h2,h3,⟨hg,_⟩ | ⟨hg,⟨v,t,hv,hf,rfl⟩ | ⟨v,b,cs,_,hw,rfl,hfd⟩⟩⟩ := zc7 hx
 ·rw [← zri hg]; exact hx
 ·exact zrh hg (zw6 h hv) h3 h2 hf
 ·rcases zvo hw with ⟨g,us,bx,r,k1,k2,k3⟩ | k
  ·exact zpg hg (k3 _ _) (k2 _ (h _ _ _ _ k1)) h3 h2 hfd
  ·exact zpg hg ((k _).2 _) (k _).1 h3 h2 hfd
theorem z24 {c : Nat → zal} {C : zal} (H : zkd c C) {ds : List Nat} {q : QOp} {e : Env} {s : Stp} (hx : stpQ P io C ds q e = some s) : ∃ n,stpQ P io (c n) ds q e = some s := by
 obtain ⟨h1,h2,h3,⟨hg,_⟩ | ⟨hg,⟨v,t,hv,hf,rfl⟩ | ⟨v,b,cs,_,hw,rfl,hfd⟩⟩⟩ := zc7 hx
 ·exact ⟨0,by rw [← zri hg]; exact hx⟩
 ·obtain ⟨n,hn⟩ := zz2 H hv
  exact ⟨n,zrh hg hn h3 h2 hf⟩
 ·rcases zvo hw with ⟨g,us,bx,r,k1,k2,k3⟩ | k
  ·obtain ⟨n,hn⟩ := H.lim _ _ _ _ k1
   exact ⟨n,zpg hg (k3 _ _) (k2 _ hn) h3 h2 hfd⟩
  ·exact ⟨0,zpg hg ((k _).2 _) (k _).1 h3 h2 hfd⟩
theorem zli {c c' : zal} (h : zdw c c') {ds : List Nat} : ∀ {l : List QOp} {e e' : Env},evH P io c ds l e = some e' → evH P io c' ds l e = some e'
 | [],_,_,hx => hx
 | q :: r,e,e',hx => by
   simp only [evH,appO] at hx ⊢
   split at hx
   ·rename_i s h1
    rw [zrj h h1]
    exact zli h hx
   ·cases hx
theorem zz3 {c : Nat → zal} {C : zal} (H : zkd c C) {ds : List Nat} : ∀ {l : List QOp} {e e' : Env},evH P io C ds l e = some e' → ∃ n,evH P io (c n) ds l e = some e'
 | [],_,_,hx => ⟨0,hx⟩
 | q :: r,e,e',hx => by
   simp only [evH,appO] at hx ⊢
   split at hx
   ·rename_i s h1
    obtain ⟨n,hn⟩ := z24 H h1
    obtain ⟨m,hm⟩ := zz3 H hx
    refine ⟨max n m,?_⟩
    rw [zrj (H.mono n _ (Nat.le_max_left _ _)) hn]
    exact zli (H.mono m _ (Nat.le_max_right _ _)) hm
   ·cases hx
theorem zk3 {f f' : Env → Res} (h : ∀ e r,f e = some r → f' e = some r) {e : Env} {r : Ex × Env} (hx : zap f e = some r) : zap f' e = some r := by
 obtain ⟨n,hn⟩ := zcu hx
 have : ∀ (n : Nat) (e : Env),iter f n e = some r → iter f' n e = some r := by
  intro n
  induction n with
  | zero => intro e h; cases h
  | succ n ih =>
    intro e hi
    rw [iter] at hi ⊢
    cases hf : f e with
    | none => rw [hf] at hi; cases hi
    | some x =>
      obtain ⟨ex,e1⟩ := x
      rw [hf] at hi
      rw [h _ _ hf]
      cases ex with
      | n => exact ih e1 hi
      | x i => exact hi
      | r => exact hi
 exact zc6 (this n e hn)
theorem zg2 {fa fa' fb fb' : Env → Res} (ha : ∀ e r,fa e = some r → fa' e = some r) (hb : ∀ e r,fb e = some r → fb' e = some r) {ps : List Nat} {o i : Env} {r : Ex × Env} : ∀ {l : List ByteArray} {e : Env},zb6 fa fb ps o i l e = some r → zb6 fa' fb' ps o i l e = some r
 | [],_,h => h
 | x :: l,e,h => by
   simp only [zb6] at h ⊢
   split at h
   ·rename_i e1 h1
    cases hfa : fa e1 with
    | none => rw [hfa] at h; cases h
    | some y =>
      rw [hfa] at h
      rw [ha _ _ hfa]
      obtain ⟨ex,e2⟩ := y
      cases ex with
      | n =>
        simp only at h ⊢
        cases hfb : fb e2 with
        | none => rw [hfb] at h; cases h
        | some z =>
          rw [hfb] at h
          rw [hb _ _ hfb]
          obtain ⟨ex2,e3⟩ := z
          cases ex2 with
          | n => exact zg2 ha hb (l := l) h
          | _ => exact h
      | _ => exact h
   ·cases h
theorem ztv {fa fa' fb fb' : Env → Res} (ha : ∀ e r,fa e = some r → fa' e = some r) (hb : ∀ e r,fb e = some r → fb' e = some r) {ps : List Nat} {e : Env} {x : Option (FuncId × ByteArray × ByteArray)} {r : Ex × Env} (h : zgp io fa fb ps e x = some r) : zgp io fa' fb' ps e x = some r := by
 unfold zgp at h ⊢
 split at h
 ·split at h
  ·rename_i hc
   rw [if_pos hc]
   exact zg2 ha hb h
  ·cases h
 ·cases h
theorem zw7 {Fa Fb : Env → Res} {fa fb : Nat → Env → Res} (ma : ∀ n m,n ≤ m → ∀ e r,fa n e = some r → fa m e = some r) (mb : ∀ n m,n ≤ m → ∀ e r,fb n e = some r → fb m e = some r) (ha : ∀ e r,Fa e = some r → ∃ n,fa n e = some r) (hb : ∀ e r,Fb e = some r → ∃ n,fb n e = some r)
  {ps : List Nat} {e : Env} {x : Option (FuncId × ByteArray × ByteArray)} {r : Ex × Env} (h : zgp io Fa Fb ps e x = some r) : ∃ n,zgp io (fa n) (fb n) ps e x = some r := by
 have key : ∀ (o i : Env) (l : List ByteArray) (e : Env),zb6 Fa Fb ps o i l e = some r → ∃ n,zb6 (fa n) (fb n) ps o i l e = some r := by
  intro o i l
  induction l with
  | nil => exact fun e h => ⟨0,h⟩
  | cons x l ih =>
    intro e h
    simp only [zb6] at h
    split at h
    ·rename_i e1 h1
     cases hfa : Fa e1 with
     | none => rw [hfa] at h; cases h
     | some y =>
       rw [hfa] at h
       obtain ⟨n,hn⟩ := ha _ _ hfa
       obtain ⟨ex,e2⟩ := y
       cases ex with
       | n =>
         simp only at h
         cases hfb : Fb e2 with
         | none => rw [hfb] at h; cases h
         | some z =>
           rw [hfb] at h
           obtain ⟨m,hm⟩ := hb _ _ hfb
           obtain ⟨ex2,e3⟩ := z
           cases ex2 with
           | n =>
             obtain ⟨k,hk⟩ := ih _ h
             refine ⟨max n (max m k),?_⟩
             simp only [zb6,h1,ma n _ (Nat.le_max_left _ _) _ _ hn,mb m (max n (max m k)) (by omega) _ _ hm]
             exact zg2 (ma k _ (by omega)) (mb k _ (by omega)) hk
           | x id =>
             refine ⟨max n m,?_⟩
             simp only [zb6,h1,ma n _ (Nat.le_max_left _ _) _ _ hn,mb m _ (Nat.le_max_right _ _) _ _ hm]
             exact h
           | r =>
             refine ⟨max n m,?_⟩
             simp only [zb6,h1,ma n _ (Nat.le_max_left _ _) _ _ hn,mb m _ (Nat.le_max_right _ _) _ _ hm]
             exact h
       | x id => cases h
       | r => cases h
    ·cases h
 unfold zgp at h ⊢
 split at h
 ·split at h
  ·rename_i hc
   obtain ⟨n,hn⟩ := key _ _ _ _ h
   refine ⟨n,?_⟩
   rw [if_pos hc]
   exact hn
  ·cases h
 ·cases h
theorem zbw {c c' : zal} (h : zdw c c') : ∀ {q : zab} {e : Env} {r : Ex × Env},evQ P io c zap q e = some r → evQ P io c' zap q e = some r
 | .skip,_,_,hx => hx
 | .ice _,_,_,hx => hx
 | .ops l,e,r,hx => by
   simp only [evQ,Option.then_] at hx ⊢
   split at hx
   ·rename_i e1 h1
    rw [zjg h h1]
    exact hx
   ·cases hx
 | .draw w hd tl,e,r,hx => by
   simp only [evQ,Option.then_] at hx ⊢
   split at hx
   ·rename_i e1 h1
    unfold zyf at h1 ⊢
    simp only [Option.then_] at h1 ⊢
    split at h1
    ·rename_i e2 h2
     rw [zli h h2]
     simp only [zjg h h1]
     exact hx
    ·cases h1
   ·cases hx
 | .seq a b,e,r,hx => by
   simp only [evQ,Option.then_] at hx ⊢
   split at hx
   ·rename_i x h1
    rw [zbw h h1]
    obtain ⟨ex,e1⟩ := x
    cases ex with
    | n => exact zbw h (q := b) hx
    | _ => exact hx
   ·cases hx
 | .cond k a b,e,r,hx => by
   simp only [evQ] at hx ⊢
   split at hx
   ·split at hx
    ·rename_i ht; rw [if_pos ht]; exact zbw h hx
    ·rename_i ht; rw [if_neg ht]; exact zbw h hx
   ·cases hx
 | .block id a,e,r,hx => by
   simp only [evQ,Option.then_] at hx ⊢
   split at hx
   ·rename_i x h1
    rw [zbw h h1]
    exact hx
   ·cases hx
 | .loop a,e,r,hx => zk3 (fun e r h' => zbw h h') hx
 | .exit id,_,_,hx => hx
 | .ret,_,_,hx => hx
 | .range t ps a b,e,r,hx => ztv (fun e r h' => zbw h h') (fun e r h' => zbw h h') hx
theorem zf3 {c : Nat → zal} {C : zal} (H : zkd c C) : ∀ {q : zab} {e : Env} {r : Ex × Env},evQ P io C zap q e = some r → ∃ n,evQ P io (c n) zap q e = some r
 | .skip,_,_,hx => ⟨0,hx⟩
 | .ice _,_,_,hx => ⟨0,hx⟩
 | .ops l,e,r,hx => by
   simp only [evQ,Option.then_] at hx ⊢
   split at hx
   ·rename_i e1 h1
    obtain ⟨n,hn⟩ := ztt H h1
    exact ⟨n,by rw [hn]; exact hx⟩
   ·cases hx
 | .draw w hd tl,e,r,hx => by
   simp only [evQ,Option.then_] at hx ⊢
   split at hx
   ·rename_i e1 h1
    unfold zyf at h1 ⊢
    simp only [Option.then_] at h1 ⊢
    split at h1
    ·rename_i e2 h2
     obtain ⟨n,hn⟩ := zz3 H h2
     obtain ⟨m,hm⟩ := ztt H h1
     refine ⟨max n m,?_⟩
     rw [zli (H.mono n _ (Nat.le_max_left _ _)) hn]
     simp only [zjg (H.mono m _ (Nat.le_max_right _ _)) hm]
     exact hx
    ·cases h1
   ·cases hx
 | .seq a b,e,r,hx => by
   simp only [evQ,Option.then_] at hx ⊢
   split at hx
   ·rename_i x h1
    obtain ⟨n,hn⟩ := zf3 H h1
    obtain ⟨ex,e1⟩ := x
    cases ex with
    | n =>
      obtain ⟨m,hm⟩ := zf3 H (q := b) hx
      refine ⟨max n m,?_⟩
      rw [zbw (H.mono n _ (Nat.le_max_left _ _)) hn]
      exact zbw (H.mono m _ (Nat.le_max_right _ _)) hm
    | _ => exact ⟨n,by rw [hn]; exact hx⟩
   ·cases hx
 | .cond k a b,e,r,hx => by
   simp only [evQ] at hx ⊢
   split at hx
   ·split at hx
    ·rename_i ht
     obtain ⟨n,hn⟩ := zf3 H hx
     exact ⟨n,by rw [if_pos ht]; exact hn⟩
    ·rename_i ht
     obtain ⟨n,hn⟩ := zf3 H hx
     exact ⟨n,by rw [if_neg ht]; exact hn⟩
   ·cases hx
 | .block id a,e,r,hx => by
   simp only [evQ,Option.then_] at hx ⊢
   split at hx
   ·rename_i x h1
    obtain ⟨n,hn⟩ := zf3 H h1
    exact ⟨n,by rw [hn]; exact hx⟩
   ·cases hx
 | .loop a,e,r,hx => by
   simp only [evQ] at hx ⊢
   obtain ⟨k,hk⟩ := zcu hx
   have : ∀ (k : Nat) (e : Env),iter (evQ P io C zap a) k e = some r → ∃ n,iter (evQ P io (c n) zap a) k e = some r := by
    intro k
    induction k with
    | zero => intro e h; cases h
    | succ k ih =>
      intro e hi
      rw [iter] at hi
      cases hf : evQ P io C zap a e with
      | none => rw [hf] at hi; cases hi
      | some x =>
        obtain ⟨ex,e1⟩ := x
        rw [hf] at hi
        obtain ⟨n,hn⟩ := zf3 H hf
        cases ex with
        | n =>
          obtain ⟨m,hm⟩ := ih e1 hi
          refine ⟨max n m,?_⟩
          rw [iter,zbw (H.mono n _ (Nat.le_max_left _ _)) hn]
          have up : ∀ (k : Nat) (e : Env),iter (evQ P io (c m) zap a) k e = some r → iter (evQ P io (c (max n m)) zap a) k e = some r := by
           intro k e h
           have := zk3 (fun e r h' => zbw (H.mono m _ (Nat.le_max_right n m)) h') (zc6 h)
           have gen : ∀ (k : Nat) (e : Env),iter (evQ P io (c m) zap a) k e = some r → iter (evQ P io (c (max n m)) zap a) k e = some r := by
            intro k
            induction k with
            | zero => intro e h; cases h
            | succ k ih2 =>
              intro e hi
              rw [iter] at hi ⊢
              cases hf : evQ P io (c m) zap a e with
              | none => rw [hf] at hi; cases hi
              | some x =>
                obtain ⟨ex,e1⟩ := x
                rw [hf] at hi
                rw [zbw (H.mono m _ (Nat.le_max_right n m)) hf]
                cases ex with
                | n => exact ih2 e1 hi
                | _ => exact hi
           exact gen k e h
          exact up k e1 hm
        | x i => exact ⟨n,by rw [iter,hn]; exact hi⟩
        | r => exact ⟨n,by rw [iter,hn]; exact hi⟩
   obtain ⟨n,hn⟩ := this k e hk
   exact ⟨n,zc6 hn⟩
 | .exit id,_,_,hx => ⟨0,hx⟩
 | .ret,_,_,hx => ⟨0,hx⟩
 | .range t ps a b,e,r,hx => zw7 (fa := fun n => evQ P io (c n) zap a) (fb := fun n => evQ P io (c n) zap b) (fun n m hnm e r h' => zbw (H.mono n m hnm) h') (fun n m hnm e r h' => zbw (H.mono n m hnm) h') (fun e r h' => zf3 H h') (fun e r h' => zf3 H h') hx
theorem zrk {c c' : zal} (h : zdw c c') {q : QFn} {args : List A} {bx : zaq} {r : V × zaq} (hx : zdt P io c zap q args bx = some r) : zdt P io c' zap q args bx = some r := by
 unfold zdt at hx ⊢
 simp only [Option.then_] at hx ⊢
 split at hx
 ·rename_i x h1
  rw [zbw h h1]
  exact hx
 ·cases hx
theorem ztw {c : Nat → zal} {C : zal} (H : zkd c C) {q : QFn} {args : List A} {bx : zaq} {r : V × zaq} (hx : zdt P io C zap q args bx = some r) : ∃ n,zdt P io (c n) zap q args bx = some r := by
 unfold zdt at hx ⊢
 simp only [Option.then_] at hx ⊢
 split at hx
 ·rename_i x h1
  obtain ⟨n,hn⟩ := zf3 H h1
  exact ⟨n,by rw [hn]; exact hx⟩
 ·cases hx
theorem zrl (X : zal) : ∀ n,zdw (evFQ P io X zap n) (evFQ P io X zap (n + 1))
 | 0 => fun f as bx r h => by cases h
 | n + 1 => fun f as bx r h => by
   rw [evFQ] at h ⊢
   split at h
   ·exact h
   ·split at h
    ·split at h
     ·exact zrk (zrl X n) h
     ·cases h
    ·cases h
theorem zmt (X : zal) (n m : Nat) (h : n ≤ m) : zdw (evFQ P io X zap n) (evFQ P io X zap m) := by
 induction h with
 | refl => exact fun _ _ _ _ h => h
 | step _ ih => exact fun f as bx r h => zrl X _ f as bx r (ih f as bx r h)
end
noncomputable def zcr (P : Program) (io : FuncId → List Nat) (X : zal) : zal := fun f as bx => open Classical in if h : ∃ r,∃ n,evFQ P io X zap n f as bx = some r then some h.choose else none
theorem z25 (P : Program) (io : FuncId → List Nat) (X : zal) : zkd (evFQ P io X zap) (zcr P io X) where
 mono := zmt X
 lim := fun f as bx r h => by
  unfold zcr at h
  split at h
  ·rename_i hex
   have := hex.choose_spec
   rwa [Option.some.inj h] at this
  ·cases h
 le := fun n f as bx r h => by
  unfold zcr
  have hex : ∃ r,∃ n,evFQ P io X zap n f as bx = some r := ⟨r,n,h⟩
  rw [dif_pos hex]
  obtain ⟨m,hm⟩ := hex.choose_spec
  have h1 := zmt X m _ (Nat.le_max_left m n) _ _ _ _ hm
  have h2 := zmt X n _ (Nat.le_max_right m n) _ _ _ _ h
  rw [h1] at h2
  exact congrArg some (Option.some.inj h2)
theorem zb9 {P : Program} {io : FuncId → List Nat} {X : zal} {f : FuncId} {as : List A} {bx : zaq} {r : V × zaq} (h : X f as bx = some r) : zcr P io X f as bx = some r := by
 refine (z25 P io X).le 1 f as bx r ?_
 rw [evFQ,h]
theorem zrm {P : Program} {io : FuncId → List Nat} {X : zal} {f : FuncId} {as : List A} {bx : zaq} {r : V × zaq} {fn : Func} {q : QFn} (hf : P.funcs[f]? = some fn) (hq : zan fn = some q) (hX : X f as bx = none) (h : zdt P io (zcr P io X) zap q as bx = some r) : zcr P io X f as bx = some r := by
 obtain ⟨n,hn⟩ := ztw (z25 P io X) h
 refine (z25 P io X).le (n + 1) f as bx r ?_
 rw [evFQ,hX]
 simp only [hf,hq]
 exact hn
theorem zjh [Base] {P : Program} {io : FuncId → List Nat} {X : zal} (hm : P.follows .mixedOrders = true) (hX : zao P X) (hseq : zzy P io) (hname : ∀ (f : FuncId) (fn : Func),P.funcs[f]? = some fn → fn.name ≠ "runtime.NumGoroutine") : zao P (zcr P io X) := fun f as bx r bx' h => by
 obtain ⟨n,hn⟩ := (z25 P io X).lim f as bx _ h
 exact zvn hm hX (fun f e r h => zcu h) hseq hname n f as bx r bx' hn
theorem zw8 (f : Env → Res) (e : Env) : zap f e = match f e with
  | some (.n,e') => zap f e'
  | r => r := by
 cases hf : f e with
 | none =>
   cases h : zap f e with
   | none => rfl
   | some r =>
     obtain ⟨n,hn⟩ := zcu h
     cases n with
     | zero => cases hn
     | succ n => rw [iter,hf] at hn; cases hn
 | some x =>
   obtain ⟨ex,e'⟩ := x
   cases ex with
   | n =>
     dsimp only
     cases h : zap f e' with
     | some r =>
       obtain ⟨n,hn⟩ := zcu h
       exact zc6 (n := n + 1) (by rw [iter,hf]; exact hn)
     | none =>
       cases h' : zap f e with
       | none => rfl
       | some r =>
         obtain ⟨n,hn⟩ := zcu h'
         cases n with
         | zero => cases hn
         | succ n =>
           rw [iter,hf] at hn
           rw [zc6 hn] at h
           cases h
   | x i => exact zc6 (n := 1) (by rw [iter,hf])
   | r => exact zc6 (n := 1) (by rw [iter,hf])
end Go.Qz
namespace Go.Qz
variable {P : Program}
theorem Next.of_box {g g' : G} {e1 e2 e' : Env} {w w' : World} (hb : e1.boxes = e2.boxes) (h : Next g e1 w g' e' w') : Next g e2 w g' e' w' := by
 have hm : ∀ x,Mine g e1 x ↔ Mine g e2 x := fun x => by simp only [Mine,Env.box,hb]
 exact ⟨h.os,h.tape,h.output,h.size,fun x hx hn => h.old x hx (fun hc => hn ((hm x).1 hc)),fun x hx => (h.mine x hx).imp (hm x).1 id,h.c,fun b o v hv => (h.cnew b o v hv).imp id (fun hq => hq.imp (hm b).1 id),h.lent⟩
theorem FnPost.of_box [Base] {g g' : G} {e1 e2 : Env} {w w' : World} {r : V} {bx : zaq} {v : Value} {Y : Nat → Blk} (hb : e1.boxes = e2.boxes) (h : FnPost g e1 w r bx v w' g' Y) : FnPost g e2 w r bx v w' g' Y := by
 have hm : ∀ x,Mine g e1 x ↔ Mine g e2 x := fun x => by simp only [Mine,Env.box,hb]
 exact ⟨h.sim,h.hold,h.free,h.next.of_box hb,fun k x hx => (h.mine k x hx).imp (hm x).1 id⟩
theorem zrn [Base] {g : G} {w : World} {vs : Array Value} {ds : List D} {k : Nat} {d' : D} (hlt : k < ds.length) (hs : Sim g (zai ds.length (ds.map .ro) []) vs w) (hr : RO g.c d' (vs.getD k undef)) :
  Sim g (zai ds.length ((ds.set k d').map .ro) []) vs w where
 size := hs.size
 tv := fun t => by
  have ht := hs.tv t
  show RepV _ _ _ _ t (match ((ds.set k d').map A.ro)[t]? with | some a => .one a | none => .undef) _
  by_cases htk : t = k
  ·subst htk
   rw [List.getElem?_map,List.getElem?_set_self hlt]
   exact hr
  ·rw [List.getElem?_map,List.getElem?_set_ne (fun h => htk h.symm)]
   have ht' : RepV g (zai ds.length (ds.map .ro) []) vs w t (match (ds.map A.ro)[t]? with | some a => .one a | none => .undef) (vs.getD t undef) := ht
   rw [List.getElem?_map] at ht'
   cases hq : ds[t]? with
   | some d => rw [hq] at ht'; exact ht'
   | none => rw [hq] at ht'; exact ht'
 bx := fun b cs hcs => by cases hcs
 binj := fun b b' hb => by cases hb
 sdis := hs.sdis
 sbox := fun s b x _ hb => by cases hb
 slt := hs.slt
 cmem := hs.cmem
 base := hs.base
 fix := hs.fix
 cdis := fun b o v hv => ⟨(hs.cdis b o v hv).1,fun id hid => by cases hid⟩
theorem Post.of_box [Base] {g : G} {e1 e2 : Env} {w w' : World} {r : V} {bx : zaq} {v : Value} (hb : e1.boxes = e2.boxes) (h : Post g e1 w r bx v w') : Post g e2 w r bx v w' := by
 cases r with
 | one a => obtain ⟨g',Y,hp⟩ := h; exact ⟨g',Y,hp.of_box hb⟩
 | tup as => obtain ⟨g',Y,hp⟩ := h; exact ⟨g',Y,hp.of_box hb⟩
 | agg as => exact h
theorem z5u [Base] {call : zal} (hcs : zao P call) {f : FuncId} {r : V} {z k : Nat} {ds : List D} (hk : ds[k]? = some (.sl z [])) (h1 : call f ((ds.set k .snil).map .ro) [] = some (r,[])) (h2 : call f ((ds.set k .sne).map .ro) [] = some (r,[])) :
  (∃ fn,P.funcs[f]? = some fn ∧ fn.body.isSome = true ∧ fn.name ≠ "runtime.NumGoroutine") ∧
  ∀ (g : G) (w : World) (vs : Array Value),vs.size = (ds.map A.ro).length → Sim g (zai (ds.map A.ro).length (ds.map .ro) []) vs w →
    Calls P f vs w (fun en w' => ∃ v,en = .returned v ∧ Post g (zai (ds.map A.ro).length (ds.map .ro) []) w r [] v w') := by
 obtain ⟨hfn,c1⟩ := hcs _ _ _ _ _ h1
 obtain ⟨_,c2⟩ := hcs _ _ _ _ _ h2
 refine ⟨hfn,fun g w vs hsz hs => ?_⟩
 have hlt : k < ds.length := (List.getElem?_eq_some_iff.1 hk).1
 have hro : RO g.c (.sl z []) (vs.getD k undef) := by
  have ht := hs.tv k
  have ht' : RepV g (zai (ds.map A.ro).length (ds.map .ro) []) vs w k (match (ds.map A.ro)[k]? with | some a => .one a | none => .undef) (vs.getD k undef) := ht
  rw [List.getElem?_map,hk] at ht'
  exact ht'
 rw [List.length_map] at hs
 have key : ∀ (d' : D),RO g.c d' (vs.getD k undef) → (∀ (g : G) (w : World) (vs : Array Value),vs.size = ((ds.set k d').map A.ro).length → Sim g (zai ((ds.set k d').map A.ro).length ((ds.set k d').map .ro) []) vs w →
   Calls P f vs w (fun en w' => ∃ v,en = .returned v ∧ Post g (zai ((ds.set k d').map A.ro).length ((ds.set k d').map .ro) []) w r [] v w')) →
   Calls P f vs w (fun en w' => ∃ v,en = .returned v ∧ Post g (zai (ds.map A.ro).length (ds.map .ro) []) w r [] v w') := by
  intro d' hr hc
  have hl : ((ds.set k d').map A.ro).length = ds.length := by simp
  refine (hc g w vs (by simpa using hsz) (by rw [hl]; exact zrn hlt hs hr)).mono ?_
  rintro en w' ⟨v,rfl,hp⟩
  exact ⟨v,rfl,hp.of_box (by rfl)⟩
 have hcase : RO g.c .snil (vs.getD k undef) ∨ RO g.c .sne (vs.getD k undef) := by
  generalize vs.getD k undef = v at hro
  cases hro with
  | @sl0 _ a cap =>
    cases a with
    | none => exact .inl .snil
    | some p => exact .inr .sne
  | @sl _ _ b off cap u _ _ _ _ => exact .inr .sne
 rcases hcase with hr | hr
 ·exact key _ hr c1
 ·exact key _ hr c2
end Go.Qz
