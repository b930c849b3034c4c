import Derived.Test.YtcadiohekccmiaaGreatDoorQk0
import Derived.Test.YtcadiohekccmiaaGreatDoorQj0
namespace Go.Qz
theorem zkb {ops : Array Oper} : ∀ {f k n : Nat},zlw ops f k = some n → zqg ops n = true
 | 0,k,n,h => by
   simp only [zlw] at h
   split at h
   ·rename_i hk
    obtain rfl := Option.some.inj h
    exact hk
   ·cases h
 | f + 1,k,n,h => by
   simp only [zlw] at h
   split at h
   ·rename_i hk
    obtain rfl := Option.some.inj h
    exact hk
   ·exact zkb h
theorem zpc [Base] {P : Program} {io : FuncId → List Nat} {call : zal} (hcs : zao P call) {ops : Array Oper} {Q : Exit → Act → World → Prop} : ∀ {l : List Nat} {os : List Oper} {qs : List QOp} {g : G} {e e' : Env} {a : Act} {w : World},(∀ k : Nat,l[k]?.bind (fun i => ops[i]?) = os[k]?) → l.length = os.length → qOfs ops.toList os = some qs → Sim g e a.tmps w → evL P io call qs e = some e' →
  (∀ a' w',Goes g e w e' a'.tmps w' → a'.defers = a.defers → Q .normal a' w') → wpOps P ops Q l a w
 | [],os,qs,g,e,e',a,w,_,hl,hqs,h,he,hk => by
   obtain rfl : os = [] := List.eq_nil_of_length_eq_zero hl.symm
   obtain rfl := Option.some.inj hqs
   obtain rfl := Option.some.inj he
   exact hk a w (Goes.refl h) rfl
 | i :: l,[],_,_,_,_,_,_,_,hl,_,_,_,_ => by simp at hl
 | i :: l,o :: os,qs,g,e,e',a,w,hix,hl,hqs,h,he,hk => by
   have ho : ops[i]? = some o := by have := hix 0; simpa using this
   have hix' : ∀ k : Nat,l[k]?.bind (fun i => ops[i]?) = os[k]? := fun k => by have := hix (k + 1); simpa using this
   simp only [qOfs] at hqs
   split at hqs
   ·rename_i q hq
    split at hqs
    ·rename_i qs' hqs'
     obtain rfl := Option.some.inj hqs
     simp only [evL,Option.then_] at he
     split at he
     ·rename_i e1 h1
      rw [wpOps_cons]
      exact zzo (io := io) hcs ho hq h h1 (fun a1 w1 ⟨g1,k1,k2⟩ hd => zpc hcs hix' (by simpa using hl) hqs' k1 he (fun a'' w'' ⟨g2,m1,m2⟩ hd' => hk a'' w'' ⟨g2,m1,k2.trans m2⟩ (hd'.trans hd)))
     ·cases he
    ·cases hqs
   ·cases hqs
theorem zto [Base] {P : Program} {io : FuncId → List Nat} {call : zal} (hcs : zao P call) {id : Nat} {ops : Array Oper} {qs : List QOp} {Q : Exit → Act → World → Prop} {g : G} {e e' : Env} {a : Act} {w : World} (hqs : qOfs ops.toList ops.toList = some qs) (h : Sim g e a.tmps w) (he : evL P io call qs e = some e')
  (hk : ∀ a' w',Goes g e w e' a'.tmps w' → a'.defers = a.defers → Q .normal a' w') : (Code.region id ops false).wp P Q a w := by
 refine wp_region (zpc hcs (os := ops.toList) (fun k => ?_) (by simp) hqs h he hk)
 rw [show ops.toList[k]? = ops[k]? from Array.getElem?_toList]
 rcases Nat.lt_or_ge k ops.size with hlt | hge
 ·rw [List.getElem?_range hlt]; rfl
 ·rw [List.getElem?_eq_none (by simpa using hge),Array.getElem?_eq_none hge]; rfl
theorem zzp {P : Program} {io : FuncId → List Nat} {call : zal} {lp : ziu} (l w : List Nat) (h t : List QOp) (e : Env) : evQ P io call lp (iced l (.draw w h t)) e = evQ P io call lp (.draw w h t) (iceE e l) := by
 cases l with
 | nil => rfl
 | cons y r => rfl
theorem zzq [Base] {g : G} {e : Env} {tm : Array Value} {w : World} (h : Sim g e tm w) (y : Nat) (v : V) : Goes g e w (iceV e y v) tm w := by
 unfold iceV
 split
 ·exact zdc h _
 ·exact zdc h _
 ·exact Goes.refl h
theorem zpd [Base] {tm : Array Value} {w : World} : ∀ {l : List Nat} {g : G} {e : Env},Sim g e tm w → Goes g e w (iceE e l) tm w
 | [],_,_,h => Goes.refl h
 | y :: r,_,_,h => (zzq h y _).trans (fun _ h1 => zpd (l := r) h1)
theorem zbn [Base] {P : Program} {io : FuncId → List Nat} {call : zal} {lp : ziu} (hm : P.follows .mixedOrders = true) (hcs : zao P call) (hlp : zfi lp) : ∀ (c : Code) (q : zab),zed c = some q → CodeSim P c (evQ P io call lp q)
 | .skip,q,hq => fun e ex e' he g a w h Q hQ => by
   obtain rfl := Option.some.inj hq
   simp only [evQ,Option.some.injEq,Prod.mk.injEq] at he
   obtain ⟨rfl,rfl⟩ := he
   exact wp_skip (hQ a w (Goes.refl h) rfl)
 | .label l,q,hq => fun e ex e' he g a w h Q hQ => by
   obtain rfl := Option.some.inj hq
   simp only [evQ,Option.some.injEq,Prod.mk.injEq] at he
   obtain ⟨rfl,rfl⟩ := he
   exact wp_label (hQ a w (Goes.refl h) rfl)
 | .region id ops d,q,hq => fun e ex e' he g a w h Q hQ => by
   simp only [zed] at hq
   split at hq
   ·rename_i hd
    subst hd
    split at hq
    ·rename_i hback
     split at hq
     ·rename_i n qs hn hqs
      obtain rfl := Option.some.inj hq
      have he : evQ P io call lp (.draw (z5i (qs.take n)) (qs.take n) (qs.drop n)) (iceE e (iceL (qs.take n))) = some (ex,e') := by rw [← zzp]; exact he
      simp only [evQ,Option.then_,znb] at he
      split at he
      ·rename_i e1 h1
       simp only [Option.some.injEq,Prod.mk.injEq] at he
       obtain ⟨rfl,rfl⟩ := he
       obtain ⟨g1,k1,k2⟩ := zpd (l := iceL (qs.take n)) h
       exact zwm hm (zvl hcs hqs hback (zkb hn) k1 h1 (fun a' w' hgo hd => by
        obtain ⟨g2,m1,m2⟩ := hgo
        exact hQ a' w' ⟨g2,m1,k2.trans m2⟩ hd))
      ·cases he
     ·cases hq
    ·cases hq
   ·rename_i hd
    have hd' : d = false := by simpa using hd
    subst hd'
    split at hq
    ·rename_i qs hqs
     obtain rfl := Option.some.inj hq
     simp only [evQ,Option.then_,znb] at he
     split at he
     ·rename_i e1 h1
      simp only [Option.some.injEq,Prod.mk.injEq] at he
      obtain ⟨rfl,rfl⟩ := he
      exact zto hcs hqs h h1 hQ
     ·cases he
    ·cases hq
 | .seq x y,q,hq => fun e ex e' he g a w h Q hQ => by
   simp only [zed] at hq
   split at hq
   ·rename_i qx qy hx hy
    obtain rfl := Option.some.inj hq
    simp only [evQ,Option.then_] at he
    split at he
    ·rename_i r hr
     obtain ⟨ex1,e1⟩ := r
     refine wp_seq (zbn hm hcs hlp x qx hx e ex1 e1 hr g a w h _ (fun a1 w1 ⟨g1,k1,k2⟩ hd1 => ?_))
     cases ex1 with
     | n => exact zbn hm hcs hlp y qy hy e1 ex e' he g1 a1 w1 k1 Q (fun a2 w2 ⟨g2,m1,m2⟩ hd2 => hQ a2 w2 ⟨g2,m1,k2.trans m2⟩ (hd2.trans hd1))
     | x id =>
       simp only [zko,Option.some.injEq,Prod.mk.injEq] at he
       obtain ⟨rfl,rfl⟩ := he
       exact hQ a1 w1 ⟨g1,k1,k2⟩ hd1
     | r =>
       simp only [zko,Option.some.injEq,Prod.mk.injEq] at he
       obtain ⟨rfl,rfl⟩ := he
       exact hQ a1 w1 ⟨g1,k1,k2⟩ hd1
    ·cases he
   ·cases hq
 | .cond c x y,q,hq => fun e ex e' he g a w h Q hQ => by
   simp only [zed] at hq
   split at hq
   ·rename_i qx qy hx hy
    obtain rfl := Option.some.inj hq
    simp only [evQ] at he
    split at he
    ·rename_i t ht
     have hc := (h.rd ht).bool_inv
     refine wp_cond hc ?_
     cases t with
     | true => exact zbn hm hcs hlp x qx hx e ex e' he g a w h Q hQ
     | false => exact zbn hm hcs hlp y qy hy e ex e' he g a w h Q hQ
    ·cases he
   ·cases hq
 | .block id x,q,hq => fun e ex e' he g a w h Q hQ => by
   simp only [zed] at hq
   split at hq
   ·rename_i qx hx
    obtain rfl := Option.some.inj hq
    simp only [evQ,Option.then_] at he
    split at he
    ·rename_i r hr
     obtain ⟨ex1,e1⟩ := r
     refine wp_block (zbn hm hcs hlp x qx hx e ex1 e1 hr g a w h _ (fun a1 w1 hgo hd1 => ?_))
     cases ex1 with
     | n =>
       simp only [zgk,Option.some.injEq,Prod.mk.injEq] at he
       obtain ⟨rfl,rfl⟩ := he
       exact hQ a1 w1 hgo hd1
     | r =>
       simp only [zgk,Option.some.injEq,Prod.mk.injEq] at he
       obtain ⟨rfl,rfl⟩ := he
       exact hQ a1 w1 hgo hd1
     | x i =>
       simp only [zgk] at he
       show (if i = id then Q .normal a1 w1 else Q (.exit i) a1 w1)
       split at he
       ·rename_i hi
        rw [if_pos hi]
        simp only [Option.some.injEq,Prod.mk.injEq] at he
        obtain ⟨rfl,rfl⟩ := he
        exact hQ a1 w1 hgo hd1
       ·rename_i hi
        rw [if_neg hi]
        simp only [Option.some.injEq,Prod.mk.injEq] at he
        obtain ⟨rfl,rfl⟩ := he
        exact hQ a1 w1 hgo hd1
    ·cases he
   ·cases hq
 | .loop x,q,hq => fun e ex e' he g a w h Q hQ => by
   simp only [zed] at hq
   split at hq
   ·rename_i qx hx
    obtain rfl := Option.some.inj hq
    simp only [evQ] at he
    obtain ⟨n,hn⟩ := hlp _ _ _ he
    exact z2z (zbn hm hcs hlp x qx hx) hn h hQ
   ·cases hq
 | .exit id,q,hq => fun e ex e' he g a w h Q hQ => by
   obtain rfl := Option.some.inj hq
   simp only [evQ,Option.some.injEq,Prod.mk.injEq] at he
   obtain ⟨rfl,rfl⟩ := he
   exact wp_exit (hQ a w (Goes.refl h) rfl)
 | .ret,q,hq => fun e ex e' he g a w h Q hQ => by
   obtain rfl := Option.some.inj hq
   simp only [evQ,Option.some.injEq,Prod.mk.injEq] at he
   obtain ⟨rfl,rfl⟩ := he
   exact wp_ret (hQ a w (Goes.refl h) rfl)
 | .goto _,q,hq => by cases hq
 | .scope _,q,hq => by cases hq
 | .refuse _,q,hq => by cases hq
 | .rangeFunc _ _ _ _,q,hq => by cases hq
end Go.Qz
