import Derived.Test.YtcadiohekccmiaaGreatDoorQYb0
namespace Go.Qz
open Go.Proofs
end Go.Qz
namespace Go.Qz
open Go.Proofs
theorem z1z (m l : List UInt8) (h : m.length + l.length ≤ zaf) :
  C 63 [.ptr 5000 0,.ro (T l)] [(5000,[.bnil 86,.own (.bs 5 ⟨m.toArray⟩)])] = some (.tup [.ro (N l.length),.ro .nili],[(5000,[.selfp,.own (.bs 5 ⟨(m ++ l).toArray⟩)])]) := by
 refine zac Tryz.func63 Cv63 rfl ?_
 have hc := zxi 5000 (.own (.bs 5 ⟨m.toArray⟩)) (by decide)
 simp [hc,h]
theorem z10 (m l : List UInt8) (h : m.length + l.length ≤ zaf) :
  C 63 [.ptr 5000 0,.ro (T l)] [(5000,[.selfp,.own (.bs 5 ⟨m.toArray⟩)])] = some (.tup [.ro (N l.length),.ro .nili],[(5000,[.selfp,.own (.bs 5 ⟨(m ++ l).toArray⟩)])]) := by
 refine zac Tryz.func63 Cv63 rfl ?_
 have hc := zua 5000 (.own (.bs 5 ⟨m.toArray⟩)) (by decide)
 simp [hc,h]
theorem zv6 {a0 : A} (ha : a0 = .bnil 86 ∨ a0 = .selfp) (m l : List UInt8) (h : m.length + l.length ≤ zaf) :
  C 63 [.ptr 5000 0,.ro (T l)] [(5000,[a0,.own (.bs 5 ⟨m.toArray⟩)])] = some (.tup [.ro (N l.length),.ro .nili],[(5000,[.selfp,.own (.bs 5 ⟨(m ++ l).toArray⟩)])]) := by
 rcases ha with rfl | rfl
 ·exact z1z m l h
 ·exact z10 m l h
theorem z6z (a0 : A) (m : List UInt8) : C 66 [.ptr 5000 0] [(5000,[a0,.own (.bs 5 ⟨m.toArray⟩)])] = some (.one (.ro (T m)),[(5000,[a0,.dead])]) := z0r 5000 a0 ⟨m.toArray⟩ (by decide)
end Go.Qz
namespace Go.Qz
open Go.Proofs
theorem z11 {fs : List Fl} (hf : zgg fs = true) {l : List UInt8} (hl : zb3 l = true) : C Fn40 [.ro (FS fs),.ro (T l),.ro (.sl 1 [])] [] = some (.tup [.ro (T (zd1 fs l).2),.ro (N (zd1 fs l).1)],[]) := by
 rw [zv1 hf hl]
 exact zuj fs (zol hf) (fs.length + 1) [] l (zvy fs) (zm2 hl)
theorem z4e {fs : List Fl} (h : fs.all letB = true) {i : Nat} (hi : i < fs.length) : zax fs[i].1 = true := by
 have := List.all_eq_true.1 h _ (List.getElem_mem hi)
 unfold letB at this
 simp only [Bool.and_eq_true] at this
 exact this.1
set_option maxHeartbeats 2000000 in
theorem zm8 (r : Rc) (h : RcSz r) : C Fn13 [.ro (RcD r)] [] = some (.one (.ro (N (zdg r))),[]) := by
 refine zac Tryz.func13 Cv13 rfl ?_
 have h1 := z1j r h
 have h2 := zxy r h
 have hown := z4b r h
 unfold zdg
 cases hf : zdp r with
 | false => rw [hf] at h1; simp [h1]
 | true =>
   rw [hf] at h1
   simp only [if_true]
   cases ht : zc4 r with
   | true => rw [ht] at h2; simp [h1,h2]
   | false =>
     rw [ht] at h2
     simp only [Bool.false_eq_true,if_false]
     rw [z6y hf]
     obtain ⟨p1,p2,p3,p4,p5,p6⟩ := zhs hf
     have hfs := zpt hf
     generalize ownR r = fs at *
     have hst : ∀ i (hi : i < r.steps.length),C Fn40 [.ro (FS fs),.ro (T r.steps[i]),.ro (.sl 1 [])] [] = some (.tup [.ro (T (zd1 fs r.steps[i]).2),.ro (N (zd1 fs r.steps[i]).1)],[]) := fun i hi =>
      z11 hfs (List.all_eq_true.1 p5 _ (List.getElem_mem hi))
     have hrf : ∀ i (hi : i < r.lets.length),C Fn40 [.ro (FS fs),.ro (T (36 :: 123 :: (r.lets[i].1 ++ [125]))),.ro (.sl 1 [])] [] = some (.tup [.ro (T (zd1 fs (36 :: 123 :: (r.lets[i].1 ++ [125]))).2),.ro (N (zd1 fs (36 :: 123 :: (r.lets[i].1 ++ [125]))).1)],[]) := fun i hi =>
      z11 hfs (zsi (z4e p4 hi) [] [] rfl rfl (by simp))
     have go2 : ∀ e : Env,e.size = 61 → e.get 1 = .one (.ptr 1 0) → e.box 1 = some (RB1 r) → Run cx q13c5 e [.fn [(.tmp 2,3)] []] = some (.one (.ro (N (chk fs r.steps))),[]) := by
      intro e hsz e1 b1
      simp [hsz]
      refine zah (fun m e => ∃ i,m = r.steps.length - i ∧ i ≤ r.steps.length ∧ e.size = 61 ∧ e.get 1 = .one (.ptr 1 0) ∧ e.box 1 = some (RB1 r) ∧ e.get 6 = .one (.ro (N i)) ∧ chk fs (r.steps.drop i) = chk fs r.steps)
       ?_ r.steps.length _ ⟨0,rfl,Nat.zero_le _,by simp [hsz],by simp [e1],by simp [b1],by simp,rfl⟩
      clear hsz e1 b1
      rintro m e ⟨i,rfl,hi,hsz,e1,b1,e6,hr⟩ ih
      rcases Nat.lt_or_ge i r.steps.length with hlt | hge
      ·have hd : r.steps.drop i = r.steps[i] :: r.steps.drop (i + 1) := List.drop_eq_getElem_cons hlt
       have hwi : IntKind.i64.wrap ((i : Int) + 1) = ((i + 1 : Nat) : Int) := zad (by omega)
       have hev := hst i hlt
       rw [hd,chk] at hr
       generalize zd1 fs r.steps[i] = xv at *
       obtain ⟨c,x⟩ := xv
       simp only at hev hr
       by_cases hc : c = 0
       ·subst hc
        rw [if_pos rfl] at hr
        simp [hsz,e1,b1,e6,hlt,hwi,hown,hev]
        exact ih _ _ (by omega) ⟨i + 1,rfl,by omega,by simp [hsz],by simp [e1],by simp [b1],by simp,hr⟩
       ·rw [if_neg hc] at hr
        have hc' : (c == 0) = false := by simpa using hc
        rw [← hr]
        simp [hsz,e1,b1,e6,hlt,hown,hev,hc']
      ·obtain rfl : i = r.steps.length := by omega
       rw [List.drop_length,chk] at hr
       rw [← hr]
       simp [hsz,e1,b1,e6]
     simp [h1,h2]
     refine zah (fun m e => ∃ i,m = r.lets.length - i ∧ i ≤ r.lets.length ∧ e.size = 61 ∧ e.get 1 = .one (.ptr 1 0) ∧ e.box 1 = some (RB1 r) ∧ e.get 3 = .one (.ro (N i)) ∧
      chk fs ((r.lets.drop i).map (fun f => refT f.1) ++ r.steps) = chk fs (r.lets.map (fun f => refT f.1) ++ r.steps)) ?_ r.lets.length _ ⟨0,rfl,Nat.zero_le _,by simp,by simp,by simp,by simp,rfl⟩
     rintro m e ⟨i,rfl,hi,hsz,e1,b1,e3,hr⟩ ih
     rcases Nat.lt_or_ge i r.lets.length with hlt | hge
     ·have hd : r.lets.drop i = r.lets[i] :: r.lets.drop (i + 1) := List.drop_eq_getElem_cons hlt
      have hwi : IntKind.i64.wrap ((i : Int) + 1) = ((i + 1 : Nat) : Int) := zad (by omega)
      have hev := hrf i hlt
      have hz := (h.letz _ (List.getElem_mem hlt)).1
      have m1 : 2 + r.lets[i].1.length ≤ zaj := by simp only [zaj]; omega
      have m2 : r.lets[i].1.length + 1 + 1 + 1 ≤ zaj := by simp only [zaj]; omega
      rw [hd,List.map_cons,List.cons_append,chk,show refT r.lets[i].1 = 36 :: 123 :: (r.lets[i].1 ++ [125]) from rfl] at hr
      generalize zd1 fs (36 :: 123 :: (r.lets[i].1 ++ [125])) = xv at *
      obtain ⟨c,x⟩ := xv
      simp only at hev hr
      by_cases hc : c = 0
      ·subst hc
       rw [if_pos rfl] at hr
       simp [hsz,e1,b1,e3,hlt,hwi,hown,hev,m1,m2]
       exact ih _ _ (by omega) ⟨i + 1,rfl,by omega,by simp [hsz],by simp [e1],by simp [b1],by simp,hr⟩
      ·rw [if_neg hc] at hr
       have hc' : (c == 0) = false := by simpa using hc
       rw [← hr]
       simp [hsz,e1,b1,e3,hlt,hown,hev,m1,m2,hc']
     ·obtain rfl : i = r.lets.length := by omega
      rw [List.drop_length,List.map_nil,List.nil_append] at hr
      rw [← hr]
      simp [hsz,e1,b1,e3,-z97]
      exact go2 _ (by simp [hsz]) (by simp [e1]) (by simp [b1])
end Go.Qz
namespace Go.Qz
open Go.Proofs
theorem z12 (k : Int) : C yje [.ro (I k)] [] = some (.one (.ro (T (zpv k))),[]) := by
 refine zac Tryz.func162 yjg rfl ?_
 unfold zpv
 cases h1 : k == 1
 ·cases h2 : k == 2
  ·cases h3 : k == 3
   ·simp [h1,h2,h3]
   ·simp [h1,h2,h3]
  ·simp [h1,h2]
 ·simp [h1]
theorem zv7 (e : Ne) (h : neSz e) : C yhq [.ro (NeD e)] [] = some (.one (.ro (T (zhw e))),[]) := by
 refine zac Tryz.func130 yhr rfl ?_
 have h1 := z12 e.kind
 have h2 := zsm e.kind
 have h3 := h.1
 have h4 := h.2
 unfold zhw
 generalize zpv e.kind = s at *
 have z1 : e.name.length + s.length ≤ zaj := by unfold zaj; omega
 have z2 : e.name.length + s.length + e.ver.length ≤ zaj := by unfold zaj; omega
 have z3 : e.name.length + (s.length + e.ver.length) ≤ zaj := by unfold zaj; omega
 simp [h1,z1,z2,z3]
theorem zm9 (e : Ne) (h : neSz e) (hok : zbp e = true) : C Fn65 [.ro (NeD e)] [] = some (.one (.ro (T (zhw e))),[]) := by
 refine zac Tryz.func65 Cv65 rfl ?_
 have h1 := zog e h
 rw [hok] at h1
 have hv := (zv4 hok).2
 have h3 := h.1
 have h4 := h.2
 obtain ⟨n,k,v⟩ := e
 simp only at hv h3 h4
 have z1 : n.length + 1 ≤ zaj := by unfold zaj; omega
 have z2 : n.length + 2 ≤ zaj := by unfold zaj; omega
 have z3 : n.length + 1 + v.length ≤ zaj := by unfold zaj; omega
 have z4 : n.length + 2 + v.length ≤ zaj := by unfold zaj; omega
 have z5 : n.length + (v.length + 1) ≤ zaj := by unfold zaj; omega
 have z6 : n.length + (v.length + 1 + 1) ≤ zaj := by unfold zaj; omega
 unfold zhw zpv
 rcases hv with ⟨rfl,rfl⟩ | ⟨rfl | rfl | rfl,_⟩ <;> simp [h1,z1,z2,z3,z4,z5,z6]
theorem zna {a0 : A} (ha : a0 = .bnil 86 ∨ a0 = .selfp) (m w x : List UInt8) (h : m.length + (w.length + (x.length + 2)) ≤ 1000000) :
  C Fn62 [.ro (.sl 1 [T w,T x]),.ptr 5001 0] [(5001,[a0,.own (.bs 5 ⟨m.toArray⟩)])] = some (.tup [],[(5001,[.selfp,.own (.bs 5 ⟨(m ++ (ln1 w x ++ [10])).toArray⟩)])]) := by
 refine zac Tryz.func62 Cv62 rfl ?_
 have hj := z3c w x (by omega)
 have hl : (ln1 w x).length = w.length + (x.length + 1) := by simp [ln1]
 rw [show w ++ 32 :: x = ln1 w x from rfl] at hj
 generalize ln1 w x = l at *
 have hw := zv6 ha m (l ++ [10]) (by simp [zaf]; omega)
 have z1 : l.length + 1 ≤ zaj := by unfold zaj; omega
 rcases ha with rfl | rfl <;> simp [hj,hw,z1]
theorem zuu {a0 : A} (ha : a0 = .bnil 86 ∨ a0 = .selfp) (m w : List UInt8) (f : Fl) (h : m.length + (w.length + (f.1.length + (f.2.length + 3))) ≤ 1000000) :
  C Fn62 [.ro (.sl 1 [T w,T f.1,T f.2]),.ptr 5001 0] [(5001,[a0,.own (.bs 5 ⟨m.toArray⟩)])] = some (.tup [],[(5001,[.selfp,.own (.bs 5 ⟨(m ++ (ln2 w f ++ [10])).toArray⟩)])]) := by
 refine zac Tryz.func62 Cv62 rfl ?_
 have hj := z3d w f.1 f.2 (by omega)
 have hl : (ln2 w f).length = w.length + (f.1.length + (f.2.length + 2)) := by simp [ln2]; omega
 rw [show w ++ 32 :: (f.1 ++ 32 :: f.2) = ln2 w f from rfl] at hj
 generalize ln2 w f = l at *
 have hw := zv6 ha m (l ++ [10]) (by simp [zaf]; omega)
 have z1 : l.length + 1 ≤ zaj := by unfold zaj; omega
 rcases ha with rfl | rfl <;> simp [hj,hw,z1]
theorem zbg (xs : zbd) (i : Nat) : (nlT (xs.take i)).length ≤ (nlT xs).length := by
 conv => rhs; rw [← List.take_append_drop i xs]
 rw [zbs,List.length_append]
 omega
theorem zcp {α : Type} {xs : List α} {f : α → List UInt8} {i : Nat} (h : i < xs.length) : nlT ((xs.map f).take (i + 1)) = nlT ((xs.map f).take i) ++ (f xs[i] ++ [10]) := by
 rw [z4c (by simpa using h),List.getElem_map]
theorem zga (w x : List UInt8) : (ln1 w x).length = w.length + (x.length + 1) := by simp [ln1]
theorem zkl (w : List UInt8) (f : Fl) : (ln2 w f).length = w.length + (f.1.length + (f.2.length + 2)) := by simp [ln2]; omega
abbrev OB (m : List UInt8) : List A := [.selfp,.own (.bs 5 ⟨m.toArray⟩)]
theorem z4f (r : Rc) (h : RcSz r) (hf : Fine r) (m : List UInt8) (e : Env) (hm : m.length + (nlT (r.steps.map (ln1 zaz))).length ≤ 900000) (hsz : e.size = 115) (e1 : e.get 1 = .one (.ptr 1 0)) (b1 : e.box 1 = some (RB1 r)) (e3 : e.get 3 = .one (.ptr 3 0)) (e4 : e.get 4 = .one (.fn 62 [.ptr 3])) (b3 : e.box 3 = some (OB m)) :
  Run cx q26c13 e [.fn [(.tmp 2,9)] []] = some (.one (.ro (T (m ++ nlT (r.steps.map (ln1 zaz))))),[]) := by
 have hw := h.steps
 simp [hsz,e1,b1,-zt0]
 refine zah (fun k e => ∃ i,k = r.steps.length - i ∧ i ≤ r.steps.length ∧ e.size = 115 ∧ e.get 1 = .one (.ptr 1 0) ∧ e.box 1 = some (RB1 r) ∧ e.get 3 = .one (.ptr 3 0) ∧ e.get 4 = .one (.fn 62 [.ptr 3]) ∧ e.box 3 = some (OB (m ++ nlT ((r.steps.map (ln1 zaz)).take i))) ∧ e.get 103 = .one (.ro (SS r.steps)) ∧ e.get 104 = .one (.ro (N r.steps.length)) ∧ e.get 105 = .one (.ro (N i)))
  ?_ r.steps.length _ ⟨0,rfl,Nat.zero_le _,by simp [hsz],by simp [e1],by simp [b1],by simp [e3],by simp [e4],by simp [b3,nlT],by simp,by simp,by simp⟩
 clear hsz e1 b1 e3 e4 b3
 rintro k e ⟨i,rfl,hi,hsz,e1,b1,e3,e4,b3,es,el,ei⟩ ih
 rcases Nat.lt_or_ge i r.steps.length with hlt | hge
 ·have hwi : IntKind.i64.wrap ((i : Int) + 1) = ((i + 1 : Nat) : Int) := zad (by omega)
  have htk := zcp (f := ln1 zaz) hlt
  have hle := zbg (r.steps.map (ln1 zaz)) (i + 1)
  obtain ⟨M2,hM2⟩ : ∃ M2,M2 = m ++ nlT ((r.steps.map (ln1 zaz)).take (i + 1)) := ⟨_,rfl⟩
  have hM2' : M2 = (m ++ nlT ((r.steps.map (ln1 zaz)).take i)) ++ ((ln1 zaz) r.steps[i] ++ [10]) := by rw [hM2,htk,List.append_assoc]
  have hlen : M2.length ≤ 900000 := by rw [hM2,List.length_append]; omega
  have hl2 := congrArg List.length hM2'
  simp only [List.length_append,List.length_singleton,zga] at hl2
  have hput := zna (a0 := .selfp) (.inr rfl) (m ++ nlT ((r.steps.map (ln1 zaz)).take i)) zaz r.steps[i] (by simp only [List.length_append]; omega)
  rw [← hM2'] at hput
  generalize m ++ nlT ((r.steps.map (ln1 zaz)).take i) = M1 at *
  simp [hsz,e1,b1,e4,b3,es,el,ei,hlt,hwi,hput]
  exact ih _ _ (by omega) ⟨i + 1,rfl,by omega,by simp [hsz],by simp [e1],by simp [b1],by simp [e3],by simp [e4],by simp [← hM2],by simp [es],by simp [el],by simp⟩
 ·obtain rfl : i = r.steps.length := by omega
  rw [List.take_of_length_le (by simp)] at b3
  simp [hsz,el,ei,-zt0]
  have ht := z6z .selfp (m ++ nlT (r.steps.map (ln1 zaz)))
  generalize m ++ nlT (r.steps.map (ln1 zaz)) = M at *
  simp [hsz,e3,b3,ht,zt0]
theorem z4g (r : Rc) (h : RcSz r) (hf : Fine r) (m : List UInt8) (e : Env) (hm : m.length + (nlT (r.pcs.map (ln2 kwPc) ++ (r.steps.map (ln1 zaz)))).length ≤ 900000) (hsz : e.size = 115) (e1 : e.get 1 = .one (.ptr 1 0)) (b1 : e.box 1 = some (RB1 r)) (e3 : e.get 3 = .one (.ptr 3 0)) (e4 : e.get 4 = .one (.fn 62 [.ptr 3])) (b3 : e.box 3 = some (OB m)) :
  Run cx q26c14 e [.fn [(.tmp 2,9)] []] = some (.one (.ro (T (m ++ nlT (r.pcs.map (ln2 kwPc) ++ (r.steps.map (ln1 zaz)))))),[]) := by
 have hw := h.pcs
 rw [zbs] at hm ⊢
 rw [List.length_append] at hm
 simp [hsz,e1,b1,-z0a]
 refine zah (fun k e => ∃ i,k = r.pcs.length - i ∧ i ≤ r.pcs.length ∧ e.size = 115 ∧ e.get 1 = .one (.ptr 1 0) ∧ e.box 1 = some (RB1 r) ∧ e.get 3 = .one (.ptr 3 0) ∧ e.get 4 = .one (.fn 62 [.ptr 3]) ∧ e.box 3 = some (OB (m ++ nlT ((r.pcs.map (ln2 kwPc)).take i))) ∧ e.get 88 = .one (.ro (FS r.pcs)) ∧ e.get 89 = .one (.ro (N r.pcs.length)) ∧ e.get 90 = .one (.ro (N i)))
  ?_ r.pcs.length _ ⟨0,rfl,Nat.zero_le _,by simp [hsz],by simp [e1],by simp [b1],by simp [e3],by simp [e4],by simp [b3,nlT],by simp,by simp,by simp⟩
 clear hsz e1 b1 e3 e4 b3
 rintro k e ⟨i,rfl,hi,hsz,e1,b1,e3,e4,b3,es,el,ei⟩ ih
 rcases Nat.lt_or_ge i r.pcs.length with hlt | hge
 ·have hwi : IntKind.i64.wrap ((i : Int) + 1) = ((i + 1 : Nat) : Int) := zad (by omega)
  have htk := zcp (f := ln2 kwPc) hlt
  have hle := zbg (r.pcs.map (ln2 kwPc)) (i + 1)
  obtain ⟨M2,hM2⟩ : ∃ M2,M2 = m ++ nlT ((r.pcs.map (ln2 kwPc)).take (i + 1)) := ⟨_,rfl⟩
  have hM2' : M2 = (m ++ nlT ((r.pcs.map (ln2 kwPc)).take i)) ++ ((ln2 kwPc) r.pcs[i] ++ [10]) := by rw [hM2,htk,List.append_assoc]
  have hlen : M2.length ≤ 900000 := by rw [hM2,List.length_append]; omega
  have hl2 := congrArg List.length hM2'
  simp only [List.length_append,List.length_singleton,zkl] at hl2
  have hput := zuu (a0 := .selfp) (.inr rfl) (m ++ nlT ((r.pcs.map (ln2 kwPc)).take i)) kwPc r.pcs[i] (by simp only [List.length_append]; omega)
  rw [← hM2'] at hput
  generalize m ++ nlT ((r.pcs.map (ln2 kwPc)).take i) = M1 at *
  simp [hsz,e1,b1,e4,b3,es,el,ei,hlt,hwi,hput]
  exact ih _ _ (by omega) ⟨i + 1,rfl,by omega,by simp [hsz],by simp [e1],by simp [b1],by simp [e3],by simp [e4],by simp [← hM2],by simp [es],by simp [el],by simp⟩
 ·obtain rfl : i = r.pcs.length := by omega
  rw [List.take_of_length_le (by simp)] at b3
  simp [hsz,el,ei,-z0a]
  have := z4f r h hf (m ++ nlT (r.pcs.map (ln2 kwPc)))
  rw [List.append_assoc] at this
  exact this _ (by rw [List.length_append]; omega) (by simp [hsz]) (by simp [e1]) (by simp [b1]) (by simp [e3]) (by simp [e4]) (by simp [b3])
theorem z4h (r : Rc) (h : RcSz r) (hf : Fine r) (m : List UInt8) (e : Env) (hm : m.length + (nlT (r.srcs.map (ln2 zcc) ++ (r.pcs.map (ln2 kwPc) ++ (r.steps.map (ln1 zaz))))).length ≤ 900000) (hsz : e.size = 115) (e1 : e.get 1 = .one (.ptr 1 0)) (b1 : e.box 1 = some (RB1 r)) (e3 : e.get 3 = .one (.ptr 3 0)) (e4 : e.get 4 = .one (.fn 62 [.ptr 3])) (b3 : e.box 3 = some (OB m)) :
  Run cx q26c15 e [.fn [(.tmp 2,9)] []] = some (.one (.ro (T (m ++ nlT (r.srcs.map (ln2 zcc) ++ (r.pcs.map (ln2 kwPc) ++ (r.steps.map (ln1 zaz))))))),[]) := by
 have hw := h.srcs
 rw [zbs] at hm ⊢
 rw [List.length_append] at hm
 simp [hsz,e1,b1,-z0b]
 refine zah (fun k e => ∃ i,k = r.srcs.length - i ∧ i ≤ r.srcs.length ∧ e.size = 115 ∧ e.get 1 = .one (.ptr 1 0) ∧ e.box 1 = some (RB1 r) ∧ e.get 3 = .one (.ptr 3 0) ∧ e.get 4 = .one (.fn 62 [.ptr 3]) ∧ e.box 3 = some (OB (m ++ nlT ((r.srcs.map (ln2 zcc)).take i))) ∧ e.get 73 = .one (.ro (FS r.srcs)) ∧ e.get 74 = .one (.ro (N r.srcs.length)) ∧ e.get 75 = .one (.ro (N i)))
  ?_ r.srcs.length _ ⟨0,rfl,Nat.zero_le _,by simp [hsz],by simp [e1],by simp [b1],by simp [e3],by simp [e4],by simp [b3,nlT],by simp,by simp,by simp⟩
 clear hsz e1 b1 e3 e4 b3
 rintro k e ⟨i,rfl,hi,hsz,e1,b1,e3,e4,b3,es,el,ei⟩ ih
 rcases Nat.lt_or_ge i r.srcs.length with hlt | hge
 ·have hwi : IntKind.i64.wrap ((i : Int) + 1) = ((i + 1 : Nat) : Int) := zad (by omega)
  have htk := zcp (f := ln2 zcc) hlt
  have hle := zbg (r.srcs.map (ln2 zcc)) (i + 1)
  obtain ⟨M2,hM2⟩ : ∃ M2,M2 = m ++ nlT ((r.srcs.map (ln2 zcc)).take (i + 1)) := ⟨_,rfl⟩
  have hM2' : M2 = (m ++ nlT ((r.srcs.map (ln2 zcc)).take i)) ++ ((ln2 zcc) r.srcs[i] ++ [10]) := by rw [hM2,htk,List.append_assoc]
  have hlen : M2.length ≤ 900000 := by rw [hM2,List.length_append]; omega
  have hl2 := congrArg List.length hM2'
  simp only [List.length_append,List.length_singleton,zkl] at hl2
  have hput := zuu (a0 := .selfp) (.inr rfl) (m ++ nlT ((r.srcs.map (ln2 zcc)).take i)) zcc r.srcs[i] (by simp only [List.length_append]; omega)
  rw [← hM2'] at hput
  generalize m ++ nlT ((r.srcs.map (ln2 zcc)).take i) = M1 at *
  simp [hsz,e1,b1,e4,b3,es,el,ei,hlt,hwi,hput]
  exact ih _ _ (by omega) ⟨i + 1,rfl,by omega,by simp [hsz],by simp [e1],by simp [b1],by simp [e3],by simp [e4],by simp [← hM2],by simp [es],by simp [el],by simp⟩
 ·obtain rfl : i = r.srcs.length := by omega
  rw [List.take_of_length_le (by simp)] at b3
  simp [hsz,el,ei,-z0b]
  have := z4g r h hf (m ++ nlT (r.srcs.map (ln2 zcc)))
  rw [List.append_assoc] at this
  exact this _ (by rw [List.length_append]; omega) (by simp [hsz]) (by simp [e1]) (by simp [b1]) (by simp [e3]) (by simp [e4]) (by simp [b3])
theorem z4i (r : Rc) (h : RcSz r) (hf : Fine r) (m : List UInt8) (e : Env) (hm : m.length + (nlT (r.runs.map (lnN zck) ++ (r.srcs.map (ln2 zcc) ++ (r.pcs.map (ln2 kwPc) ++ (r.steps.map (ln1 zaz)))))).length ≤ 900000) (hsz : e.size = 115) (e1 : e.get 1 = .one (.ptr 1 0)) (b1 : e.box 1 = some (RB1 r)) (e3 : e.get 3 = .one (.ptr 3 0)) (e4 : e.get 4 = .one (.fn 62 [.ptr 3])) (b3 : e.box 3 = some (OB m)) :
  Run cx q26c16 e [.fn [(.tmp 2,9)] []] = some (.one (.ro (T (m ++ nlT (r.runs.map (lnN zck) ++ (r.srcs.map (ln2 zcc) ++ (r.pcs.map (ln2 kwPc) ++ (r.steps.map (ln1 zaz)))))))),[]) := by
 have hw := h.runs
 rw [zbs] at hm ⊢
 rw [List.length_append] at hm
 simp [hsz,e1,b1,-z0c]
 refine zah (fun k e => ∃ i,k = r.runs.length - i ∧ i ≤ r.runs.length ∧ e.size = 115 ∧ e.get 1 = .one (.ptr 1 0) ∧ e.box 1 = some (RB1 r) ∧ e.get 3 = .one (.ptr 3 0) ∧ e.get 4 = .one (.fn 62 [.ptr 3]) ∧ e.box 3 = some (OB (m ++ nlT ((r.runs.map (lnN zck)).take i))) ∧ e.get 60 = .one (.ro (NeS r.runs)) ∧ e.get 61 = .one (.ro (N r.runs.length)) ∧ e.get 62 = .one (.ro (N i)))
  ?_ r.runs.length _ ⟨0,rfl,Nat.zero_le _,by simp [hsz],by simp [e1],by simp [b1],by simp [e3],by simp [e4],by simp [b3,nlT],by simp,by simp,by simp⟩
 clear hsz e1 b1 e3 e4 b3
 rintro k e ⟨i,rfl,hi,hsz,e1,b1,e3,e4,b3,es,el,ei⟩ ih
 rcases Nat.lt_or_ge i r.runs.length with hlt | hge
 ·have hwi : IntKind.i64.wrap ((i : Int) + 1) = ((i + 1 : Nat) : Int) := zad (by omega)
  have htk := zcp (f := lnN zck) hlt
  have hle := zbg (r.runs.map (lnN zck)) (i + 1)
  obtain ⟨M2,hM2⟩ : ∃ M2,M2 = m ++ nlT ((r.runs.map (lnN zck)).take (i + 1)) := ⟨_,rfl⟩
  have hM2' : M2 = (m ++ nlT ((r.runs.map (lnN zck)).take i)) ++ ((lnN zck) r.runs[i] ++ [10]) := by rw [hM2,htk,List.append_assoc]
  have hlen : M2.length ≤ 900000 := by rw [hM2,List.length_append]; omega
  have hl2 := congrArg List.length hM2'
  simp only [List.length_append,List.length_singleton,lnN,zga] at hl2
  have hnd := zm9 r.runs[i] (h.run _ (List.getElem_mem hlt)) (hf.runs.1 _ (List.getElem_mem hlt))
  have hput := zna (a0 := .selfp) (.inr rfl) (m ++ nlT ((r.runs.map (lnN zck)).take i)) zck (zhw r.runs[i]) (by simp only [List.length_append]; omega)
  rw [show ln1 zck (zhw r.runs[i]) = lnN zck r.runs[i] from rfl] at hput
  rw [← hM2'] at hput
  generalize m ++ nlT ((r.runs.map (lnN zck)).take i) = M1 at *
  simp [hsz,e1,b1,e4,b3,es,el,ei,hlt,hwi,hput,hnd]
  exact ih _ _ (by omega) ⟨i + 1,rfl,by omega,by simp [hsz],by simp [e1],by simp [b1],by simp [e3],by simp [e4],by simp [← hM2],by simp [es],by simp [el],by simp⟩
 ·obtain rfl : i = r.runs.length := by omega
  rw [List.take_of_length_le (by simp)] at b3
  simp [hsz,el,ei,-z0c]
  have := z4h r h hf (m ++ nlT (r.runs.map (lnN zck)))
  rw [List.append_assoc] at this
  exact this _ (by rw [List.length_append]; omega) (by simp [hsz]) (by simp [e1]) (by simp [b1]) (by simp [e3]) (by simp [e4]) (by simp [b3])
theorem z4j (r : Rc) (h : RcSz r) (hf : Fine r) (m : List UInt8) (e : Env) (hm : m.length + (nlT (r.builds.map (lnN za5) ++ (r.runs.map (lnN zck) ++ (r.srcs.map (ln2 zcc) ++ (r.pcs.map (ln2 kwPc) ++ (r.steps.map (ln1 zaz))))))).length ≤ 900000) (hsz : e.size = 115) (e1 : e.get 1 = .one (.ptr 1 0)) (b1 : e.box 1 = some (RB1 r)) (e3 : e.get 3 = .one (.ptr 3 0)) (e4 : e.get 4 = .one (.fn 62 [.ptr 3])) (b3 : e.box 3 = some (OB m)) :
  Run cx q26c17 e [.fn [(.tmp 2,9)] []] = some (.one (.ro (T (m ++ nlT (r.builds.map (lnN za5) ++ (r.runs.map (lnN zck) ++ (r.srcs.map (ln2 zcc) ++ (r.pcs.map (ln2 kwPc) ++ (r.steps.map (ln1 zaz))))))))),[]) := by
 have hw := h.builds
 rw [zbs] at hm ⊢
 rw [List.length_append] at hm
 simp [hsz,e1,b1,-z0d]
 refine zah (fun k e => ∃ i,k = r.builds.length - i ∧ i ≤ r.builds.length ∧ e.size = 115 ∧ e.get 1 = .one (.ptr 1 0) ∧ e.box 1 = some (RB1 r) ∧ e.get 3 = .one (.ptr 3 0) ∧ e.get 4 = .one (.fn 62 [.ptr 3]) ∧ e.box 3 = some (OB (m ++ nlT ((r.builds.map (lnN za5)).take i))) ∧ e.get 47 = .one (.ro (NeS r.builds)) ∧ e.get 48 = .one (.ro (N r.builds.length)) ∧ e.get 49 = .one (.ro (N i)))
  ?_ r.builds.length _ ⟨0,rfl,Nat.zero_le _,by simp [hsz],by simp [e1],by simp [b1],by simp [e3],by simp [e4],by simp [b3,nlT],by simp,by simp,by simp⟩
 clear hsz e1 b1 e3 e4 b3
 rintro k e ⟨i,rfl,hi,hsz,e1,b1,e3,e4,b3,es,el,ei⟩ ih
 rcases Nat.lt_or_ge i r.builds.length with hlt | hge
 ·have hwi : IntKind.i64.wrap ((i : Int) + 1) = ((i + 1 : Nat) : Int) := zad (by omega)
  have htk := zcp (f := lnN za5) hlt
  have hle := zbg (r.builds.map (lnN za5)) (i + 1)
  obtain ⟨M2,hM2⟩ : ∃ M2,M2 = m ++ nlT ((r.builds.map (lnN za5)).take (i + 1)) := ⟨_,rfl⟩
  have hM2' : M2 = (m ++ nlT ((r.builds.map (lnN za5)).take i)) ++ ((lnN za5) r.builds[i] ++ [10]) := by rw [hM2,htk,List.append_assoc]
  have hlen : M2.length ≤ 900000 := by rw [hM2,List.length_append]; omega
  have hl2 := congrArg List.length hM2'
  simp only [List.length_append,List.length_singleton,lnN,zga] at hl2
  have hnd := zm9 r.builds[i] (h.bld _ (List.getElem_mem hlt)) (hf.builds.1 _ (List.getElem_mem hlt))
  have hput := zna (a0 := .selfp) (.inr rfl) (m ++ nlT ((r.builds.map (lnN za5)).take i)) za5 (zhw r.builds[i]) (by simp only [List.length_append]; omega)
  rw [show ln1 za5 (zhw r.builds[i]) = lnN za5 r.builds[i] from rfl] at hput
  rw [← hM2'] at hput
  generalize m ++ nlT ((r.builds.map (lnN za5)).take i) = M1 at *
  simp [hsz,e1,b1,e4,b3,es,el,ei,hlt,hwi,hput,hnd]
  exact ih _ _ (by omega) ⟨i + 1,rfl,by omega,by simp [hsz],by simp [e1],by simp [b1],by simp [e3],by simp [e4],by simp [← hM2],by simp [es],by simp [el],by simp⟩
 ·obtain rfl : i = r.builds.length := by omega
  rw [List.take_of_length_le (by simp)] at b3
  simp [hsz,el,ei,-z0d]
  have := z4i r h hf (m ++ nlT (r.builds.map (lnN za5)))
  rw [List.append_assoc] at this
  exact this _ (by rw [List.length_append]; omega) (by simp [hsz]) (by simp [e1]) (by simp [b1]) (by simp [e3]) (by simp [e4]) (by simp [b3])
set_option maxHeartbeats 1000000 in
theorem z4k (r : Rc) (h : RcSz r) (hf : Fine r) (e : Env) (hm : (putR r).length ≤ 900000) (hsz : e.size = 115) (e1 : e.get 1 = .one (.ptr 1 0)) (b1 : e.box 1 = some (RB1 r)) :
  Run cx q26c18 e [.fn [(.tmp 2,9)] []] = some (.one (.ro (T (putR r))),[]) := by
 have hw := h.lets
 have hP : putR r = (ln1 kwName r.name ++ [10]) ++ (ln1 kwVer r.ver ++ [10]) ++ (nlT (r.lets.map (ln2 zet)) ++ nlT (r.builds.map (lnN za5) ++ (r.runs.map (lnN zck) ++ (r.srcs.map (ln2 zcc) ++ (r.pcs.map (ln2 kwPc) ++ (r.steps.map (ln1 zaz))))))) := by
  unfold putR zk7
  rw [zjr,zjr,zbs]
  simp
 rw [hP] at hm ⊢
 have hk1 : kwName.length = 4 := rfl
 have hk2 : kwVer.length = 7 := rfl
 simp only [List.length_append,List.length_singleton,zga] at hm
 have p1 := zna (a0 := .bnil 86) (.inl rfl) [] kwName r.name (by simp; omega)
 have p2 := zna (a0 := .selfp) (.inr rfl) (ln1 kwName r.name ++ [10]) kwVer r.ver (by simp only [List.length_append,List.length_singleton,zga]; omega)
 rw [List.nil_append] at p1
 rw [show (⟨([] : List UInt8).toArray⟩ : ByteArray) = ByteArray.empty from rfl] at p1
 obtain ⟨m,hmm⟩ : ∃ m,m = (ln1 kwName r.name ++ [10]) ++ (ln1 kwVer r.ver ++ [10]) := ⟨_,rfl⟩
 have hml : m.length + ((nlT (r.lets.map (ln2 zet))).length + (nlT (r.builds.map (lnN za5) ++ (r.runs.map (lnN zck) ++ (r.srcs.map (ln2 zcc) ++ (r.pcs.map (ln2 kwPc) ++ (r.steps.map (ln1 zaz))))))).length) ≤ 900000 := by rw [hmm]; simp only [List.length_append,List.length_singleton,zga]; omega
 rw [← hmm] at p2 ⊢
 replace hm := hml
 generalize ln1 kwName r.name ++ [10] = m0 at *
 clear hmm hP hml
 simp [hsz,e1,b1,p1,p2,zlk,zp5,-z0e]
 refine zah (fun k e => ∃ i,k = r.lets.length - i ∧ i ≤ r.lets.length ∧ e.size = 115 ∧ e.get 1 = .one (.ptr 1 0) ∧ e.box 1 = some (RB1 r) ∧ e.get 3 = .one (.ptr 3 0) ∧ e.get 4 = .one (.fn 62 [.ptr 3]) ∧ e.box 3 = some (OB (m ++ nlT ((r.lets.map (ln2 zet)).take i))) ∧ e.get 32 = .one (.ro (FS r.lets)) ∧ e.get 33 = .one (.ro (N r.lets.length)) ∧ e.get 34 = .one (.ro (N i)))
  ?_ r.lets.length _ ⟨0,rfl,Nat.zero_le _,by simp [hsz],by simp [e1],by simp [b1],by simp,by simp,by simp [nlT],by simp,by simp,by simp⟩
 clear hsz e1 b1 p1 p2
 rintro k e ⟨i,rfl,hi,hsz,e1,b1,e3,e4,b3,es,el,ei⟩ ih
 rcases Nat.lt_or_ge i r.lets.length with hlt | hge
 ·have hwi : IntKind.i64.wrap ((i : Int) + 1) = ((i + 1 : Nat) : Int) := zad (by omega)
  have htk := zcp (f := ln2 zet) hlt
  have hle := zbg (r.lets.map (ln2 zet)) (i + 1)
  obtain ⟨M2,hM2⟩ : ∃ M2,M2 = m ++ nlT ((r.lets.map (ln2 zet)).take (i + 1)) := ⟨_,rfl⟩
  have hM2' : M2 = (m ++ nlT ((r.lets.map (ln2 zet)).take i)) ++ ((ln2 zet) r.lets[i] ++ [10]) := by rw [hM2,htk,List.append_assoc]
  have hlen : M2.length ≤ 900000 := by rw [hM2,List.length_append]; omega
  have hl2 := congrArg List.length hM2'
  simp only [List.length_append,List.length_singleton,zkl] at hl2
  have hput := zuu (a0 := .selfp) (.inr rfl) (m ++ nlT ((r.lets.map (ln2 zet)).take i)) zet r.lets[i] (by simp only [List.length_append]; omega)
  rw [← hM2'] at hput
  generalize m ++ nlT ((r.lets.map (ln2 zet)).take i) = M1 at *
  simp [hsz,e1,b1,e4,b3,es,el,ei,hlt,hwi,hput]
  exact ih _ _ (by omega) ⟨i + 1,rfl,by omega,by simp [hsz],by simp [e1],by simp [b1],by simp [e3],by simp [e4],by simp [← hM2],by simp [es],by simp [el],by simp⟩
 ·obtain rfl : i = r.lets.length := by omega
  rw [List.take_of_length_le (by simp)] at b3
  simp [hsz,el,ei,-z0e]
  have := z4j r h hf (m ++ nlT (r.lets.map (ln2 zet)))
  rw [List.append_assoc] at this
  exact this _ (by rw [List.length_append]; omega) (by simp [hsz]) (by simp [e1]) (by simp [b1]) (by simp [e3]) (by simp [e4]) (by simp [b3])
theorem zpx (r : Rc) (h : RcSz r) : C Fn26 [.ro (RcD r)] [] = some (.one (.ro (T (z1t r))),[]) := by
 refine zac Tryz.func26 Cv26 rfl ?_
 have h1 := zm6 r h
 unfold z1t
 by_cases hc : zdg r = 0
 ·rw [if_pos hc]
  rw [hc] at h1
  have hf := z1u (zoo hc).1
  have hl := zv5 hf
  simp [h1,-z57]
  exact z4k r h hf _ (by omega) (by simp) (by simp) (by simp)
 ·rw [if_neg hc]
  have hc' : (zdg r == 0) = false := by simpa using hc
  generalize zdg r = c at *
  simp [h1,hc']
end Go.Qz
namespace Go.Qz
open Go.Proofs
theorem z4l (r : Rc) (h : RcSz r) (m : List UInt8) (e : Env) (hm : m.length + (nlT (r.steps.map (ln1 zaz))).length ≤ 900000) (hsz : e.size = 144) (e1 : e.get 1 = .one (.ptr 1 0)) (b1 : e.box 1 = some (RB1 r)) (e3 : e.get 3 = .one (.ro (T m))) :
  Run cx q61c13 e [.fn [(.tmp 2,9)] []] = some (.one (.ro (T (m ++ nlT (r.steps.map (ln1 zaz))))),[]) := by
 have hw := h.steps
 simp [hsz,-zt1]
 refine zah (fun k e => ∃ i,k = r.steps.length - i ∧ i ≤ r.steps.length ∧ e.size = 144 ∧ e.get 1 = .one (.ptr 1 0) ∧ e.box 1 = some (RB1 r) ∧ e.get 3 = .one (.ro (T (m ++ nlT ((r.steps.map (ln1 zaz)).take i)))) ∧ e.get 9 = .one (.ro (N i)))
  ?_ r.steps.length _ ⟨0,rfl,Nat.zero_le _,by simp [hsz],by simp [e1],by simp [b1],by simp [e3,nlT],by simp⟩
 clear hsz e1 b1 e3
 rintro k e ⟨i,rfl,hi,hsz,e1,b1,e3,ei⟩ ih
 rcases Nat.lt_or_ge i r.steps.length with hlt | hge
 ·have hwi : IntKind.i64.wrap ((i : Int) + 1) = ((i + 1 : Nat) : Int) := zad (by omega)
  have htk := zcp (f := ln1 zaz) hlt
  have hle := zbg (r.steps.map (ln1 zaz)) (i + 1)
  have hM2 : m ++ nlT ((r.steps.map (ln1 zaz)).take (i + 1)) = (m ++ nlT ((r.steps.map (ln1 zaz)).take i)) ++ ((ln1 zaz) r.steps[i] ++ [10]) := by rw [htk,List.append_assoc]
  have hlen : (m ++ nlT ((r.steps.map (ln1 zaz)).take (i + 1))).length ≤ 900000 := by rw [List.length_append]; omega
  generalize m ++ nlT ((r.steps.map (ln1 zaz)).take i) = M1 at *
  have hl2 := congrArg List.length hM2
  simp only [List.length_append,List.length_singleton,zga] at hl2 hlen
  have z0 : M1.length + 5 ≤ zaj := by unfold zaj; omega
  have z1 : M1.length + 5 + r.steps[i].length ≤ zaj := by unfold zaj; omega
  have z2 : M1.length + (r.steps[i].length + 1 + 1 + 1 + 1 + 1) + 1 ≤ zaj := by unfold zaj; omega
  simp [hsz,e1,b1,e3,ei,hlt,hwi,z0,z1,z2]
  exact ih _ _ (by omega) ⟨i + 1,rfl,by omega,by simp [hsz],by simp [e1],by simp [b1],by rw [hM2]; simp [ln1,ln2,lnN],by simp⟩
 ·obtain rfl : i = r.steps.length := by omega
  rw [List.take_of_length_le (by simp)] at e3
  simp [hsz,e1,b1,ei,-zt1]
  simp [hsz,e3,zt1]
theorem z4m (r : Rc) (h : RcSz r) (m : List UInt8) (e : Env) (hm : m.length + (nlT (r.pcs.map (ln2 kwPc) ++ (r.steps.map (ln1 zaz)))).length ≤ 900000) (hsz : e.size = 144) (e1 : e.get 1 = .one (.ptr 1 0)) (b1 : e.box 1 = some (RB1 r)) (e3 : e.get 3 = .one (.ro (T m))) :
  Run cx q61c14 e [.fn [(.tmp 2,9)] []] = some (.one (.ro (T (m ++ nlT (r.pcs.map (ln2 kwPc) ++ (r.steps.map (ln1 zaz)))))),[]) := by
 have hw := h.pcs
 rw [zbs] at hm ⊢
 rw [List.length_append] at hm
 simp [hsz,-z0f]
 refine zah (fun k e => ∃ i,k = r.pcs.length - i ∧ i ≤ r.pcs.length ∧ e.size = 144 ∧ e.get 1 = .one (.ptr 1 0) ∧ e.box 1 = some (RB1 r) ∧ e.get 3 = .one (.ro (T (m ++ nlT ((r.pcs.map (ln2 kwPc)).take i)))) ∧ e.get 8 = .one (.ro (N i)))
  ?_ r.pcs.length _ ⟨0,rfl,Nat.zero_le _,by simp [hsz],by simp [e1],by simp [b1],by simp [e3,nlT],by simp⟩
 clear hsz e1 b1 e3
 rintro k e ⟨i,rfl,hi,hsz,e1,b1,e3,ei⟩ ih
 rcases Nat.lt_or_ge i r.pcs.length with hlt | hge
 ·have hwi : IntKind.i64.wrap ((i : Int) + 1) = ((i + 1 : Nat) : Int) := zad (by omega)
  have htk := zcp (f := ln2 kwPc) hlt
  have hle := zbg (r.pcs.map (ln2 kwPc)) (i + 1)
  have hM2 : m ++ nlT ((r.pcs.map (ln2 kwPc)).take (i + 1)) = (m ++ nlT ((r.pcs.map (ln2 kwPc)).take i)) ++ ((ln2 kwPc) r.pcs[i] ++ [10]) := by rw [htk,List.append_assoc]
  have hlen : (m ++ nlT ((r.pcs.map (ln2 kwPc)).take (i + 1))).length ≤ 900000 := by rw [List.length_append]; omega
  generalize m ++ nlT ((r.pcs.map (ln2 kwPc)).take i) = M1 at *
  have hl2 := congrArg List.length hM2
  simp only [List.length_append,List.length_singleton,zkl] at hl2 hlen
  have z0 : M1.length + 6 ≤ zaj := by unfold zaj; omega
  have z1 : M1.length + 6 + r.pcs[i].1.length ≤ zaj := by unfold zaj; omega
  have z2 : M1.length + (r.pcs[i].1.length + 1 + 1 + 1 + 1 + 1 + 1) + 1 ≤ zaj := by unfold zaj; omega
  have z3 : M1.length + (r.pcs[i].1.length + 1 + 1 + 1 + 1 + 1 + 1 + 1) + r.pcs[i].2.length ≤ zaj := by unfold zaj; omega
  have z4 : M1.length + (r.pcs[i].1.length + (r.pcs[i].2.length + 1) + 1 + 1 + 1 + 1 + 1 + 1) + 1 ≤ zaj := by unfold zaj; omega
  have z5 : M1.length + (r.pcs[i].1.length + 6) ≤ zaj := by unfold zaj; omega
  have z6 : M1.length + (r.pcs[i].1.length + 1 + 1 + 1 + 1 + 1 + 1 + 1) + r.pcs[i].2.length ≤ zaj := by unfold zaj; omega
  simp [hsz,e1,b1,e3,ei,hlt,hwi,z0,z1,z2,z3,z4,z5,z6]
  exact ih _ _ (by omega) ⟨i + 1,rfl,by omega,by simp [hsz],by simp [e1],by simp [b1],by rw [hM2]; simp [ln1,ln2,lnN],by simp⟩
 ·obtain rfl : i = r.pcs.length := by omega
  rw [List.take_of_length_le (by simp)] at e3
  simp [hsz,e1,b1,ei,-z0f]
  have := z4l r h (m ++ nlT (r.pcs.map (ln2 kwPc)))
  rw [List.append_assoc] at this
  exact this _ (by rw [List.length_append]; omega) (by simp [hsz]) (by simp [e1]) (by simp [b1]) (by simp [e3])
theorem z4n (r : Rc) (h : RcSz r) (m : List UInt8) (e : Env) (hm : m.length + (nlT (r.srcs.map (ln2 zcc) ++ (r.pcs.map (ln2 kwPc) ++ (r.steps.map (ln1 zaz))))).length ≤ 900000) (hsz : e.size = 144) (e1 : e.get 1 = .one (.ptr 1 0)) (b1 : e.box 1 = some (RB1 r)) (e3 : e.get 3 = .one (.ro (T m))) :
  Run cx q61c15 e [.fn [(.tmp 2,9)] []] = some (.one (.ro (T (m ++ nlT (r.srcs.map (ln2 zcc) ++ (r.pcs.map (ln2 kwPc) ++ (r.steps.map (ln1 zaz))))))),[]) := by
 have hw := h.srcs
 rw [zbs] at hm ⊢
 rw [List.length_append] at hm
 simp [hsz,-z0g]
 refine zah (fun k e => ∃ i,k = r.srcs.length - i ∧ i ≤ r.srcs.length ∧ e.size = 144 ∧ e.get 1 = .one (.ptr 1 0) ∧ e.box 1 = some (RB1 r) ∧ e.get 3 = .one (.ro (T (m ++ nlT ((r.srcs.map (ln2 zcc)).take i)))) ∧ e.get 7 = .one (.ro (N i)))
  ?_ r.srcs.length _ ⟨0,rfl,Nat.zero_le _,by simp [hsz],by simp [e1],by simp [b1],by simp [e3,nlT],by simp⟩
 clear hsz e1 b1 e3
 rintro k e ⟨i,rfl,hi,hsz,e1,b1,e3,ei⟩ ih
 rcases Nat.lt_or_ge i r.srcs.length with hlt | hge
 ·have hwi : IntKind.i64.wrap ((i : Int) + 1) = ((i + 1 : Nat) : Int) := zad (by omega)
  have htk := zcp (f := ln2 zcc) hlt
  have hle := zbg (r.srcs.map (ln2 zcc)) (i + 1)
  have hM2 : m ++ nlT ((r.srcs.map (ln2 zcc)).take (i + 1)) = (m ++ nlT ((r.srcs.map (ln2 zcc)).take i)) ++ ((ln2 zcc) r.srcs[i] ++ [10]) := by rw [htk,List.append_assoc]
  have hlen : (m ++ nlT ((r.srcs.map (ln2 zcc)).take (i + 1))).length ≤ 900000 := by rw [List.length_append]; omega
  generalize m ++ nlT ((r.srcs.map (ln2 zcc)).take i) = M1 at *
  have hl2 := congrArg List.length hM2
  simp only [List.length_append,List.length_singleton,zkl] at hl2 hlen
  have z0 : M1.length + 7 ≤ zaj := by unfold zaj; omega
  have z1 : M1.length + 7 + r.srcs[i].1.length ≤ zaj := by unfold zaj; omega
  have z2 : M1.length + (r.srcs[i].1.length + 1 + 1 + 1 + 1 + 1 + 1 + 1) + 1 ≤ zaj := by unfold zaj; omega
  have z3 : M1.length + (r.srcs[i].1.length + 1 + 1 + 1 + 1 + 1 + 1 + 1 + 1) + r.srcs[i].2.length ≤ zaj := by unfold zaj; omega
  have z4 : M1.length + (r.srcs[i].1.length + (r.srcs[i].2.length + 1) + 1 + 1 + 1 + 1 + 1 + 1 + 1) + 1 ≤ zaj := by unfold zaj; omega
  have z5 : M1.length + (r.srcs[i].1.length + 7) ≤ zaj := by unfold zaj; omega
  have z6 : M1.length + (r.srcs[i].1.length + 1 + 1 + 1 + 1 + 1 + 1 + 1 + 1) + r.srcs[i].2.length ≤ zaj := by unfold zaj; omega
  simp [hsz,e1,b1,e3,ei,hlt,hwi,z0,z1,z2,z3,z4,z5,z6]
  exact ih _ _ (by omega) ⟨i + 1,rfl,by omega,by simp [hsz],by simp [e1],by simp [b1],by rw [hM2]; simp [ln1,ln2,lnN],by simp⟩
 ·obtain rfl : i = r.srcs.length := by omega
  rw [List.take_of_length_le (by simp)] at e3
  simp [hsz,e1,b1,ei,-z0g]
  have := z4m r h (m ++ nlT (r.srcs.map (ln2 zcc)))
  rw [List.append_assoc] at this
  exact this _ (by rw [List.length_append]; omega) (by simp [hsz]) (by simp [e1]) (by simp [b1]) (by simp [e3])
theorem z4o (r : Rc) (h : RcSz r) (m : List UInt8) (e : Env) (hm : m.length + (nlT (r.runs.map (lnN zck) ++ (r.srcs.map (ln2 zcc) ++ (r.pcs.map (ln2 kwPc) ++ (r.steps.map (ln1 zaz)))))).length ≤ 900000) (hsz : e.size = 144) (e1 : e.get 1 = .one (.ptr 1 0)) (b1 : e.box 1 = some (RB1 r)) (e3 : e.get 3 = .one (.ro (T m))) :
  Run cx q61c16 e [.fn [(.tmp 2,9)] []] = some (.one (.ro (T (m ++ nlT (r.runs.map (lnN zck) ++ (r.srcs.map (ln2 zcc) ++ (r.pcs.map (ln2 kwPc) ++ (r.steps.map (ln1 zaz)))))))),[]) := by
 have hw := h.runs
 rw [zbs] at hm ⊢
 rw [List.length_append] at hm
 simp [hsz,-z0h]
 refine zah (fun k e => ∃ i,k = r.runs.length - i ∧ i ≤ r.runs.length ∧ e.size = 144 ∧ e.get 1 = .one (.ptr 1 0) ∧ e.box 1 = some (RB1 r) ∧ e.get 3 = .one (.ro (T (m ++ nlT ((r.runs.map (lnN zck)).take i)))) ∧ e.get 6 = .one (.ro (N i)))
  ?_ r.runs.length _ ⟨0,rfl,Nat.zero_le _,by simp [hsz],by simp [e1],by simp [b1],by simp [e3,nlT],by simp⟩
 clear hsz e1 b1 e3
 rintro k e ⟨i,rfl,hi,hsz,e1,b1,e3,ei⟩ ih
 rcases Nat.lt_or_ge i r.runs.length with hlt | hge
 ·have hwi : IntKind.i64.wrap ((i : Int) + 1) = ((i + 1 : Nat) : Int) := zad (by omega)
  have htk := zcp (f := lnN zck) hlt
  have hle := zbg (r.runs.map (lnN zck)) (i + 1)
  have hM2 : m ++ nlT ((r.runs.map (lnN zck)).take (i + 1)) = (m ++ nlT ((r.runs.map (lnN zck)).take i)) ++ ((lnN zck) r.runs[i] ++ [10]) := by rw [htk,List.append_assoc]
  have hlen : (m ++ nlT ((r.runs.map (lnN zck)).take (i + 1))).length ≤ 900000 := by rw [List.length_append]; omega
  generalize m ++ nlT ((r.runs.map (lnN zck)).take i) = M1 at *
  have hl2 := congrArg List.length hM2
  simp only [List.length_append,List.length_singleton,lnN,zga] at hl2 hlen
  have hnd := zv7 r.runs[i] (h.run _ (List.getElem_mem hlt))
  have z0 : M1.length + 4 ≤ zaj := by unfold zaj; omega
  have z1 : M1.length + 4 + (zhw r.runs[i]).length ≤ zaj := by unfold zaj; omega
  have z2 : M1.length + ((zhw r.runs[i]).length + 1 + 1 + 1 + 1) + 1 ≤ zaj := by unfold zaj; omega
  simp [hsz,e1,b1,e3,ei,hlt,hwi,hnd,z0,z1,z2]
  exact ih _ _ (by omega) ⟨i + 1,rfl,by omega,by simp [hsz],by simp [e1],by simp [b1],by rw [hM2]; simp [ln1,ln2,lnN],by simp⟩
 ·obtain rfl : i = r.runs.length := by omega
  rw [List.take_of_length_le (by simp)] at e3
  simp [hsz,e1,b1,ei,-z0h]
  have := z4n r h (m ++ nlT (r.runs.map (lnN zck)))
  rw [List.append_assoc] at this
  exact this _ (by rw [List.length_append]; omega) (by simp [hsz]) (by simp [e1]) (by simp [b1]) (by simp [e3])
theorem z4p (r : Rc) (h : RcSz r) (m : List UInt8) (e : Env) (hm : m.length + (nlT (r.builds.map (lnN za5) ++ (r.runs.map (lnN zck) ++ (r.srcs.map (ln2 zcc) ++ (r.pcs.map (ln2 kwPc) ++ (r.steps.map (ln1 zaz))))))).length ≤ 900000) (hsz : e.size = 144) (e1 : e.get 1 = .one (.ptr 1 0)) (b1 : e.box 1 = some (RB1 r)) (e3 : e.get 3 = .one (.ro (T m))) :
  Run cx q61c17 e [.fn [(.tmp 2,9)] []] = some (.one (.ro (T (m ++ nlT (r.builds.map (lnN za5) ++ (r.runs.map (lnN zck) ++ (r.srcs.map (ln2 zcc) ++ (r.pcs.map (ln2 kwPc) ++ (r.steps.map (ln1 zaz))))))))),[]) := by
 have hw := h.builds
 rw [zbs] at hm ⊢
 rw [List.length_append] at hm
 simp [hsz,-z0i]
 refine zah (fun k e => ∃ i,k = r.builds.length - i ∧ i ≤ r.builds.length ∧ e.size = 144 ∧ e.get 1 = .one (.ptr 1 0) ∧ e.box 1 = some (RB1 r) ∧ e.get 3 = .one (.ro (T (m ++ nlT ((r.builds.map (lnN za5)).take i)))) ∧ e.get 5 = .one (.ro (N i)))
  ?_ r.builds.length _ ⟨0,rfl,Nat.zero_le _,by simp [hsz],by simp [e1],by simp [b1],by simp [e3,nlT],by simp⟩
 clear hsz e1 b1 e3
 rintro k e ⟨i,rfl,hi,hsz,e1,b1,e3,ei⟩ ih
 rcases Nat.lt_or_ge i r.builds.length with hlt | hge
 ·have hwi : IntKind.i64.wrap ((i : Int) + 1) = ((i + 1 : Nat) : Int) := zad (by omega)
  have htk := zcp (f := lnN za5) hlt
  have hle := zbg (r.builds.map (lnN za5)) (i + 1)
  have hM2 : m ++ nlT ((r.builds.map (lnN za5)).take (i + 1)) = (m ++ nlT ((r.builds.map (lnN za5)).take i)) ++ ((lnN za5) r.builds[i] ++ [10]) := by rw [htk,List.append_assoc]
  have hlen : (m ++ nlT ((r.builds.map (lnN za5)).take (i + 1))).length ≤ 900000 := by rw [List.length_append]; omega
  generalize m ++ nlT ((r.builds.map (lnN za5)).take i) = M1 at *
  have hl2 := congrArg List.length hM2
  simp only [List.length_append,List.length_singleton,lnN,zga] at hl2 hlen
  have hnd := zv7 r.builds[i] (h.bld _ (List.getElem_mem hlt))
  have z0 : M1.length + 6 ≤ zaj := by unfold zaj; omega
  have z1 : M1.length + 6 + (zhw r.builds[i]).length ≤ zaj := by unfold zaj; omega
  have z2 : M1.length + ((zhw r.builds[i]).length + 1 + 1 + 1 + 1 + 1 + 1) + 1 ≤ zaj := by unfold zaj; omega
  simp [hsz,e1,b1,e3,ei,hlt,hwi,hnd,z0,z1,z2]
  exact ih _ _ (by omega) ⟨i + 1,rfl,by omega,by simp [hsz],by simp [e1],by simp [b1],by rw [hM2]; simp [ln1,ln2,lnN],by simp⟩
 ·obtain rfl : i = r.builds.length := by omega
  rw [List.take_of_length_le (by simp)] at e3
  simp [hsz,e1,b1,ei,-z0i]
  have := z4o r h (m ++ nlT (r.builds.map (lnN za5)))
  rw [List.append_assoc] at this
  exact this _ (by rw [List.length_append]; omega) (by simp [hsz]) (by simp [e1]) (by simp [b1]) (by simp [e3])
set_option maxHeartbeats 1000000 in
theorem z4q (r : Rc) (h : RcSz r) (hm : (putR r).length ≤ 900000) : C Fn61 [.ro (RcD r)] [] = some (.one (.ro (T (putR r))),[]) := by
 refine zac Tryz.func61 Cv61 rfl ?_
 have hw := h.lets
 have h1 := h.name
 have h2 := h.ver
 have hP : putR r = (ln1 kwName r.name ++ [10]) ++ (ln1 kwVer r.ver ++ [10]) ++ (nlT (r.lets.map (ln2 zet)) ++ nlT (r.builds.map (lnN za5) ++ (r.runs.map (lnN zck) ++ (r.srcs.map (ln2 zcc) ++ (r.pcs.map (ln2 kwPc) ++ (r.steps.map (ln1 zaz))))))) := by
  unfold putR zk7
  rw [zjr,zjr,zbs]
  simp
 rw [hP] at hm ⊢
 obtain ⟨m,hmm⟩ : ∃ m,m = (ln1 kwName r.name ++ [10]) ++ (ln1 kwVer r.ver ++ [10]) := ⟨_,rfl⟩
 rw [← hmm] at hm ⊢
 simp only [List.length_append] at hm
 have z1 : 5 + r.name.length ≤ zaj := by unfold zaj; omega
 have z2 : r.name.length + 1 + 1 + 1 + 1 + 1 + 9 ≤ zaj := by unfold zaj; omega
 have z3 : r.name.length + 9 + 1 + 1 + 1 + 1 + 1 + r.ver.length ≤ zaj := by unfold zaj; omega
 have z4 : r.name.length + (r.ver.length + 1 + 1 + 1 + 1 + 1 + 1 + 1 + 1 + 1) + 1 + 1 + 1 + 1 + 1 + 1 ≤ zaj := by unfold zaj; omega
 simp [z1,z2,z3,z4,-z0j]
 refine zah (fun k e => ∃ i,k = r.lets.length - i ∧ i ≤ r.lets.length ∧ e.size = 144 ∧ e.get 1 = .one (.ptr 1 0) ∧ e.box 1 = some (RB1 r) ∧ e.get 3 = .one (.ro (T (m ++ nlT ((r.lets.map (ln2 zet)).take i)))) ∧ e.get 4 = .one (.ro (N i)))
  ?_ r.lets.length _ ⟨0,rfl,Nat.zero_le _,by simp,by simp,by simp,by rw [hmm]; simp [nlT,ln1],by simp⟩
 rintro k e ⟨i,rfl,hi,hsz,e1,b1,e3,ei⟩ ih
 rcases Nat.lt_or_ge i r.lets.length with hlt | hge
 ·have hwi : IntKind.i64.wrap ((i : Int) + 1) = ((i + 1 : Nat) : Int) := zad (by omega)
  have htk := zcp (f := ln2 zet) hlt
  have hle := zbg (r.lets.map (ln2 zet)) (i + 1)
  have hM2 : m ++ nlT ((r.lets.map (ln2 zet)).take (i + 1)) = (m ++ nlT ((r.lets.map (ln2 zet)).take i)) ++ ((ln2 zet) r.lets[i] ++ [10]) := by rw [htk,List.append_assoc]
  have hlen : (m ++ nlT ((r.lets.map (ln2 zet)).take (i + 1))).length ≤ 900000 := by rw [List.length_append]; omega
  generalize m ++ nlT ((r.lets.map (ln2 zet)).take i) = M1 at *
  have hl2 := congrArg List.length hM2
  simp only [List.length_append,List.length_singleton,zkl] at hl2 hlen
  have z0 : M1.length + 4 ≤ zaj := by unfold zaj; omega
  have z1 : M1.length + 4 + r.lets[i].1.length ≤ zaj := by unfold zaj; omega
  have z2 : M1.length + (r.lets[i].1.length + 1 + 1 + 1 + 1) + 1 ≤ zaj := by unfold zaj; omega
  have z3 : M1.length + (r.lets[i].1.length + 1 + 1 + 1 + 1 + 1) + r.lets[i].2.length ≤ zaj := by unfold zaj; omega
  have z4 : M1.length + (r.lets[i].1.length + (r.lets[i].2.length + 1) + 1 + 1 + 1 + 1) + 1 ≤ zaj := by unfold zaj; omega
  have z5 : M1.length + (r.lets[i].1.length + 4) ≤ zaj := by unfold zaj; omega
  have z6 : M1.length + (r.lets[i].1.length + 1 + 1 + 1 + 1 + 1) + r.lets[i].2.length ≤ zaj := by unfold zaj; omega
  simp [hsz,e1,b1,e3,ei,hlt,hwi,z0,z1,z2,z3,z4,z5,z6]
  exact ih _ _ (by omega) ⟨i + 1,rfl,by omega,by simp [hsz],by simp [e1],by simp [b1],by rw [hM2]; simp [ln1,ln2,lnN],by simp⟩
 ·obtain rfl : i = r.lets.length := by omega
  rw [List.take_of_length_le (by simp)] at e3
  simp [hsz,e1,b1,ei,-z0j]
  have := z4p r h (m ++ nlT (r.lets.map (ln2 zet)))
  rw [List.append_assoc] at this
  exact this _ (by rw [List.length_append]; omega) (by simp [hsz]) (by simp [e1]) (by simp [b1]) (by simp [e3])
theorem zpy (r : Rc) (h : RcSz r) : C Fn25 [.ro (RcD r)] [] = some (.one (.ro (T (z1t r))),[]) := by
 refine zac Tryz.func25 Cv25 rfl ?_
 have h1 := zm8 r h
 unfold z1t
 by_cases hc : zdg r = 0
 ·rw [if_pos hc]
  rw [hc] at h1
  have hp := z4q r h (by have := zv5 (z1u (zoo hc).1); omega)
  simp [h1,hp]
 ·rw [if_neg hc]
  have hc' : (zdg r == 0) = false := by simpa using hc
  generalize zdg r = c at *
  simp [h1,hc']
end Go.Qz
namespace Go.Qz
open Go.Proofs
theorem zdq {α : Type} {ys xs : List α} (h : ys.length = xs.length) (h' : ∀ j,j < xs.length → ys[j]? = xs[j]?) : ys = xs := by
 apply List.ext_getElem?
 intro j
 rcases Nat.lt_or_ge j xs.length with hj | hj
 ·exact h' j hj
 ·rw [List.getElem?_eq_none hj,List.getElem?_eq_none (by omega)]
end Go.Qz
namespace Go.Qz
open Go.Proofs
theorem z4r (e : Fl) : C yg1 [.ro (FD e)] [] = some (.one (.ro (FD e)),[]) := by
 refine zac Tryz.func122 yg2 rfl ?_
 simp
theorem z13 (es : List Fl) (hn : es.length ≤ 1048576) : C Fn47 [.ro (FS es)] [] = some (.one (.own (FS es)),[]) := by
 refine zac Tryz.func47 Cv47 rfl ?_
 have ha : (es.length : Int) ≤ zaf := by simp [zaf]; omega
 simp [ha]
 refine zah (fun m e => ∃ i yl,m = es.length - i ∧ i ≤ es.length ∧ e.size = 23 ∧ e.get 0 = .one (.ro (FS es)) ∧ e.get 3 = .one (.own (FS yl)) ∧ e.get 4 = .one (.ro (N i)) ∧ yl.length = es.length ∧ ∀ j,j < i → yl[j]? = es[j]?)
  ?_ es.length _ ⟨0,List.replicate es.length ([],[]),rfl,Nat.zero_le _,by simp,by simp,by simp,by simp,by simp,fun j hj => by omega⟩
 rintro m e ⟨i,yl,rfl,hi,hsz,h0,h3,h4,hyl,hy⟩ ih
 rcases Nat.lt_or_ge i es.length with hlt | hge
 ·have hwi : IntKind.i64.wrap ((i : Int) + 1) = ((i + 1 : Nat) : Int) := zad (by omega)
  have hlt' : i < yl.length := by omega
  have hto := z4r es[i]
  simp [hsz,h0,h3,h4,hlt,hlt',hwi,hto]
  exact ih _ _ (by omega) ⟨i + 1,yl.set i es[i],rfl,by omega,by simp [hsz],by simp [h0],by simp [List.map_set],by simp,by simp [hyl],fun j hj => by
   by_cases e : j = i
   ·subst e; simp [hlt,hlt']
   ·rw [List.getElem?_set_ne (by omega)]; exact hy j (by omega)⟩
 ·obtain rfl : i = es.length := by omega
  obtain rfl := zdq hyl hy
  simp [hsz,h0,h3,h4]
theorem zx2 (e : Fl) : C yg9 [.ro (FD e),.ro (FD e)] [] = some (.one (.ro (.bool true)),[]) := by
 refine zac Tryz.func126 yhc rfl ?_
 simp
theorem zuv (es : List Fl) (hn : es.length ≤ 1048576) : C Fn52 [.ro (FS es),.ro (FS es)] [] = some (.one (.ro (.bool true)),[]) := by
 refine zac Tryz.func52 Cv52 rfl ?_
 simp
 refine zah (fun m e => ∃ i,m = es.length - i ∧ i ≤ es.length ∧ e.size = 27 ∧ e.get 0 = .one (.ro (FS es)) ∧ e.get 1 = .one (.ro (FS es)) ∧ e.get 5 = .one (.ro (N i)))
  ?_ es.length _ ⟨0,rfl,Nat.zero_le _,by simp,by simp,by simp,by simp⟩
 rintro m e ⟨i,rfl,hi,hsz,h0,h1,h5⟩ ih
 rcases Nat.lt_or_ge i es.length with hlt | hge
 ·have hwi : IntKind.i64.wrap ((i : Int) + 1) = ((i + 1 : Nat) : Int) := zad (by omega)
  have hq := zx2 es[i]
  simp [hsz,h0,h1,h5,hlt,hwi,hq]
  exact ih _ _ (by omega) ⟨i + 1,rfl,by omega,by simp [hsz],by simp [h0],by simp [h1],by simp⟩
 ·obtain rfl : i = es.length := by omega
  simp [hsz,h0,h5]
theorem zuw (e : Fl) : C yg5 [.ro (FD e)] [] = some (.one (.ro (FD e)),[]) := by
 refine zac Tryz.func124 yg6 rfl ?_
 simp
theorem zsp (es : List Fl) (hn : es.length ≤ 1048576) : C Fn49 [.ro (FS es)] [] = some (.one (.own (FS es)),[]) := by
 refine zac Tryz.func49 Cv49 rfl ?_
 have ha : (es.length : Int) ≤ zaf := by simp [zaf]; omega
 simp [ha]
 refine zah (fun m e => ∃ i yl,m = es.length - i ∧ i ≤ es.length ∧ e.size = 23 ∧ e.get 0 = .one (.ro (FS es)) ∧ e.get 3 = .one (.own (FS yl)) ∧ e.get 4 = .one (.ro (N i)) ∧ yl.length = es.length ∧ ∀ j,j < i → yl[j]? = es[j]?)
  ?_ es.length _ ⟨0,List.replicate es.length ([],[]),rfl,Nat.zero_le _,by simp,by simp,by simp,by simp,by simp,fun j hj => by omega⟩
 rintro m e ⟨i,yl,rfl,hi,hsz,h0,h3,h4,hyl,hy⟩ ih
 rcases Nat.lt_or_ge i es.length with hlt | hge
 ·have hwi : IntKind.i64.wrap ((i : Int) + 1) = ((i + 1 : Nat) : Int) := zad (by omega)
  have hlt' : i < yl.length := by omega
  have hto := zuw es[i]
  simp [hsz,h0,h3,h4,hlt,hlt',hwi,hto]
  exact ih _ _ (by omega) ⟨i + 1,yl.set i es[i],rfl,by omega,by simp [hsz],by simp [h0],by simp [List.map_set],by simp,by simp [hyl],fun j hj => by
   by_cases e : j = i
   ·subst e; simp [hlt,hlt']
   ·rw [List.getElem?_set_ne (by omega)]; exact hy j (by omega)⟩
 ·obtain rfl : i = es.length := by omega
  obtain rfl := zdq hyl hy
  simp [hsz,h0,h3,h4]
theorem zpz (e : Fl) : C yhi [.ro (FD e),.ro (FD e)] [] = some (.one (.ro (.bool true)),[]) := by
 refine zac Tryz.func128 yhl rfl ?_
 simp
theorem znl (es : List Fl) (hn : es.length ≤ 1048576) : C Fn54 [.ro (FS es),.ro (FS es)] [] = some (.one (.ro (.bool true)),[]) := by
 refine zac Tryz.func54 Cv54 rfl ?_
 simp
 refine zah (fun m e => ∃ i,m = es.length - i ∧ i ≤ es.length ∧ e.size = 27 ∧ e.get 0 = .one (.ro (FS es)) ∧ e.get 1 = .one (.ro (FS es)) ∧ e.get 5 = .one (.ro (N i)))
  ?_ es.length _ ⟨0,rfl,Nat.zero_le _,by simp,by simp,by simp,by simp⟩
 rintro m e ⟨i,rfl,hi,hsz,h0,h1,h5⟩ ih
 rcases Nat.lt_or_ge i es.length with hlt | hge
 ·have hwi : IntKind.i64.wrap ((i : Int) + 1) = ((i + 1 : Nat) : Int) := zad (by omega)
  have hq := zpz es[i]
  simp [hsz,h0,h1,h5,hlt,hwi,hq]
  exact ih _ _ (by omega) ⟨i + 1,rfl,by omega,by simp [hsz],by simp [h0],by simp [h1],by simp⟩
 ·obtain rfl : i = es.length := by omega
  simp [hsz,h0,h5]
theorem zx3 (e : Fl) : C yg7 [.ro (FD e)] [] = some (.one (.ro (FD e)),[]) := by
 refine zac Tryz.func125 yg8 rfl ?_
 simp
theorem zux (es : List Fl) (hn : es.length ≤ 1048576) : C Fn50 [.ro (FS es)] [] = some (.one (.own (FS es)),[]) := by
 refine zac Tryz.func50 Cv50 rfl ?_
 have ha : (es.length : Int) ≤ zaf := by simp [zaf]; omega
 simp [ha]
 refine zah (fun m e => ∃ i yl,m = es.length - i ∧ i ≤ es.length ∧ e.size = 23 ∧ e.get 0 = .one (.ro (FS es)) ∧ e.get 3 = .one (.own (FS yl)) ∧ e.get 4 = .one (.ro (N i)) ∧ yl.length = es.length ∧ ∀ j,j < i → yl[j]? = es[j]?)
  ?_ es.length _ ⟨0,List.replicate es.length ([],[]),rfl,Nat.zero_le _,by simp,by simp,by simp,by simp,by simp,fun j hj => by omega⟩
 rintro m e ⟨i,yl,rfl,hi,hsz,h0,h3,h4,hyl,hy⟩ ih
 rcases Nat.lt_or_ge i es.length with hlt | hge
 ·have hwi : IntKind.i64.wrap ((i : Int) + 1) = ((i + 1 : Nat) : Int) := zad (by omega)
  have hlt' : i < yl.length := by omega
  have hto := zx3 es[i]
  simp [hsz,h0,h3,h4,hlt,hlt',hwi,hto]
  exact ih _ _ (by omega) ⟨i + 1,yl.set i es[i],rfl,by omega,by simp [hsz],by simp [h0],by simp [List.map_set],by simp,by simp [hyl],fun j hj => by
   by_cases e : j = i
   ·subst e; simp [hlt,hlt']
   ·rw [List.getElem?_set_ne (by omega)]; exact hy j (by omega)⟩
 ·obtain rfl : i = es.length := by omega
  obtain rfl := zdq hyl hy
  simp [hsz,h0,h3,h4]
theorem zsq (e : Fl) : C yhm [.ro (FD e),.ro (FD e)] [] = some (.one (.ro (.bool true)),[]) := by
 refine zac Tryz.func129 yhp rfl ?_
 simp
theorem zp0 (es : List Fl) (hn : es.length ≤ 1048576) : C Fn55 [.ro (FS es),.ro (FS es)] [] = some (.one (.ro (.bool true)),[]) := by
 refine zac Tryz.func55 Cv55 rfl ?_
 simp
 refine zah (fun m e => ∃ i,m = es.length - i ∧ i ≤ es.length ∧ e.size = 27 ∧ e.get 0 = .one (.ro (FS es)) ∧ e.get 1 = .one (.ro (FS es)) ∧ e.get 5 = .one (.ro (N i)))
  ?_ es.length _ ⟨0,rfl,Nat.zero_le _,by simp,by simp,by simp,by simp⟩
 rintro m e ⟨i,rfl,hi,hsz,h0,h1,h5⟩ ih
 rcases Nat.lt_or_ge i es.length with hlt | hge
 ·have hwi : IntKind.i64.wrap ((i : Int) + 1) = ((i + 1 : Nat) : Int) := zad (by omega)
  have hq := zsq es[i]
  simp [hsz,h0,h1,h5,hlt,hwi,hq]
  exact ih _ _ (by omega) ⟨i + 1,rfl,by omega,by simp [hsz],by simp [h0],by simp [h1],by simp⟩
 ·obtain rfl : i = es.length := by omega
  simp [hsz,h0,h5]
theorem z14 (e : Ne) : C yg3 [.ro (NeD e)] [] = some (.one (.ro (NeD e)),[]) := by
 refine zac Tryz.func123 yg4 rfl ?_
 simp
theorem zop (es : List Ne) (hn : es.length ≤ 1048576) : C Fn48 [.ro (NeS es)] [] = some (.one (.own (NeS es)),[]) := by
 refine zac Tryz.func48 Cv48 rfl ?_
 have ha : (es.length : Int) ≤ zaf := by simp [zaf]; omega
 simp [ha]
 refine zah (fun m e => ∃ i yl,m = es.length - i ∧ i ≤ es.length ∧ e.size = 23 ∧ e.get 0 = .one (.ro (NeS es)) ∧ e.get 3 = .one (.own (NeS yl)) ∧ e.get 4 = .one (.ro (N i)) ∧ yl.length = es.length ∧ ∀ j,j < i → yl[j]? = es[j]?)
  ?_ es.length _ ⟨0,List.replicate es.length ⟨[],0,[]⟩,rfl,Nat.zero_le _,by simp,by simp,by simp,by simp,by simp,fun j hj => by omega⟩
 rintro m e ⟨i,yl,rfl,hi,hsz,h0,h3,h4,hyl,hy⟩ ih
 rcases Nat.lt_or_ge i es.length with hlt | hge
 ·have hwi : IntKind.i64.wrap ((i : Int) + 1) = ((i + 1 : Nat) : Int) := zad (by omega)
  have hlt' : i < yl.length := by omega
  have hto := z14 es[i]
  simp [hsz,h0,h3,h4,hlt,hlt',hwi,hto]
  exact ih _ _ (by omega) ⟨i + 1,yl.set i es[i],rfl,by omega,by simp [hsz],by simp [h0],by simp [List.map_set],by simp,by simp [hyl],fun j hj => by
   by_cases e : j = i
   ·subst e; simp [hlt,hlt']
   ·rw [List.getElem?_set_ne (by omega)]; exact hy j (by omega)⟩
 ·obtain rfl : i = es.length := by omega
  obtain rfl := zdq hyl hy
  simp [hsz,h0,h3,h4]
theorem zuy (e : Ne) : C yhd [.ro (NeD e),.ro (NeD e)] [] = some (.one (.ro (.bool true)),[]) := by
 refine zac Tryz.func127 yhh rfl ?_
 simp
theorem zk8 (es : List Ne) (hn : es.length ≤ 1048576) : C Fn53 [.ro (NeS es),.ro (NeS es)] [] = some (.one (.ro (.bool true)),[]) := by
 refine zac Tryz.func53 Cv53 rfl ?_
 simp
 refine zah (fun m e => ∃ i,m = es.length - i ∧ i ≤ es.length ∧ e.size = 27 ∧ e.get 0 = .one (.ro (NeS es)) ∧ e.get 1 = .one (.ro (NeS es)) ∧ e.get 5 = .one (.ro (N i)))
  ?_ es.length _ ⟨0,rfl,Nat.zero_le _,by simp,by simp,by simp,by simp⟩
 rintro m e ⟨i,rfl,hi,hsz,h0,h1,h5⟩ ih
 rcases Nat.lt_or_ge i es.length with hlt | hge
 ·have hwi : IntKind.i64.wrap ((i : Int) + 1) = ((i + 1 : Nat) : Int) := zad (by omega)
  have hq := zuy es[i]
  simp [hsz,h0,h1,h5,hlt,hwi,hq]
  exact ih _ _ (by omega) ⟨i + 1,rfl,by omega,by simp [hsz],by simp [h0],by simp [h1],by simp⟩
 ·obtain rfl : i = es.length := by omega
  simp [hsz,h0,h5]
theorem zsr (es : zbd) (hn : es.length ≤ 1048576) : C Fn51 [.ro (SS es)] [] = some (.one (.own (SS es)),[]) := by
 refine zac Tryz.func51 Cv51 rfl ?_
 have ha : (es.length : Int) ≤ zaf := by simp [zaf]; omega
 simp [ha]
 refine zah (fun m e => ∃ i yl,m = es.length - i ∧ i ≤ es.length ∧ e.size = 22 ∧ e.get 0 = .one (.ro (SS es)) ∧ e.get 3 = .one (.own (SS yl)) ∧ e.get 4 = .one (.ro (N i)) ∧ yl.length = es.length ∧ ∀ j,j < i → yl[j]? = es[j]?)
  ?_ es.length _ ⟨0,List.replicate es.length [],rfl,Nat.zero_le _,by simp,by simp,by simp,by simp,by simp,fun j hj => by omega⟩
 rintro m e ⟨i,yl,rfl,hi,hsz,h0,h3,h4,hyl,hy⟩ ih
 rcases Nat.lt_or_ge i es.length with hlt | hge
 ·have hwi : IntKind.i64.wrap ((i : Int) + 1) = ((i + 1 : Nat) : Int) := zad (by omega)
  have hlt' : i < yl.length := by omega
  simp [hsz,h0,h3,h4,hlt,hlt',hwi]
  exact ih _ _ (by omega) ⟨i + 1,yl.set i es[i],rfl,by omega,by simp [hsz],by simp [h0],by simp [List.map_set],by simp,by simp [hyl],fun j hj => by
   by_cases e : j = i
   ·subst e; simp [hlt,hlt']
   ·rw [List.getElem?_set_ne (by omega)]; exact hy j (by omega)⟩
 ·obtain rfl : i = es.length := by omega
  obtain rfl := zdq hyl hy
  simp [hsz,h0,h3,h4]
theorem znm (es : zbd) (hn : es.length ≤ 1048576) : C Fn21 [.ro (SS es),.ro (SS es)] [] = some (.one (.ro (.bool true)),[]) := by
 refine zac Tryz.func21 Cv21 rfl ?_
 simp
 refine zah (fun m e => ∃ i,m = es.length - i ∧ i ≤ es.length ∧ e.size = 26 ∧ e.get 0 = .one (.ro (SS es)) ∧ e.get 1 = .one (.ro (SS es)) ∧ e.get 5 = .one (.ro (N i)))
  ?_ es.length _ ⟨0,rfl,Nat.zero_le _,by simp,by simp,by simp,by simp⟩
 rintro m e ⟨i,rfl,hi,hsz,h0,h1,h5⟩ ih
 rcases Nat.lt_or_ge i es.length with hlt | hge
 ·have hwi : IntKind.i64.wrap ((i : Int) + 1) = ((i + 1 : Nat) : Int) := zad (by omega)
  simp [hsz,h0,h1,h5,hlt,hwi]
  exact ih _ _ (by omega) ⟨i + 1,rfl,by omega,by simp [hsz],by simp [h0],by simp [h1],by simp⟩
 ·obtain rfl : i = es.length := by omega
  simp [hsz,h0,h5]
def szFl (e : Fl) (l : Int) : Int := if l - e.1.length < 0 then -1 else if l - e.1.length - e.2.length < 0 then -1 else l - e.1.length - e.2.length
def zg9 : List Fl → Int → Int
 | [],l => l
 | e :: r,l => if szFl e l < 0 then -1 else zg9 r (szFl e l)
def szFS (es : List Fl) (l : Int) : Int := if l - es.length < 0 then -1 else zg9 es (l - es.length)
theorem zp1 (e : Fl) (l : Int) (hl : 0 ≤ l) : szFl e l ≤ l := by unfold szFl; split; omega; split <;> omega
theorem zoq : ∀ (es : List Fl) (l : Int),0 ≤ l → l ≤ 1048576 → 0 ≤ zg9 es l → (∀ e ∈ es,flSz e) ∧ zg9 es l ≤ l
 | [],l,_,_,_ => ⟨fun e h => by (cases h),Int.le_refl _⟩
 | e :: r,l,hl,hl2,h => by
   rw [zg9] at h ⊢
   split at h
   ·omega
   ·rename_i hc
    rw [if_neg hc]
    have h1 := zp1 e l hl
    obtain ⟨k1,k2⟩ := zoq r (szFl e l) (by omega) (by omega) h
    refine ⟨fun x hx => ?_,by omega⟩
    rcases List.mem_cons.1 hx with rfl | hx
    ·unfold szFl at hc
     split at hc
     ·omega
     ·split at hc
      ·omega
      ·exact ⟨by omega,by omega⟩
    ·exact k1 x hx
theorem zuz (es : List Fl) (l : Int) (hl : 0 ≤ l) (hl2 : l ≤ 1048576) (h : 0 ≤ szFS es l) : szFS es l ≤ l ∧ es.length ≤ l ∧ ∀ e ∈ es,flSz e := by
 unfold szFS at h ⊢
 split at h
 ·omega
 ·rename_i hc
  rw [if_neg hc]
  obtain ⟨k1,k2⟩ := zoq es (l - es.length) (by omega) (by omega) h
  exact ⟨by omega,by omega,k1⟩
def szNd (e : Ne) (l : Int) : Int := if l - e.name.length < 0 then -1 else if l - e.name.length - e.ver.length < 0 then -1 else l - e.name.length - e.ver.length
def zp2 : List Ne → Int → Int
 | [],l => l
 | e :: r,l => if szNd e l < 0 then -1 else zp2 r (szNd e l)
def zp3 (es : List Ne) (l : Int) : Int := if l - es.length < 0 then -1 else zp2 es (l - es.length)
theorem z15 (e : Ne) (l : Int) (hl : 0 ≤ l) : szNd e l ≤ l := by unfold szNd; split; omega; split <;> omega
theorem zor : ∀ (es : List Ne) (l : Int),0 ≤ l → l ≤ 1048576 → 0 ≤ zp2 es l → (∀ e ∈ es,neSz e) ∧ zp2 es l ≤ l
 | [],l,_,_,_ => ⟨fun e h => by (cases h),Int.le_refl _⟩
 | e :: r,l,hl,hl2,h => by
   rw [zp2] at h ⊢
   split at h
   ·omega
   ·rename_i hc
    rw [if_neg hc]
    have h1 := z15 e l hl
    obtain ⟨k1,k2⟩ := zor r (szNd e l) (by omega) (by omega) h
    refine ⟨fun x hx => ?_,by omega⟩
    rcases List.mem_cons.1 hx with rfl | hx
    ·unfold szNd at hc
     split at hc
     ·omega
     ·split at hc
      ·omega
      ·exact ⟨by omega,by omega⟩
    ·exact k1 x hx
theorem zv8 (es : List Ne) (l : Int) (hl : 0 ≤ l) (hl2 : l ≤ 1048576) (h : 0 ≤ zp3 es l) : zp3 es l ≤ l ∧ es.length ≤ l ∧ ∀ e ∈ es,neSz e := by
 unfold zp3 at h ⊢
 split at h
 ·omega
 ·rename_i hc
  rw [if_neg hc]
  obtain ⟨k1,k2⟩ := zor es (l - es.length) (by omega) (by omega) h
  exact ⟨by omega,by omega,k1⟩
theorem z4s (e : Fl) (l : Int) (hl : 0 ≤ l) (hl2 : l ≤ 1048576) (h1 : e.1.length ≤ 140737488351232) (h2 : e.2.length ≤ 140737488351232) : C ygl [.ro (FD e),.ro (I l)] [] = some (.one (.ro (I (szFl e l))),[]) := by
 refine zac Tryz.func118 ygo rfl ?_
 have w1 : IntKind.i64.wrap (l - e.1.length) = l - e.1.length := wrap64 (by omega) (by omega)
 unfold szFl
 by_cases hA : l - e.1.length < 0
 ·simp [w1,hA]
 ·have w2 : IntKind.i64.wrap (l - e.1.length - e.2.length) = l - e.1.length - e.2.length := wrap64 (by omega) (by omega)
  by_cases hB : l - e.1.length - e.2.length < 0
  ·simp [w1,w2,hA,hB]
  ·simp [w1,w2,hA,hB]
theorem z16 (es : List Fl) (l : Int) (hl : 0 ≤ l) (hl2 : l ≤ 1048576) (hn : es.length ≤ 140737488351232) (hb : ∀ e ∈ es,e.1.length ≤ 140737488351232 ∧ e.2.length ≤ 140737488351232) :
  C Fn42 [.ro (FS es),.ro (I l)] [] = some (.one (.ro (I (szFS es l))),[]) := by
 refine zac Tryz.func42 Cv42 rfl ?_
 have h1 : IntKind.i64.wrap (l - es.length) = l - es.length := wrap64 (by omega) (by omega)
 unfold szFS
 by_cases hneg : l - es.length < 0
 ·simp [h1,hneg]
 ·simp [h1,hneg]
  refine zah (fun m e => ∃ i l',m = es.length - i ∧ i ≤ es.length ∧ 0 ≤ l' ∧ l' ≤ 1048576 ∧ e.size = 27 ∧ e.get 0 = .one (.ro (FS es)) ∧ e.get 1 = .one (.ro (I l')) ∧ e.get 5 = .one (.ro (N i)) ∧
   zg9 (es.drop i) l' = zg9 es (l - es.length)) ?_ es.length _ ⟨0,l - es.length,rfl,Nat.zero_le _,by omega,by omega,by simp,by simp,by simp,by simp,rfl⟩
  rintro m e ⟨i,l',rfl,hi,hl0,hl1,hsz,h0,h1,h5,hr⟩ ih
  rcases Nat.lt_or_ge i es.length with hlt | hge
  ·have hx := hb es[i] (List.getElem_mem hlt)
   have hd : es.drop i = es[i] :: es.drop (i + 1) := List.drop_eq_getElem_cons hlt
   have hs := z4s es[i] l' hl0 hl1 hx.1 hx.2
   have hle := zp1 es[i] l' hl0
   rw [hd,zg9] at hr
   have hwi : IntKind.i64.wrap ((i : Int) + 1) = ((i + 1 : Nat) : Int) := zad (by omega)
   generalize szFl es[i] l' = q at *
   by_cases hc : q < 0
   ·rw [if_pos hc] at hr
    simp [hsz,h0,h1,h5,hlt,hs,hc,← hr]
   ·rw [if_neg hc] at hr
    simp [hsz,h0,h1,h5,hlt,hs,hc,hwi]
    exact ih _ _ (by omega) ⟨i + 1,_,rfl,by omega,by omega,by omega,by simp [hsz],by simp [h0],by simp,by simp,hr⟩
  ·obtain rfl : i = es.length := by omega
   simp [zg9] at hr
   simp [hsz,h0,h1,h5,hr]
theorem zu0 (e : Fl) (l : Int) (hl : 0 ≤ l) (hl2 : l ≤ 1048576) (h1 : e.1.length ≤ 140737488351232) (h2 : e.2.length ≤ 140737488351232) : C ygt [.ro (FD e),.ro (I l)] [] = some (.one (.ro (I (szFl e l))),[]) := by
 refine zac Tryz.func120 ygw rfl ?_
 have w1 : IntKind.i64.wrap (l - e.1.length) = l - e.1.length := wrap64 (by omega) (by omega)
 unfold szFl
 by_cases hA : l - e.1.length < 0
 ·simp [w1,hA]
 ·have w2 : IntKind.i64.wrap (l - e.1.length - e.2.length) = l - e.1.length - e.2.length := wrap64 (by omega) (by omega)
  by_cases hB : l - e.1.length - e.2.length < 0
  ·simp [w1,w2,hA,hB]
  ·simp [w1,w2,hA,hB]
theorem zss (es : List Fl) (l : Int) (hl : 0 ≤ l) (hl2 : l ≤ 1048576) (hn : es.length ≤ 140737488351232) (hb : ∀ e ∈ es,e.1.length ≤ 140737488351232 ∧ e.2.length ≤ 140737488351232) :
  C Fn44 [.ro (FS es),.ro (I l)] [] = some (.one (.ro (I (szFS es l))),[]) := by
 refine zac Tryz.func44 Cv44 rfl ?_
 have h1 : IntKind.i64.wrap (l - es.length) = l - es.length := wrap64 (by omega) (by omega)
 unfold szFS
 by_cases hneg : l - es.length < 0
 ·simp [h1,hneg]
 ·simp [h1,hneg]
  refine zah (fun m e => ∃ i l',m = es.length - i ∧ i ≤ es.length ∧ 0 ≤ l' ∧ l' ≤ 1048576 ∧ e.size = 27 ∧ e.get 0 = .one (.ro (FS es)) ∧ e.get 1 = .one (.ro (I l')) ∧ e.get 5 = .one (.ro (N i)) ∧
   zg9 (es.drop i) l' = zg9 es (l - es.length)) ?_ es.length _ ⟨0,l - es.length,rfl,Nat.zero_le _,by omega,by omega,by simp,by simp,by simp,by simp,rfl⟩
  rintro m e ⟨i,l',rfl,hi,hl0,hl1,hsz,h0,h1,h5,hr⟩ ih
  rcases Nat.lt_or_ge i es.length with hlt | hge
  ·have hx := hb es[i] (List.getElem_mem hlt)
   have hd : es.drop i = es[i] :: es.drop (i + 1) := List.drop_eq_getElem_cons hlt
   have hs := zu0 es[i] l' hl0 hl1 hx.1 hx.2
   have hle := zp1 es[i] l' hl0
   rw [hd,zg9] at hr
   have hwi : IntKind.i64.wrap ((i : Int) + 1) = ((i + 1 : Nat) : Int) := zad (by omega)
   generalize szFl es[i] l' = q at *
   by_cases hc : q < 0
   ·rw [if_pos hc] at hr
    simp [hsz,h0,h1,h5,hlt,hs,hc,← hr]
   ·rw [if_neg hc] at hr
    simp [hsz,h0,h1,h5,hlt,hs,hc,hwi]
    exact ih _ _ (by omega) ⟨i + 1,_,rfl,by omega,by omega,by omega,by simp [hsz],by simp [h0],by simp,by simp,hr⟩
  ·obtain rfl : i = es.length := by omega
   simp [zg9] at hr
   simp [hsz,h0,h1,h5,hr]
theorem zx4 (e : Fl) (l : Int) (hl : 0 ≤ l) (hl2 : l ≤ 1048576) (h1 : e.1.length ≤ 140737488351232) (h2 : e.2.length ≤ 140737488351232) : C ygx [.ro (FD e),.ro (I l)] [] = some (.one (.ro (I (szFl e l))),[]) := by
 refine zac Tryz.func121 yg0 rfl ?_
 have w1 : IntKind.i64.wrap (l - e.1.length) = l - e.1.length := wrap64 (by omega) (by omega)
 unfold szFl
 by_cases hA : l - e.1.length < 0
 ·simp [w1,hA]
 ·have w2 : IntKind.i64.wrap (l - e.1.length - e.2.length) = l - e.1.length - e.2.length := wrap64 (by omega) (by omega)
  by_cases hB : l - e.1.length - e.2.length < 0
  ·simp [w1,w2,hA,hB]
  ·simp [w1,w2,hA,hB]
theorem zu1 (es : List Fl) (l : Int) (hl : 0 ≤ l) (hl2 : l ≤ 1048576) (hn : es.length ≤ 140737488351232) (hb : ∀ e ∈ es,e.1.length ≤ 140737488351232 ∧ e.2.length ≤ 140737488351232) :
  C Fn45 [.ro (FS es),.ro (I l)] [] = some (.one (.ro (I (szFS es l))),[]) := by
 refine zac Tryz.func45 Cv45 rfl ?_
 have h1 : IntKind.i64.wrap (l - es.length) = l - es.length := wrap64 (by omega) (by omega)
 unfold szFS
 by_cases hneg : l - es.length < 0
 ·simp [h1,hneg]
 ·simp [h1,hneg]
  refine zah (fun m e => ∃ i l',m = es.length - i ∧ i ≤ es.length ∧ 0 ≤ l' ∧ l' ≤ 1048576 ∧ e.size = 27 ∧ e.get 0 = .one (.ro (FS es)) ∧ e.get 1 = .one (.ro (I l')) ∧ e.get 5 = .one (.ro (N i)) ∧
   zg9 (es.drop i) l' = zg9 es (l - es.length)) ?_ es.length _ ⟨0,l - es.length,rfl,Nat.zero_le _,by omega,by omega,by simp,by simp,by simp,by simp,rfl⟩
  rintro m e ⟨i,l',rfl,hi,hl0,hl1,hsz,h0,h1,h5,hr⟩ ih
  rcases Nat.lt_or_ge i es.length with hlt | hge
  ·have hx := hb es[i] (List.getElem_mem hlt)
   have hd : es.drop i = es[i] :: es.drop (i + 1) := List.drop_eq_getElem_cons hlt
   have hs := zx4 es[i] l' hl0 hl1 hx.1 hx.2
   have hle := zp1 es[i] l' hl0
   rw [hd,zg9] at hr
   have hwi : IntKind.i64.wrap ((i : Int) + 1) = ((i + 1 : Nat) : Int) := zad (by omega)
   generalize szFl es[i] l' = q at *
   by_cases hc : q < 0
   ·rw [if_pos hc] at hr
    simp [hsz,h0,h1,h5,hlt,hs,hc,← hr]
   ·rw [if_neg hc] at hr
    simp [hsz,h0,h1,h5,hlt,hs,hc,hwi]
    exact ih _ _ (by omega) ⟨i + 1,_,rfl,by omega,by omega,by omega,by simp [hsz],by simp [h0],by simp,by simp,hr⟩
  ·obtain rfl : i = es.length := by omega
   simp [zg9] at hr
   simp [hsz,h0,h1,h5,hr]
theorem z17 (e : Ne) (l : Int) (hl : 0 ≤ l) (hl2 : l ≤ 1048576) (h1 : e.name.length ≤ 140737488351232) (h2 : e.ver.length ≤ 140737488351232) : C ygp [.ro (NeD e),.ro (I l)] [] = some (.one (.ro (I (szNd e l))),[]) := by
 refine zac Tryz.func119 ygs rfl ?_
 have w1 : IntKind.i64.wrap (l - e.name.length) = l - e.name.length := wrap64 (by omega) (by omega)
 unfold szNd
 by_cases hA : l - e.name.length < 0
 ·simp [w1,hA]
 ·have w2 : IntKind.i64.wrap (l - e.name.length - e.ver.length) = l - e.name.length - e.ver.length := wrap64 (by omega) (by omega)
  by_cases hB : l - e.name.length - e.ver.length < 0
  ·simp [w1,w2,hA,hB]
  ·simp [w1,w2,hA,hB]
theorem zos (es : List Ne) (l : Int) (hl : 0 ≤ l) (hl2 : l ≤ 1048576) (hn : es.length ≤ 140737488351232) (hb : ∀ e ∈ es,e.name.length ≤ 140737488351232 ∧ e.ver.length ≤ 140737488351232) :
  C Fn43 [.ro (NeS es),.ro (I l)] [] = some (.one (.ro (I (zp3 es l))),[]) := by
 refine zac Tryz.func43 Cv43 rfl ?_
 have h1 : IntKind.i64.wrap (l - es.length) = l - es.length := wrap64 (by omega) (by omega)
 unfold zp3
 by_cases hneg : l - es.length < 0
 ·simp [h1,hneg]
 ·simp [h1,hneg]
  refine zah (fun m e => ∃ i l',m = es.length - i ∧ i ≤ es.length ∧ 0 ≤ l' ∧ l' ≤ 1048576 ∧ e.size = 27 ∧ e.get 0 = .one (.ro (NeS es)) ∧ e.get 1 = .one (.ro (I l')) ∧ e.get 5 = .one (.ro (N i)) ∧
   zp2 (es.drop i) l' = zp2 es (l - es.length)) ?_ es.length _ ⟨0,l - es.length,rfl,Nat.zero_le _,by omega,by omega,by simp,by simp,by simp,by simp,rfl⟩
  rintro m e ⟨i,l',rfl,hi,hl0,hl1,hsz,h0,h1,h5,hr⟩ ih
  rcases Nat.lt_or_ge i es.length with hlt | hge
  ·have hx := hb es[i] (List.getElem_mem hlt)
   have hd : es.drop i = es[i] :: es.drop (i + 1) := List.drop_eq_getElem_cons hlt
   have hs := z17 es[i] l' hl0 hl1 hx.1 hx.2
   have hle := z15 es[i] l' hl0
   rw [hd,zp2] at hr
   have hwi : IntKind.i64.wrap ((i : Int) + 1) = ((i + 1 : Nat) : Int) := zad (by omega)
   generalize szNd es[i] l' = q at *
   by_cases hc : q < 0
   ·rw [if_pos hc] at hr
    simp [hsz,h0,h1,h5,hlt,hs,hc,← hr]
   ·rw [if_neg hc] at hr
    simp [hsz,h0,h1,h5,hlt,hs,hc,hwi]
    exact ih _ _ (by omega) ⟨i + 1,_,rfl,by omega,by omega,by omega,by simp [hsz],by simp [h0],by simp,by simp,hr⟩
  ·obtain rfl : i = es.length := by omega
   simp [zp2] at hr
   simp [hsz,h0,h1,h5,hr]
theorem z18 : ∀ (xs : zbd) (l : Int),0 ≤ l → l ≤ 1048576 → 0 ≤ szL xs l → (∀ x ∈ xs,x.length ≤ 1048576) ∧ szL xs l ≤ l
 | [],l,_,_,_ => ⟨fun e h => by (cases h),Int.le_refl _⟩
 | x :: r,l,hl,hl2,h => by
   rw [szL] at h ⊢
   split at h
   ·omega
   ·rename_i hc
    rw [if_neg hc]
    obtain ⟨k1,k2⟩ := z18 r (l - x.length) (by omega) (by omega) h
    refine ⟨fun y hy => ?_,by omega⟩
    rcases List.mem_cons.1 hy with rfl | hy
    ·omega
    ·exact k1 y hy
theorem z4t (xs : zbd) (l : Int) (hl : 0 ≤ l) (hl2 : l ≤ 1048576) (h : 0 ≤ szSS xs l) : szSS xs l ≤ l ∧ xs.length ≤ l ∧ ∀ x ∈ xs,x.length ≤ 1048576 := by
 unfold szSS at h ⊢
 split at h
 ·omega
 ·rename_i hc
  rw [if_neg hc]
  obtain ⟨k1,k2⟩ := z18 xs (l - xs.length) (by omega) (by omega) h
  exact ⟨by omega,by omega,k1⟩
structure z5b (r : Rc) : Prop where
 name : r.name.length ≤ 140737488351232
 ver : r.ver.length ≤ 140737488351232
 lets : r.lets.length ≤ 140737488351232
 builds : r.builds.length ≤ 140737488351232
 runs : r.runs.length ≤ 140737488351232
 srcs : r.srcs.length ≤ 140737488351232
 pcs : r.pcs.length ≤ 140737488351232
 steps : r.steps.length ≤ 140737488351232
 letz : ∀ e ∈ r.lets,e.1.length ≤ 140737488351232 ∧ e.2.length ≤ 140737488351232
 bld : ∀ e ∈ r.builds,e.name.length ≤ 140737488351232 ∧ e.ver.length ≤ 140737488351232
 run : ∀ e ∈ r.runs,e.name.length ≤ 140737488351232 ∧ e.ver.length ≤ 140737488351232
 src : ∀ e ∈ r.srcs,e.1.length ≤ 140737488351232 ∧ e.2.length ≤ 140737488351232
 pc : ∀ e ∈ r.pcs,e.1.length ≤ 140737488351232 ∧ e.2.length ≤ 140737488351232
 step : ∀ x ∈ r.steps,x.length ≤ 140737488351232
def stp (q : Int) (k : Int → Int) : Int := if q < 0 then -1 else k q
def szR (r : Rc) (l : Int) : Int := stp (l - r.name.length) fun l => stp (l - r.ver.length) fun l => stp (szFS r.lets l) fun l => stp (zp3 r.builds l) fun l => stp (zp3 r.runs l) fun l => stp (szFS r.srcs l) fun l => stp (szFS r.pcs l) fun l => stp (szSS r.steps l) fun l => l
theorem zha {q : Int} {k : Int → Int} (h : q < 0) : stp q k = -1 := if_pos h
theorem zhb {q : Int} {k : Int → Int} (h : ¬ q < 0) : stp q k = k q := if_neg h
set_option maxHeartbeats 1000000 in
theorem zu2 (r : Rc) (l : Int) (hl : 0 ≤ l) (hl2 : l ≤ 1048576) (h : z5b r) : C Fn18 [.ro (RcD r),.ro (I l)] [] = some (.one (.ro (I (szR r l))),[]) ∧ (0 ≤ szR r l → RcSz r) := by
 have g1 := h.name
 have g2 := h.ver
 have w1 : IntKind.i64.wrap (l - r.name.length) = l - r.name.length := wrap64 (by omega) (by omega)
 unfold szR
 by_cases c1 : l - r.name.length < 0
 ·rw [zha c1]
  refine ⟨zac Tryz.func18 Cv18 rfl ?_,by omega⟩
  simp [w1,c1]
 rw [zhb c1]
 have w2 : IntKind.i64.wrap (l - r.name.length - r.ver.length) = l - r.name.length - r.ver.length := wrap64 (by omega) (by omega)
 by_cases c2 : l - r.name.length - r.ver.length < 0
 ·rw [zha c2]
  refine ⟨zac Tryz.func18 Cv18 rfl ?_,by omega⟩
  simp [w1,w2,c1,c2]
 rw [zhb c2]
 have f1 : l - r.name.length - r.ver.length ≤ 1048576 := by omega
 have z1 : r.name.length ≤ 1048576 ∧ r.ver.length ≤ 1048576 := by omega
 obtain ⟨l2,hl2e⟩ : ∃ l2,l - r.name.length - r.ver.length = l2 := ⟨_,rfl⟩
 rw [hl2e] at c2 f1 w2 ⊢
 have v0 := z16 r.lets l2 (by omega) (by omega) h.lets h.letz
 have k0 := zuz r.lets l2 (by omega) (by omega)
 generalize szFS r.lets l2 = l3 at *
 by_cases c3 : l3 < 0
 ·rw [zha c3]
  refine ⟨zac Tryz.func18 Cv18 rfl ?_,by omega⟩
  simp [w1,w2,c1,c2,hl2e,v0,c3]
 rw [zhb c3]
 obtain ⟨n0,m0,q0⟩ := k0 (by omega)
 have v1 := zos r.builds l3 (by omega) (by omega) h.builds h.bld
 have k1 := zv8 r.builds l3 (by omega) (by omega)
 generalize zp3 r.builds l3 = l4 at *
 by_cases c4 : l4 < 0
 ·rw [zha c4]
  refine ⟨zac Tryz.func18 Cv18 rfl ?_,by omega⟩
  simp [w1,w2,c1,c2,hl2e,v0,c3,v1,c4]
 rw [zhb c4]
 obtain ⟨n1,m1,q1⟩ := k1 (by omega)
 have v2 := zos r.runs l4 (by omega) (by omega) h.runs h.run
 have k2 := zv8 r.runs l4 (by omega) (by omega)
 generalize zp3 r.runs l4 = l5 at *
 by_cases c5 : l5 < 0
 ·rw [zha c5]
  refine ⟨zac Tryz.func18 Cv18 rfl ?_,by omega⟩
  simp [w1,w2,c1,c2,hl2e,v0,c3,v1,c4,v2,c5]
 rw [zhb c5]
 obtain ⟨n2,m2,q2⟩ := k2 (by omega)
 have v3 := zss r.srcs l5 (by omega) (by omega) h.srcs h.src
 have k3 := zuz r.srcs l5 (by omega) (by omega)
 generalize szFS r.srcs l5 = l6 at *
 by_cases c6 : l6 < 0
 ·rw [zha c6]
  refine ⟨zac Tryz.func18 Cv18 rfl ?_,by omega⟩
  simp [w1,w2,c1,c2,hl2e,v0,c3,v1,c4,v2,c5,v3,c6]
 rw [zhb c6]
 obtain ⟨n3,m3,q3⟩ := k3 (by omega)
 have v4 := zu1 r.pcs l6 (by omega) (by omega) h.pcs h.pc
 have k4 := zuz r.pcs l6 (by omega) (by omega)
 generalize szFS r.pcs l6 = l7 at *
 by_cases c7 : l7 < 0
 ·rw [zha c7]
  refine ⟨zac Tryz.func18 Cv18 rfl ?_,by omega⟩
  simp [w1,w2,c1,c2,hl2e,v0,c3,v1,c4,v2,c5,v3,c6,v4,c7]
 rw [zhb c7]
 obtain ⟨n4,m4,q4⟩ := k4 (by omega)
 have v5 := zry r.steps l7 (by omega) (by omega) h.steps h.step
 have k5 := z4t r.steps l7 (by omega) (by omega)
 generalize szSS r.steps l7 = l8 at *
 by_cases c8 : l8 < 0
 ·rw [zha c8]
  refine ⟨zac Tryz.func18 Cv18 rfl ?_,by omega⟩
  simp [w1,w2,c1,c2,hl2e,v0,c3,v1,c4,v2,c5,v3,c6,v4,c7,v5,c8]
 rw [zhb c8]
 obtain ⟨n5,m5,q5⟩ := k5 (by omega)
 refine ⟨zac Tryz.func18 Cv18 rfl ?_,fun _ => ⟨z1.1,z1.2,by omega,by omega,by omega,by omega,by omega,by omega,q0,q1,q2,q3,q4,q5⟩⟩
 simp [w1,w2,c1,c2,hl2e,v0,c3,v1,c4,v2,c5,v3,c6,v4,c7,v5,c8]
theorem zu3 (r : Rc) (h : RcSz r) : C Fn19 [.ro (RcD r)] [] = some (.one (.own (RcD r)),[]) := by
 refine zac Tryz.func19 Cv19 rfl ?_
 simp [z13 r.lets h.lets,zop r.builds h.builds,zop r.runs h.runs,zsp r.srcs h.srcs,zux r.pcs h.pcs,zsr r.steps h.steps]
theorem zp4 (r : Rc) (h : RcSz r) : C Fn20 [.ro (RcD r),.ro (RcD r)] [] = some (.one (.ro (.bool true)),[]) := by
 refine zac Tryz.func20 Cv20 rfl ?_
 simp [zuv r.lets h.lets,zk8 r.builds h.builds,zk8 r.runs h.runs,znl r.srcs h.srcs,zp0 r.pcs h.pcs,znm r.steps h.steps]
end Go.Qz
namespace Go.Qz
open Go.Proofs
theorem zkm (r : Rc) (h : z5b r) : C Fn8 [.ro (RcD r)] [] = some (.one (.ro (.bool true)),[]) := by
 refine zac Tryz.func8 Cv8 rfl ?_
 obtain ⟨hs,hfit⟩ := zu2 r 1048576 (by omega) (by omega) h
 by_cases hneg : szR r 1048576 < 0
 ·generalize szR r 1048576 = q at *
  simp [hs,hneg]
 ·have hz := hfit (by omega)
  generalize szR r 1048576 = q at *
  have hto := zu3 r hz
  have hS := zpy r hz
  have hI := zpx r hz
  have heq := zp4 r hz
  generalize z1t r = c at *
  simp [hs,hneg,hto,hS,hI,heq]
end Go.Qz
