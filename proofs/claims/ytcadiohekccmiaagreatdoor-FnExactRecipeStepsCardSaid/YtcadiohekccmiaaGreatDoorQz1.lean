import Derived.Test.YtcadiohekccmiaaGreatDoorQz0
namespace Go.Qz
open Go.Proofs
theorem toLet_ev (e : Fl) : C Fn122 [.ro (FD e)] [] = some (.one (.ro (FD e)), []) := by
 refine ctx_call Tryz.func122 Cv122 rfl ?_
 simp
theorem toLetS_ev (es : List Fl) (hn : es.length ≤ 1048576) : C Fn47 [.ro (FS es)] [] = some (.one (.own (FS es)), []) := by
 refine ctx_call Tryz.func47 Cv47 rfl ?_
 have ha : (es.length : Int) ≤ appendMax := by simp [appendMax]; omega
 simp [ha]
 refine loop_run (fun m e => ∃ i yl, m = es.length - i ∧ i ≤ es.length ∧ e.size = 23 ∧ e.get 0 = .one (.ro (FS es)) ∧ e.get 3 = .one (.own (FS yl)) ∧ e.get 4 = .one (.ro (N i)) ∧ yl.length = es.length ∧ ∀ j, j < i → yl[j]? = es[j]?)
  ?_ es.length _ ⟨0, List.replicate es.length ([], []), rfl, Nat.zero_le _, by simp, by simp, by simp, by simp, by simp, fun j hj => by omega⟩
 rintro m e ⟨i, yl, rfl, hi, hsz, h0, h3, h4, hyl, hy⟩ ih
 rcases Nat.lt_or_ge i es.length with hlt | hge
 ·have hwi : IntKind.i64.wrap ((i : Int) + 1) = ((i + 1 : Nat) : Int) := wrap64_succ (by omega)
  have hlt' : i < yl.length := by omega
  have hto := toLet_ev es[i]
  simp [hsz, h0, h3, h4, hlt, hlt', hwi, hto]
  exact ih _ _ (by omega) ⟨i + 1, yl.set i es[i], rfl, by omega, by simp [hsz], by simp [h0], by simp [List.map_set], by simp, by simp [hyl], fun j hj => by
   by_cases e : j = i
   ·subst e; simp [hlt, hlt']
   ·rw [List.getElem?_set_ne (by omega)]; exact hy j (by omega)⟩
 ·obtain rfl : i = es.length := by omega
  obtain rfl := eq_of_firsts hyl hy
  simp [hsz, h0, h3, h4]
theorem eqLet_self (e : Fl) : C Fn126 [.ro (FD e), .ro (FD e)] [] = some (.one (.ro (.bool true)), []) := by
 refine ctx_call Tryz.func126 Cv126 rfl ?_
 simp
theorem eqLetS_self (es : List Fl) (hn : es.length ≤ 1048576) : C Fn52 [.ro (FS es), .ro (FS es)] [] = some (.one (.ro (.bool true)), []) := by
 refine ctx_call Tryz.func52 Cv52 rfl ?_
 simp
 refine loop_run (fun m e => ∃ i, m = es.length - i ∧ i ≤ es.length ∧ e.size = 27 ∧ e.get 0 = .one (.ro (FS es)) ∧ e.get 1 = .one (.ro (FS es)) ∧ e.get 5 = .one (.ro (N i)))
  ?_ es.length _ ⟨0, rfl, Nat.zero_le _, by simp, by simp, by simp, by simp⟩
 rintro m e ⟨i, rfl, hi, hsz, h0, h1, h5⟩ ih
 rcases Nat.lt_or_ge i es.length with hlt | hge
 ·have hwi : IntKind.i64.wrap ((i : Int) + 1) = ((i + 1 : Nat) : Int) := wrap64_succ (by omega)
  have hq := eqLet_self es[i]
  simp [hsz, h0, h1, h5, hlt, hwi, hq]
  exact ih _ _ (by omega) ⟨i + 1, rfl, by omega, by simp [hsz], by simp [h0], by simp [h1], by simp⟩
 ·obtain rfl : i = es.length := by omega
  simp [hsz, h0, h5]
theorem toSource_ev (e : Fl) : C Fn124 [.ro (FD e)] [] = some (.one (.ro (FD e)), []) := by
 refine ctx_call Tryz.func124 Cv124 rfl ?_
 simp
theorem toSourceS_ev (es : List Fl) (hn : es.length ≤ 1048576) : C Fn49 [.ro (FS es)] [] = some (.one (.own (FS es)), []) := by
 refine ctx_call Tryz.func49 Cv49 rfl ?_
 have ha : (es.length : Int) ≤ appendMax := by simp [appendMax]; omega
 simp [ha]
 refine loop_run (fun m e => ∃ i yl, m = es.length - i ∧ i ≤ es.length ∧ e.size = 23 ∧ e.get 0 = .one (.ro (FS es)) ∧ e.get 3 = .one (.own (FS yl)) ∧ e.get 4 = .one (.ro (N i)) ∧ yl.length = es.length ∧ ∀ j, j < i → yl[j]? = es[j]?)
  ?_ es.length _ ⟨0, List.replicate es.length ([], []), rfl, Nat.zero_le _, by simp, by simp, by simp, by simp, by simp, fun j hj => by omega⟩
 rintro m e ⟨i, yl, rfl, hi, hsz, h0, h3, h4, hyl, hy⟩ ih
 rcases Nat.lt_or_ge i es.length with hlt | hge
 ·have hwi : IntKind.i64.wrap ((i : Int) + 1) = ((i + 1 : Nat) : Int) := wrap64_succ (by omega)
  have hlt' : i < yl.length := by omega
  have hto := toSource_ev es[i]
  simp [hsz, h0, h3, h4, hlt, hlt', hwi, hto]
  exact ih _ _ (by omega) ⟨i + 1, yl.set i es[i], rfl, by omega, by simp [hsz], by simp [h0], by simp [List.map_set], by simp, by simp [hyl], fun j hj => by
   by_cases e : j = i
   ·subst e; simp [hlt, hlt']
   ·rw [List.getElem?_set_ne (by omega)]; exact hy j (by omega)⟩
 ·obtain rfl : i = es.length := by omega
  obtain rfl := eq_of_firsts hyl hy
  simp [hsz, h0, h3, h4]
theorem eqSource_self (e : Fl) : C Fn128 [.ro (FD e), .ro (FD e)] [] = some (.one (.ro (.bool true)), []) := by
 refine ctx_call Tryz.func128 Cv128 rfl ?_
 simp
theorem eqSourceS_self (es : List Fl) (hn : es.length ≤ 1048576) : C Fn54 [.ro (FS es), .ro (FS es)] [] = some (.one (.ro (.bool true)), []) := by
 refine ctx_call Tryz.func54 Cv54 rfl ?_
 simp
 refine loop_run (fun m e => ∃ i, m = es.length - i ∧ i ≤ es.length ∧ e.size = 27 ∧ e.get 0 = .one (.ro (FS es)) ∧ e.get 1 = .one (.ro (FS es)) ∧ e.get 5 = .one (.ro (N i)))
  ?_ es.length _ ⟨0, rfl, Nat.zero_le _, by simp, by simp, by simp, by simp⟩
 rintro m e ⟨i, rfl, hi, hsz, h0, h1, h5⟩ ih
 rcases Nat.lt_or_ge i es.length with hlt | hge
 ·have hwi : IntKind.i64.wrap ((i : Int) + 1) = ((i + 1 : Nat) : Int) := wrap64_succ (by omega)
  have hq := eqSource_self es[i]
  simp [hsz, h0, h1, h5, hlt, hwi, hq]
  exact ih _ _ (by omega) ⟨i + 1, rfl, by omega, by simp [hsz], by simp [h0], by simp [h1], by simp⟩
 ·obtain rfl : i = es.length := by omega
  simp [hsz, h0, h5]
theorem toPiece_ev (e : Fl) : C Fn125 [.ro (FD e)] [] = some (.one (.ro (FD e)), []) := by
 refine ctx_call Tryz.func125 Cv125 rfl ?_
 simp
theorem toPieceS_ev (es : List Fl) (hn : es.length ≤ 1048576) : C Fn50 [.ro (FS es)] [] = some (.one (.own (FS es)), []) := by
 refine ctx_call Tryz.func50 Cv50 rfl ?_
 have ha : (es.length : Int) ≤ appendMax := by simp [appendMax]; omega
 simp [ha]
 refine loop_run (fun m e => ∃ i yl, m = es.length - i ∧ i ≤ es.length ∧ e.size = 23 ∧ e.get 0 = .one (.ro (FS es)) ∧ e.get 3 = .one (.own (FS yl)) ∧ e.get 4 = .one (.ro (N i)) ∧ yl.length = es.length ∧ ∀ j, j < i → yl[j]? = es[j]?)
  ?_ es.length _ ⟨0, List.replicate es.length ([], []), rfl, Nat.zero_le _, by simp, by simp, by simp, by simp, by simp, fun j hj => by omega⟩
 rintro m e ⟨i, yl, rfl, hi, hsz, h0, h3, h4, hyl, hy⟩ ih
 rcases Nat.lt_or_ge i es.length with hlt | hge
 ·have hwi : IntKind.i64.wrap ((i : Int) + 1) = ((i + 1 : Nat) : Int) := wrap64_succ (by omega)
  have hlt' : i < yl.length := by omega
  have hto := toPiece_ev es[i]
  simp [hsz, h0, h3, h4, hlt, hlt', hwi, hto]
  exact ih _ _ (by omega) ⟨i + 1, yl.set i es[i], rfl, by omega, by simp [hsz], by simp [h0], by simp [List.map_set], by simp, by simp [hyl], fun j hj => by
   by_cases e : j = i
   ·subst e; simp [hlt, hlt']
   ·rw [List.getElem?_set_ne (by omega)]; exact hy j (by omega)⟩
 ·obtain rfl : i = es.length := by omega
  obtain rfl := eq_of_firsts hyl hy
  simp [hsz, h0, h3, h4]
theorem eqPiece_self (e : Fl) : C Fn129 [.ro (FD e), .ro (FD e)] [] = some (.one (.ro (.bool true)), []) := by
 refine ctx_call Tryz.func129 Cv129 rfl ?_
 simp
theorem eqPieceS_self (es : List Fl) (hn : es.length ≤ 1048576) : C Fn55 [.ro (FS es), .ro (FS es)] [] = some (.one (.ro (.bool true)), []) := by
 refine ctx_call Tryz.func55 Cv55 rfl ?_
 simp
 refine loop_run (fun m e => ∃ i, m = es.length - i ∧ i ≤ es.length ∧ e.size = 27 ∧ e.get 0 = .one (.ro (FS es)) ∧ e.get 1 = .one (.ro (FS es)) ∧ e.get 5 = .one (.ro (N i)))
  ?_ es.length _ ⟨0, rfl, Nat.zero_le _, by simp, by simp, by simp, by simp⟩
 rintro m e ⟨i, rfl, hi, hsz, h0, h1, h5⟩ ih
 rcases Nat.lt_or_ge i es.length with hlt | hge
 ·have hwi : IntKind.i64.wrap ((i : Int) + 1) = ((i + 1 : Nat) : Int) := wrap64_succ (by omega)
  have hq := eqPiece_self es[i]
  simp [hsz, h0, h1, h5, hlt, hwi, hq]
  exact ih _ _ (by omega) ⟨i + 1, rfl, by omega, by simp [hsz], by simp [h0], by simp [h1], by simp⟩
 ·obtain rfl : i = es.length := by omega
  simp [hsz, h0, h5]
theorem toNeed_ev (e : Ne) : C Fn123 [.ro (NeD e)] [] = some (.one (.ro (NeD e)), []) := by
 refine ctx_call Tryz.func123 Cv123 rfl ?_
 simp
theorem toNeedS_ev (es : List Ne) (hn : es.length ≤ 1048576) : C Fn48 [.ro (NeS es)] [] = some (.one (.own (NeS es)), []) := by
 refine ctx_call Tryz.func48 Cv48 rfl ?_
 have ha : (es.length : Int) ≤ appendMax := by simp [appendMax]; omega
 simp [ha]
 refine loop_run (fun m e => ∃ i yl, m = es.length - i ∧ i ≤ es.length ∧ e.size = 23 ∧ e.get 0 = .one (.ro (NeS es)) ∧ e.get 3 = .one (.own (NeS yl)) ∧ e.get 4 = .one (.ro (N i)) ∧ yl.length = es.length ∧ ∀ j, j < i → yl[j]? = es[j]?)
  ?_ es.length _ ⟨0, List.replicate es.length ⟨[], 0, []⟩, rfl, Nat.zero_le _, by simp, by simp, by simp, by simp, by simp, fun j hj => by omega⟩
 rintro m e ⟨i, yl, rfl, hi, hsz, h0, h3, h4, hyl, hy⟩ ih
 rcases Nat.lt_or_ge i es.length with hlt | hge
 ·have hwi : IntKind.i64.wrap ((i : Int) + 1) = ((i + 1 : Nat) : Int) := wrap64_succ (by omega)
  have hlt' : i < yl.length := by omega
  have hto := toNeed_ev es[i]
  simp [hsz, h0, h3, h4, hlt, hlt', hwi, hto]
  exact ih _ _ (by omega) ⟨i + 1, yl.set i es[i], rfl, by omega, by simp [hsz], by simp [h0], by simp [List.map_set], by simp, by simp [hyl], fun j hj => by
   by_cases e : j = i
   ·subst e; simp [hlt, hlt']
   ·rw [List.getElem?_set_ne (by omega)]; exact hy j (by omega)⟩
 ·obtain rfl : i = es.length := by omega
  obtain rfl := eq_of_firsts hyl hy
  simp [hsz, h0, h3, h4]
theorem eqNeed_self (e : Ne) : C Fn127 [.ro (NeD e), .ro (NeD e)] [] = some (.one (.ro (.bool true)), []) := by
 refine ctx_call Tryz.func127 Cv127 rfl ?_
 simp
theorem eqNeedS_self (es : List Ne) (hn : es.length ≤ 1048576) : C Fn53 [.ro (NeS es), .ro (NeS es)] [] = some (.one (.ro (.bool true)), []) := by
 refine ctx_call Tryz.func53 Cv53 rfl ?_
 simp
 refine loop_run (fun m e => ∃ i, m = es.length - i ∧ i ≤ es.length ∧ e.size = 27 ∧ e.get 0 = .one (.ro (NeS es)) ∧ e.get 1 = .one (.ro (NeS es)) ∧ e.get 5 = .one (.ro (N i)))
  ?_ es.length _ ⟨0, rfl, Nat.zero_le _, by simp, by simp, by simp, by simp⟩
 rintro m e ⟨i, rfl, hi, hsz, h0, h1, h5⟩ ih
 rcases Nat.lt_or_ge i es.length with hlt | hge
 ·have hwi : IntKind.i64.wrap ((i : Int) + 1) = ((i + 1 : Nat) : Int) := wrap64_succ (by omega)
  have hq := eqNeed_self es[i]
  simp [hsz, h0, h1, h5, hlt, hwi, hq]
  exact ih _ _ (by omega) ⟨i + 1, rfl, by omega, by simp [hsz], by simp [h0], by simp [h1], by simp⟩
 ·obtain rfl : i = es.length := by omega
  simp [hsz, h0, h5]
theorem toStringS_ev (es : Lines) (hn : es.length ≤ 1048576) : C Fn51 [.ro (SS es)] [] = some (.one (.own (SS es)), []) := by
 refine ctx_call Tryz.func51 Cv51 rfl ?_
 have ha : (es.length : Int) ≤ appendMax := by simp [appendMax]; omega
 simp [ha]
 refine loop_run (fun m e => ∃ i yl, m = es.length - i ∧ i ≤ es.length ∧ e.size = 22 ∧ e.get 0 = .one (.ro (SS es)) ∧ e.get 3 = .one (.own (SS yl)) ∧ e.get 4 = .one (.ro (N i)) ∧ yl.length = es.length ∧ ∀ j, j < i → yl[j]? = es[j]?)
  ?_ es.length _ ⟨0, List.replicate es.length [], rfl, Nat.zero_le _, by simp, by simp, by simp, by simp, by simp, fun j hj => by omega⟩
 rintro m e ⟨i, yl, rfl, hi, hsz, h0, h3, h4, hyl, hy⟩ ih
 rcases Nat.lt_or_ge i es.length with hlt | hge
 ·have hwi : IntKind.i64.wrap ((i : Int) + 1) = ((i + 1 : Nat) : Int) := wrap64_succ (by omega)
  have hlt' : i < yl.length := by omega
  simp [hsz, h0, h3, h4, hlt, hlt', hwi]
  exact ih _ _ (by omega) ⟨i + 1, yl.set i es[i], rfl, by omega, by simp [hsz], by simp [h0], by simp [List.map_set], by simp, by simp [hyl], fun j hj => by
   by_cases e : j = i
   ·subst e; simp [hlt, hlt']
   ·rw [List.getElem?_set_ne (by omega)]; exact hy j (by omega)⟩
 ·obtain rfl : i = es.length := by omega
  obtain rfl := eq_of_firsts hyl hy
  simp [hsz, h0, h3, h4]
theorem eqStringS_self (es : Lines) (hn : es.length ≤ 1048576) : C Fn21 [.ro (SS es), .ro (SS es)] [] = some (.one (.ro (.bool true)), []) := by
 refine ctx_call Tryz.func21 Cv21 rfl ?_
 simp
 refine loop_run (fun m e => ∃ i, m = es.length - i ∧ i ≤ es.length ∧ e.size = 26 ∧ e.get 0 = .one (.ro (SS es)) ∧ e.get 1 = .one (.ro (SS es)) ∧ e.get 5 = .one (.ro (N i)))
  ?_ es.length _ ⟨0, rfl, Nat.zero_le _, by simp, by simp, by simp, by simp⟩
 rintro m e ⟨i, rfl, hi, hsz, h0, h1, h5⟩ ih
 rcases Nat.lt_or_ge i es.length with hlt | hge
 ·have hwi : IntKind.i64.wrap ((i : Int) + 1) = ((i + 1 : Nat) : Int) := wrap64_succ (by omega)
  simp [hsz, h0, h1, h5, hlt, hwi]
  exact ih _ _ (by omega) ⟨i + 1, rfl, by omega, by simp [hsz], by simp [h0], by simp [h1], by simp⟩
 ·obtain rfl : i = es.length := by omega
  simp [hsz, h0, h5]
def szFl (e : Fl) (l : Int) : Int := if l - e.1.length < 0 then -1 else if l - e.1.length - e.2.length < 0 then -1 else l - e.1.length - e.2.length
def szFls : List Fl → Int → Int
 | [], l => l
 | e :: r, l => if szFl e l < 0 then -1 else szFls r (szFl e l)
def szFS (es : List Fl) (l : Int) : Int := if l - es.length < 0 then -1 else szFls es (l - es.length)
theorem szFl_le (e : Fl) (l : Int) (hl : 0 ≤ l) : szFl e l ≤ l := by unfold szFl; split; omega; split <;> omega
theorem szFls_fits : ∀ (es : List Fl) (l : Int), 0 ≤ l → l ≤ 1048576 → 0 ≤ szFls es l → (∀ e ∈ es, flSz e) ∧ szFls es l ≤ l
 | [], l, _, _, _ => ⟨fun e h => by (cases h), Int.le_refl _⟩
 | e :: r, l, hl, hl2, h => by
   rw [szFls] at h ⊢
   split at h
   ·omega
   ·rename_i hc
    rw [if_neg hc]
    have h1 := szFl_le e l hl
    obtain ⟨k1, k2⟩ := szFls_fits r (szFl e l) (by omega) (by omega) h
    refine ⟨fun x hx => ?_, by omega⟩
    rcases List.mem_cons.1 hx with rfl | hx
    ·unfold szFl at hc
     split at hc
     ·omega
     ·split at hc
      ·omega
      ·exact ⟨by omega, by omega⟩
    ·exact k1 x hx
theorem szFS_le (es : List Fl) (l : Int) (hl : 0 ≤ l) (hl2 : l ≤ 1048576) (h : 0 ≤ szFS es l) : szFS es l ≤ l ∧ es.length ≤ l ∧ ∀ e ∈ es, flSz e := by
 unfold szFS at h ⊢
 split at h
 ·omega
 ·rename_i hc
  rw [if_neg hc]
  obtain ⟨k1, k2⟩ := szFls_fits es (l - es.length) (by omega) (by omega) h
  exact ⟨by omega, by omega, k1⟩
def szNd (e : Ne) (l : Int) : Int := if l - e.name.length < 0 then -1 else if l - e.name.length - e.ver.length < 0 then -1 else l - e.name.length - e.ver.length
def szNds : List Ne → Int → Int
 | [], l => l
 | e :: r, l => if szNd e l < 0 then -1 else szNds r (szNd e l)
def szNdS (es : List Ne) (l : Int) : Int := if l - es.length < 0 then -1 else szNds es (l - es.length)
theorem szNd_le (e : Ne) (l : Int) (hl : 0 ≤ l) : szNd e l ≤ l := by unfold szNd; split; omega; split <;> omega
theorem szNds_fits : ∀ (es : List Ne) (l : Int), 0 ≤ l → l ≤ 1048576 → 0 ≤ szNds es l → (∀ e ∈ es, neSz e) ∧ szNds es l ≤ l
 | [], l, _, _, _ => ⟨fun e h => by (cases h), Int.le_refl _⟩
 | e :: r, l, hl, hl2, h => by
   rw [szNds] at h ⊢
   split at h
   ·omega
   ·rename_i hc
    rw [if_neg hc]
    have h1 := szNd_le e l hl
    obtain ⟨k1, k2⟩ := szNds_fits r (szNd e l) (by omega) (by omega) h
    refine ⟨fun x hx => ?_, by omega⟩
    rcases List.mem_cons.1 hx with rfl | hx
    ·unfold szNd at hc
     split at hc
     ·omega
     ·split at hc
      ·omega
      ·exact ⟨by omega, by omega⟩
    ·exact k1 x hx
theorem szNdS_le (es : List Ne) (l : Int) (hl : 0 ≤ l) (hl2 : l ≤ 1048576) (h : 0 ≤ szNdS es l) : szNdS es l ≤ l ∧ es.length ≤ l ∧ ∀ e ∈ es, neSz e := by
 unfold szNdS at h ⊢
 split at h
 ·omega
 ·rename_i hc
  rw [if_neg hc]
  obtain ⟨k1, k2⟩ := szNds_fits es (l - es.length) (by omega) (by omega) h
  exact ⟨by omega, by omega, k1⟩
theorem szLet_ev (e : Fl) (l : Int) (hl : 0 ≤ l) (hl2 : l ≤ 1048576) (h1 : e.1.length ≤ 140737488351232) (h2 : e.2.length ≤ 140737488351232) : C Fn118 [.ro (FD e), .ro (I l)] [] = some (.one (.ro (I (szFl e l))), []) := by
 refine ctx_call Tryz.func118 Cv118 rfl ?_
 have w1 : IntKind.i64.wrap (l - e.1.length) = l - e.1.length := wrap64 (by omega) (by omega)
 unfold szFl
 by_cases hA : l - e.1.length < 0
 ·simp [w1, hA]
 ·have w2 : IntKind.i64.wrap (l - e.1.length - e.2.length) = l - e.1.length - e.2.length := wrap64 (by omega) (by omega)
  by_cases hB : l - e.1.length - e.2.length < 0
  ·simp [w1, w2, hA, hB]
  ·simp [w1, w2, hA, hB]
theorem szLetS_ev (es : List Fl) (l : Int) (hl : 0 ≤ l) (hl2 : l ≤ 1048576) (hn : es.length ≤ 140737488351232) (hb : ∀ e ∈ es, e.1.length ≤ 140737488351232 ∧ e.2.length ≤ 140737488351232) :
  C Fn42 [.ro (FS es), .ro (I l)] [] = some (.one (.ro (I (szFS es l))), []) := by
 refine ctx_call Tryz.func42 Cv42 rfl ?_
 have h1 : IntKind.i64.wrap (l - es.length) = l - es.length := wrap64 (by omega) (by omega)
 unfold szFS
 by_cases hneg : l - es.length < 0
 ·simp [h1, hneg]
 ·simp [h1, hneg]
  refine loop_run (fun m e => ∃ i l', m = es.length - i ∧ i ≤ es.length ∧ 0 ≤ l' ∧ l' ≤ 1048576 ∧ e.size = 27 ∧ e.get 0 = .one (.ro (FS es)) ∧ e.get 1 = .one (.ro (I l')) ∧ e.get 5 = .one (.ro (N i)) ∧
   szFls (es.drop i) l' = szFls es (l - es.length)) ?_ es.length _ ⟨0, l - es.length, rfl, Nat.zero_le _, by omega, by omega, by simp, by simp, by simp, by simp, rfl⟩
  rintro m e ⟨i, l', rfl, hi, hl0, hl1, hsz, h0, h1, h5, hr⟩ ih
  rcases Nat.lt_or_ge i es.length with hlt | hge
  ·have hx := hb es[i] (List.getElem_mem hlt)
   have hd : es.drop i = es[i] :: es.drop (i + 1) := List.drop_eq_getElem_cons hlt
   have hs := szLet_ev es[i] l' hl0 hl1 hx.1 hx.2
   have hle := szFl_le es[i] l' hl0
   rw [hd, szFls] at hr
   have hwi : IntKind.i64.wrap ((i : Int) + 1) = ((i + 1 : Nat) : Int) := wrap64_succ (by omega)
   generalize szFl es[i] l' = q at *
   by_cases hc : q < 0
   ·rw [if_pos hc] at hr
    simp [hsz, h0, h1, h5, hlt, hs, hc, ← hr]
   ·rw [if_neg hc] at hr
    simp [hsz, h0, h1, h5, hlt, hs, hc, hwi]
    exact ih _ _ (by omega) ⟨i + 1, _, rfl, by omega, by omega, by omega, by simp [hsz], by simp [h0], by simp, by simp, hr⟩
  ·obtain rfl : i = es.length := by omega
   simp [szFls] at hr
   simp [hsz, h0, h1, h5, hr]
theorem szSource_ev (e : Fl) (l : Int) (hl : 0 ≤ l) (hl2 : l ≤ 1048576) (h1 : e.1.length ≤ 140737488351232) (h2 : e.2.length ≤ 140737488351232) : C Fn120 [.ro (FD e), .ro (I l)] [] = some (.one (.ro (I (szFl e l))), []) := by
 refine ctx_call Tryz.func120 Cv120 rfl ?_
 have w1 : IntKind.i64.wrap (l - e.1.length) = l - e.1.length := wrap64 (by omega) (by omega)
 unfold szFl
 by_cases hA : l - e.1.length < 0
 ·simp [w1, hA]
 ·have w2 : IntKind.i64.wrap (l - e.1.length - e.2.length) = l - e.1.length - e.2.length := wrap64 (by omega) (by omega)
  by_cases hB : l - e.1.length - e.2.length < 0
  ·simp [w1, w2, hA, hB]
  ·simp [w1, w2, hA, hB]
theorem szSourceS_ev (es : List Fl) (l : Int) (hl : 0 ≤ l) (hl2 : l ≤ 1048576) (hn : es.length ≤ 140737488351232) (hb : ∀ e ∈ es, e.1.length ≤ 140737488351232 ∧ e.2.length ≤ 140737488351232) :
  C Fn44 [.ro (FS es), .ro (I l)] [] = some (.one (.ro (I (szFS es l))), []) := by
 refine ctx_call Tryz.func44 Cv44 rfl ?_
 have h1 : IntKind.i64.wrap (l - es.length) = l - es.length := wrap64 (by omega) (by omega)
 unfold szFS
 by_cases hneg : l - es.length < 0
 ·simp [h1, hneg]
 ·simp [h1, hneg]
  refine loop_run (fun m e => ∃ i l', m = es.length - i ∧ i ≤ es.length ∧ 0 ≤ l' ∧ l' ≤ 1048576 ∧ e.size = 27 ∧ e.get 0 = .one (.ro (FS es)) ∧ e.get 1 = .one (.ro (I l')) ∧ e.get 5 = .one (.ro (N i)) ∧
   szFls (es.drop i) l' = szFls es (l - es.length)) ?_ es.length _ ⟨0, l - es.length, rfl, Nat.zero_le _, by omega, by omega, by simp, by simp, by simp, by simp, rfl⟩
  rintro m e ⟨i, l', rfl, hi, hl0, hl1, hsz, h0, h1, h5, hr⟩ ih
  rcases Nat.lt_or_ge i es.length with hlt | hge
  ·have hx := hb es[i] (List.getElem_mem hlt)
   have hd : es.drop i = es[i] :: es.drop (i + 1) := List.drop_eq_getElem_cons hlt
   have hs := szSource_ev es[i] l' hl0 hl1 hx.1 hx.2
   have hle := szFl_le es[i] l' hl0
   rw [hd, szFls] at hr
   have hwi : IntKind.i64.wrap ((i : Int) + 1) = ((i + 1 : Nat) : Int) := wrap64_succ (by omega)
   generalize szFl es[i] l' = q at *
   by_cases hc : q < 0
   ·rw [if_pos hc] at hr
    simp [hsz, h0, h1, h5, hlt, hs, hc, ← hr]
   ·rw [if_neg hc] at hr
    simp [hsz, h0, h1, h5, hlt, hs, hc, hwi]
    exact ih _ _ (by omega) ⟨i + 1, _, rfl, by omega, by omega, by omega, by simp [hsz], by simp [h0], by simp, by simp, hr⟩
  ·obtain rfl : i = es.length := by omega
   simp [szFls] at hr
   simp [hsz, h0, h1, h5, hr]
theorem szPiece_ev (e : Fl) (l : Int) (hl : 0 ≤ l) (hl2 : l ≤ 1048576) (h1 : e.1.length ≤ 140737488351232) (h2 : e.2.length ≤ 140737488351232) : C Fn121 [.ro (FD e), .ro (I l)] [] = some (.one (.ro (I (szFl e l))), []) := by
 refine ctx_call Tryz.func121 Cv121 rfl ?_
 have w1 : IntKind.i64.wrap (l - e.1.length) = l - e.1.length := wrap64 (by omega) (by omega)
 unfold szFl
 by_cases hA : l - e.1.length < 0
 ·simp [w1, hA]
 ·have w2 : IntKind.i64.wrap (l - e.1.length - e.2.length) = l - e.1.length - e.2.length := wrap64 (by omega) (by omega)
  by_cases hB : l - e.1.length - e.2.length < 0
  ·simp [w1, w2, hA, hB]
  ·simp [w1, w2, hA, hB]
theorem szPieceS_ev (es : List Fl) (l : Int) (hl : 0 ≤ l) (hl2 : l ≤ 1048576) (hn : es.length ≤ 140737488351232) (hb : ∀ e ∈ es, e.1.length ≤ 140737488351232 ∧ e.2.length ≤ 140737488351232) :
  C Fn45 [.ro (FS es), .ro (I l)] [] = some (.one (.ro (I (szFS es l))), []) := by
 refine ctx_call Tryz.func45 Cv45 rfl ?_
 have h1 : IntKind.i64.wrap (l - es.length) = l - es.length := wrap64 (by omega) (by omega)
 unfold szFS
 by_cases hneg : l - es.length < 0
 ·simp [h1, hneg]
 ·simp [h1, hneg]
  refine loop_run (fun m e => ∃ i l', m = es.length - i ∧ i ≤ es.length ∧ 0 ≤ l' ∧ l' ≤ 1048576 ∧ e.size = 27 ∧ e.get 0 = .one (.ro (FS es)) ∧ e.get 1 = .one (.ro (I l')) ∧ e.get 5 = .one (.ro (N i)) ∧
   szFls (es.drop i) l' = szFls es (l - es.length)) ?_ es.length _ ⟨0, l - es.length, rfl, Nat.zero_le _, by omega, by omega, by simp, by simp, by simp, by simp, rfl⟩
  rintro m e ⟨i, l', rfl, hi, hl0, hl1, hsz, h0, h1, h5, hr⟩ ih
  rcases Nat.lt_or_ge i es.length with hlt | hge
  ·have hx := hb es[i] (List.getElem_mem hlt)
   have hd : es.drop i = es[i] :: es.drop (i + 1) := List.drop_eq_getElem_cons hlt
   have hs := szPiece_ev es[i] l' hl0 hl1 hx.1 hx.2
   have hle := szFl_le es[i] l' hl0
   rw [hd, szFls] at hr
   have hwi : IntKind.i64.wrap ((i : Int) + 1) = ((i + 1 : Nat) : Int) := wrap64_succ (by omega)
   generalize szFl es[i] l' = q at *
   by_cases hc : q < 0
   ·rw [if_pos hc] at hr
    simp [hsz, h0, h1, h5, hlt, hs, hc, ← hr]
   ·rw [if_neg hc] at hr
    simp [hsz, h0, h1, h5, hlt, hs, hc, hwi]
    exact ih _ _ (by omega) ⟨i + 1, _, rfl, by omega, by omega, by omega, by simp [hsz], by simp [h0], by simp, by simp, hr⟩
  ·obtain rfl : i = es.length := by omega
   simp [szFls] at hr
   simp [hsz, h0, h1, h5, hr]
theorem szNeed_ev (e : Ne) (l : Int) (hl : 0 ≤ l) (hl2 : l ≤ 1048576) (h1 : e.name.length ≤ 140737488351232) (h2 : e.ver.length ≤ 140737488351232) : C Fn119 [.ro (NeD e), .ro (I l)] [] = some (.one (.ro (I (szNd e l))), []) := by
 refine ctx_call Tryz.func119 Cv119 rfl ?_
 have w1 : IntKind.i64.wrap (l - e.name.length) = l - e.name.length := wrap64 (by omega) (by omega)
 unfold szNd
 by_cases hA : l - e.name.length < 0
 ·simp [w1, hA]
 ·have w2 : IntKind.i64.wrap (l - e.name.length - e.ver.length) = l - e.name.length - e.ver.length := wrap64 (by omega) (by omega)
  by_cases hB : l - e.name.length - e.ver.length < 0
  ·simp [w1, w2, hA, hB]
  ·simp [w1, w2, hA, hB]
theorem szNeedS_ev (es : List Ne) (l : Int) (hl : 0 ≤ l) (hl2 : l ≤ 1048576) (hn : es.length ≤ 140737488351232) (hb : ∀ e ∈ es, e.name.length ≤ 140737488351232 ∧ e.ver.length ≤ 140737488351232) :
  C Fn43 [.ro (NeS es), .ro (I l)] [] = some (.one (.ro (I (szNdS es l))), []) := by
 refine ctx_call Tryz.func43 Cv43 rfl ?_
 have h1 : IntKind.i64.wrap (l - es.length) = l - es.length := wrap64 (by omega) (by omega)
 unfold szNdS
 by_cases hneg : l - es.length < 0
 ·simp [h1, hneg]
 ·simp [h1, hneg]
  refine loop_run (fun m e => ∃ i l', m = es.length - i ∧ i ≤ es.length ∧ 0 ≤ l' ∧ l' ≤ 1048576 ∧ e.size = 27 ∧ e.get 0 = .one (.ro (NeS es)) ∧ e.get 1 = .one (.ro (I l')) ∧ e.get 5 = .one (.ro (N i)) ∧
   szNds (es.drop i) l' = szNds es (l - es.length)) ?_ es.length _ ⟨0, l - es.length, rfl, Nat.zero_le _, by omega, by omega, by simp, by simp, by simp, by simp, rfl⟩
  rintro m e ⟨i, l', rfl, hi, hl0, hl1, hsz, h0, h1, h5, hr⟩ ih
  rcases Nat.lt_or_ge i es.length with hlt | hge
  ·have hx := hb es[i] (List.getElem_mem hlt)
   have hd : es.drop i = es[i] :: es.drop (i + 1) := List.drop_eq_getElem_cons hlt
   have hs := szNeed_ev es[i] l' hl0 hl1 hx.1 hx.2
   have hle := szNd_le es[i] l' hl0
   rw [hd, szNds] at hr
   have hwi : IntKind.i64.wrap ((i : Int) + 1) = ((i + 1 : Nat) : Int) := wrap64_succ (by omega)
   generalize szNd es[i] l' = q at *
   by_cases hc : q < 0
   ·rw [if_pos hc] at hr
    simp [hsz, h0, h1, h5, hlt, hs, hc, ← hr]
   ·rw [if_neg hc] at hr
    simp [hsz, h0, h1, h5, hlt, hs, hc, hwi]
    exact ih _ _ (by omega) ⟨i + 1, _, rfl, by omega, by omega, by omega, by simp [hsz], by simp [h0], by simp, by simp, hr⟩
  ·obtain rfl : i = es.length := by omega
   simp [szNds] at hr
   simp [hsz, h0, h1, h5, hr]
theorem szL_le2 : ∀ (xs : Lines) (l : Int), 0 ≤ l → l ≤ 1048576 → 0 ≤ szL xs l → (∀ x ∈ xs, x.length ≤ 1048576) ∧ szL xs l ≤ l
 | [], l, _, _, _ => ⟨fun e h => by (cases h), Int.le_refl _⟩
 | x :: r, l, hl, hl2, h => by
   rw [szL] at h ⊢
   split at h
   ·omega
   ·rename_i hc
    rw [if_neg hc]
    obtain ⟨k1, k2⟩ := szL_le2 r (l - x.length) (by omega) (by omega) h
    refine ⟨fun y hy => ?_, by omega⟩
    rcases List.mem_cons.1 hy with rfl | hy
    ·omega
    ·exact k1 y hy
theorem szSS_le2 (xs : Lines) (l : Int) (hl : 0 ≤ l) (hl2 : l ≤ 1048576) (h : 0 ≤ szSS xs l) : szSS xs l ≤ l ∧ xs.length ≤ l ∧ ∀ x ∈ xs, x.length ≤ 1048576 := by
 unfold szSS at h ⊢
 split at h
 ·omega
 ·rename_i hc
  rw [if_neg hc]
  obtain ⟨k1, k2⟩ := szL_le2 xs (l - xs.length) (by omega) (by omega) h
  exact ⟨by omega, by omega, k1⟩
structure RcWide (r : Rc) : Prop where
 name : r.name.length ≤ 140737488351232
 ver : r.ver.length ≤ 140737488351232
 lets : r.lets.length ≤ 140737488351232
 builds : r.builds.length ≤ 140737488351232
 runs : r.runs.length ≤ 140737488351232
 srcs : r.srcs.length ≤ 140737488351232
 pcs : r.pcs.length ≤ 140737488351232
 steps : r.steps.length ≤ 140737488351232
 letz : ∀ e ∈ r.lets, e.1.length ≤ 140737488351232 ∧ e.2.length ≤ 140737488351232
 bld : ∀ e ∈ r.builds, e.name.length ≤ 140737488351232 ∧ e.ver.length ≤ 140737488351232
 run : ∀ e ∈ r.runs, e.name.length ≤ 140737488351232 ∧ e.ver.length ≤ 140737488351232
 src : ∀ e ∈ r.srcs, e.1.length ≤ 140737488351232 ∧ e.2.length ≤ 140737488351232
 pc : ∀ e ∈ r.pcs, e.1.length ≤ 140737488351232 ∧ e.2.length ≤ 140737488351232
 step : ∀ x ∈ r.steps, x.length ≤ 140737488351232
def stp (q : Int) (k : Int → Int) : Int := if q < 0 then -1 else k q
def szR (r : Rc) (l : Int) : Int := stp (l - r.name.length) fun l => stp (l - r.ver.length) fun l => stp (szFS r.lets l) fun l => stp (szNdS r.builds l) fun l => stp (szNdS r.runs l) fun l => stp (szFS r.srcs l) fun l => stp (szFS r.pcs l) fun l => stp (szSS r.steps l) fun l => l
theorem stp_neg {q : Int} {k : Int → Int} (h : q < 0) : stp q k = -1 := if_pos h
theorem stp_pos {q : Int} {k : Int → Int} (h : ¬ q < 0) : stp q k = k q := if_neg h
set_option maxHeartbeats 1000000 in
theorem szRecipe_ev (r : Rc) (l : Int) (hl : 0 ≤ l) (hl2 : l ≤ 1048576) (h : RcWide r) : C Fn18 [.ro (RcD r), .ro (I l)] [] = some (.one (.ro (I (szR r l))), []) ∧ (0 ≤ szR r l → RcSz r) := by
 have g1 := h.name
 have g2 := h.ver
 have w1 : IntKind.i64.wrap (l - r.name.length) = l - r.name.length := wrap64 (by omega) (by omega)
 unfold szR
 by_cases c1 : l - r.name.length < 0
 ·rw [stp_neg c1]
  refine ⟨ctx_call Tryz.func18 Cv18 rfl ?_, by omega⟩
  simp [w1, c1]
 rw [stp_pos c1]
 have w2 : IntKind.i64.wrap (l - r.name.length - r.ver.length) = l - r.name.length - r.ver.length := wrap64 (by omega) (by omega)
 by_cases c2 : l - r.name.length - r.ver.length < 0
 ·rw [stp_neg c2]
  refine ⟨ctx_call Tryz.func18 Cv18 rfl ?_, by omega⟩
  simp [w1, w2, c1, c2]
 rw [stp_pos c2]
 have f1 : l - r.name.length - r.ver.length ≤ 1048576 := by omega
 have z1 : r.name.length ≤ 1048576 ∧ r.ver.length ≤ 1048576 := by omega
 obtain ⟨l2, hl2e⟩ : ∃ l2, l - r.name.length - r.ver.length = l2 := ⟨_, rfl⟩
 rw [hl2e] at c2 f1 w2 ⊢
 have v0 := szLetS_ev r.lets l2 (by omega) (by omega) h.lets h.letz
 have k0 := szFS_le r.lets l2 (by omega) (by omega)
 generalize szFS r.lets l2 = l3 at *
 by_cases c3 : l3 < 0
 ·rw [stp_neg c3]
  refine ⟨ctx_call Tryz.func18 Cv18 rfl ?_, by omega⟩
  simp [w1, w2, c1, c2, hl2e, v0, c3]
 rw [stp_pos c3]
 obtain ⟨n0, m0, q0⟩ := k0 (by omega)
 have v1 := szNeedS_ev r.builds l3 (by omega) (by omega) h.builds h.bld
 have k1 := szNdS_le r.builds l3 (by omega) (by omega)
 generalize szNdS r.builds l3 = l4 at *
 by_cases c4 : l4 < 0
 ·rw [stp_neg c4]
  refine ⟨ctx_call Tryz.func18 Cv18 rfl ?_, by omega⟩
  simp [w1, w2, c1, c2, hl2e, v0, c3, v1, c4]
 rw [stp_pos c4]
 obtain ⟨n1, m1, q1⟩ := k1 (by omega)
 have v2 := szNeedS_ev r.runs l4 (by omega) (by omega) h.runs h.run
 have k2 := szNdS_le r.runs l4 (by omega) (by omega)
 generalize szNdS r.runs l4 = l5 at *
 by_cases c5 : l5 < 0
 ·rw [stp_neg c5]
  refine ⟨ctx_call Tryz.func18 Cv18 rfl ?_, by omega⟩
  simp [w1, w2, c1, c2, hl2e, v0, c3, v1, c4, v2, c5]
 rw [stp_pos c5]
 obtain ⟨n2, m2, q2⟩ := k2 (by omega)
 have v3 := szSourceS_ev r.srcs l5 (by omega) (by omega) h.srcs h.src
 have k3 := szFS_le r.srcs l5 (by omega) (by omega)
 generalize szFS r.srcs l5 = l6 at *
 by_cases c6 : l6 < 0
 ·rw [stp_neg c6]
  refine ⟨ctx_call Tryz.func18 Cv18 rfl ?_, by omega⟩
  simp [w1, w2, c1, c2, hl2e, v0, c3, v1, c4, v2, c5, v3, c6]
 rw [stp_pos c6]
 obtain ⟨n3, m3, q3⟩ := k3 (by omega)
 have v4 := szPieceS_ev r.pcs l6 (by omega) (by omega) h.pcs h.pc
 have k4 := szFS_le r.pcs l6 (by omega) (by omega)
 generalize szFS r.pcs l6 = l7 at *
 by_cases c7 : l7 < 0
 ·rw [stp_neg c7]
  refine ⟨ctx_call Tryz.func18 Cv18 rfl ?_, by omega⟩
  simp [w1, w2, c1, c2, hl2e, v0, c3, v1, c4, v2, c5, v3, c6, v4, c7]
 rw [stp_pos c7]
 obtain ⟨n4, m4, q4⟩ := k4 (by omega)
 have v5 := szStringS_ev r.steps l7 (by omega) (by omega) h.steps h.step
 have k5 := szSS_le2 r.steps l7 (by omega) (by omega)
 generalize szSS r.steps l7 = l8 at *
 by_cases c8 : l8 < 0
 ·rw [stp_neg c8]
  refine ⟨ctx_call Tryz.func18 Cv18 rfl ?_, by omega⟩
  simp [w1, w2, c1, c2, hl2e, v0, c3, v1, c4, v2, c5, v3, c6, v4, c7, v5, c8]
 rw [stp_pos c8]
 obtain ⟨n5, m5, q5⟩ := k5 (by omega)
 refine ⟨ctx_call Tryz.func18 Cv18 rfl ?_, fun _ => ⟨z1.1, z1.2, by omega, by omega, by omega, by omega, by omega, by omega, q0, q1, q2, q3, q4, q5⟩⟩
 simp [w1, w2, c1, c2, hl2e, v0, c3, v1, c4, v2, c5, v3, c6, v4, c7, v5, c8]
theorem toRecipe_ev (r : Rc) (h : RcSz r) : C Fn19 [.ro (RcD r)] [] = some (.one (.own (RcD r)), []) := by
 refine ctx_call Tryz.func19 Cv19 rfl ?_
 simp [toLetS_ev r.lets h.lets, toNeedS_ev r.builds h.builds, toNeedS_ev r.runs h.runs, toSourceS_ev r.srcs h.srcs, toPieceS_ev r.pcs h.pcs, toStringS_ev r.steps h.steps]
theorem eqRecipe_self (r : Rc) (h : RcSz r) : C Fn20 [.ro (RcD r), .ro (RcD r)] [] = some (.one (.ro (.bool true)), []) := by
 refine ctx_call Tryz.func20 Cv20 rfl ?_
 simp [eqLetS_self r.lets h.lets, eqNeedS_self r.builds h.builds, eqNeedS_self r.runs h.runs, eqSourceS_self r.srcs h.srcs, eqPieceS_self r.pcs h.pcs, eqStringS_self r.steps h.steps]
end Go.Qz
namespace Go.Qz
open Go.Proofs
def MarkOut {α : Type} (S : List α → D) (k n : Nat) (r : V × Boxes) : Prop := ∃ ys : List α, ys.length = n ∧ r = (.one (.ro (N k)), [(10000, [.own (S ys)])])
set_option maxHeartbeats 1000000 in
set_option maxRecDepth 4000 in
theorem markLetS_ev (es : List Fl) (k : Nat) (hk : k ≤ 100000000) (hn : es.length ≤ 1048576) :
  ∃ ys : List Fl, ys.length = es.length ∧ C Fn56 [.view ⟨.cell 10000 0, []⟩, .ro (N k)] [(10000, [.own (FS es)])] = some (.one (.ro (N (k + 2 * es.length))), [(10000, [.own (FS ys)])]) := by
 have h : Ends (MarkOut FS (k + 2 * es.length) es.length) (C Fn56 [.view ⟨.cell 10000 0, []⟩, .ro (N k)] [(10000, [.own (FS es)])]) := by
  refine call_ex Tryz.func56 Cv56 rfl ?_
  simp
  refine loop_ex (fun m e => ∃ i yl, m = es.length - i ∧ i ≤ es.length ∧ e.size = 29 ∧ e.get 0 = .one (.view ⟨.cell 10000 0, []⟩) ∧ e.box 10000 = some [.own (FS yl)] ∧ e.get 1 = .one (.ro (N (k + 2 * i))) ∧ e.get 5 = .one (.ro (N i)) ∧ yl.length = es.length)
   ?_ es.length _ ⟨0, es, rfl, Nat.zero_le _, by simp, by simp, by simp, by simp, by simp, rfl⟩
  rintro m e ⟨i, yl, rfl, hi, hsz, h0, hb, h1, h5, hyl⟩ ih
  rcases Nat.lt_or_ge i es.length with hlt | hge
  ·have hwi : IntKind.i64.wrap ((i : Int) + 1) = ((i + 1 : Nat) : Int) := wrap64_succ (by omega)
   have hlt' : i < yl.length := by omega
   obtain ⟨q0, hq⟩ : ∃ q, k + 2 * i = q := ⟨_, rfl⟩
   rw [hq] at h1
   have hwq0 : IntKind.i64.wrap ((q0 : Int) + 1) = ((q0 + 1 : Nat) : Int) := wrap64_succ (by omega)
   obtain ⟨q1, hq1⟩ : ∃ q, q0 + 1 = q := ⟨_, rfl⟩
   rw [hq1] at hwq0
   have hm0 := markText_ev q0 (by omega)
   have hwq1 : IntKind.i64.wrap ((q1 : Int) + 1) = ((q1 + 1 : Nat) : Int) := wrap64_succ (by omega)
   obtain ⟨q2, hq2⟩ : ∃ q, q1 + 1 = q := ⟨_, rfl⟩
   rw [hq2] at hwq1
   have hm1 := markText_ev q1 (by omega)
   simp [hsz, h0, hb, h1, h5, hlt, hwi, hwq0, hwq1, hm0, hm1, hyl]
   exact ih _ _ (by omega) ⟨i + 1, yl.set i (mtext q0, mtext q1), rfl, by omega, by simp [hsz], by simp [h0], by simp [List.map_set], by simp; omega, by simp, by simp [hyl]⟩
  ·obtain rfl : i = es.length := by omega
   simp [hsz, h0, hb, h1, h5, hyl]
   exact .of ⟨yl, hyl, by simp⟩
 obtain ⟨_, ⟨ys, h1, rfl⟩, h2⟩ := h
 exact ⟨ys, h1, h2⟩
set_option maxHeartbeats 1000000 in
set_option maxRecDepth 4000 in
theorem markSourceS_ev (es : List Fl) (k : Nat) (hk : k ≤ 100000000) (hn : es.length ≤ 1048576) :
  ∃ ys : List Fl, ys.length = es.length ∧ C Fn58 [.view ⟨.cell 10000 0, []⟩, .ro (N k)] [(10000, [.own (FS es)])] = some (.one (.ro (N (k + 2 * es.length))), [(10000, [.own (FS ys)])]) := by
 have h : Ends (MarkOut FS (k + 2 * es.length) es.length) (C Fn58 [.view ⟨.cell 10000 0, []⟩, .ro (N k)] [(10000, [.own (FS es)])]) := by
  refine call_ex Tryz.func58 Cv58 rfl ?_
  simp
  refine loop_ex (fun m e => ∃ i yl, m = es.length - i ∧ i ≤ es.length ∧ e.size = 29 ∧ e.get 0 = .one (.view ⟨.cell 10000 0, []⟩) ∧ e.box 10000 = some [.own (FS yl)] ∧ e.get 1 = .one (.ro (N (k + 2 * i))) ∧ e.get 5 = .one (.ro (N i)) ∧ yl.length = es.length)
   ?_ es.length _ ⟨0, es, rfl, Nat.zero_le _, by simp, by simp, by simp, by simp, by simp, rfl⟩
  rintro m e ⟨i, yl, rfl, hi, hsz, h0, hb, h1, h5, hyl⟩ ih
  rcases Nat.lt_or_ge i es.length with hlt | hge
  ·have hwi : IntKind.i64.wrap ((i : Int) + 1) = ((i + 1 : Nat) : Int) := wrap64_succ (by omega)
   have hlt' : i < yl.length := by omega
   obtain ⟨q0, hq⟩ : ∃ q, k + 2 * i = q := ⟨_, rfl⟩
   rw [hq] at h1
   have hwq0 : IntKind.i64.wrap ((q0 : Int) + 1) = ((q0 + 1 : Nat) : Int) := wrap64_succ (by omega)
   obtain ⟨q1, hq1⟩ : ∃ q, q0 + 1 = q := ⟨_, rfl⟩
   rw [hq1] at hwq0
   have hm0 := markText_ev q0 (by omega)
   have hwq1 : IntKind.i64.wrap ((q1 : Int) + 1) = ((q1 + 1 : Nat) : Int) := wrap64_succ (by omega)
   obtain ⟨q2, hq2⟩ : ∃ q, q1 + 1 = q := ⟨_, rfl⟩
   rw [hq2] at hwq1
   have hm1 := markText_ev q1 (by omega)
   simp [hsz, h0, hb, h1, h5, hlt, hwi, hwq0, hwq1, hm0, hm1, hyl]
   exact ih _ _ (by omega) ⟨i + 1, yl.set i (mtext q0, mtext q1), rfl, by omega, by simp [hsz], by simp [h0], by simp [List.map_set], by simp; omega, by simp, by simp [hyl]⟩
  ·obtain rfl : i = es.length := by omega
   simp [hsz, h0, hb, h1, h5, hyl]
   exact .of ⟨yl, hyl, by simp⟩
 obtain ⟨_, ⟨ys, h1, rfl⟩, h2⟩ := h
 exact ⟨ys, h1, h2⟩
set_option maxHeartbeats 1000000 in
set_option maxRecDepth 4000 in
theorem markPieceS_ev (es : List Fl) (k : Nat) (hk : k ≤ 100000000) (hn : es.length ≤ 1048576) :
  ∃ ys : List Fl, ys.length = es.length ∧ C Fn59 [.view ⟨.cell 10000 0, []⟩, .ro (N k)] [(10000, [.own (FS es)])] = some (.one (.ro (N (k + 2 * es.length))), [(10000, [.own (FS ys)])]) := by
 have h : Ends (MarkOut FS (k + 2 * es.length) es.length) (C Fn59 [.view ⟨.cell 10000 0, []⟩, .ro (N k)] [(10000, [.own (FS es)])]) := by
  refine call_ex Tryz.func59 Cv59 rfl ?_
  simp
  refine loop_ex (fun m e => ∃ i yl, m = es.length - i ∧ i ≤ es.length ∧ e.size = 29 ∧ e.get 0 = .one (.view ⟨.cell 10000 0, []⟩) ∧ e.box 10000 = some [.own (FS yl)] ∧ e.get 1 = .one (.ro (N (k + 2 * i))) ∧ e.get 5 = .one (.ro (N i)) ∧ yl.length = es.length)
   ?_ es.length _ ⟨0, es, rfl, Nat.zero_le _, by simp, by simp, by simp, by simp, by simp, rfl⟩
  rintro m e ⟨i, yl, rfl, hi, hsz, h0, hb, h1, h5, hyl⟩ ih
  rcases Nat.lt_or_ge i es.length with hlt | hge
  ·have hwi : IntKind.i64.wrap ((i : Int) + 1) = ((i + 1 : Nat) : Int) := wrap64_succ (by omega)
   have hlt' : i < yl.length := by omega
   obtain ⟨q0, hq⟩ : ∃ q, k + 2 * i = q := ⟨_, rfl⟩
   rw [hq] at h1
   have hwq0 : IntKind.i64.wrap ((q0 : Int) + 1) = ((q0 + 1 : Nat) : Int) := wrap64_succ (by omega)
   obtain ⟨q1, hq1⟩ : ∃ q, q0 + 1 = q := ⟨_, rfl⟩
   rw [hq1] at hwq0
   have hm0 := markText_ev q0 (by omega)
   have hwq1 : IntKind.i64.wrap ((q1 : Int) + 1) = ((q1 + 1 : Nat) : Int) := wrap64_succ (by omega)
   obtain ⟨q2, hq2⟩ : ∃ q, q1 + 1 = q := ⟨_, rfl⟩
   rw [hq2] at hwq1
   have hm1 := markText_ev q1 (by omega)
   simp [hsz, h0, hb, h1, h5, hlt, hwi, hwq0, hwq1, hm0, hm1, hyl]
   exact ih _ _ (by omega) ⟨i + 1, yl.set i (mtext q0, mtext q1), rfl, by omega, by simp [hsz], by simp [h0], by simp [List.map_set], by simp; omega, by simp, by simp [hyl]⟩
  ·obtain rfl : i = es.length := by omega
   simp [hsz, h0, hb, h1, h5, hyl]
   exact .of ⟨yl, hyl, by simp⟩
 obtain ⟨_, ⟨ys, h1, rfl⟩, h2⟩ := h
 exact ⟨ys, h1, h2⟩
set_option maxHeartbeats 1000000 in
set_option maxRecDepth 4000 in
theorem markNeedS_ev (es : List Ne) (k : Nat) (hk : k ≤ 100000000) (hn : es.length ≤ 1048576) :
  ∃ ys : List Ne, ys.length = es.length ∧ C Fn57 [.view ⟨.cell 10000 0, []⟩, .ro (N k)] [(10000, [.own (NeS es)])] = some (.one (.ro (N (k + 3 * es.length))), [(10000, [.own (NeS ys)])]) := by
 have h : Ends (MarkOut NeS (k + 3 * es.length) es.length) (C Fn57 [.view ⟨.cell 10000 0, []⟩, .ro (N k)] [(10000, [.own (NeS es)])]) := by
  refine call_ex Tryz.func57 Cv57 rfl ?_
  simp
  refine loop_ex (fun m e => ∃ i yl, m = es.length - i ∧ i ≤ es.length ∧ e.size = 36 ∧ e.get 0 = .one (.view ⟨.cell 10000 0, []⟩) ∧ e.box 10000 = some [.own (NeS yl)] ∧ e.get 1 = .one (.ro (N (k + 3 * i))) ∧ e.get 5 = .one (.ro (N i)) ∧ yl.length = es.length)
   ?_ es.length _ ⟨0, es, rfl, Nat.zero_le _, by simp, by simp, by simp, by simp, by simp, rfl⟩
  rintro m e ⟨i, yl, rfl, hi, hsz, h0, hb, h1, h5, hyl⟩ ih
  rcases Nat.lt_or_ge i es.length with hlt | hge
  ·have hwi : IntKind.i64.wrap ((i : Int) + 1) = ((i + 1 : Nat) : Int) := wrap64_succ (by omega)
   have hlt' : i < yl.length := by omega
   obtain ⟨q0, hq⟩ : ∃ q, k + 3 * i = q := ⟨_, rfl⟩
   rw [hq] at h1
   have hwq0 : IntKind.i64.wrap ((q0 : Int) + 1) = ((q0 + 1 : Nat) : Int) := wrap64_succ (by omega)
   obtain ⟨q1, hq1⟩ : ∃ q, q0 + 1 = q := ⟨_, rfl⟩
   rw [hq1] at hwq0
   have hm0 := markText_ev q0 (by omega)
   have hwq1 : IntKind.i64.wrap ((q1 : Int) + 1) = ((q1 + 1 : Nat) : Int) := wrap64_succ (by omega)
   obtain ⟨q2, hq2⟩ : ∃ q, q1 + 1 = q := ⟨_, rfl⟩
   rw [hq2] at hwq1
   have hwq2 : IntKind.i64.wrap ((q2 : Int) + 1) = ((q2 + 1 : Nat) : Int) := wrap64_succ (by omega)
   obtain ⟨q3, hq3⟩ : ∃ q, q2 + 1 = q := ⟨_, rfl⟩
   rw [hq3] at hwq2
   have hm2 := markText_ev q2 (by omega)
   simp [hsz, h0, hb, h1, h5, hlt, hwi, hwq0, hwq1, hwq2, hm0, hm2, hyl]
   exact ih _ _ (by omega) ⟨i + 1, yl.set i ⟨mtext q0, q1, mtext q2⟩, rfl, by omega, by simp [hsz], by simp [h0], by simp [List.map_set], by simp; omega, by simp, by simp [hyl]⟩
  ·obtain rfl : i = es.length := by omega
   simp [hsz, h0, hb, h1, h5, hyl]
   exact .of ⟨yl, hyl, by simp⟩
 obtain ⟨_, ⟨ys, h1, rfl⟩, h2⟩ := h
 exact ⟨ys, h1, h2⟩
set_option maxRecDepth 4000 in
theorem markRecipe_ev (r : Rc) (h : RcSz r) : ∃ q : Nat, C Fn22 [.view ⟨.cell 10000 0, []⟩, .ro (N 1)] [(10000, [.own (RcD r)])] = some (.one (.ro (N q)), [(10000, [.dead])]) := by
 obtain ⟨y1, n1, c1⟩ := markLetS_ev r.lets 1 (by omega) h.lets
 have b1 := h.lets
 obtain ⟨k1, e1⟩ : ∃ k, 1 + 2 * r.lets.length = k := ⟨_, rfl⟩
 rw [e1] at c1
 obtain ⟨y2, n2, c2⟩ := markNeedS_ev r.builds k1 (by omega) h.builds
 have b2 := h.builds
 obtain ⟨k2, e2⟩ : ∃ k, k1 + 3 * r.builds.length = k := ⟨_, rfl⟩
 rw [e2] at c2
 obtain ⟨y3, n3, c3⟩ := markNeedS_ev r.runs k2 (by omega) h.runs
 have b3 := h.runs
 obtain ⟨k3, e3⟩ : ∃ k, k2 + 3 * r.runs.length = k := ⟨_, rfl⟩
 rw [e3] at c3
 obtain ⟨y4, n4, c4⟩ := markSourceS_ev r.srcs k3 (by omega) h.srcs
 have b4 := h.srcs
 obtain ⟨k4, e4⟩ : ∃ k, k3 + 2 * r.srcs.length = k := ⟨_, rfl⟩
 rw [e4] at c4
 obtain ⟨y5, n5, c5⟩ := markPieceS_ev r.pcs k4 (by omega) h.pcs
 have b5 := h.pcs
 obtain ⟨k5, e5⟩ : ∃ k, k4 + 2 * r.pcs.length = k := ⟨_, rfl⟩
 rw [e5] at c5
 have c6 := markStringS_ev r.steps k5 (by omega) h.steps
 refine ⟨k5 + r.steps.length, ctx_call Tryz.func22 Cv22 rfl ?_⟩
 simp [c1, c2, c3, c4, c5, c6]
end Go.Qz
namespace Go.Qz
open Go.Proofs
set_option maxRecDepth 4000 in
theorem exactRecipeSteps_ev (r : Rc) (h : RcWide r) : C Fn7 [.ro (RcD r)] [] = some (.one (.ro (.bool true)), []) := by
 refine ctx_call Tryz.func7 Cv7 rfl ?_
 obtain ⟨hs, hfit⟩ := szRecipe_ev r 1048576 (by omega) (by omega) h
 by_cases hneg : szR r 1048576 < 0
 ·generalize szR r 1048576 = q at *
  simp [hs, hneg]
 ·have hz := hfit (by omega)
  generalize szR r 1048576 = q at *
  have hto := toRecipe_ev r hz
  have hS := RecipeStepsS_ev r hz
  have hI := RecipeStepsI_ev r hz
  have heq := eqRecipe_self r hz
  obtain ⟨mk, hmk⟩ := markRecipe_ev r hz
  have hlen : (rcSteps r).length ≤ 1048576 := by
   unfold rcSteps
   split
   ·simp [outs]; exact hz.steps
   ·simp
  have hes := eqStringS_self (rcSteps r) hlen
  have hms := markStringS_ev (rcSteps r) 1 (by omega) hlen
  have hhs := heldStringS_ev (rcSteps r).length 1 (by omega) hlen
  have hml := markL_len (rcSteps r).length 1
  generalize rcSteps r = xs at *
  generalize markL xs.length 1 = ms at *
  obtain ⟨z, hz1⟩ : ∃ z, 1 + xs.length = z := ⟨_, rfl⟩
  rw [hz1] at hms hhs
  replace hmk : C Fn22 [.view ⟨.cell 10000 0, []⟩, .ro (I 1)] [(10000, [.own (RcD r)])] = some (.one (.ro (N mk)), [(10000, [.dead])]) := hmk
  replace hms : C Fn23 [.view ⟨.cell 10000 0, []⟩, .ro (I 1)] [(10000, [.own (SS xs)])] = some (.one (.ro (N z)), [(10000, [.own (SS ms)])]) := hms
  replace hhs : C Fn24 [.ro (SS ms), .ro (I 1)] [] = some (.one (.ro (N z)), []) := hhs
  simp [hs, hneg, hto, hS, hI, heq, hmk, hes, hms, hhs]
end Go.Qz
