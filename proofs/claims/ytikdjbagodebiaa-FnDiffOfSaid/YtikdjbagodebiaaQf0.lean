/- The evaluator of the claim and what it says, part Qf0 (several texts in one). -/
import Derived.Test.YtikdjbagodebiaaQe0
import Derived.Lib.AppendStr
/- The evaluator Qz: operations, run (append, as an operation). -/
namespace Go.Qz

/-- What is appended, from memory. -/
theorem apps_slice {P : Program} {u el : TypeId} (hu : P.underlying u = some (.slice el)) {a : Option Addr} {n cap z : Nat} {w : World} {uf : Nat → Value} (h : 0 < n → ∃ b off, a = some ⟨b, off, none⟩ ∧ ∀ m, m < n * z → w.cell? ⟨b, off + m, none⟩ = some (uf m)) :
    Apps P u (.slice a n cap) z n ((List.range (n * z)).map uf) w := by
  refine ⟨.inl ⟨el, hu⟩, fun w' => rfl, fun w' hw' => ?_⟩
  rcases Nat.eq_zero_or_pos n with rfl | hn
  · cases a <;> simp [Builtin.firstCells, loadCells, loadCellsFrom]
  · obtain ⟨b, off, rfl, hc⟩ := h hn
    have := run_loadCells (P := P) w' ⟨b, off, none⟩ (n * z) uf (fun j hj => by rw [addr_add, World.cell?_of_block (w' := w') (w := w) (hw' b)]; exact hc j hj)
    simpa [Builtin.firstCells] using this

theorem range_getD {n : Nat} {uf : Nat → Value} {m : Nat} (h : m < n) : ((List.range n).map uf).getD m undef = uf m := by
  simp [List.getD_eq_getElem?_getD, h]

theorem dBytes_flat (s : ByteArray) : flats (dBytes s) = true := by
  unfold dBytes
  generalize s.data.toList = l
  induction l with
  | nil => rfl
  | cons b r ih => simp [flats, D.flat, ih]
theorem dBytes_one (s : ByteArray) : ∀ x ∈ dBytes s, x.cells = [x] := by
  intro x hx
  obtain ⟨b, _, rfl⟩ := List.mem_map.1 hx
  rfl

theorem isStr_spec {P : Program} {t : TypeId} (h : isStr P t = true) : P.underlying t = some .string := by
  unfold isStr at h
  split at h
  · assumption
  · cases h

/-- The parts of a free value's cells are free. -/
theorem free_part {g : G} {e : Env} {w : World} {T : Blk} {U : Nat → Blk} (h : FreeB g e w T) (hU : ∀ m x, U m x → T x) (h1 : ∀ m m' x, U m x → U m' x → m = m') : Free g e w U :=
  ⟨h1, fun k s x hx => h.S s x (hU k x hx), fun k x b hx => h.box x b (hU k x hx), fun k x hx => h.lt x (hU k x hx), fun k x o v hx => h.c x o v (hU k x hx)⟩

theorem appOwn_sim [Base] {P : Program} {g g1 : G} {e e1 e' : Env} {a : Act} {w : World} (h1 : Sim g1 e1 a.tmps w) (hn1 : Next g e w g1 e1 w) {o : Oper} {t u : TypeId} {x y : Operand} {z : Nat} {ys : List D} {news : List Value} {U : Nat → Blk} (hz : zOf P t = some z)
    (ho : o.op = .call { callee := .builtin .append, args := #[x, y], argTypes := #[t, u] })
    (happ : Apps P u (a.eval y) z ys.length news w) (hys : ∀ x ∈ ys, x.cells.length = z) (hnl : news.length = ys.length * z) (hon : ∀ u ∈ news, u.oneCell' = true) (hno : ∀ m d, (ys.flatMap D.cells)[m]? = some d → OwnC w d (news.getD m undef) (U m))
    (hfU : Free g1 e1 w U) (hU : ∀ k x, U k x → Mine g e x ∨ w.heap.size ≤ x) (he : evAppOwn P e1 o.dst t x z ys = some e') : Runs P g e a w o e' := by
  unfold evAppOwn at he
  split at he
  · rename_i z' xs e2 ht
    split at he
    · rename_i hc
      simp only [Bool.and_eq_true, decide_eq_true_eq] at hc
      obtain ⟨rfl, hlen⟩ := hc
      obtain ⟨el, hu, hel⟩ := zOf_spec hz
      obtain ⟨i, d, zv, hi, _, hzv, hsize, hpos, hby, hzs⟩ := elemT_spec hel
      obtain ⟨g2, Y, s1, s2, s3, s4, s5⟩ := take_sim h1 ht
      have hmine : ∀ k x, U k x → ¬ Mine g1 e1 x := by
        intro k x hx hm
        rcases hm with ⟨s, hs⟩ | ⟨b, hb, hlt, e1⟩
        · exact hfU.S k s x hx hs
        · exact hfU.box k x b hx hb hlt e1
      obtain ⟨v', w', hr, hh⟩ := append_hold (ty := o.type) (tm := a.tmps) s1 (hn1.trans s4) hu hi hzv hsize hpos hby hzs (show OwnC w (.sl z' xs) (a.eval x) (Y 0) from s2) ⟨s3.S 0, s3.box 0, s3.lt 0, s3.c 0⟩
        (fun x hx => by
          rcases s5 0 x hx with hm | hle
          · exact hn1.mine x hm
          · exact .inr hle)
        happ hys hnl hon hno (hfU.next s4) hU (fun k x hx hY => by
          rcases s5 0 x hY with hm | hle
          · exact hmine k x hx hm
          · have := hfU.lt k x hx; omega) hlen
      refine runs_value ?_ hh he
      simp only [execOp, ho, resolve, invoke, builtin, Sem.run_bind, Sem.run_pure, Result.andThen_ok, List.map_toArray, List.map_cons, List.map_nil, hr]
    · cases he
  · cases he

/-- Bytes in a row of their own, whatever the row was laid for. -/
theorem bs_sl {w : World} {el : TypeId} {b : ByteArray} {v : Value} {T : Blk} (h : OwnC w (.bs el b) v T) : OwnC w (.sl 1 (dBytes b)) v T := by
  have hlen : (dBytes b).length = b.size := by unfold dBytes; rw [List.length_map, show b.data.toList.length = b.data.size from Array.length_toList]; rfl
  cases h with
  | flat hf _ => simp [D.flat] at hf
  | bs h1 h2 =>
    obtain ⟨q1, hv | ⟨g, cap, cur, rfl, _, hg, hnc, hcm, hcs, htake⟩⟩ := h1
    · obtain ⟨rfl, h0⟩ := hv
      have : dBytes b = [] := List.eq_nil_of_length_eq_zero (by omega)
      rw [this]
      exact .nil
    · have hcell : ∀ m d, ((dBytes b).flatMap D.cells)[m]? = some d → d.flat = true ∧ RO noMem d (cur.getD m undef) := by
        intro m d hm
        rw [flatMap_one (dBytes_one b)] at hm
        unfold dBytes at hm
        rw [List.getElem?_map] at hm
        cases hq : b.data.toList[m]? with
        | none => rw [hq] at hm; cases hm
        | some x =>
          rw [hq] at hm
          obtain rfl := Option.some.inj hm
          have hlt := (List.getElem?_eq_some_iff.1 hq).1
          have hlt2 : m < b.size := by rw [show b.data.toList.length = b.data.size from Array.length_toList] at hlt; exact hlt
          have : (cur.toList.take (b.size * 1))[m]? = some (.int .u8 x.toNat) := by rw [htake, List.getElem?_map, hq]; rfl
          rw [List.getElem?_take_of_lt (by omega)] at this
          have hget : cur.getD m undef = .int .u8 x.toNat := by
            rw [Array.getD_eq_getD_getElem?, ← Array.getElem?_toList, this]; rfl
          rw [hget]
          exact ⟨rfl, .int _ _⟩
      rw [← hlen]
      refine .row (fun _ _ => False) hg (by omega) (by omega) hcm Nat.one_pos (h2 g rfl) (fun _ _ h => h.elim) (fun _ _ _ h => h.elim) (fun x hx => by rw [dBytes_one b x hx]; rfl) (fun m hm => ?_) (fun m d hd => .flat (hcell m d hd).1 (hcell m d hd).2)
      rw [← flat_length (z := 1) (xs := dBytes b) (fun x hx => by rw [dBytes_one b x hx]; rfl)] at hm
      obtain ⟨k1, k2⟩ := hcell m _ (List.getElem?_eq_getElem hm)
      have hmem : ((dBytes b).flatMap D.cells)[m] ∈ dBytes b := by
        have h0 := List.getElem_mem (l := (dBytes b).flatMap D.cells) hm
        generalize ((dBytes b).flatMap D.cells)[m] = y at h0
        rwa [flatMap_one (dBytes_one b)] at h0
      refine k2.notAgg (fun ds e => ?_)
      rw [e] at hmem
      unfold dBytes at hmem
      simp at hmem
theorem sl_bs {w : World} {el : TypeId} {s : ByteArray} {xs : List D} {v : Value} {T : Blk} (h : OwnC w (.sl 1 xs) v T) (ho : w.ownsRow 0 el 1 v s.size (s.data.toList.map fun b => .int .u8 b.toNat)) : OwnC w (.bs el s) v T := by
  refine .bs ho (fun x hx => ?_)
  cases h with
  | flat hf _ => simp [D.flat] at hf
  | nil => cases hx
  | row U h1 h2 h3 h4 h5 h6 h7 h8 h9 h10 h11 => cases hx; exact h6

theorem byteT_spec {P : Program} {t el : TypeId} (h : byteT P t = some el) : ∃ i, P.underlying t = some (.slice el) ∧ P.info? el = some i ∧ i.zero = some (.int .u8 0) ∧ i.size = 1 ∧ i.bytes = 1 := by
  unfold byteT at h
  split at h
  · rename_i el' hu
    split at h
    · rename_i i hi
      split at h
      · rename_i hz
        split at h
        · rename_i hc
          obtain rfl := Option.some.inj h
          simp only [Bool.and_eq_true, beq_iff_eq] at hc
          exact ⟨i, hu, hi, hz, hc.1, hc.2⟩
        · cases h
      · cases h
    · cases h
  · cases h

theorem appBs_sim [Base] {P : Program} {g g1 : G} {e e1 e' : Env} {a : Act} {w : World} (h1 : Sim g1 e1 a.tmps w) (hn1 : Next g e w g1 e1 w) {o : Oper} {t u : TypeId} {x y : Operand} {s : ByteArray}
    (ho : o.op = .call { callee := .builtin .append, args := #[x, y], argTypes := #[t, u] }) (hu : P.underlying u = some .string) (hy : a.eval y = .string s)
    (happ : Apps P u (a.eval y) 1 (dBytes s).length (s.data.toList.map fun b => Value.int .u8 b.toNat) w) (he : evAppBs P e1 o.dst t s (take P e1 t x) = some e') : Runs P g e a w o e' := by
  unfold evAppBs at he
  split at he
  · rename_i el b e2 ht
    split at he
    · rename_i hc
      simp only [Bool.and_eq_true, decide_eq_true_eq] at hc
      obtain ⟨hbt, hlen⟩ := hc
      obtain ⟨i, hut, hi, hzv, hsize, hby⟩ := byteT_spec hbt
      obtain ⟨g2, Y, s1, s2, s3, s4, s5⟩ := take_sim h1 ht
      have hown : OwnC w (.bs el b) (a.eval x) (Y 0) := s2
      have hl : ∀ s : ByteArray, (dBytes s).length = s.size := fun s => by unfold dBytes; rw [List.length_map, show s.data.toList.length = s.data.size from Array.length_toList]; rfl
      have hnews : (s.data.toList.map fun b => Value.int .u8 b.toNat).length = s.size := by rw [List.length_map, show s.data.toList.length = s.data.size from Array.length_toList]; rfl
      obtain ⟨v', w', hr, hh⟩ := append_hold (ty := o.type) (tm := a.tmps) s1 (hn1.trans s4) hut hi hzv hsize Nat.one_pos (by omega) rfl (bs_sl hown) ⟨s3.S 0, s3.box 0, s3.lt 0, s3.c 0⟩
        (fun x hx => by
          rcases s5 0 x hx with hm | hle
          · exact hn1.mine x hm
          · exact .inr hle)
        happ (fun x hx => by rw [dBytes_one s x hx]; rfl) (by rw [hl, hnews, Nat.mul_one]) (fun u hu' => by obtain ⟨m, hm, rfl⟩ := List.mem_map.1 hu'; rfl)
        (U := fun _ _ => False) (fun m d hm => by
          rw [flatMap_one (dBytes_one s)] at hm
          unfold dBytes at hm
          rw [List.getElem?_map] at hm
          rw [List.getD_eq_getElem?_getD, List.getElem?_map]
          cases hq : s.data.toList[m]? with
          | none => rw [hq] at hm; cases hm
          | some c =>
            rw [hq] at hm
            obtain rfl := Option.some.inj hm
            exact .flat rfl (.int _ _)) (free_none _ _ _) (fun _ _ hx => hx.elim) (fun _ _ hx => hx.elim) (by rw [hl, hl]; exact hlen)
      have hb : w.ownsRow 0 el 1 (a.eval x) b.size (b.data.toList.map fun b => .int .u8 b.toNat) := by
        cases hown with
        | flat hf _ => simp [D.flat] at hf
        | bs k1 _ => exact k1
      have hmx : b.size + s.size ≤ 140737488355328 := by simp only [appendMax] at hlen; omega
      obtain ⟨v2, w2, hr2, hrow, _, _⟩ := Lib.run_append_own_string (P := P) w 0 t u o.type el i hut hu hi hzv hsize hby _ _ _ hb s (by unfold maxLen; omega) hmx (Nat.zero_le _)
      rw [hy] at hr
      rw [hr] at hr2
      cases hr2
      have hcells : (b.data.toList.map fun b => Value.int .u8 b.toNat) ++ Lib.strCells s = ((b ++ s).data.toList.map fun b => Value.int .u8 b.toNat) := by
        rw [ByteArray.data_append, Array.toList_append, List.map_append]
        rfl
      have hsz : b.size + s.size = (b ++ s).size := by rw [ByteArray.size_append]
      rw [hcells, hsz] at hrow
      refine runs_value (u := v') (w' := w') ?_ ?_ he
      · simp only [execOp, ho, resolve, invoke, builtin, Sem.run_bind, Sem.run_pure, Result.andThen_ok, List.map_toArray, List.map_cons, List.map_nil, hy, hr]
      · obtain ⟨g', Y', k1, k2, k3, k4, k5⟩ := hh
        exact ⟨g', Y', k1, sl_bs k2 hrow, k3, k4, k5⟩
    · cases he
  · cases he

theorem evAppend_sim [Base] {P : Program} {g : G} {e e' : Env} {a : Act} {w : World} (h : Sim g e a.tmps w) {o : Oper} {t u : TypeId} {x y : Operand} (ho : o.op = .call { callee := .builtin .append, args := #[x, y], argTypes := #[t, u] }) (he : evAppend P e o.dst t u x y = some e') : Runs P g e a w o e' := by
  unfold evAppend at he
  split at he
  · rename_i z hz
    split at he
    · rename_i z' ys hy
      split at he
      · rename_i hc
        simp only [Bool.and_eq_true, decide_eq_true_eq] at hc
        obtain ⟨rfl, hzu⟩ := hc
        obtain ⟨el, hu, _⟩ := zOf_spec hzu
        split at he
        · rename_i hf
          obtain ⟨av, cap, hv, _, hx⟩ := (h.rd hy).sl_inv
          -- cells that are only read
          obtain ⟨uf, hcell, hz1, hone, hro⟩ : ∃ uf : Nat → Value, (0 < ys.length → ∃ b off, av = some ⟨b, off, none⟩ ∧ ∀ m, m < ys.length * z' → w.cell? ⟨b, off + m, none⟩ = some (uf m)) ∧ (∀ x ∈ ys, x.cells.length = z') ∧ (∀ m, m < ys.length * z' → (uf m).oneCell' = true) ∧ ∀ m d, (ys.flatMap D.cells)[m]? = some d → RO (memOf w) d (uf m) := by
            by_cases hnil : ys = []
            · subst hnil
              exact ⟨fun _ => undef, fun h => absurd h (by simp), fun x hx => by simp at hx, fun m hm => by simp at hm, fun m d hm => by simp at hm⟩
            · obtain ⟨b, off, uf, e1, q1, q2, q3⟩ := hx hnil
              exact ⟨uf, fun _ => ⟨b, off, e1, fun m hm => (q2 m hm).1⟩, q1, fun m hm => (q2 m hm).2, q3⟩
          have happ := apps_slice (cap := cap) hu hcell
          rw [← hv] at happ
          refine appOwn_sim (U := fun _ _ => False) h (Next.refl g e w) hz ho happ hz1 (by simp) (fun u hu' => ?_) (fun m d hm => ?_) (free_none g e w) (fun _ _ hx => hx.elim) he
          · obtain ⟨m, hm, rfl⟩ := List.mem_map.1 hu'
            exact hone m (List.mem_range.1 hm)
          · have hlt := (List.getElem?_eq_some_iff.1 hm).1
            rw [flat_length hz1] at hlt
            rw [range_getD hlt]
            have hfd : d.flat = true := by
              obtain ⟨x, hx, hd⟩ := List.mem_flatMap.1 (List.mem_of_getElem? hm)
              have hxf := flats_mem hf hx
              cases x with
              | agg cs => exact flats_mem (show flats cs = true by simpa only [D.flat] using hxf) hd
              | _ =>
                simp only [D.cells, List.mem_singleton] at hd
                rw [hd]; exact hxf
            exact .flat hfd ((hro m d hm).flat hfd)
        · split at he
          · rename_i z2 ys' e1 ht
            split at he
            · rename_i hz2
              subst hz2
              obtain ⟨g1, Y, s1, s2, s3, s4, s5⟩ := take_sim h ht
              have hown : OwnC w (.sl z2 ys') (a.eval y) (Y 0) := s2
              obtain ⟨av, cap, uf, U, hv, hcell, hz1, hone, hU1, hU2, hro⟩ : ∃ (av : Option Addr) (cap : Nat) (uf : Nat → Value) (U : Nat → Blk), a.eval y = .slice av ys'.length cap ∧ (0 < ys'.length → ∃ b off, av = some ⟨b, off, none⟩ ∧ ∀ m, m < ys'.length * z2 → w.cell? ⟨b, off + m, none⟩ = some (uf m)) ∧ (∀ x ∈ ys', x.cells.length = z2) ∧ (∀ m, m < ys'.length * z2 → (uf m).oneCell' = true) ∧
                  (∀ m x, U m x → Y 0 x) ∧ (∀ m m' x, U m x → U m' x → m = m') ∧ ∀ m d, (ys'.flatMap D.cells)[m]? = some d → OwnC w d (uf m) (U m) := by
                generalize a.eval y = yv at hown
                cases hown with
                | flat hf _ => simp [D.flat] at hf
                | nil => exact ⟨none, 0, fun _ => undef, fun _ _ => False, rfl, fun h => absurd h (by simp), fun x hx => by simp at hx, fun m hm => by simp at hm, fun _ _ h => h.elim, fun _ _ _ h => h.elim, fun m d hm => by simp at hm⟩
                | @row _ _ b cap el' cur T Us p1 p2 p3 p4 p5 p6 p7 p8 p9 p10 p11 =>
                  refine ⟨_, cap, fun m => cur.getD m undef, Us, rfl, fun _ => ⟨b, 0, rfl, fun m hm => ?_⟩, p9, p10, fun m x hx => (p7 m x hx).1, p8, p11⟩
                  have : m < cur.size := by rw [p2]; exact Nat.lt_of_lt_of_le hm (Nat.mul_le_mul_right _ p3)
                  simp [World.cell?, p1, this]
              have happ := apps_slice (cap := cap) hu hcell
              rw [← hv] at happ
              refine appOwn_sim (U := U) s1 s4 hz ho happ hz1 (by simp) (fun u hu' => ?_) (fun m d hm => ?_) (free_part ⟨s3.S 0, s3.box 0, s3.lt 0, s3.c 0⟩ hU1 hU2) (fun k x hx => s5 0 x (hU1 k x hx)) he
              · obtain ⟨m, hm, rfl⟩ := List.mem_map.1 hu'
                exact hone m (List.mem_range.1 hm)
              · have hlt := (List.getElem?_eq_some_iff.1 hm).1
                rw [flat_length hz1] at hlt
                rw [range_getD hlt]
                exact hro m d hm
            · cases he
          · cases he
      · cases he
    · rename_i s hy
      split at he
      · rename_i hc
        simp only [Bool.and_eq_true, decide_eq_true_eq] at hc
        obtain ⟨rfl, hsu⟩ := hc
        have hu := isStr_spec hsu
        have hv := (h.rd hy).str_inv
        have hlen : (dBytes s).length = s.size := by unfold dBytes; rw [List.length_map, show s.data.toList.length = s.data.size from Array.length_toList]; rfl
        have happ : Apps P u (a.eval y) 1 (dBytes s).length (s.data.toList.map fun b => Value.int .u8 b.toNat) w := by
          rw [hv, hlen]
          refine ⟨.inr hu, fun w' => rfl, fun w' _ => ?_⟩
          have hx : s.extract 0 s.size = s := by simp
          simp only [Builtin.firstCells, hx]
          rw [Sem.run_pure]
          congr 1
          apply Array.ext'
          simp
        unfold evAppStr at he
        split at he
        · exact appBs_sim h (Next.refl g e w) ho hu hv happ he
        refine appOwn_sim (U := fun _ _ => False) h (Next.refl g e w) hz ho happ (fun x hx => by rw [dBytes_one s x hx]; rfl) (by rw [hlen, List.length_map, show s.data.toList.length = s.data.size from Array.length_toList, Nat.mul_one]; rfl) (fun u hu' => ?_) (fun m d hm => ?_) (free_none g e w) (fun _ _ hx => hx.elim) he
        · obtain ⟨m, hm, rfl⟩ := List.mem_map.1 hu'
          rfl
        · rw [flatMap_one (dBytes_one s)] at hm
          unfold dBytes at hm
          rw [List.getElem?_map] at hm
          rw [List.getD_eq_getElem?_getD, List.getElem?_map]
          cases hq : s.data.toList[m]? with
          | none => rw [hq] at hm; cases hm
          | some b =>
            rw [hq] at hm
            obtain rfl := Option.some.inj hm
            exact .flat rfl (.int _ _)
      · cases he
    · rename_i hy
      split at he
      · rename_i hzu
        obtain ⟨el, hu, _⟩ := zOf_spec hzu
        have hr := h.rd hy
        obtain ⟨p, cap, hv⟩ : ∃ p cap, a.eval y = .slice (some p) 0 cap := by
          generalize a.eval y = q at hr
          cases hr
          exact ⟨_, _, rfl⟩
        have happ := apps_slice (P := P) (w := w) (z := z) (n := 0) (a := some p) (cap := cap) (uf := fun _ => undef) hu (fun h => absurd h (by simp))
        rw [← hv] at happ
        refine appOwn_sim (ys := []) (U := fun _ _ => False) h (Next.refl g e w) hz ho happ (fun x hx => by cases hx) (by simp) (fun u hu' => by simp at hu') (fun m d hm => by simp at hm) (free_none g e w) (fun _ _ hx => hx.elim) he
      · cases he
    · cases he
  · cases he

end Go.Qz

/- The evaluator Qz: operations, run (slices made and written down). -/
namespace Go.Qz

theorem inners_get : ∀ {as : List A} {ds : List D}, inners as = some ds → ds.length = as.length ∧ ∀ (k : Nat) (d : D), ds[k]? = some d → ∃ a, as[k]? = some a ∧ a.inner = some d
  | [], ds, h => by
    simp only [inners, Option.some.injEq] at h
    subst h
    exact ⟨rfl, fun k d hd => by simp at hd⟩
  | a :: r, ds, h => by
    simp only [inners] at h
    split at h
    · rename_i d hd
      split at h
      · rename_i ds' hds
        obtain rfl := Option.some.inj h
        obtain ⟨h1, h2⟩ := inners_get hds
        refine ⟨by simp [h1], fun k d' hk => ?_⟩
        cases k with
        | zero =>
          simp only [List.getElem?_cons_zero, Option.some.injEq] at hk
          subst hk
          exact ⟨a, rfl, hd⟩
        | succ k =>
          obtain ⟨a', h3, h4⟩ := h2 k d' (by simpa using hk)
          exact ⟨a', by simpa using h3, h4⟩
      · cases h
    · cases h

theorem innerA_hold {g : G} {e : Env} {tm : Array Value} {w : World} {a : A} {d : D} {v : Value} {Y : Blk} (hi : a.inner = some d) (hh : HoldA g e tm w Y a v) : OwnC w d v Y := by
  cases a with
  | own d' =>
    obtain rfl := Option.some.inj hi
    exact hh
  | ro d' =>
    simp only [A.inner] at hi
    split at hi
    · rename_i hfl
      obtain rfl := Option.some.inj hi
      exact .flat hfl (RO.flat hh hfl)
    · cases hi
  | _ => cases hi

theorem zeroD_spec {P : Program} {el : TypeId} {d : D} (h : zeroD P el = some d) : ∃ i v, P.info? el = some i ∧ i.zero = some v ∧ v.cells.size = d.cells.length ∧ ∀ m dm, d.cells[m]? = some dm → (v.cells.getD m undef).oneCell' = true ∧ ∀ w, OwnC w dm (v.cells.getD m undef) (fun _ => False) := by
  unfold zeroD at h
  split at h
  · rename_i as has
    obtain ⟨i, v, h1, h2, h3, h4⟩ := zeroA_spec has
    split at h
    · rename_i ds hds
      obtain ⟨k1, k2⟩ := inners_get hds
      have key : ∀ m dm, ds[m]? = some dm → (v.cells.getD m undef).oneCell' = true ∧ ∀ w, OwnC w dm (v.cells.getD m undef) (fun _ => False) := by
        intro m dm hm
        obtain ⟨a, q1, q2⟩ := k2 m dm hm
        obtain ⟨q3, _, q4⟩ := h4 m a q1
        exact ⟨q3, fun w => innerA_hold q2 (q4 ⟨fun _ _ => none, fun _ _ => False, fun _ => 0, fun _ => undef⟩ ⟨0, fun _ => .undef, fun _ => none⟩ #[] w (fun _ => False))⟩
      split at h
      · obtain rfl := Option.some.inj h
        exact ⟨i, v, h1, h2, by rw [h3, ← k1]; rfl, key⟩
      · split at h
        · rename_i hna d'
          obtain rfl := Option.some.inj h
          have hd0 := key 0 d' rfl
          have hc : d'.cells = [d'] := (hd0.2 default).oneCell hd0.1
          refine ⟨i, v, h1, h2, by rw [h3, ← k1, hc], ?_⟩
          rw [hc]
          exact key
        · cases h
    · cases h
  · cases h

theorem flat_replicate {d : D} : ∀ {n m : Nat} {dm : D}, ((List.replicate n d).flatMap D.cells)[m]? = some dm → d.cells[m % d.cells.length]? = some dm
  | 0, m, dm, h => by simp at h
  | n + 1, m, dm, h => by
    rw [List.replicate_succ, List.flatMap_cons] at h
    rcases Nat.lt_or_ge m d.cells.length with hlt | hge
    · rw [List.getElem?_append_left hlt] at h
      rw [Nat.mod_eq_of_lt hlt]
      exact h
    · rw [List.getElem?_append_right hge] at h
      have := flat_replicate h
      rw [Nat.mod_eq_sub_mod hge]
      exact this

theorem made_getD {zc : Array Value} {n m : Nat} (h : m < n) (hz : 0 < zc.size) : (madeCells zc n).getD m undef = zc.getD (m % zc.size) undef := by
  have hlt : m % zc.size < zc.size := Nat.mod_lt _ hz
  simp [madeCells, Array.getD_eq_getD_getElem?, h, hlt]

theorem makeSlice_sim [Base] {P : Program} {io : FuncId → List Nat} {call : CallF} {g : G} {e e' : Env} {a : Act} {w : World} (h : Sim g e a.tmps w) {o : Oper} {t : TypeId} {x y : Operand} (ho : o.op = .makeSlice t x y) (he : evOp P io call e o = some e') : Runs P g e a w o e' := by
  simp only [evOp, ho] at he
  split at he
  · rename_i el hu
    split at he
    · rename_i z d kl l kc cp hel hzd hx hy
      split at he
      · rename_i hc
        simp only [Bool.and_eq_true, decide_eq_true_eq] at hc
        obtain ⟨⟨⟨h0, hlc⟩, hmax⟩, hdz⟩ := hc
        obtain ⟨i, dd, zv, hi, _, hzv, hsize, hpos, hby, hzs⟩ := elemT_spec hel
        obtain ⟨i', zv', hi', hzv', hl, hcell⟩ := zeroD_spec hzd
        rw [hi] at hi'
        cases hi'
        rw [hzv] at hzv'
        cases hzv'
        have hA : (appendMax : Int) = 1099511627776 := by decide
        rw [hA] at hmax
        have hcpn : (cp.toNat : Int) = cp := Int.toNat_of_nonneg (by omega)
        have hbytes : (i.bytes : Int) * cp ≤ 281474976710656 := by
          have h1 : (i.bytes : Int) * cp ≤ 128 * 1099511627776 := Int.mul_le_mul (by omega) hmax (by omega) (by omega)
          omega
        have hr := run_make (P := P) w t el i zv hu hi hzv kl kc l cp h0 hlc hbytes (by omega)
        have hex : (execOp a.eval o).run P w = .ok (.value (.slice (some ⟨w.heap.size, 0, none⟩) l.toNat cp.toNat)) (w.alloc (.cells (madeCells zv.cells (cp.toNat * i.size)) el)) := by
          have e1 := (h.rd hx).int_inv
          have e2 := (h.rd hy).int_inv
          simp only [execOp, ho, e1, e2, Sem.run_bind, hr]
          rfl
        have hlen : (List.replicate l.toNat d).length = l.toNat := List.length_replicate
        have hh := newRow_hold (g := g) (e := e) (w := w) (z := z) (cap := cp.toNat) (xs := List.replicate l.toNat d) (cur := madeCells zv.cells (cp.toNat * i.size)) (el := el) (U := fun _ _ => False) h (Next.refl g e w) (free_none g e w) (fun _ _ hx => hx.elim)
          (by rw [hsize]; simp [madeCells]) (by rw [hlen]; omega) (by simp only [maxLen]; omega) hpos
          (fun x hx => by rw [List.eq_of_mem_replicate hx]; exact hdz)
          (fun m hm => by
            rw [hlen] at hm
            have hmc : m < cp.toNat * i.size := by rw [hsize]; exact Nat.lt_of_lt_of_le hm (Nat.mul_le_mul_right _ (by omega))
            rw [made_getD hmc (by omega)]
            have hlt : m % zv.cells.size < d.cells.length := by rw [← hl]; exact Nat.mod_lt _ (by omega)
            exact (hcell _ _ (List.getElem?_eq_getElem hlt)).1)
          (fun m dm hm => by
            have hlt := (List.getElem?_eq_some_iff.1 hm).1
            rw [flat_length (z := z) (fun x hx => by rw [List.eq_of_mem_replicate hx]; exact hdz), hlen] at hlt
            have hmc : m < cp.toNat * i.size := by rw [hsize]; exact Nat.lt_of_lt_of_le hlt (Nat.mul_le_mul_right _ (by omega))
            rw [made_getD hmc (by omega), hl]
            exact (hcell _ _ (flat_replicate hm)).2 w)
        rw [hlen] at hh
        exact runs_value hex hh he
      · cases he
    · cases he
  · cases he

end Go.Qz
