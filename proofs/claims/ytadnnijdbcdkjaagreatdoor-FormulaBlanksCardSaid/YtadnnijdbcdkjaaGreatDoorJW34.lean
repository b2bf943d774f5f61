/-
  The reference's Same. Conditions: both values read as formulas.
-/
import Derived.Test.YtadnnijdbcdkjaaGreatDoorJW33
namespace Go.Proofs.YtadnnijdbcdkjaaGreatDoor
open Go.RowKit

/-- Whether two formulas are one. -/
noncomputable def eqF (F G : Form) : Bool := @decide (F = G) (Classical.propDecidable _)
theorem eqF_true {F G : Form} : eqF F G = true ↔ F = G := by unfold eqF; exact @decide_eq_true_iff _ (Classical.propDecidable _)
theorem eqF_false {F G : Form} (h : F ≠ G) : eqF F G = false := by
  cases e : eqF F G with
  | false => rfl
  | true => exact absurd (eqF_true.1 e) h
theorem form_ext {F G : Form} (h1 : F.kind = G.kind) (h2 : F.arity = G.arity) (h3 : F.name = G.name) (h4 : F.vars = G.vars) (h5 : F.args = G.args) (h6 : F.kids = G.kids) : F = G := by
  cases F; cases G
  simp only [Form.kind, Form.arity, Form.name, Form.vars, Form.args, Form.kids] at h1 h2 h3 h4 h5 h6
  subst h1; subst h2; subst h3; subst h4; subst h5; subst h6; rfl
theorem kids_ext {l l' : List Form} (hl : l.length = l'.length) (h : ∀ m, m < l.length → l.getD m default = l'.getD m default) : l = l' := by
  apply List.ext_getElem hl
  intro i h1 h2
  have := h i h1
  rw [List.getD_eq_getElem?_getD, List.getD_eq_getElem?_getD, List.getElem?_eq_getElem h1, List.getElem?_eq_getElem h2] at this
  exact this

/-- What Same comes to at one formula. -/
def SS (F : Form) : Prop := ∀ (G : Form) (w : World) (Q Q' : Nat → Prop) (v v' : Value), RForm w Q v F → RForm w Q' v' G →
  Calls Tryz.prog 16 #[v, v'] w fun e w' => e = .returned (.bool (eqF F G)) ∧ Below w.heap.size w w'

/-- Where Same's loop stands. -/
def SameKids (u : World) (l l' : List Form) (k : Nat) (v : Value) (wr : World) : Prop :=
  ∃ j : Nat, j ≤ l.length ∧ k = l.length - j ∧ v = .int .i64 j ∧ Below u.heap.size u wr ∧ ∀ m, m < j → l.getD m default = l'.getD m default

theorem two_boxes (w : World) (c c' : Array Value) : ((w.alloc (.cells c 31)).alloc (.cells c' 31)).heap[w.heap.size]? = some (.cells c 31 (0, 0)) ∧ ((w.alloc (.cells c 31)).alloc (.cells c' 31)).heap[w.heap.size + 1]? = some (.cells c' 31 (0, 0)) ∧
    Below w.heap.size w ((w.alloc (.cells c 31)).alloc (.cells c' 31)) := by
  have e1 := block_alloc_new (w.alloc (.cells c 31)) (.cells c' 31)
  simp only [World.size_alloc] at e1
  exact ⟨block_alloc_old (block_alloc_new w _) _, e1, below_alloc (below_one w _) _ (Nat.le_refl _)⟩

set_option maxRecDepth 100000 in
set_option maxHeartbeats 2000000 in
theorem same_step {F : Form} (ih : ∀ G ∈ F.kids, SS G) : SS F := by
  intro G w Q Q' v v' h h'
  obtain ⟨k, a, nm, a1, m1, c1, a2, m2, c2, a3, m3, c3, rfl⟩ := form_shape h
  obtain ⟨k', a', nm', a1', m1', c1', a2', m2', c2', a3', m3', c3', rfl⟩ := form_shape h'
  obtain ⟨hk, hv, ha, e1, e2, e3⟩ := h.kids_of
  obtain ⟨hk', hv', ha', e1', e2', e3'⟩ := h'.kids_of
  obtain ⟨hm3, hl1, hl2⟩ := kids_len hk
  obtain ⟨hm3', hl1', hl2'⟩ := kids_len hk'
  have IH := Lib.hid ih
  have HM3 := Lib.hid hm3
  have HM3' := Lib.hid hm3'
  rw [← hm3] at hl1
  rw [← hm3'] at hl1'
  clear hk hk' hv hv' ha ha' ih hm3 hm3'
  unfold maxLen at hl2 hl2'
  by_cases h1 : k = k'
  · by_cases h2 : a = a'
    · by_cases h3 : nm = nm'
      · have q1 : (k != k') = false := by simp [h1]
        have q2 : (a != a') = false := by simp [h2]
        have q3 : (nm.toList == nm'.toList) = true := by rw [beq_bytes', decide_eq_true h3]
        have HEQ := Lib.hid (show F.kind = G.kind ∧ F.arity = G.arity ∧ F.name = G.name from ⟨by rw [e1, e1', h1], by rw [e2, e2', h2], by rw [e3, e3', h3]⟩)
        clear h1 h2 h3 e1 e2 e3 e1' e2' e3'
        by_cases h4 : F.vars = G.vars
        · have H4 := Lib.hid h4
          by_cases h5 : F.args = G.args
          · have H5 := Lib.hid h5
            by_cases h6 : m3 = m3'
            · have q6 : ((m3 : Int) != (m3' : Int)) = false := by simp [h6]
              have H6 := Lib.hid h6
              clear h4 h5 h6
              go_enter Tryz.func16, Tryz.ntmps16
              go_upto_region 1 with (fail)
              obtain ⟨hb1, hb2, hbb⟩ := two_boxes w #[.int .i64 k, .int .i64 a, .string nm, .slice a1 m1 c1, .slice a2 m2 c2, .slice a3 m3 c3] #[.int .i64 k', .int .i64 a', .string nm', .slice a1' m1' c1', .slice a2' m2' c2', .slice a3' m3' c3']
              have HX := Lib.hid hb1
              have HX' := Lib.hid hb2
              have HB := Lib.hid hbb
              have HF := Lib.hid (h.under hbb)
              have HG := Lib.hid (h'.under hbb)
              clear h h' hb1 hb2 hbb
              generalize ((w.alloc (Obj.cells #[Value.int IntKind.i64 k, Value.int IntKind.i64 a, Value.string nm, Value.slice a1 m1 c1, Value.slice a2 m2 c2, Value.slice a3 m3 c3] 31)).alloc (Obj.cells #[Value.int IntKind.i64 k', Value.int IntKind.i64 a', Value.string nm', Value.slice a1' m1' c1', Value.slice a2' m2' c2', Value.slice a3' m3' c3'] 31)) = u1 at *
              generalize hXe : w.heap.size = X at *
              have HXE := Lib.hid hXe
              clear hXe
              obtain ⟨d0, d1, d2, d3, d4, d5, -⟩ := six HX.out
              obtain ⟨d0', d1', d2', d3', d4', d5', -⟩ := six HX'.out
              go_wp2_with fail
              refine (samenames_any HF.out.kids_of.2.1 HG.out.kids_of.2.1).mono ?_
              rintro e w5 ⟨rfl, n5, rfl⟩
              rw [decide_eq_true H4.out]
              go_wp2_with fail
              refine (samenames_any (HF.out.under (below_drewN (Below.refl _ _) n5)).kids_of.2.2.1 (HG.out.under (below_drewN (Below.refl _ _) n5)).kids_of.2.2.1).mono ?_
              rintro e w6 ⟨rfl, n6, rfl⟩
              rw [decide_eq_true H5.out]
              go_wp2_with fail
              go_loopg [5] m3 (fun k i wr => SameKids (u1.drewN (n5 + n6)) F.kids G.kids k i wr)
              case atStart => exact ⟨0, Nat.zero_le _, by rw [HM3.out]; rfl, rfl, Below.refl _ _, fun m hm => absurd hm (Nat.not_lt_zero m)⟩
              case round =>
                obtain ⟨j, hj, rfl, rfl, hb, hJ⟩ := hrel
                have HBW := Lib.hid hb
                have HJ := Lib.hid hJ
                have HFW := Lib.hid ((HF.out.under (below_drewN (Below.refl _ _) (n5 + n6))).under hb)
                have HGW := Lib.hid ((HG.out.under (below_drewN (Below.refl _ _) (n5 + n6))).under hb)
                have HXW := Lib.hid (show wr.heap[X]? = _ from (hb.block X (block_lt HX.out)).trans HX.out)
                have HXW' := Lib.hid (show wr.heap[X + 1]? = _ from (hb.block (X + 1) (block_lt HX'.out)).trans HX'.out)
                clear hb hJ d0 d1 d2 d3 d4 d5 d0' d1' d2' d3' d4' d5'
                obtain ⟨d0, d1, d2, d3, d4, d5, -⟩ := six HXW.out
                obtain ⟨d0', d1', d2', d3', d4', d5', -⟩ := six HXW'.out
                by_cases hlt : j < m3
                · have hlF : j < F.kids.length := by rw [← HM3.out]; exact hlt
                  have hlG : j < G.kids.length := by rw [← HM3'.out, ← H6.out]; exact hlt
                  have hji : (j : Int) < (m3 : Int) := by omega
                  have hji' : (j : Int) < (m3' : Int) := by have := H6.out; omega
                  have hj0 : (0 : Int) ≤ (j : Int) := by omega
                  have hlt2 := hlt
                  obtain ⟨b, o, k1, x1, nm1, y1, l1, z1, y2, l2, z2, y3, l3, z3, rfl, g0, g1, g2, g3, g4, g5, hf, hbl⟩ := kid_sh HFW.out.kids_of.1 hlF
                  obtain ⟨b', o', k1', x1', nm1', y1', l1', z1', y2', l2', z2', y3', l3', z3', rfl, g0', g1', g2', g3', g4', g5', hf', hbl'⟩ := kid_sh HGW.out.kids_of.1 hlG
                  have HIG := Lib.hid (fun d os => IH.out _ (getD_mem hlF) (G.kids.getD j default) (Go.Sort.grow (redrawn wr d) os) _ _ _ _ (hf.under (below_regrown wr d os)) (hf'.under (below_regrown wr d os)))
                  clear hf hf' hbl hbl' hlF hlG
                  go_upto_region 6 with (fail)
                  have b5 := fun d os => cell_regrown d5 d os
                  have b5' := fun d os => cell_regrown d5' d os
                  have r0 := fun d os => cell_regrown g0 d os
                  have r1 := fun d os => cell_regrown g1 d os
                  have r2 := fun d os => cell_regrown g2 d os
                  have r3 := fun d os => cell_regrown g3 d os
                  have r4 := fun d os => cell_regrown g4 d os
                  have r5 := fun d os => cell_regrown g5 d os
                  have r0' := fun d os => cell_regrown g0' d os
                  have r1' := fun d os => cell_regrown g1' d os
                  have r2' := fun d os => cell_regrown g2' d os
                  have r3' := fun d os => cell_regrown g3' d os
                  have r4' := fun d os => cell_regrown g4' d os
                  have r5' := fun d os => cell_regrown g5' d os
                  clear d0 d1 d2 d3 d4 d5 d0' d1' d2' d3' d4' d5' g0 g1 g2 g3 g4 g5 g0' g1' g2' g3' g4' g5'
                  obtain ⟨ev, hev⟩ : ∃ b, eqF (F.kids.getD j default) (G.kids.getD j default) = b := ⟨_, rfl⟩
                  rw [hev] at HIG
                  have HEV := Lib.hid hev
                  clear hev
                  refine wp_region_qt_below 12 (by kernel_rfl) (by kernel_rfl) ?_
                  simp only [List.take_succ_cons, List.take_zero, List.drop_succ_cons, List.drop_zero]
                  repeat (first | go_big_quiet_step (exact Calls.regrown_of (HIG.out _ _)) | quiet_step (exact Calls.regrown_of (HIG.out _ _)))
                  refine wpQuiet_nil ?_
                  intro w2 hw2
                  obtain ⟨⟨d2, os2⟩, rfl⟩ := hw2
                  have HBX := Lib.hid (HBW.out.trans ((below_regrown wr d2 os2).mono HBW.out.size))
                  clear b5 b5' r0 r1 r2 r3 r4 r5 r0' r1' r2' r3' r4' r5' HIG
                  generalize Go.Sort.grow (redrawn wr d2) os2 = u9 at *
                  cases ev with
                  | true =>
                    go_wp2
                    go_roundg (F.kids.length - (j + 1))
                    case measure => have := HM3.out; omega
                    case rel =>
                      refine ⟨j + 1, by rw [← HM3.out]; exact hlt2, rfl, by first | exact next_int (show j + 1 ≤ maxLen by unfold maxLen; omega) | go_num, HBX.out, ?_⟩
                      intro m hm
                      by_cases e : m = j
                      · subst e; exact eqF_true.1 HEV.out
                      · exact HJ.out m (by omega)
                  | false =>
                    have HNE := Lib.hid (eqF_false (F := F) (G := G) (fun e => by have := HEV.out; rw [e, eqF_true.2 rfl] at this; cases this))
                    go_wp2
                    go_ret
                    exact ⟨ret_bool HNE.out.symm, by rw [HXE.out]; exact (below_drewN HB.out (n5 + n6)).trans (HBX.out.mono (by have := HB.out.size; rw [HXE.out] at this; exact this))⟩
                · have hji : ¬ (j : Int) < (m3 : Int) := by omega
                  have HT := Lib.hid (eqF_true.2 (form_ext HEQ.out.1 HEQ.out.2.1 HEQ.out.2.2 H4.out H5.out (kids_ext (by rw [← HM3.out, ← HM3'.out, H6.out]) fun m hm => HJ.out m (by have := HM3.out; omega))))
                  go_wp2
                  go_ret
                  exact ⟨ret_bool HT.out.symm, by rw [HXE.out]; exact (below_drewN HB.out (n5 + n6)).trans (HBW.out.mono (by have := HB.out.size; rw [HXE.out] at this; exact this))⟩
            · have q6 : ((m3 : Int) != (m3' : Int)) = true := by simp; omega
              have HNE := Lib.hid (eqF_false (F := F) (G := G) (fun e => h6 (by rw [HM3.out, HM3'.out, e])))
              clear h4 h5 h6
              go_enter Tryz.func16, Tryz.ntmps16
              go_upto_region 1 with (fail)
              obtain ⟨hb1, hb2, hbb⟩ := two_boxes w #[.int .i64 k, .int .i64 a, .string nm, .slice a1 m1 c1, .slice a2 m2 c2, .slice a3 m3 c3] #[.int .i64 k', .int .i64 a', .string nm', .slice a1' m1' c1', .slice a2' m2' c2', .slice a3' m3' c3']
              have HX := Lib.hid hb1
              have HX' := Lib.hid hb2
              have HB := Lib.hid hbb
              have HF := Lib.hid (h.under hbb)
              have HG := Lib.hid (h'.under hbb)
              clear h h' hb1 hb2 hbb
              generalize ((w.alloc (Obj.cells #[Value.int IntKind.i64 k, Value.int IntKind.i64 a, Value.string nm, Value.slice a1 m1 c1, Value.slice a2 m2 c2, Value.slice a3 m3 c3] 31)).alloc (Obj.cells #[Value.int IntKind.i64 k', Value.int IntKind.i64 a', Value.string nm', Value.slice a1' m1' c1', Value.slice a2' m2' c2', Value.slice a3' m3' c3'] 31)) = u1 at *
              generalize hXe : w.heap.size = X at *
              have HXE := Lib.hid hXe
              clear hXe
              obtain ⟨d0, d1, d2, d3, d4, d5, -⟩ := six HX.out
              obtain ⟨d0', d1', d2', d3', d4', d5', -⟩ := six HX'.out
              go_wp2_with fail
              refine (samenames_any HF.out.kids_of.2.1 HG.out.kids_of.2.1).mono ?_
              rintro e w5 ⟨rfl, n5, rfl⟩
              rw [decide_eq_true H4.out]
              go_wp2_with fail
              refine (samenames_any (HF.out.under (below_drewN (Below.refl _ _) n5)).kids_of.2.2.1 (HG.out.under (below_drewN (Below.refl _ _) n5)).kids_of.2.2.1).mono ?_
              rintro e w6 ⟨rfl, n6, rfl⟩
              rw [decide_eq_true H5.out]
              go_wp2_with fail
              go_ret
              exact ⟨ret_bool HNE.out.symm, by rw [HXE.out]; exact below_drewN HB.out _⟩
          · have HNE := Lib.hid (eqF_false (F := F) (G := G) (fun e => h5 (by rw [e])))
            have H5 := Lib.hid h5
            clear h4 h5
            go_enter Tryz.func16, Tryz.ntmps16
            go_upto_region 1 with (fail)
            obtain ⟨hb1, hb2, hbb⟩ := two_boxes w #[.int .i64 k, .int .i64 a, .string nm, .slice a1 m1 c1, .slice a2 m2 c2, .slice a3 m3 c3] #[.int .i64 k', .int .i64 a', .string nm', .slice a1' m1' c1', .slice a2' m2' c2', .slice a3' m3' c3']
            have HX := Lib.hid hb1
            have HX' := Lib.hid hb2
            have HB := Lib.hid hbb
            have HF := Lib.hid (h.under hbb)
            have HG := Lib.hid (h'.under hbb)
            clear h h' hb1 hb2 hbb
            generalize ((w.alloc (Obj.cells #[Value.int IntKind.i64 k, Value.int IntKind.i64 a, Value.string nm, Value.slice a1 m1 c1, Value.slice a2 m2 c2, Value.slice a3 m3 c3] 31)).alloc (Obj.cells #[Value.int IntKind.i64 k', Value.int IntKind.i64 a', Value.string nm', Value.slice a1' m1' c1', Value.slice a2' m2' c2', Value.slice a3' m3' c3'] 31)) = u1 at *
            generalize hXe : w.heap.size = X at *
            have HXE := Lib.hid hXe
            clear hXe
            obtain ⟨d0, d1, d2, d3, d4, d5, -⟩ := six HX.out
            obtain ⟨d0', d1', d2', d3', d4', d5', -⟩ := six HX'.out
            go_wp2_with fail
            refine (samenames_any HF.out.kids_of.2.1 HG.out.kids_of.2.1).mono ?_
            rintro e w5 ⟨rfl, n5, rfl⟩
            rw [decide_eq_true H4.out]
            go_wp2_with fail
            refine (samenames_any (HF.out.under (below_drewN (Below.refl _ _) n5)).kids_of.2.2.1 (HG.out.under (below_drewN (Below.refl _ _) n5)).kids_of.2.2.1).mono ?_
            rintro e w6 ⟨rfl, n6, rfl⟩
            rw [decide_eq_false H5.out]
            go_wp2_with fail
            go_ret
            exact ⟨ret_bool HNE.out.symm, by rw [HXE.out]; exact below_drewN HB.out _⟩
        · have HNE := Lib.hid (eqF_false (F := F) (G := G) (fun e => h4 (by rw [e])))
          have H4 := Lib.hid h4
          clear h4
          go_enter Tryz.func16, Tryz.ntmps16
          go_upto_region 1 with (fail)
          obtain ⟨hb1, hb2, hbb⟩ := two_boxes w #[.int .i64 k, .int .i64 a, .string nm, .slice a1 m1 c1, .slice a2 m2 c2, .slice a3 m3 c3] #[.int .i64 k', .int .i64 a', .string nm', .slice a1' m1' c1', .slice a2' m2' c2', .slice a3' m3' c3']
          have HX := Lib.hid hb1
          have HX' := Lib.hid hb2
          have HB := Lib.hid hbb
          have HF := Lib.hid (h.under hbb)
          have HG := Lib.hid (h'.under hbb)
          clear h h' hb1 hb2 hbb
          generalize ((w.alloc (Obj.cells #[Value.int IntKind.i64 k, Value.int IntKind.i64 a, Value.string nm, Value.slice a1 m1 c1, Value.slice a2 m2 c2, Value.slice a3 m3 c3] 31)).alloc (Obj.cells #[Value.int IntKind.i64 k', Value.int IntKind.i64 a', Value.string nm', Value.slice a1' m1' c1', Value.slice a2' m2' c2', Value.slice a3' m3' c3'] 31)) = u1 at *
          generalize hXe : w.heap.size = X at *
          have HXE := Lib.hid hXe
          clear hXe
          obtain ⟨d0, d1, d2, d3, d4, d5, -⟩ := six HX.out
          obtain ⟨d0', d1', d2', d3', d4', d5', -⟩ := six HX'.out
          go_wp2_with fail
          refine (samenames_any HF.out.kids_of.2.1 HG.out.kids_of.2.1).mono ?_
          rintro e w5 ⟨rfl, n5, rfl⟩
          rw [decide_eq_false H4.out]
          go_wp2_with fail
          go_ret
          exact ⟨ret_bool HNE.out.symm, by rw [HXE.out]; exact below_drewN HB.out n5⟩
      · have q1 : (k != k') = false := by simp [h1]
        have q2 : (a != a') = false := by simp [h2]
        have q3 : (nm.toList == nm'.toList) = false := by rw [beq_bytes', decide_eq_false h3]
        have HNE := Lib.hid (eqF_false (F := F) (G := G) (fun e => h3 (by rw [← e3, ← e3', e])))
        clear h1 h2 h3 e1 e2 e3 e1' e2' e3'
        go_enter Tryz.func16, Tryz.ntmps16
        go_upto_region 1 with (fail)
        obtain ⟨hb1, hb2, hbb⟩ := two_boxes w #[.int .i64 k, .int .i64 a, .string nm, .slice a1 m1 c1, .slice a2 m2 c2, .slice a3 m3 c3] #[.int .i64 k', .int .i64 a', .string nm', .slice a1' m1' c1', .slice a2' m2' c2', .slice a3' m3' c3']
        have HX := Lib.hid hb1
        have HX' := Lib.hid hb2
        have HB := Lib.hid hbb
        have HF := Lib.hid (h.under hbb)
        have HG := Lib.hid (h'.under hbb)
        clear h h' hb1 hb2 hbb
        generalize ((w.alloc (Obj.cells #[Value.int IntKind.i64 k, Value.int IntKind.i64 a, Value.string nm, Value.slice a1 m1 c1, Value.slice a2 m2 c2, Value.slice a3 m3 c3] 31)).alloc (Obj.cells #[Value.int IntKind.i64 k', Value.int IntKind.i64 a', Value.string nm', Value.slice a1' m1' c1', Value.slice a2' m2' c2', Value.slice a3' m3' c3'] 31)) = u1 at *
        generalize hXe : w.heap.size = X at *
        have HXE := Lib.hid hXe
        clear hXe
        obtain ⟨d0, d1, d2, d3, d4, d5, -⟩ := six HX.out
        obtain ⟨d0', d1', d2', d3', d4', d5', -⟩ := six HX'.out
        go_wp2_with (go_at_call 34; refine (samenames_any HF.out.kids_of.2.1 HG.out.kids_of.2.1).mono ?_; rintro e w5 ⟨rfl, n5, rfl⟩)
        go_ret
        exact ⟨ret_bool HNE.out.symm, by rw [HXE.out]; exact HB.out⟩
    · have q1 : (k != k') = false := by simp [h1]
      have q2 : (a != a') = true := by simp [h2]
      have HNE := Lib.hid (eqF_false (F := F) (G := G) (fun e => h2 (by rw [← e2, ← e2', e])))
      clear h1 h2 e1 e2 e3 e1' e2' e3'
      go_enter Tryz.func16, Tryz.ntmps16
      go_upto_region 1 with (fail)
      obtain ⟨hb1, hb2, hbb⟩ := two_boxes w #[.int .i64 k, .int .i64 a, .string nm, .slice a1 m1 c1, .slice a2 m2 c2, .slice a3 m3 c3] #[.int .i64 k', .int .i64 a', .string nm', .slice a1' m1' c1', .slice a2' m2' c2', .slice a3' m3' c3']
      have HX := Lib.hid hb1
      have HX' := Lib.hid hb2
      have HB := Lib.hid hbb
      have HF := Lib.hid (h.under hbb)
      have HG := Lib.hid (h'.under hbb)
      clear h h' hb1 hb2 hbb
      generalize ((w.alloc (Obj.cells #[Value.int IntKind.i64 k, Value.int IntKind.i64 a, Value.string nm, Value.slice a1 m1 c1, Value.slice a2 m2 c2, Value.slice a3 m3 c3] 31)).alloc (Obj.cells #[Value.int IntKind.i64 k', Value.int IntKind.i64 a', Value.string nm', Value.slice a1' m1' c1', Value.slice a2' m2' c2', Value.slice a3' m3' c3'] 31)) = u1 at *
      generalize hXe : w.heap.size = X at *
      have HXE := Lib.hid hXe
      clear hXe
      obtain ⟨d0, d1, d2, d3, d4, d5, -⟩ := six HX.out
      obtain ⟨d0', d1', d2', d3', d4', d5', -⟩ := six HX'.out
      go_wp2_with (go_at_call 34; refine (samenames_any HF.out.kids_of.2.1 HG.out.kids_of.2.1).mono ?_; rintro e w5 ⟨rfl, n5, rfl⟩)
      go_ret
      exact ⟨ret_bool HNE.out.symm, by rw [HXE.out]; exact HB.out⟩
  · have q1 : (k != k') = true := by simp [h1]
    have HNE := Lib.hid (eqF_false (F := F) (G := G) (fun e => h1 (by rw [← e1, ← e1', e])))
    clear h1 e1 e2 e3 e1' e2' e3'
    go_enter Tryz.func16, Tryz.ntmps16
    go_upto_region 1 with (fail)
    obtain ⟨hb1, hb2, hbb⟩ := two_boxes w #[.int .i64 k, .int .i64 a, .string nm, .slice a1 m1 c1, .slice a2 m2 c2, .slice a3 m3 c3] #[.int .i64 k', .int .i64 a', .string nm', .slice a1' m1' c1', .slice a2' m2' c2', .slice a3' m3' c3']
    have HX := Lib.hid hb1
    have HX' := Lib.hid hb2
    have HB := Lib.hid hbb
    have HF := Lib.hid (h.under hbb)
    have HG := Lib.hid (h'.under hbb)
    clear h h' hb1 hb2 hbb
    generalize ((w.alloc (Obj.cells #[Value.int IntKind.i64 k, Value.int IntKind.i64 a, Value.string nm, Value.slice a1 m1 c1, Value.slice a2 m2 c2, Value.slice a3 m3 c3] 31)).alloc (Obj.cells #[Value.int IntKind.i64 k', Value.int IntKind.i64 a', Value.string nm', Value.slice a1' m1' c1', Value.slice a2' m2' c2', Value.slice a3' m3' c3'] 31)) = u1 at *
    generalize hXe : w.heap.size = X at *
    have HXE := Lib.hid hXe
    clear hXe
    obtain ⟨d0, d1, d2, d3, d4, d5, -⟩ := six HX.out
    obtain ⟨d0', d1', d2', d3', d4', d5', -⟩ := six HX'.out
    go_wp2_with (go_at_call 34; refine (samenames_any HF.out.kids_of.2.1 HG.out.kids_of.2.1).mono ?_; rintro e w5 ⟨rfl, n5, rfl⟩)
    go_ret
    exact ⟨ret_bool HNE.out.symm, by rw [HXE.out]; exact HB.out⟩
theorem same_any (F : Form) : SS F := form_ind (p := SS) (fun _ ih => same_step ih) _ F (Nat.lt_succ_self _)
end Go.Proofs.YtadnnijdbcdkjaaGreatDoor
