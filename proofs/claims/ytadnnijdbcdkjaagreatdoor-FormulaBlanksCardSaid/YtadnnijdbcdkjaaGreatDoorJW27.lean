/-
  The checker's walk at formulas that bind no relation and are no atoms. Conditions: as in the text before.
-/
import Derived.Test.YtadnnijdbcdkjaaGreatDoorJW26
import Derived.Test.YtadnnijdbcdkjaaGreatDoorJA
namespace Go.Proofs.YtadnnijdbcdkjaaGreatDoor
open Go.RowKit Go.ChangeShapes Go.Maps Go.MapKept Go.WideShapes

/-- The blocks of No and three more. -/
def No3 (No : Nat → Prop) (x y : Nat) (b : Nat) : Prop := No b ∨ b = x ∨ b = x + 1 ∨ b = y

/-- Where walk stands behind its first part: its three variables, the checker, the formula. -/
structure WlAt (w0 : World) (w : World) (X Y cb mb fb B n : Nat) (c : CK) (No : Nat → Prop) (fc : Array Value) (nm : ByteArray) : Prop where
  ci : CI w cb mb fb B n c (No3 No X Y)
  p3 : w.heap[X]? = some (.cells #[.pointer (some ⟨cb, 0, none⟩)] 80 (0, 0))
  p4 : w.heap[X + 1]? = some (.cells fc 31 (0, 0))
  p9 : w.heap[Y]? = some (.cells #[.string nm] 9 (0, 0))
  fr : Fr No w0 w
theorem WkAt.name {w0 w : World} {X cb mb fb B n : Nat} {c : CK} {No : Nat → Prop} {fc : Array Value} (h : WkAt w0 w X cb mb fb B n c No fc) (nm : ByteArray) :
    WlAt w0 (w.alloc (.cells #[.string nm] 9)) X w.heap.size cb mb fb B n c No fc nm := by
  have hb := below_one w (.cells #[.string nm] 9)
  refine ⟨h.ci.reno (No' := No3 No X w.heap.size) hb ?_, block_keep h.p3 hb, block_keep h.p4 hb, block_alloc_new w _, h.fr.trans (Fr.of_below hb)⟩
  rintro g (k | k | k | k)
  · exact .inl (.inl k)
  · exact .inl (.inr (.inl k))
  · exact .inl (.inr (.inr k))
  · exact .inr ⟨by omega, by simp only [World.size_alloc]; omega⟩
section
variable {w0 w w' : World} {X Y cb mb fb B n n' : Nat} {c c' : CK} {No : Nat → Prop} {fc : Array Value} {nm : ByteArray}
theorem WlAt.below (h : WlAt w0 w X Y cb mb fb B n c No fc nm) (hb : Below w.heap.size w w') : WlAt w0 w' X Y cb mb fb B n c No fc nm :=
  ⟨h.ci.below hb, block_keep h.p3 hb, block_keep h.p4 hb, block_keep h.p9 hb, h.fr.trans (Fr.of_below hb)⟩
/-- Behind a call that keeps all blocks of No3. -/
theorem WlAt.next (h : WlAt w0 w X Y cb mb fb B n c No fc nm) (hc : CI w' cb mb fb B n' c' (No3 No X Y)) (hf : Fr (No3 No X Y) w w') : WlAt w0 w' X Y cb mb fb B n' c' No fc nm :=
  ⟨hc, (hf.block X (.inr (.inl rfl)) (block_lt h.p3)).trans h.p3, (hf.block (X + 1) (.inr (.inr (.inl rfl))) (block_lt h.p4)).trans h.p4, (hf.block Y (.inr (.inr (.inr rfl))) (block_lt h.p9)).trans h.p9, h.fr.trans (hf.mono fun _i _ hi => .inl hi)⟩
end

theorem okF_kids {F : Form} (h : okF F) : ∀ G ∈ F.kids, okF G := by
  cases F with
  | mk k a n vars args kids => exact okL_iff.1 h.2.2.2

/-- Where the loop over kids stands. -/
def LoopAt (w0 : World) (X Y cb mb fb B : Nat) (No : Nat → Prop) (fc : Array Value) (nm : ByteArray) (kids : List Form) (level : Int) (c0 : CK) (n0 : Nat) (k : Nat) (v : Value) (wr : World) : Prop :=
  ∃ j n c, j ≤ kids.length ∧ k = kids.length - j ∧ v = .int .i64 j ∧ WlAt w0 wr X Y cb mb fb B n c No fc nm ∧ c.bad = false ∧ c.n ≤ 4000 ∧ IsMap c.bound ∧ walksB (kids.drop j) level c = walksB kids level c0 ∧ (n : Int) + 2 * c0.n ≤ n0 + 2 * c.n

set_option maxRecDepth 100000 in
set_option maxHeartbeats 2000000 in
theorem walk_plain
  {F : Form} (ih : ∀ G ∈ F.kids, SW G) {w : World} {v : Value} {cb mb fb B n : Nat} {c : CK} {No : Nat → Prop} {level : Int} (h : CI w cb mb fb B n c No) (hbad : c.bad = false) (hcn4 : c.n ≤ 4000) (hF : RForm w No v F) (hok : okF F) (hl0 : 0 ≤ level) (hl1 : level ≤ 61) (hmap : IsMap c.bound)
    (hB : (decide (4000 < c.n + 1) || decide (60 < level) || !shapedB F) = false) (h0 : ¬ F.kind = 0) (hbi : (bindsB F).2.2 = false) :
    Calls Tryz.prog 87 #[.pointer (some ⟨cb, 0, none⟩), v, .int .i64 level] w fun e w' => e = .returned (.tuple #[]) ∧ Walked w w' cb mb fb B n c (walkB F level c) No := by
  have HB := Lib.hid hB
  have H00 := Lib.hid h0
  have HBI := Lib.hid hbi
  clear hB h0 hbi
  have hmf : ∀ (fn : Fn) (first cap : Array Value) (w : World), (Instr.makeFunc fn first cap).run Tryz.prog w = .ok (.func fn first cap) w := fun _ _ _ _ => rfl
  obtain ⟨k, a, nm, a1, m1, c1, a2, m2, c2, a3, m3, c3, rfl⟩ := form_shape hF
  have HI := Lib.hid ih
  have HF := Lib.hid hF
  have HOK := Lib.hid hok
  have HM := Lib.hid hmap
  have H0 := Lib.hid h
  have HS := Lib.hid (WkAt.start h #[.int .i64 k, .int .i64 a, .string nm, .slice a1 m1 c1, .slice a2 m2 c2, .slice a3 m3 c3])
  clear ih hF hok hmap h
  go_enter_defers Tryz.func87, Tryz.ntmps87
  go_upto_region 1 with (fail)
  generalize ((w.alloc (Obj.cells #[Value.pointer (some { block := cb, off := 0 })] 80)).alloc (Obj.cells #[Value.int IntKind.i64 k, Value.int IntKind.i64 a, Value.string nm, Value.slice a1 m1 c1, Value.slice a2 m2 c2, Value.slice a3 m3 c3] 31)) = u1 at *
  generalize w.heap.size = X at *
  have hcn := HS.out.ci.cnt
  have hw1 : wrap64 (c.n + 1) = c.n + 1 := by unfold wrap64; omega
  have p3 := cell_of_block HS.out.p3 0
  obtain ⟨q0, q1, q2, q3, q4, qf⟩ := HS.out.ci.load
  simp only [List.getElem?_toArray, List.getElem?_cons_zero] at p3
  go_upto_region 2 with (fail)
  have HS1 := Lib.hid (HS.out.set (c' := { c with n := c.n + 1 }) (o := 0) (v := .int .i64 (c.n + 1)) (block_setCell HS.out.ci.cell 0 _) rfl rfl ⟨by simp only; omega, by simp only; omega, by simp only; omega⟩)
  generalize u1.setCell ⟨cb, 0, none⟩ (.int .i64 (c.n + 1)) = u2 at *
  clear q0 q1 q2 q3 q4 qf p3 HS hw1 u1
  have p3 := cell_of_block HS1.out.p3 0
  obtain ⟨q0, q1, q2, q3, q4, qf⟩ := HS1.out.ci.load
  simp only [List.getElem?_toArray, List.getElem?_cons_zero] at p3 q0 q1 q2 q3 q4
  refine wp_region_qt_drew 7 (by kernel_rfl) (by kernel_rfl) ?_
  simp only [List.take_succ_cons, List.take_zero, List.drop_succ_cons, List.drop_zero]
  repeat (first | go_big_quiet_step (fail) | quiet_step (fail))
  refine wpQuiet_nil ?_
  intro w2 hw2
  obtain ⟨n2, rfl⟩ := hw2
  go_upto_region 3 with (fail)
  have HS2 := Lib.hid ((HS1.out.drewN n2).set (c' := { c with n := c.n + 1, deep := max c.deep level }) (o := 1) (v := .int .i64 (max c.deep level)) (block_setCell (HS1.out.drewN n2).ci.cell 1 _) rfl rfl ⟨by simp only; omega, by simp only; omega, by simp only; omega⟩)
  generalize (u2.drewN n2).setCell ⟨cb, 1, none⟩ (.int .i64 (max c.deep level)) = u3 at *
  clear q0 q1 q2 q3 q4 qf p3 HS1 u2
  have p3 := cell_of_block HS2.out.p3 0
  obtain ⟨q0, q1, q2, q3, q4, qf⟩ := HS2.out.ci.load
  obtain ⟨d0, d1, d2, d3, d4, d5, -⟩ := six HS2.out.p4
  simp only [List.getElem?_toArray, List.getElem?_cons_zero] at p3 q0 q1 q2 q3 q4
  have HSH := Lib.hid (fun (w' : World) (h : Fr No w w') => shaped_any (HF.out.stay h.size (fun b hb hl => h.block b hb hl) (fun _ hq _ => hq)) HOK.out)
  obtain ⟨bad1, hbad1⟩ : ∃ b, b = (decide (4000 < c.n + 1) || decide (60 < level) || !shapedB F) := ⟨_, rfl⟩
  have HB1 := Lib.hid hbad1
  clear hbad1
  generalize hshp : shapedB F = shp at *
  go_cut [43] from 14 (fun s43 wx => s43 = .bool bad1 ∧ Hid (WkAt w wx X cb mb fb B n { c with n := c.n + 1, deep := max c.deep level } No #[.int .i64 k, .int .i64 a, .string nm, .slice a1 m1 c1, .slice a2 m2 c2, .slice a3 m3 c3]))
  case first =>
    go_wp2_with (go_at_call 107; refine (HSH.out _ HS2.out.fr).mono ?_; rintro e w2 ⟨rfl, hb2⟩)
    all_goals go_meet
    all_goals refine ⟨?_, by first | exact HS2 | exact Lib.hid (HS2.out.below hb2)⟩
    all_goals (rw [HB1.out]; try simp_all)
  obtain ⟨rfl, hwc⟩ := hcut
  clear q0 q1 q2 q3 q4 qf d0 d1 d2 d3 d4 d5 p3 HS2 HSH
  have hbad1 := HB1.out
  have HE := Lib.hid (enterB_eq (F := F) (level := level) (b := bad1) hbad (by rw [hshp]; exact hbad1))
  have p3 := cell_of_block hwc.out.p3 0
  obtain ⟨q0, q1, q2, q3, q4, qf⟩ := hwc.out.ci.load
  obtain ⟨d0, d1, d2, d3, d4, d5, -⟩ := six hwc.out.p4
  simp only [List.getElem?_toArray, List.getElem?_cons_zero] at p3 q0 q1 q2 q3 q4
  clear hbad1
  have hb1 : bad1 = false := by rw [HB1.out]; exact HB.out
  subst hb1
  have h0 : ¬ k = 0 := by have := HF.out.kids_of.2.2.2.1; have := H00.out; omega
  have h8 : ¬ k = 8 := by
    have := HF.out.kids_of.2.2.2.1
    intro e
    have h := HBI.out
    unfold bindsB at h
    rw [if_pos (.inl (by omega))] at h
    cases h
  have HBN := Lib.hid (fun (w' : World) (h : Fr No w w') => binds_any (HF.out.stay h.size (fun b hb hl => h.block b hb hl) (fun _ hq _ => hq)))
  rw [HBI.out] at HBN
  generalize (bindsB F).1 = bn at *
  generalize (bindsB F).2.1 = ba at *
  have hlv : ¬ 60 < level := by
    have := HB.out
    simp only [Bool.or_eq_false_iff, decide_eq_false_iff_not] at this
    exact this.1.2
  have HLV := Lib.hid hlv
  clear hlv
  go_upto_region 18 with (go_at_call 92; refine (HBN.out _ hwc.out.fr).mono ?_; rintro e w2 ⟨rfl, hb2⟩)
  have HL := Lib.hid ((hwc.out.below hb2).name bn)
  have he : ({ c with n := c.n + 1, deep := max c.deep level } : CK) = enterB F level c := by rw [HE.out]; simp [hbad]
  rw [he] at HL
  have HC0 := Lib.hid (show (enterB F level c).bad = false ∧ (enterB F level c).n ≤ 4000 ∧ IsMap (enterB F level c).bound from ⟨by rw [HE.out], by rw [HE.out]; have := HB.out; simp only [Bool.or_eq_false_iff, decide_eq_false_iff_not] at this; simp only; omega, HM.out⟩)
  have HEN := Lib.hid (show (enterB F level c).n = c.n + 1 from rfl)
  have HWB := Lib.hid (show walkB F level c = walksB F.kids level (enterB F level c) from by rw [walkB_eq, if_neg (by rw [HC0.out.1]; simp), if_neg H00.out, HBI.out]; rfl)
  clear he HE
  generalize enterB F level c = C0 at *
  generalize (w2.alloc (Obj.cells #[Value.string bn] 9)) = u5 at *
  generalize w2.heap.size = Y at *
  clear q0 q1 q2 q3 q4 qf d0 d1 d2 d3 d4 d5 p3 hb2 w2
  have HKL := Lib.hid (kids_len HF.out.kids_of.1)
  obtain ⟨hml, hlc, hcm⟩ := HKL.out
  subst hml
  obtain ⟨d0, d1, d2, d3, d4, d5, -⟩ := six HL.out.p4
  go_wp2
  go_loopg [132] F.kids.length (fun m v wr => LoopAt w X Y cb mb fb B No #[.int .i64 k, .int .i64 a, .string nm, .slice a1 m1 c1, .slice a2 m2 c2, .slice a3 F.kids.length c3] bn F.kids level C0 n m v wr)
  case atStart => exact ⟨0, _, C0, Nat.zero_le _, rfl, rfl, HL.out, HC0.out.1, HC0.out.2.1, HC0.out.2.2, rfl, Int.le_refl _⟩
  case round =>
    obtain ⟨j, nj, cj, hj, rfl, rfl, hwl, hbj, hnj, hmj, hwj, hcj⟩ := hrel
    clear d0 d1 d2 d3 d4 d5
    by_cases hjl : j < F.kids.length
    · have hji : (j : Int) < (F.kids.length : Int) := by omega
      have hj0 : (0 : Int) ≤ (j : Int) := by omega
      obtain ⟨b, o, k', x', nm', y1, l1, z1, y2, l2, z2, y3, l3, z3, rfl, g0, g1, g2, g3, g4, g5, hf, hbl⟩ := kid_sh ((HF.out.stay hwl.fr.size (fun b hb hl => hwl.fr.block b hb hl) (fun _ hq _ => hq)).kids_of.1) hjl
      have HWL := Lib.hid hwl
      have HX := Lib.hid (And.intro hbj (And.intro hnj (And.intro hmj hwj)))
      have HFr := Lib.hid hf
      have HGM := Lib.hid (getD_mem hjl)
      have HDC := Lib.hid (show F.kids.drop j = F.kids.getD j default :: F.kids.drop (j + 1) from by rw [List.drop_eq_getElem_cons hjl, List.getD_eq_getElem?_getD, List.getElem?_eq_getElem hjl]; rfl)
      clear hf hwl hbj hnj hmj hwj
      generalize F.kids.getD j default = G at *
      obtain ⟨r, hr⟩ : ∃ r, walkB G (level + 1) cj = r := ⟨_, rfl⟩
      have HR := Lib.hid hr
      have HIG := Lib.hid (HI.out G HGM.out)
      have HOG := Lib.hid (okF_kids HOK.out G HGM.out)
      have HKP := Lib.hid (walk_kept G (level + 1) cj HX.out.1 HX.out.2.1 HX.out.2.2.1)
      rw [hr] at HKP
      clear hr
      have hw1 : wrap64 (level + 1) = level + 1 := by have := HLV.out; unfold wrap64; omega
      have p3 := cell_of_block HWL.out.p3 0
      simp only [List.getElem?_toArray, List.getElem?_cons_zero] at p3
      have hXl := block_lt HWL.out.p3
      have hjl' := hjl
      obtain ⟨rbad, hrb⟩ : ∃ b, r.bad = b := ⟨_, rfl⟩
      cases rbad with
      | true =>
        go_wp2_with (go_at_call 87; refine (HIG.out _ _ cb mb fb B nj cj (No3 No X Y) (level + 1) (HWL.out.below (below_one wr _)).ci HX.out.1 HX.out.2.1 ((HFr.out.alloc _).stay (Nat.le_refl _) (fun _ _ _ => rfl) (fun _ hq _ => .inl hq)) HOG.out (by omega) (by have := HLV.out; omega) HX.out.2.2.1).mono ?_; rintro e w3 ⟨rfl, n3, hci, hcn3, hfr⟩; rw [HR.out] at hci hcn3; have HN := Lib.hid ((HWL.out.below (below_one wr _)).next hci hfr); clear hci hfr p3; have p3 := cell_of_block HN.out.p3 0; obtain ⟨q0, q1, q2, q3, q4, qf⟩ := HN.out.ci.load; simp only [List.getElem?_toArray, List.getElem?_cons_zero] at p3 q0 q1 q2 q3 q4)
        have HBD := Lib.hid (show walksB F.kids level C0 = r from by rw [← HX.out.2.2.2, HDC.out, walksB, HR.out, if_pos hrb])
        (refine ⟨_, results_none rfl _ _ _, rfl, n3, ?_⟩; rw [HWB.out, HBD.out]; exact ⟨HN.out.ci.mono fun b hb => .inl hb, by have := HEN.out; omega, HN.out.fr⟩)
      | false =>
        go_wp2_with (go_at_call 87; refine (HIG.out _ _ cb mb fb B nj cj (No3 No X Y) (level + 1) (HWL.out.below (below_one wr _)).ci HX.out.1 HX.out.2.1 ((HFr.out.alloc _).stay (Nat.le_refl _) (fun _ _ _ => rfl) (fun _ hq _ => .inl hq)) HOG.out (by omega) (by have := HLV.out; omega) HX.out.2.2.1).mono ?_; rintro e w3 ⟨rfl, n3, hci, hcn3, hfr⟩; rw [HR.out] at hci hcn3; have HN := Lib.hid ((HWL.out.below (below_one wr _)).next hci hfr); clear hci hfr p3; have p3 := cell_of_block HN.out.p3 0; obtain ⟨q0, q1, q2, q3, q4, qf⟩ := HN.out.ci.load; simp only [List.getElem?_toArray, List.getElem?_cons_zero] at p3 q0 q1 q2 q3 q4)
        go_roundg (F.kids.length - (j + 1))
        case measure => omega
        case rel =>
          refine ⟨j + 1, n3, r, hjl', rfl, next_int (show j + 1 ≤ maxLen by omega), HN.out, hrb, HKP.out.1.cnt hrb, HKP.out.1.map, ?_, by omega⟩
          rw [← HX.out.2.2.2, HDC.out, walksB, HR.out, if_neg (by rw [hrb]; simp)]
    · have hji : ¬ (j : Int) < (F.kids.length : Int) := by omega
      have HWL := Lib.hid hwl
      have hwe : cj = walksB F.kids level C0 := by rw [← hwj, List.drop_eq_nil_of_le (by omega), walksB]
      have HWE := Lib.hid hwe
      have HX := Lib.hid (And.intro hbj (And.intro hnj hmj))
      clear hwl hwj hwe hbj hnj hmj
      obtain ⟨d0, d1, d2, d3, d4, d5, -⟩ := six HWL.out.p4
      have h8' : (k == 8) = false := by simp [h8]
      clear h8
      go_upto_region 24 with (fail)
      go_quiet (fail)
      go_wp2
      have HLE := Lib.hid (HWL.out.below (below_drewN (Below.refl _ _) nq))
      (refine ⟨_, results_none rfl _ _ _, rfl, nj, ?_⟩; rw [HWB.out, ← HWE.out]; exact ⟨HLE.out.ci.mono fun b hb => .inl hb, by have := HEN.out; omega, HLE.out.fr⟩)
end Go.Proofs.YtadnnijdbcdkjaaGreatDoor
