/-
  The checker's walk at atoms whose relation is not bound. Conditions: as in the text before.
-/
import Derived.Test.YtadnnijdbcdkjaaGreatDoorJW28
namespace Go.Proofs.YtadnnijdbcdkjaaGreatDoor
open Go.RowKit Go.ChangeShapes Go.Maps Go.MapKept Go.WideShapes

theorem bne_int (a b : Int) : (a != b) = !decide (a = b) := rfl
theorem groups_mono {w : World} {B mb n : Nat} {D : DataW Unit} (h : w.ownsGroups Tryz.prog 9 B 3 .i64 mb n D) : w.ownsGroups Tryz.prog 9 B 3 .i64 mb (n + 1) D := by
  obtain ⟨es, clock, hb, F, hs, hD, hbb, hlen, hap⟩ := h
  exact ⟨es, clock, hb, F, by omega, hD, hbb, fun x hx zs ho => Nat.le_trans (hlen x hx zs ho) (Nat.le_succ n), hap⟩
/-- Behind a store into the map of free relations. -/
theorem WkAt.putF {w0 w w' : World} {X cb mb fb B n : Nat} {c : CK} {No : Nat → Prop} {fc : Array Value} {D : DataW Unit} (h : WkAt w0 w X cb mb fb B n c No fc)
    (hown : w'.ownsMap Tryz.prog 9 (plainElem Tryz.prog 3) fb (n + 1) D) (hgr : w.grownBy w' (some fb)) (hc : (n : Int) + 1 ≤ 2 * c.n) : WkAt w0 w' X cb mb fb B (n + 1) { c with free := D } No fc := by
  have hX : X ≠ fb := fun e => h.ci.off.2.2 (.inr (.inl e.symm))
  have hX1 : X + 1 ≠ fb := fun e => h.ci.off.2.2 (.inr (.inr e.symm))
  refine ⟨⟨(hgr.block cb h.ci.clt (fun e => h.ci.fc (by simpa using e.symm))).trans h.ci.cell, groups_mono (h.ci.grp.kept hgr (fun e => h.ci.ne (by simpa using e)) (h.ci.grp.rowsAbove (fun j hj => by cases hj; exact h.ci.low.2.1))), hown,
    h.ci.shun.kept hgr h.ci.mlt (fun e => h.ci.ne (by simpa using e)), h.ci.off, ⟨h.ci.low.1, h.ci.low.2.1, Nat.le_trans h.ci.low.2.2 hgr.size⟩, h.ci.ne, ⟨h.ci.cnt.1, by show ((n + 1 : Nat) : Int) ≤ 2 * c.n; omega, h.ci.cnt.2.2⟩, fun b hN => Nat.lt_of_lt_of_le (h.ci.nob b hN) hgr.size⟩,
    (hgr.block X (block_lt h.p3) (fun e => hX (by simpa using e))).trans h.p3, (hgr.block (X + 1) (block_lt h.p4) (fun e => hX1 (by simpa using e))).trans h.p4, h.fr.trans (Fr.grown hgr (fun j hj => by cases hj; exact fun k => h.ci.off.2.2 (.inl k)))⟩
theorem ints_nil {w : World} {B : Nat} {v : Value} (h : w.ownsInts B 3 .i64 v []) : ∃ a cap, v = .slice a 0 cap := by
  rcases h.1.2 with ⟨rfl, _⟩ | ⟨g, cap, cur, rfl, _⟩
  · exact ⟨_, _, rfl⟩
  · exact ⟨_, _, rfl⟩
theorem shaped_atom {F : Form} (h : shapedB F = true) (hk : F.kind = 0) : F.kids = [] ∧ F.args.length ≤ 12 := by
  have hr : ruleB F.kind = ⟨0, 0, 0, 12, 0, 0, true, false, false⟩ := by rw [hk]; rfl
  simp only [shapedB, hr] at h
  constructor
  · rcases hkk : F.kids with _ | ⟨x, y⟩
    · rfl
    · have hlt : (0 : Int) < (F.kids.length : Int) := by rw [hkk]; simp
      rw [if_pos (.inl (.inr hlt))] at h
      cases h
  · split at h
    · cases h
    · split at h
      · cases h
      · simp only [Bool.and_eq_true] at h
        have h1 := h.1.1
        unfold namesB at h1
        split at h1
        · cases h1
        · rename_i hn
          omega
set_option maxRecDepth 100000 in
set_option maxHeartbeats 2000000 in
theorem walk_free
  {F : Form} (ih : ∀ G ∈ F.kids, SW G) {w : World} {v : Value} {cb mb fb B n : Nat} {c : CK} {No : Nat → Prop} {level : Int} (h : CI w cb mb fb B n c No) (hbad : c.bad = false) (hcn4 : c.n ≤ 4000) (hF : RForm w No v F) (hok : okF F) (hl0 : 0 ≤ level) (hl1 : level ≤ 61) (hmap : IsMap c.bound)
    (hB : (decide (4000 < c.n + 1) || decide (60 < level) || !shapedB F) = false) (h0 : F.kind = 0) (hbn : c.boundAt F.name = []) :
    Calls Tryz.prog 87 #[.pointer (some ⟨cb, 0, none⟩), v, .int .i64 level] w fun e w' => e = .returned (.tuple #[]) ∧ Walked w w' cb mb fb B n c (walkB F level c) No := by
  have HSA := Lib.hid (shaped_atom (F := F) (by simp only [Bool.or_eq_false_iff, Bool.not_eq_false'] at hB; exact hB.2) h0)
  have HB := Lib.hid hB
  have H00 := Lib.hid h0
  have HBN := Lib.hid hbn
  clear hB h0 hbn
  have hmf : ∀ (fn : Fn) (first cap : Array Value) (w : World), (Instr.makeFunc fn first cap).run Tryz.prog w = .ok (.func fn first cap) w := fun _ _ _ _ => rfl
  obtain ⟨k, a, nm, a1, m1, c1, a2, m2, c2, a3, m3, c3, rfl⟩ := form_shape hF
  have HI := Lib.hid ih
  have HF := Lib.hid hF
  have HOK := Lib.hid hok
  have HM := Lib.hid hmap
  have H0 := Lib.hid h
  have HS := Lib.hid (WkAt.start h #[.int .i64 k, .int .i64 a, .string nm, .slice a1 m1 c1, .slice a2 m2 c2, .slice a3 m3 c3])
  clear ih hF hok hmap h
  go_enter_defers Tryz.func87, Tryz.ntmps87
  go_upto_region 1 with (fail)
  generalize ((w.alloc (Obj.cells #[Value.pointer (some { block := cb, off := 0 })] 80)).alloc (Obj.cells #[Value.int IntKind.i64 k, Value.int IntKind.i64 a, Value.string nm, Value.slice a1 m1 c1, Value.slice a2 m2 c2, Value.slice a3 m3 c3] 31)) = u1 at *
  generalize w.heap.size = X at *
  have hcn := HS.out.ci.cnt
  have hw1 : wrap64 (c.n + 1) = c.n + 1 := by unfold wrap64; omega
  have p3 := cell_of_block HS.out.p3 0
  obtain ⟨q0, q1, q2, q3, q4, qf⟩ := HS.out.ci.load
  simp only [List.getElem?_toArray, List.getElem?_cons_zero] at p3
  go_upto_region 2 with (fail)
  have HS1 := Lib.hid (HS.out.set (c' := { c with n := c.n + 1 }) (o := 0) (v := .int .i64 (c.n + 1)) (block_setCell HS.out.ci.cell 0 _) rfl rfl ⟨by simp only; omega, by simp only; omega, by simp only; omega⟩)
  generalize u1.setCell ⟨cb, 0, none⟩ (.int .i64 (c.n + 1)) = u2 at *
  clear q0 q1 q2 q3 q4 qf p3 HS hw1 u1
  have p3 := cell_of_block HS1.out.p3 0
  obtain ⟨q0, q1, q2, q3, q4, qf⟩ := HS1.out.ci.load
  simp only [List.getElem?_toArray, List.getElem?_cons_zero] at p3 q0 q1 q2 q3 q4
  refine wp_region_qt_drew 7 (by kernel_rfl) (by kernel_rfl) ?_
  simp only [List.take_succ_cons, List.take_zero, List.drop_succ_cons, List.drop_zero]
  repeat (first | go_big_quiet_step (fail) | quiet_step (fail))
  refine wpQuiet_nil ?_
  intro w2 hw2
  obtain ⟨n2, rfl⟩ := hw2
  go_upto_region 3 with (fail)
  have HS2 := Lib.hid ((HS1.out.drewN n2).set (c' := { c with n := c.n + 1, deep := max c.deep level }) (o := 1) (v := .int .i64 (max c.deep level)) (block_setCell (HS1.out.drewN n2).ci.cell 1 _) rfl rfl ⟨by simp only; omega, by simp only; omega, by simp only; omega⟩)
  generalize (u2.drewN n2).setCell ⟨cb, 1, none⟩ (.int .i64 (max c.deep level)) = u3 at *
  clear q0 q1 q2 q3 q4 qf p3 HS1 u2
  have p3 := cell_of_block HS2.out.p3 0
  obtain ⟨q0, q1, q2, q3, q4, qf⟩ := HS2.out.ci.load
  obtain ⟨d0, d1, d2, d3, d4, d5, -⟩ := six HS2.out.p4
  simp only [List.getElem?_toArray, List.getElem?_cons_zero] at p3 q0 q1 q2 q3 q4
  have HSH := Lib.hid (fun (w' : World) (h : Fr No w w') => shaped_any (HF.out.stay h.size (fun b hb hl => h.block b hb hl) (fun _ hq _ => hq)) HOK.out)
  obtain ⟨bad1, hbad1⟩ : ∃ b, b = (decide (4000 < c.n + 1) || decide (60 < level) || !shapedB F) := ⟨_, rfl⟩
  have HB1 := Lib.hid hbad1
  clear hbad1
  generalize hshp : shapedB F = shp at *
  go_cut [43] from 14 (fun s43 wx => s43 = .bool bad1 ∧ Hid (WkAt w wx X cb mb fb B n { c with n := c.n + 1, deep := max c.deep level } No #[.int .i64 k, .int .i64 a, .string nm, .slice a1 m1 c1, .slice a2 m2 c2, .slice a3 m3 c3]))
  case first =>
    go_wp2_with (go_at_call 107; refine (HSH.out _ HS2.out.fr).mono ?_; rintro e w2 ⟨rfl, hb2⟩)
    all_goals go_meet
    all_goals refine ⟨?_, by first | exact HS2 | exact Lib.hid (HS2.out.below hb2)⟩
    all_goals (rw [HB1.out]; try simp_all)
  obtain ⟨rfl, hwc⟩ := hcut
  clear q0 q1 q2 q3 q4 qf d0 d1 d2 d3 d4 d5 p3 HS2 HSH
  have hbad1 := HB1.out
  have HE := Lib.hid (enterB_eq (F := F) (level := level) (b := bad1) hbad (by rw [hshp]; exact hbad1))
  have p3 := cell_of_block hwc.out.p3 0
  obtain ⟨q0, q1, q2, q3, q4, qf⟩ := hwc.out.ci.load
  obtain ⟨d0, d1, d2, d3, d4, d5, -⟩ := six hwc.out.p4
  simp only [List.getElem?_toArray, List.getElem?_cons_zero] at p3 q0 q1 q2 q3 q4
  clear hbad1
  have hb1 : bad1 = false := by rw [HB1.out]; exact HB.out
  subst hb1
  have he : ({ c with n := c.n + 1, deep := max c.deep level } : CK) = enterB F level c := by rw [HE.out]; simp [hbad]
  have hwc2 := hwc
  rw [he] at hwc2
  have HC0 := Lib.hid (show (enterB F level c).bad = false ∧ (enterB F level c).n ≤ 4000 ∧ IsMap (enterB F level c).bound from ⟨by rw [HE.out], by rw [HE.out]; have := HB.out; simp only [Bool.or_eq_false_iff, decide_eq_false_iff_not] at this; simp only; omega, HM.out⟩)
  have HEN := Lib.hid (show (enterB F level c).n = c.n + 1 from rfl)
  have HWB := Lib.hid (show walkB F level c = freeB F.name F.args.length (enterB F level c) from by rw [walkB_eq, if_neg (by rw [HC0.out.1]; simp), if_pos H00.out, if_neg (by rw [show (enterB F level c).boundAt F.name = [] from HBN.out]; simp)])
  have hnm : F.name = nm := HF.out.kids_of.2.2.2.2.2
  have h0 : k = 0 := by have := HF.out.kids_of.2.2.2.1; have := H00.out; omega
  have hal : m2 = F.args.length := (strs_len HF.out.kids_of.2.2.1).1
  subst h0
  have hs := okF_name HOK.out
  rw [hnm] at hs HWB
  have HBN' := Lib.hid (show (enterB F level c).boundAt nm = [] from by rw [← hnm]; exact HBN.out)
  clear hwc he HE HBN
  generalize enterB F level c = C0 at *
  obtain ⟨v5, zs, hlk, hzs, hoi, hzl, -, -⟩ := hwc2.out.ci.lookG hs
  obtain rfl : zs = [] := by rw [← hzs]; exact HBN'.out
  obtain ⟨g, cap, rfl⟩ := ints_nil hoi
  clear hoi hzl hzs
  subst hal
  go_upto_region 7 with (fail)
  refine wp_region_qt_drew 7 (by kernel_rfl) (by kernel_rfl) ?_
  simp only [List.take_succ_cons, List.take_zero, List.drop_succ_cons, List.drop_zero]
  repeat (first | go_big_quiet_step (fail) | quiet_step (fail))
  refine wpQuiet_nil ?_
  intro w2 hw2
  obtain ⟨n5, rfl⟩ := hw2
  go_upto_region 10 with (fail)
  have HW9 := Lib.hid (hwc2.out.drewN n5)
  clear q0 q1 q2 q3 q4 qf d0 d1 d2 d3 d4 d5 p3 hlk hwc2
  generalize wc.drewN n5 = u6 at *
  have p3 := cell_of_block HW9.out.p3 0
  obtain ⟨q0, q1, q2, q3, q4, qf⟩ := HW9.out.ci.load
  obtain ⟨d0, d1, d2, d3, d4, d5, -⟩ := six HW9.out.p4
  simp only [List.getElem?_toArray, List.getElem?_cons_zero] at p3 q0 q1 q2 q3 q4
  have hlf := HW9.out.ci.lookF hs
  go_quiet (fail)
  go_upto_region 11 with (fail)
  have HW10 := Lib.hid (HW9.out.drewN nq)
  clear q0 q1 q2 q3 q4 qf d0 d1 d2 d3 d4 d5 p3 hlf HW9
  generalize u6.drewN nq = u7 at *
  have p3 := cell_of_block HW10.out.p3 0
  obtain ⟨q0, q1, q2, q3, q4, qf⟩ := HW10.out.ci.load
  obtain ⟨d0, d1, d2, d3, d4, d5, -⟩ := six HW10.out.p4
  simp only [List.getElem?_toArray, List.getElem?_cons_zero] at p3 q0 q1 q2 q3 q4
  obtain ⟨bq, hbq⟩ : ∃ b, b = (Maps.has C0.free (keyL nm) && decide (C0.freeAt nm ≠ (F.args.length : Int))) := ⟨_, rfl⟩
  have HBQ := Lib.hid hbq
  have HFB := Lib.hid (show freeB nm F.args.length C0 = { C0 with free := C0.free.put (keyL nm) (.lit (.int .i64 F.args.length)), bad := bq } from by unfold freeB; rw [HC0.out.1, Bool.false_or, ← hbq])
  clear hbq
  generalize Maps.has C0.free (keyL nm) = hs1 at *
  generalize C0.freeAt nm = fa at *
  go_cut [7, 8, 94] from 14 (fun _ _ s94 wx => s94 = .bool bq ∧ wx = u7)
  case first =>
    go_wp2
    all_goals go_meet
    all_goals refine ⟨?_, rfl⟩
    all_goals (rw [HBQ.out]; try simp_all [bne_int])
  case rest =>
    obtain ⟨rfl, rfl⟩ := hcut
    have HW11 : Hid (WkAt w (if bq then wc.setCell ⟨cb, 4, none⟩ (.bool true) else wc) X cb mb fb B n { C0 with bad := bq } No #[.int .i64 0, .int .i64 a, .string nm, .slice a1 m1 c1, .slice a2 F.args.length c2, .slice a3 m3 c3]) := by
      cases bq with
      | true => exact Lib.hid (HW10.out.set (c' := { C0 with bad := true }) (o := 4) (v := .bool true) (block_setCell HW10.out.ci.cell 4 _) rfl rfl HW10.out.ci.cnt)
      | false =>
        have e : ({ C0 with bad := false } : CK) = C0 := by have := HC0.out.1; cases C0; simp only at this; subst this; rfl
        rw [e]
        exact HW10
    cases bq with
    | true =>
      go_upto_region 13 with (fail)
      simp only [if_true] at HW11
      generalize wc.setCell ⟨cb, 4, none⟩ (.bool true) = u8 at *
      clear q0 q1 q2 q3 q4 qf d0 d1 d2 d3 d4 d5 p3 HW10
      have p3 := cell_of_block HW11.out.p3 0
      obtain ⟨q0, q1, q2, q3, q4, qf⟩ := HW11.out.ci.load
      obtain ⟨d0, d1, d2, d3, d4, d5, -⟩ := six HW11.out.p4
      simp only [List.getElem?_toArray, List.getElem?_cons_zero] at p3 q0 q1 q2 q3 q4
      refine wp_region_qt_drew 9 (by kernel_rfl) (by kernel_rfl) ?_
      simp only [List.take_succ_cons, List.take_zero, List.drop_succ_cons, List.drop_zero]
      repeat (first | go_big_quiet_step (fail) | quiet_step (fail))
      refine wpQuiet_nil ?_
      intro w2 hw2
      obtain ⟨n8, rfl⟩ := hw2
      have hwf : (Lit.int .i64 (F.args.length : Int)).wf = true := WalkArith.wf_i64 (by have := HSA.out.2; omega)
      refine wpList_mapUpdate_own (H := Unit) (w := u8.drewN n8) rfl _ _ _ 77 rfl 9 3 law hMI _ fb n C0.free rfl (HW11.out.drewN n8).ci.fre (by have := HW11.out.ci.cnt; unfold maxLen; omega) _ _ (keyL nm) rfl rfl (key_of hs) (.lit (.int .i64 F.args.length)) [] (plainElem_int hInt hwf) ?_
      intro w9 hown9 hgr9
      have HW12 := Lib.hid ((HW11.out.drewN n8).putF hown9 hgr9 (by have := HEN.out; show (n : Int) + 1 ≤ 2 * C0.n; omega))
      clear hown9 hgr9 q0 q1 q2 q3 q4 qf d0 d1 d2 d3 d4 d5 p3 hwf HW11
      have p3 := cell_of_block HW12.out.p3 0
      obtain ⟨d0, d1, d2, d3, d4, d5, -⟩ := six HW12.out.p4
      simp only [List.getElem?_toArray, List.getElem?_cons_zero] at p3
      have HBN := Lib.hid (fun (w' : World) (h : Fr No w w') => binds_any (HF.out.stay h.size (fun b hb hl => h.block b hb hl) (fun _ hq _ => hq)))
      have hbf : bindsB F = (eb, 0, false) := by unfold bindsB; rw [H00.out]; rfl
      rw [hbf] at HBN
      clear hbf
      simp only at HBN
      go_upto_region 18 with (go_at_call 92; refine (HBN.out _ HW12.out.fr).mono ?_; rintro e w10 ⟨rfl, hb10⟩)
      have hkl := kids_len HF.out.kids_of.1
      obtain rfl : m3 = 0 := by rw [hkl.1, HSA.out.1]; rfl
      have HL := Lib.hid ((HW12.out.below hb10).name eb)
      generalize (w10.alloc (Obj.cells #[Value.string eb] 9)) = u10 at *
      generalize w10.heap.size = Y at *
      clear d0 d1 d2 d3 d4 d5 p3 hb10 w10 hkl HW12 HBN
      have p3 := cell_of_block HL.out.p3 0
      obtain ⟨d0, d1, d2, d3, d4, d5, -⟩ := six HL.out.p4
      simp only [List.getElem?_toArray, List.getElem?_cons_zero] at p3
      go_wp2
      go_loopg [132] 0 (fun m v wr => ∃ j : Nat, j ≤ 0 ∧ m = 0 - j ∧ v = .int .i64 j ∧ wr = u10)
      case atStart => exact ⟨0, Nat.le_refl _, rfl, rfl, rfl⟩
      case round =>
        obtain ⟨j, hj, rfl, rfl, rfl⟩ := hrel
        obtain rfl : j = 0 := by omega
        go_upto_region 24 with (fail)
        go_quiet (fail)
        go_wp2
        have HLE := Lib.hid (HL.out.below (below_drewN (Below.refl _ _) nq))
        refine ⟨_, results_none rfl _ _ _, rfl, n + 1, ?_⟩
        rw [HWB.out, HFB.out]
        exact ⟨HLE.out.ci.mono fun b hb => .inl hb, by have := HEN.out; simp only; omega, HLE.out.fr⟩
    | false =>
      go_upto_region 13 with (fail)
      simp only [Bool.false_eq_true, if_false] at HW11
      generalize wc = u8 at *
      clear q0 q1 q2 q3 q4 qf d0 d1 d2 d3 d4 d5 p3 HW10
      have p3 := cell_of_block HW11.out.p3 0
      obtain ⟨q0, q1, q2, q3, q4, qf⟩ := HW11.out.ci.load
      obtain ⟨d0, d1, d2, d3, d4, d5, -⟩ := six HW11.out.p4
      simp only [List.getElem?_toArray, List.getElem?_cons_zero] at p3 q0 q1 q2 q3 q4
      refine wp_region_qt_drew 9 (by kernel_rfl) (by kernel_rfl) ?_
      simp only [List.take_succ_cons, List.take_zero, List.drop_succ_cons, List.drop_zero]
      repeat (first | go_big_quiet_step (fail) | quiet_step (fail))
      refine wpQuiet_nil ?_
      intro w2 hw2
      obtain ⟨n8, rfl⟩ := hw2
      have hwf : (Lit.int .i64 (F.args.length : Int)).wf = true := WalkArith.wf_i64 (by have := HSA.out.2; omega)
      refine wpList_mapUpdate_own (H := Unit) (w := u8.drewN n8) rfl _ _ _ 77 rfl 9 3 law hMI _ fb n C0.free rfl (HW11.out.drewN n8).ci.fre (by have := HW11.out.ci.cnt; unfold maxLen; omega) _ _ (keyL nm) rfl rfl (key_of hs) (.lit (.int .i64 F.args.length)) [] (plainElem_int hInt hwf) ?_
      intro w9 hown9 hgr9
      have HW12 := Lib.hid ((HW11.out.drewN n8).putF hown9 hgr9 (by have := HEN.out; show (n : Int) + 1 ≤ 2 * C0.n; omega))
      clear hown9 hgr9 q0 q1 q2 q3 q4 qf d0 d1 d2 d3 d4 d5 p3 hwf HW11
      have p3 := cell_of_block HW12.out.p3 0
      obtain ⟨d0, d1, d2, d3, d4, d5, -⟩ := six HW12.out.p4
      simp only [List.getElem?_toArray, List.getElem?_cons_zero] at p3
      have HBN := Lib.hid (fun (w' : World) (h : Fr No w w') => binds_any (HF.out.stay h.size (fun b hb hl => h.block b hb hl) (fun _ hq _ => hq)))
      have hbf : bindsB F = (eb, 0, false) := by unfold bindsB; rw [H00.out]; rfl
      rw [hbf] at HBN
      clear hbf
      simp only at HBN
      go_upto_region 18 with (go_at_call 92; refine (HBN.out _ HW12.out.fr).mono ?_; rintro e w10 ⟨rfl, hb10⟩)
      have hkl := kids_len HF.out.kids_of.1
      obtain rfl : m3 = 0 := by rw [hkl.1, HSA.out.1]; rfl
      have HL := Lib.hid ((HW12.out.below hb10).name eb)
      generalize (w10.alloc (Obj.cells #[Value.string eb] 9)) = u10 at *
      generalize w10.heap.size = Y at *
      clear d0 d1 d2 d3 d4 d5 p3 hb10 w10 hkl HW12 HBN
      have p3 := cell_of_block HL.out.p3 0
      obtain ⟨d0, d1, d2, d3, d4, d5, -⟩ := six HL.out.p4
      simp only [List.getElem?_toArray, List.getElem?_cons_zero] at p3
      go_wp2
      go_loopg [132] 0 (fun m v wr => ∃ j : Nat, j ≤ 0 ∧ m = 0 - j ∧ v = .int .i64 j ∧ wr = u10)
      case atStart => exact ⟨0, Nat.le_refl _, rfl, rfl, rfl⟩
      case round =>
        obtain ⟨j, hj, rfl, rfl, rfl⟩ := hrel
        obtain rfl : j = 0 := by omega
        go_upto_region 24 with (fail)
        go_quiet (fail)
        go_wp2
        have HLE := Lib.hid (HL.out.below (below_drewN (Below.refl _ _) nq))
        refine ⟨_, results_none rfl _ _ _, rfl, n + 1, ?_⟩
        rw [HWB.out, HFB.out]
        exact ⟨HLE.out.ci.mono fun b hb => .inl hb, by have := HEN.out; simp only; omega, HLE.out.fr⟩
end Go.Proofs.YtadnnijdbcdkjaaGreatDoor
