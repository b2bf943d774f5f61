/-
  The checker's walk at atoms whose relation is bound. Conditions: as in the text before.
-/
import Derived.Test.YtadnnijdbcdkjaaGreatDoorJW27
namespace Go.Proofs.YtadnnijdbcdkjaaGreatDoor
open Go.RowKit Go.ChangeShapes Go.Maps Go.MapKept Go.WideShapes

theorem okF_name {F : Form} (h : okF F) : F.name.size ≤ maxLen := by
  cases F with
  | mk k a n vars args kids => exact h.1
set_option maxRecDepth 100000 in
set_option maxHeartbeats 2000000 in
theorem walk_bound
  {F : Form} (ih : ∀ G ∈ F.kids, SW G) {w : World} {v : Value} {cb mb fb B n : Nat} {c : CK} {No : Nat → Prop} {level : Int} (h : CI w cb mb fb B n c No) (hbad : c.bad = false) (hcn4 : c.n ≤ 4000) (hF : RForm w No v F) (hok : okF F) (hl0 : 0 ≤ level) (hl1 : level ≤ 61) (hmap : IsMap c.bound)
    (hB : (decide (4000 < c.n + 1) || decide (60 < level) || !shapedB F) = false) (h0 : F.kind = 0) (hbn : c.boundAt F.name ≠ []) :
    Calls Tryz.prog 87 #[.pointer (some ⟨cb, 0, none⟩), v, .int .i64 level] w fun e w' => e = .returned (.tuple #[]) ∧ Walked w w' cb mb fb B n c (walkB F level c) No := by
  have HB := Lib.hid hB
  have H00 := Lib.hid h0
  have HBN := Lib.hid hbn
  clear hB h0 hbn
  have hmf : ∀ (fn : Fn) (first cap : Array Value) (w : World), (Instr.makeFunc fn first cap).run Tryz.prog w = .ok (.func fn first cap) w := fun _ _ _ _ => rfl
  obtain ⟨k, a, nm, a1, m1, c1, a2, m2, c2, a3, m3, c3, rfl⟩ := form_shape hF
  have HI := Lib.hid ih
  have HF := Lib.hid hF
  have HOK := Lib.hid hok
  have HM := Lib.hid hmap
  have H0 := Lib.hid h
  have HS := Lib.hid (WkAt.start h #[.int .i64 k, .int .i64 a, .string nm, .slice a1 m1 c1, .slice a2 m2 c2, .slice a3 m3 c3])
  clear ih hF hok hmap h
  go_enter_defers Tryz.func87, Tryz.ntmps87
  go_upto_region 1 with (fail)
  generalize ((w.alloc (Obj.cells #[Value.pointer (some { block := cb, off := 0 })] 80)).alloc (Obj.cells #[Value.int IntKind.i64 k, Value.int IntKind.i64 a, Value.string nm, Value.slice a1 m1 c1, Value.slice a2 m2 c2, Value.slice a3 m3 c3] 31)) = u1 at *
  generalize w.heap.size = X at *
  have hcn := HS.out.ci.cnt
  have hw1 : wrap64 (c.n + 1) = c.n + 1 := by unfold wrap64; omega
  have p3 := cell_of_block HS.out.p3 0
  obtain ⟨q0, q1, q2, q3, q4, qf⟩ := HS.out.ci.load
  simp only [List.getElem?_toArray, List.getElem?_cons_zero] at p3
  go_upto_region 2 with (fail)
  have HS1 := Lib.hid (HS.out.set (c' := { c with n := c.n + 1 }) (o := 0) (v := .int .i64 (c.n + 1)) (block_setCell HS.out.ci.cell 0 _) rfl rfl ⟨by simp only; omega, by simp only; omega, by simp only; omega⟩)
  generalize u1.setCell ⟨cb, 0, none⟩ (.int .i64 (c.n + 1)) = u2 at *
  clear q0 q1 q2 q3 q4 qf p3 HS hw1 u1
  have p3 := cell_of_block HS1.out.p3 0
  obtain ⟨q0, q1, q2, q3, q4, qf⟩ := HS1.out.ci.load
  simp only [List.getElem?_toArray, List.getElem?_cons_zero] at p3 q0 q1 q2 q3 q4
  refine wp_region_qt_drew 7 (by kernel_rfl) (by kernel_rfl) ?_
  simp only [List.take_succ_cons, List.take_zero, List.drop_succ_cons, List.drop_zero]
  repeat (first | go_big_quiet_step (fail) | quiet_step (fail))
  refine wpQuiet_nil ?_
  intro w2 hw2
  obtain ⟨n2, rfl⟩ := hw2
  go_upto_region 3 with (fail)
  have HS2 := Lib.hid ((HS1.out.drewN n2).set (c' := { c with n := c.n + 1, deep := max c.deep level }) (o := 1) (v := .int .i64 (max c.deep level)) (block_setCell (HS1.out.drewN n2).ci.cell 1 _) rfl rfl ⟨by simp only; omega, by simp only; omega, by simp only; omega⟩)
  generalize (u2.drewN n2).setCell ⟨cb, 1, none⟩ (.int .i64 (max c.deep level)) = u3 at *
  clear q0 q1 q2 q3 q4 qf p3 HS1 u2
  have p3 := cell_of_block HS2.out.p3 0
  obtain ⟨q0, q1, q2, q3, q4, qf⟩ := HS2.out.ci.load
  obtain ⟨d0, d1, d2, d3, d4, d5, -⟩ := six HS2.out.p4
  simp only [List.getElem?_toArray, List.getElem?_cons_zero] at p3 q0 q1 q2 q3 q4
  have HSH := Lib.hid (fun (w' : World) (h : Fr No w w') => shaped_any (HF.out.stay h.size (fun b hb hl => h.block b hb hl) (fun _ hq _ => hq)) HOK.out)
  obtain ⟨bad1, hbad1⟩ : ∃ b, b = (decide (4000 < c.n + 1) || decide (60 < level) || !shapedB F) := ⟨_, rfl⟩
  have HB1 := Lib.hid hbad1
  clear hbad1
  generalize hshp : shapedB F = shp at *
  go_cut [43] from 14 (fun s43 wx => s43 = .bool bad1 ∧ Hid (WkAt w wx X cb mb fb B n { c with n := c.n + 1, deep := max c.deep level } No #[.int .i64 k, .int .i64 a, .string nm, .slice a1 m1 c1, .slice a2 m2 c2, .slice a3 m3 c3]))
  case first =>
    go_wp2_with (go_at_call 107; refine (HSH.out _ HS2.out.fr).mono ?_; rintro e w2 ⟨rfl, hb2⟩)
    all_goals go_meet
    all_goals refine ⟨?_, by first | exact HS2 | exact Lib.hid (HS2.out.below hb2)⟩
    all_goals (rw [HB1.out]; try simp_all)
  obtain ⟨rfl, hwc⟩ := hcut
  clear q0 q1 q2 q3 q4 qf d0 d1 d2 d3 d4 d5 p3 HS2 HSH
  have hbad1 := HB1.out
  have HE := Lib.hid (enterB_eq (F := F) (level := level) (b := bad1) hbad (by rw [hshp]; exact hbad1))
  have p3 := cell_of_block hwc.out.p3 0
  obtain ⟨q0, q1, q2, q3, q4, qf⟩ := hwc.out.ci.load
  obtain ⟨d0, d1, d2, d3, d4, d5, -⟩ := six hwc.out.p4
  simp only [List.getElem?_toArray, List.getElem?_cons_zero] at p3 q0 q1 q2 q3 q4
  clear hbad1
  have hb1 : bad1 = false := by rw [HB1.out]; exact HB.out
  subst hb1
  have he : ({ c with n := c.n + 1, deep := max c.deep level } : CK) = enterB F level c := by rw [HE.out]; simp [hbad]
  have hwc2 := hwc
  rw [he] at hwc2
  have HC0 := Lib.hid (show (enterB F level c).bad = false ∧ (enterB F level c).n ≤ 4000 ∧ IsMap (enterB F level c).bound from ⟨by rw [HE.out], by rw [HE.out]; have := HB.out; simp only [Bool.or_eq_false_iff, decide_eq_false_iff_not] at this; simp only; omega, HM.out⟩)
  have HEN := Lib.hid (show (enterB F level c).n = c.n + 1 from rfl)
  have HWB := Lib.hid (show walkB F level c = { enterB F level c with bad := decide (((enterB F level c).boundAt F.name).getLast? ≠ some (F.args.length : Int)) } from by rw [walkB_eq, if_neg (by rw [HC0.out.1]; simp), if_pos H00.out, if_pos (show (enterB F level c).boundAt F.name ≠ [] from HBN.out)])
  have hnm : F.name = nm := HF.out.kids_of.2.2.2.2.2
  have h0 : k = 0 := by have := HF.out.kids_of.2.2.2.1; have := H00.out; omega
  have hal : m2 = F.args.length := (strs_len HF.out.kids_of.2.2.1).1
  subst h0
  have hs := okF_name HOK.out
  rw [hnm] at hs HWB
  have HBN' := Lib.hid (show (enterB F level c).boundAt nm ≠ [] from by rw [← hnm]; exact HBN.out)
  clear hwc he HE HBN
  generalize enterB F level c = C0 at *
  obtain ⟨v5, zs, hlk, hzs, hoi, hzl, -, -⟩ := hwc2.out.ci.lookG hs
  obtain ⟨ys, z, rfl⟩ : ∃ ys z, zs = ys ++ [z] := ⟨zs.dropLast, zs.getLast (by rw [← hzs]; exact HBN'.out), (List.dropLast_concat_getLast _).symm⟩
  obtain ⟨g, cap, rfl, h1, h2, hcz, -⟩ := ints_cons hoi
  have HZ := Lib.hid hzs
  clear hoi hzl hzs
  go_upto_region 7 with (fail)
  refine wp_region_qt_drew 7 (by kernel_rfl) (by kernel_rfl) ?_
  simp only [List.take_succ_cons, List.take_zero, List.drop_succ_cons, List.drop_zero]
  repeat (first | go_big_quiet_step (fail) | quiet_step (fail))
  refine wpQuiet_nil ?_
  intro w2 hw2
  obtain ⟨n5, rfl⟩ := hw2
  have hy0 : (0 : Int) < (ys.length : Int) + 1 := by omega
  go_upto_region 9 with (fail)
  have HW9 := Lib.hid (hwc2.out.drewN n5)
  have hcz' : (wc.drewN n5).cell? ⟨g, ys.length, none⟩ = some (.int .i64 z) := hcz
  clear q0 q1 q2 q3 q4 qf d0 d1 d2 d3 d4 d5 p3 hcz hlk hwc2
  generalize wc.drewN n5 = u6 at *
  have p3 := cell_of_block HW9.out.p3 0
  obtain ⟨q0, q1, q2, q3, q4, qf⟩ := HW9.out.ci.load
  obtain ⟨d0, d1, d2, d3, d4, d5, -⟩ := six HW9.out.p4
  simp only [List.getElem?_toArray, List.getElem?_cons_zero] at p3 q0 q1 q2 q3 q4
  have hj0 : (0 : Int) ≤ (ys.length : Int) := by omega
  have hj1 : (ys.length : Int) < (ys.length : Int) + 1 := by omega
  have hw : wrap64 (ys.length : Int) = (ys.length : Int) := by unfold maxLen at h2; unfold wrap64; omega
  refine wp_region_qt_drew 11 (by kernel_rfl) (by kernel_rfl) ?_
  simp only [List.take_succ_cons, List.take_zero, List.drop_succ_cons, List.drop_zero]
  repeat (first | go_big_quiet_step (fail) | quiet_step (fail))
  refine wpQuiet_nil ?_
  intro w2 hw2
  obtain ⟨n6, rfl⟩ := hw2
  have hbq : decide ((C0.boundAt nm).getLast? ≠ some (F.args.length : Int)) = (z != (m2 : Int)) := by
    rw [HZ.out, List.getLast?_concat, ← hal]
    by_cases e : z = (m2 : Int)
    · subst e; simp
    · simp [e]
  rw [hbq] at HWB
  have HQ := Lib.hid (fun b => (HW9.out.drewN n6).set (c' := { C0 with bad := b }) (o := 4) (v := .bool b) (block_setCell (HW9.out.drewN n6).ci.cell 4 _) rfl rfl (HW9.out.ci.cnt))
  clear hbq hw
  subst hal
  go_wp2
  refine ⟨_, results_none rfl _ _ _, rfl, n, ?_⟩
  rw [HWB.out]
  exact ⟨(HQ.out _).ci.mono fun b hb => .inl hb, by have := HEN.out; simp only; omega, (HQ.out _).fr⟩
end Go.Proofs.YtadnnijdbcdkjaaGreatDoor
