/-
  The checker's walk. Conditions: the value reads as a formula whose names' lengths are lengths.
-/
import Derived.Test.YtadnnijdbcdkjaaGreatDoorJW25
import Derived.Deep.CutRange
namespace Go.Proofs.YtadnnijdbcdkjaaGreatDoor
open Go.RowKit Go.ChangeShapes Go.Maps Go.MapKept Go.WideShapes

/-- The blocks of No and two more. -/
def No2 (No : Nat → Prop) (x y : Nat) (b : Nat) : Prop := No b ∨ b = x ∨ b = y

/-- Where walk stands: its two variables, the checker, the formula. -/
structure WkAt (w0 : World) (w : World) (X cb mb fb B n : Nat) (c : CK) (No : Nat → Prop) (fc : Array Value) : Prop where
  ci : CI w cb mb fb B n c (No2 No X (X + 1))
  p3 : w.heap[X]? = some (.cells #[.pointer (some ⟨cb, 0, none⟩)] 80 (0, 0))
  p4 : w.heap[X + 1]? = some (.cells fc 31 (0, 0))
  fr : Fr No w0 w

theorem WkAt.start {w : World} {cb mb fb B n : Nat} {c : CK} {No : Nat → Prop} (h : CI w cb mb fb B n c No) (fc : Array Value) :
    WkAt w ((w.alloc (.cells #[.pointer (some ⟨cb, 0, none⟩)] 80)).alloc (.cells fc 31)) w.heap.size cb mb fb B n c No fc := by
  have hb1 := below_one w (.cells #[.pointer (some ⟨cb, 0, none⟩)] 80)
  have hb2 := below_alloc hb1 (.cells fc 31) (Nat.le_refl _)
  refine ⟨h.reno (No' := No2 No w.heap.size (w.heap.size + 1)) hb2 ?_, block_alloc_old (block_alloc_new w _) _, ?_, Fr.of_below hb2⟩
  · rintro g (h | h | h)
    · exact .inl h
    · exact .inr ⟨by omega, by simp only [World.size_alloc]; omega⟩
    · exact .inr ⟨by omega, by simp only [World.size_alloc]; omega⟩
  · have := block_alloc_new (w.alloc (.cells #[.pointer (some ⟨cb, 0, none⟩)] 80)) (.cells fc 31)
    rw [World.size_alloc] at this
    exact this
section
variable {w0 w w' : World} {X cb mb fb B n : Nat} {c : CK} {No : Nat → Prop} {fc : Array Value}
theorem WkAt.below (h : WkAt w0 w X cb mb fb B n c No fc) (hb : Below w.heap.size w w') : WkAt w0 w' X cb mb fb B n c No fc :=
  ⟨h.ci.below hb, block_keep h.p3 hb, block_keep h.p4 hb, h.fr.trans (Fr.of_below hb)⟩
theorem WkAt.ncb (h : WkAt w0 w X cb mb fb B n c No fc) : cb ≠ X ∧ cb ≠ X + 1 ∧ ¬ No cb :=
  ⟨fun e => h.ci.off.1 (.inr (.inl e)), fun e => h.ci.off.1 (.inr (.inr e)), fun k => h.ci.off.1 (.inl k)⟩
theorem WkAt.set (h : WkAt w0 w X cb mb fb B n c No fc) {o : Nat} {v : Value} {c' : CK} (h' : (w.setCell ⟨cb, o, none⟩ v).heap[cb]? = some (.cells #[.int .i64 c'.n, .int .i64 c'.deep, .map (some mb), .map (some fb), .bool c'.bad] 79 (0, 0)))
    (eb : c'.bound = c.bound) (ef : c'.free = c.free) (hc : 0 ≤ c'.n ∧ (n : Int) ≤ 2 * c'.n ∧ c'.n ≤ 4001) : WkAt w0 (w.setCell ⟨cb, o, none⟩ v) X cb mb fb B n c' No fc :=
  ⟨h.ci.set h' eb ef hc, (Below.heap_setCell _ _ _ _ (Ne.symm h.ncb.1)).trans h.p3, (Below.heap_setCell _ _ _ _ (Ne.symm h.ncb.2.1)).trans h.p4, h.fr.trans (Fr.setCell _ h.ncb.2.2 _)⟩
theorem WkAt.drewN (h : WkAt w0 w X cb mb fb B n c No fc) (k : Nat) : WkAt w0 (w.drewN k) X cb mb fb B n c No fc := h.below ⟨rfl, rfl, rfl, Nat.le_refl _, fun _ _ => rfl⟩
end

theorem CI.mono {w : World} {cb mb fb B n : Nat} {c : CK} {No No' : Nat → Prop} (h : CI w cb mb fb B n c No) (hn : ∀ b, No' b → No b) : CI w cb mb fb B n c No' :=
  ⟨h.cell, h.grp, h.fre, fun es clock hb x hx g hg hN => h.shun es clock hb x hx g hg (hn g hN), ⟨fun k => h.off.1 (hn _ k), fun k => h.off.2.1 (hn _ k), fun k => h.off.2.2 (hn _ k)⟩, h.low, h.ne, h.cnt, fun b hN => h.nob b (hn b hN)⟩

/-- What a walk leaves: the checker with what was found; no more entries than two a formula. -/
def Walked (w w' : World) (cb mb fb B n : Nat) (c r : CK) (No : Nat → Prop) : Prop := ∃ n', CI w' cb mb fb B n' r No ∧ (n' : Int) + 2 * c.n ≤ n + 2 * r.n ∧ Fr No w w'
/-- What walk comes to at one formula. -/
def SW (F : Form) : Prop := ∀ (w : World) (v : Value) (cb mb fb B n : Nat) (c : CK) (No : Nat → Prop) (level : Int), CI w cb mb fb B n c No → c.bad = false → c.n ≤ 4000 → RForm w No v F → okF F → 0 ≤ level → level ≤ 61 → IsMap c.bound →
  Calls Tryz.prog 87 #[.pointer (some ⟨cb, 0, none⟩), v, .int .i64 level] w fun e w' => e = .returned (.tuple #[]) ∧ Walked w w' cb mb fb B n c (walkB F level c) No

theorem walkB_eq (F : Form) (level : Int) (c : CK) : walkB F level c =
    if (enterB F level c).bad then enterB F level c
    else if F.kind = 0 then
      if (enterB F level c).boundAt F.name ≠ [] then { enterB F level c with bad := decide (((enterB F level c).boundAt F.name).getLast? ≠ some (F.args.length : Int)) }
      else freeB F.name F.args.length (enterB F level c)
    else if (bindsB F).2.2 then (lfpB F.kind F.name F.kids (walksB F.kids level ((enterB F level c).push F.name (bindsB F).2.1))).pop F.name
    else walksB F.kids level (enterB F level c) := by
  cases F with
  | mk k a n vars args kids => rw [walkB]; rfl
theorem enterB_eq {F : Form} {level : Int} {c : CK} (h : c.bad = false) {b : Bool} (hb : b = (decide (4000 < c.n + 1) || decide (60 < level) || !shapedB F)) : enterB F level c = { c with n := c.n + 1, deep := max c.deep level, bad := b } := by
  unfold enterB
  rw [h, Bool.false_or, ← hb]

set_option maxRecDepth 100000 in
set_option maxHeartbeats 2000000 in
theorem walk_bad
  {F : Form} (ih : ∀ G ∈ F.kids, SW G) {w : World} {v : Value} {cb mb fb B n : Nat} {c : CK} {No : Nat → Prop} {level : Int} (h : CI w cb mb fb B n c No) (hbad : c.bad = false) (hcn4 : c.n ≤ 4000) (hF : RForm w No v F) (hok : okF F) (hl0 : 0 ≤ level) (hl1 : level ≤ 61) (hmap : IsMap c.bound)
    (hB : (decide (4000 < c.n + 1) || decide (60 < level) || !shapedB F) = true) :
    Calls Tryz.prog 87 #[.pointer (some ⟨cb, 0, none⟩), v, .int .i64 level] w fun e w' => e = .returned (.tuple #[]) ∧ Walked w w' cb mb fb B n c (walkB F level c) No := by
  have HB := Lib.hid hB
  clear hB
  have hmf : ∀ (fn : Fn) (first cap : Array Value) (w : World), (Instr.makeFunc fn first cap).run Tryz.prog w = .ok (.func fn first cap) w := fun _ _ _ _ => rfl
  obtain ⟨k, a, nm, a1, m1, c1, a2, m2, c2, a3, m3, c3, rfl⟩ := form_shape hF
  have HI := Lib.hid ih
  have HF := Lib.hid hF
  have HOK := Lib.hid hok
  have HM := Lib.hid hmap
  have H0 := Lib.hid h
  have HS := Lib.hid (WkAt.start h #[.int .i64 k, .int .i64 a, .string nm, .slice a1 m1 c1, .slice a2 m2 c2, .slice a3 m3 c3])
  clear ih hF hok hmap h
  go_enter_defers Tryz.func87, Tryz.ntmps87
  go_upto_region 1 with (fail)
  generalize ((w.alloc (Obj.cells #[Value.pointer (some { block := cb, off := 0 })] 80)).alloc (Obj.cells #[Value.int IntKind.i64 k, Value.int IntKind.i64 a, Value.string nm, Value.slice a1 m1 c1, Value.slice a2 m2 c2, Value.slice a3 m3 c3] 31)) = u1 at *
  generalize w.heap.size = X at *
  have hcn := HS.out.ci.cnt
  have hw1 : wrap64 (c.n + 1) = c.n + 1 := by unfold wrap64; omega
  have p3 := cell_of_block HS.out.p3 0
  obtain ⟨q0, q1, q2, q3, q4, qf⟩ := HS.out.ci.load
  simp only [List.getElem?_toArray, List.getElem?_cons_zero] at p3
  go_upto_region 2 with (fail)
  have HS1 := Lib.hid (HS.out.set (c' := { c with n := c.n + 1 }) (o := 0) (v := .int .i64 (c.n + 1)) (block_setCell HS.out.ci.cell 0 _) rfl rfl ⟨by simp only; omega, by simp only; omega, by simp only; omega⟩)
  generalize u1.setCell ⟨cb, 0, none⟩ (.int .i64 (c.n + 1)) = u2 at *
  clear q0 q1 q2 q3 q4 qf p3 HS hw1 u1
  have p3 := cell_of_block HS1.out.p3 0
  obtain ⟨q0, q1, q2, q3, q4, qf⟩ := HS1.out.ci.load
  simp only [List.getElem?_toArray, List.getElem?_cons_zero] at p3 q0 q1 q2 q3 q4
  refine wp_region_qt_drew 7 (by kernel_rfl) (by kernel_rfl) ?_
  simp only [List.take_succ_cons, List.take_zero, List.drop_succ_cons, List.drop_zero]
  repeat (first | go_big_quiet_step (fail) | quiet_step (fail))
  refine wpQuiet_nil ?_
  intro w2 hw2
  obtain ⟨n2, rfl⟩ := hw2
  go_upto_region 3 with (fail)
  have HS2 := Lib.hid ((HS1.out.drewN n2).set (c' := { c with n := c.n + 1, deep := max c.deep level }) (o := 1) (v := .int .i64 (max c.deep level)) (block_setCell (HS1.out.drewN n2).ci.cell 1 _) rfl rfl ⟨by simp only; omega, by simp only; omega, by simp only; omega⟩)
  generalize (u2.drewN n2).setCell ⟨cb, 1, none⟩ (.int .i64 (max c.deep level)) = u3 at *
  clear q0 q1 q2 q3 q4 qf p3 HS1 u2
  have p3 := cell_of_block HS2.out.p3 0
  obtain ⟨q0, q1, q2, q3, q4, qf⟩ := HS2.out.ci.load
  obtain ⟨d0, d1, d2, d3, d4, d5, -⟩ := six HS2.out.p4
  simp only [List.getElem?_toArray, List.getElem?_cons_zero] at p3 q0 q1 q2 q3 q4
  have HSH := Lib.hid (fun (w' : World) (h : Fr No w w') => shaped_any (HF.out.stay h.size (fun b hb hl => h.block b hb hl) (fun _ hq _ => hq)) HOK.out)
  obtain ⟨bad1, hbad1⟩ : ∃ b, b = (decide (4000 < c.n + 1) || decide (60 < level) || !shapedB F) := ⟨_, rfl⟩
  have HB1 := Lib.hid hbad1
  clear hbad1
  generalize hshp : shapedB F = shp at *
  go_cut [43] from 14 (fun s43 wx => s43 = .bool bad1 ∧ Hid (WkAt w wx X cb mb fb B n { c with n := c.n + 1, deep := max c.deep level } No #[.int .i64 k, .int .i64 a, .string nm, .slice a1 m1 c1, .slice a2 m2 c2, .slice a3 m3 c3]))
  case first =>
    go_wp2_with (go_at_call 107; refine (HSH.out _ HS2.out.fr).mono ?_; rintro e w2 ⟨rfl, hb2⟩)
    all_goals go_meet
    all_goals refine ⟨?_, by first | exact HS2 | exact Lib.hid (HS2.out.below hb2)⟩
    all_goals (rw [HB1.out]; try simp_all)
  obtain ⟨rfl, hwc⟩ := hcut
  clear q0 q1 q2 q3 q4 qf d0 d1 d2 d3 d4 d5 p3 HS2 HSH
  have hbad1 := HB1.out
  have HE := Lib.hid (enterB_eq (F := F) (level := level) (b := bad1) hbad (by rw [hshp]; exact hbad1))
  have p3 := cell_of_block hwc.out.p3 0
  obtain ⟨q0, q1, q2, q3, q4, qf⟩ := hwc.out.ci.load
  obtain ⟨d0, d1, d2, d3, d4, d5, -⟩ := six hwc.out.p4
  simp only [List.getElem?_toArray, List.getElem?_cons_zero] at p3 q0 q1 q2 q3 q4
  clear hbad1
  have hb1 : bad1 = true := by rw [HB1.out]; exact HB.out
  subst hb1
  go_upto_region 5 with (fail)
  have HS3 := Lib.hid (hwc.out.set (c' := { c with n := c.n + 1, deep := max c.deep level, bad := true }) (o := 4) (v := .bool true) (block_setCell hwc.out.ci.cell 4 _) rfl rfl ⟨by simp only; omega, by simp only; omega, by simp only; omega⟩)
  generalize wc.setCell ⟨cb, 4, none⟩ (.bool true) = u4 at *
  clear q0 q1 q2 q3 q4 qf d0 d1 d2 d3 d4 d5 p3
  have p3 := cell_of_block HS3.out.p3 0
  obtain ⟨q0, q1, q2, q3, q4, qf⟩ := HS3.out.ci.load
  simp only [List.getElem?_toArray, List.getElem?_cons_zero] at p3 q0 q1 q2 q3 q4
  go_wp2
  refine ⟨_, results_none rfl _ _ _, rfl, n, ?_⟩
  rw [walkB_eq, HE.out, if_pos rfl]
  exact ⟨HS3.out.ci.mono fun b hb => .inl hb, by simp only; omega, HS3.out.fr⟩
end Go.Proofs.YtadnnijdbcdkjaaGreatDoor
