/-
  Contract of the checker's function positive. Conditions: the value reads as a formula; wherever a formula of kind 9 stands there is one below it.
-/
import Derived.Test.YtadnnijdbcdkjaaGreatDoorJW22
namespace Go.Proofs.YtadnnijdbcdkjaaGreatDoor
open Go.RowKit

/-- What positive comes to at one formula. -/
def SP (nm : ByteArray) (F : Form) : Prop := ∀ (even : Bool) (w : World) (Q : Nat → Prop) (v : Value), RForm w Q v F → pfpF F →
  Calls Tryz.prog 55 #[v, .string nm, .bool even] w fun e w' => e = .returned (.bool (positiveB nm even F)) ∧ Below w.heap.size w w'

theorem positiveB_eq (nm : ByteArray) (even : Bool) (F : Form) : positiveB nm even F = if F.kind = 0 then decide (F.name ≠ nm) || even else if (bindsB F).2.2 = true ∧ (bindsB F).1 = nm then true
    else if F.kind = 9 then !occursB nm (F.kids.getD 0 default) else F.kids.all (positiveB nm (even != decide (F.kind = 3))) := by
  cases F with
  | mk k a n vars args kids => rw [positiveB, positiveL_eq]; rfl
theorem pfp_kids {F : Form} (h : pfpF F) : (F.kind = 9 → F.kids ≠ []) ∧ ∀ G ∈ F.kids, pfpF G := by
  cases F with
  | mk k a n vars args kids => exact ⟨h.1, pfpL_iff.1 h.2⟩

/-- One of the formulas of a list, its cells written out. -/
theorem kid_sh {w : World} {Q : Nat → Prop} {ka : Option Addr} {n kc : Nat} {l : List Form} (h : RKids w Q (.slice ka n kc) l) {j : Nat} (hj : j < l.length) : ∃ b o k a nm a1 n1 c1 a2 n2 c2 a3 n3 c3, ka = some ⟨b, o, none⟩ ∧
    w.cell? ⟨b, o + j * 6, none⟩ = some (.int .i64 k) ∧ w.cell? ⟨b, o + j * 6 + 1, none⟩ = some (.int .i64 a) ∧ w.cell? ⟨b, o + j * 6 + 2, none⟩ = some (.string nm) ∧ w.cell? ⟨b, o + j * 6 + 3, none⟩ = some (.slice a1 n1 c1) ∧ w.cell? ⟨b, o + j * 6 + 4, none⟩ = some (.slice a2 n2 c2) ∧ w.cell? ⟨b, o + j * 6 + 5, none⟩ = some (.slice a3 n3 c3) ∧
    RForm w Q (.agg #[.int .i64 k, .int .i64 a, .string nm, .slice a1 n1 c1, .slice a2 n2 c2, .slice a3 n3 c3]) (l.getD j default) ∧ b < w.heap.size := by
  obtain ⟨b, o, d0, d1, d2, d3, d4, d5, e, g0, g1, g2, g3, g4, g5, hf, hb⟩ := kid_at h hj
  obtain ⟨k, a, nm, a1, n1, c1, a2, n2, c2, a3, n3, c3, hv⟩ := form_shape hf
  cases hv
  exact ⟨b, o, k, a, nm, a1, n1, c1, a2, n2, c2, a3, n3, c3, e, g0, g1, g2, g3, g4, g5, hf, hb⟩

/-- Where the loop over kids stands. -/
def PosAt (w : World) (l : List Form) (p : Form → Bool) (k : Nat) (v : Value) (wr : World) : Prop :=
  ∃ j : Nat, j ≤ l.length ∧ k = l.length - j ∧ v = .int .i64 j ∧ Below w.heap.size w wr ∧ (l.take j).all p = true

set_option maxRecDepth 100000 in
set_option maxHeartbeats 4000000 in
theorem positive_step {nm : ByteArray} {F : Form} (ih : ∀ G ∈ F.kids, SP nm G) : SP nm F := by
  intro even w Q v h hp
  obtain ⟨k, a, n, a1, n1, c1, a2, n2, c2, a3, n3, c3, rfl⟩ := form_shape h
  obtain ⟨hk, hv, ha, e1, e2, e3⟩ := h.kids_of
  obtain ⟨rfl, hl1, hl2⟩ := kids_len hk
  have HO := Lib.hid (positiveB_eq nm even F)
  rw [e1, e3] at HO
  by_cases h0 : k = 0
  · rw [if_pos h0] at HO
    clear h hk hv ha ih e1 e2 e3 hp
    by_cases hn : n = nm
    · have he : (n.toList == nm.toList) = true := by rw [text_beq, decide_eq_true hn]
      rw [decide_eq_false (fun h => h hn), Bool.false_or] at HO
      clear hn
      go_enter Tryz.func55, Tryz.ntmps55
      go_wp2
      all_goals
        go_ret
        refine ⟨ret_bool ?_, below_one w _⟩
        rw [HO.out]
    · have he : (n.toList == nm.toList) = false := by rw [text_beq, decide_eq_false hn]
      rw [decide_eq_true hn, Bool.true_or] at HO
      clear hn
      go_enter Tryz.func55, Tryz.ntmps55
      go_wp2
      go_ret
      refine ⟨ret_bool ?_, below_one w _⟩
      rw [HO.out]
  · rw [if_neg h0] at HO
    have HF := Lib.hid h
    have HK := Lib.hid hk
    have IH := Lib.hid ih
    have HP := Lib.hid (pfp_kids hp)
    rw [e1] at HP
    have HB := Lib.hid (fun (w : World) (Q : Nat → Prop) (v : Value) (h : RForm w Q v F) => binds_any h)
    clear h hk hv ha ih hp e1 e2 e3
    generalize bindsB F = bb at *
    obtain ⟨bn, ba, bi⟩ := bb
    simp only at HO HB
    cases bi with
    | true =>
      by_cases hb : bn = nm
      · rw [if_pos ⟨rfl, hb⟩] at HO
        have he : (bn.toList == nm.toList) = true := by rw [text_beq, decide_eq_true hb]
        clear hb
        go_enter Tryz.func55, Tryz.ntmps55
        go_wp2_with fail
        refine (HB.out _ _ _ (HF.out.alloc _)).mono ?_; rintro e w1 ⟨rfl, hb1⟩
        have HA := Lib.hid (hb1.block w.heap.size (by simp only [World.size_alloc]; omega) |>.trans (block_alloc_new w _))
        obtain ⟨d0, d1, d2, d3, d4, d5, -⟩ := six HA.out
        have HW := Lib.hid ((below_one w _).trans (hb1.mono (by simp only [World.size_alloc]; omega)))
        have hlt1 : w.heap.size < w1.heap.size := by have := hb1.size; simp only [World.size_alloc] at this; omega
        clear hb1
        go_wp2
        go_ret
        exact ⟨ret_bool HO.out.symm, HW.out⟩
      · rw [if_neg (fun h => hb h.2)] at HO
        have he : (bn.toList == nm.toList) = false := by rw [text_beq, decide_eq_false hb]
        clear hb
        by_cases h9 : k = 9
        · rw [if_pos h9] at HO
          have hk0 : 0 < F.kids.length := by have := HP.out.1 h9; rcases hl : F.kids with _ | ⟨x, y⟩ <;> simp_all
          have hk0' : (0 : Int) < (F.kids.length : Int) := by omega
          subst h9
          go_enter Tryz.func55, Tryz.ntmps55
          go_wp2_with fail
          refine (HB.out _ _ _ (HF.out.alloc _)).mono ?_; rintro e w1 ⟨rfl, hb1⟩
          have HA := Lib.hid (hb1.block w.heap.size (by simp only [World.size_alloc]; omega) |>.trans (block_alloc_new w _))
          obtain ⟨d0, d1, d2, d3, d4, d5, -⟩ := six HA.out
          have HW := Lib.hid ((below_one w _).trans (hb1.mono (by simp only [World.size_alloc]; omega)))
          have hlt1 : w.heap.size < w1.heap.size := by have := hb1.size; simp only [World.size_alloc] at this; omega
          clear hb1
          obtain ⟨b, o, k', x', nm', y1, m1, z1, y2, m2, z2, y3, m3, z3, rfl, g0, g1, g2, g3, g4, g5, hf, hbl⟩ := kid_sh (HK.out.under HW.out) hk0
          simp only [Nat.zero_mul, Nat.add_zero] at g0 g1 g2 g3 g4 g5
          have HF0 := Lib.hid hf
          generalize F.kids.getD 0 default = G0 at *
          clear hf
          go_wp2_with (go_at_call 93; refine (occurs_any nm _ _ _ _ HF0.out).mono ?_; rintro e w2 ⟨rfl, hb2⟩)
          go_ret
          exact ⟨ret_bool HO.out.symm, HW.out.trans (hb2.mono HW.out.size)⟩
        · rw [if_neg h9] at HO
          have e9 : (k == 9) = false := by simp [h9]
          obtain ⟨e3, he3⟩ : ∃ e3 : Bool, (k == 3) = e3 := ⟨_, rfl⟩
          have he3' : decide (k = 3) = e3 := by rw [← he3]; rfl
          rw [he3'] at HO
          clear he3' h9
          go_enter Tryz.func55, Tryz.ntmps55
          go_wp2_with fail
          refine (HB.out _ _ _ (HF.out.alloc _)).mono ?_; rintro e w1 ⟨rfl, hb1⟩
          have HA := Lib.hid (hb1.block w.heap.size (by simp only [World.size_alloc]; omega) |>.trans (block_alloc_new w _))
          obtain ⟨d0, d1, d2, d3, d4, d5, -⟩ := six HA.out
          have HW := Lib.hid ((below_one w _).trans (hb1.mono (by simp only [World.size_alloc]; omega)))
          have hlt1 : w.heap.size < w1.heap.size := by have := hb1.size; simp only [World.size_alloc] at this; omega
          clear hb1
          go_wp2
          go_loopg [47] F.kids.length (fun k i wr => PosAt w1 F.kids (positiveB nm (even != e3)) k i wr)
          case atStart => exact ⟨0, Nat.zero_le _, rfl, rfl, Below.refl _ _, rfl⟩
          case round =>
            obtain ⟨j, hj, rfl, rfl, hbw, hnf⟩ := hrel
            by_cases hjl : j < F.kids.length
            · have hji : (j : Int) < (F.kids.length : Int) := by omega
              have hj0 : (0 : Int) ≤ (j : Int) := by omega
              obtain ⟨b, o, k', x', nm', y1, m1, z1, y2, m2, z2, y3, m3, z3, rfl, g0, g1, g2, g3, g4, g5, hf, hbl⟩ := kid_sh ((HK.out.under HW.out).under hbw) hjl
              have HAr := Lib.hid ((hbw.block w.heap.size hlt1).trans HA.out)
              clear d0 d1 d2 d3 d4 d5
              obtain ⟨d0, d1, d2, d3, d4, d5, -⟩ := six HAr.out
              have HFr := Lib.hid hf
              have HWr := Lib.hid hbw
              have HX := Lib.hid hnf
              have HTK := Lib.hid (take_form hjl)
              have HM := Lib.hid (getD_mem hjl)
              have HI := Lib.hid (IH.out _ (getD_mem hjl) (even != e3))
              have HPr := Lib.hid (HP.out.2 _ (getD_mem hjl))
              clear hf hbw hnf
              generalize F.kids.getD j default = Gj at *
              obtain ⟨q, hq⟩ : ∃ q, positiveB nm (even != e3) Gj = q := ⟨_, rfl⟩
              have hltr : w.heap.size < wr.heap.size := Nat.lt_of_lt_of_le hlt1 HWr.out.size
              rw [hq] at HI
              cases q with
              | false =>
                have HQ := Lib.hid hq
                clear hq
                go_wp2_with (go_at_call 55; refine (HI.out _ _ _ (HFr.out.alloc _) HPr.out).mono ?_; rintro e w2 ⟨rfl, hb2⟩)
                go_ret
                refine ⟨ret_bool ?_, HW.out.trans ((HWr.out.trans ((below_one wr _).trans (hb2.mono (by simp only [World.size_alloc]; omega)) |>.mono HWr.out.size)).mono HW.out.size)⟩
                rw [HO.out, Eq.comm, List.all_eq_false]
                exact ⟨_, HM.out, by rw [HQ.out]; simp⟩
              | true =>
                have HQ := Lib.hid hq
                clear hq
                have hjl' := hjl
                go_wp2_with (go_at_call 55; refine (HI.out _ _ _ (HFr.out.alloc _) HPr.out).mono ?_; rintro e w2 ⟨rfl, hb2⟩)
                go_roundg (F.kids.length - (j + 1))
                case measure => omega
                case rel =>
                  refine ⟨j + 1, hjl', rfl, next_int (show j + 1 ≤ maxLen by omega), HWr.out.trans ((below_one wr _).trans (hb2.mono (by simp only [World.size_alloc]; omega)) |>.mono HWr.out.size), ?_⟩
                  rw [HTK.out, List.all_append, HX.out, List.all_cons, HQ.out]
                  rfl
            · have hji : ¬ (j : Int) < (F.kids.length : Int) := by omega
              have HX := Lib.hid (show F.kids.all (positiveB nm (even != e3)) = true from by rw [← hnf, List.take_of_length_le (by omega)])
              have HWr := Lib.hid hbw
              clear hnf hbw
              go_wp2
              go_ret
              exact ⟨ret_bool (by rw [HO.out, HX.out]), HW.out.trans (HWr.out.mono HW.out.size)⟩
    | false =>
      rw [if_neg (fun h => by cases h.1)] at HO
      by_cases h9 : k = 9
      · rw [if_pos h9] at HO
        have hk0 : 0 < F.kids.length := by have := HP.out.1 h9; rcases hl : F.kids with _ | ⟨x, y⟩ <;> simp_all
        have hk0' : (0 : Int) < (F.kids.length : Int) := by omega
        subst h9
        go_enter Tryz.func55, Tryz.ntmps55
        go_wp2_with fail
        refine (HB.out _ _ _ (HF.out.alloc _)).mono ?_; rintro e w1 ⟨rfl, hb1⟩
        have HA := Lib.hid (hb1.block w.heap.size (by simp only [World.size_alloc]; omega) |>.trans (block_alloc_new w _))
        obtain ⟨d0, d1, d2, d3, d4, d5, -⟩ := six HA.out
        have HW := Lib.hid ((below_one w _).trans (hb1.mono (by simp only [World.size_alloc]; omega)))
        have hlt1 : w.heap.size < w1.heap.size := by have := hb1.size; simp only [World.size_alloc] at this; omega
        clear hb1
        obtain ⟨b, o, k', x', nm', y1, m1, z1, y2, m2, z2, y3, m3, z3, rfl, g0, g1, g2, g3, g4, g5, hf, hbl⟩ := kid_sh (HK.out.under HW.out) hk0
        simp only [Nat.zero_mul, Nat.add_zero] at g0 g1 g2 g3 g4 g5
        have HF0 := Lib.hid hf
        generalize F.kids.getD 0 default = G0 at *
        clear hf
        go_wp2_with (go_at_call 93; refine (occurs_any nm _ _ _ _ HF0.out).mono ?_; rintro e w2 ⟨rfl, hb2⟩)
        go_ret
        exact ⟨ret_bool HO.out.symm, HW.out.trans (hb2.mono HW.out.size)⟩
      · rw [if_neg h9] at HO
        have e9 : (k == 9) = false := by simp [h9]
        obtain ⟨e3, he3⟩ : ∃ e3 : Bool, (k == 3) = e3 := ⟨_, rfl⟩
        have he3' : decide (k = 3) = e3 := by rw [← he3]; rfl
        rw [he3'] at HO
        clear he3' h9
        go_enter Tryz.func55, Tryz.ntmps55
        go_wp2_with fail
        refine (HB.out _ _ _ (HF.out.alloc _)).mono ?_; rintro e w1 ⟨rfl, hb1⟩
        have HA := Lib.hid (hb1.block w.heap.size (by simp only [World.size_alloc]; omega) |>.trans (block_alloc_new w _))
        obtain ⟨d0, d1, d2, d3, d4, d5, -⟩ := six HA.out
        have HW := Lib.hid ((below_one w _).trans (hb1.mono (by simp only [World.size_alloc]; omega)))
        have hlt1 : w.heap.size < w1.heap.size := by have := hb1.size; simp only [World.size_alloc] at this; omega
        clear hb1
        go_wp2
        go_loopg [47] F.kids.length (fun k i wr => PosAt w1 F.kids (positiveB nm (even != e3)) k i wr)
        case atStart => exact ⟨0, Nat.zero_le _, rfl, rfl, Below.refl _ _, rfl⟩
        case round =>
          obtain ⟨j, hj, rfl, rfl, hbw, hnf⟩ := hrel
          by_cases hjl : j < F.kids.length
          · have hji : (j : Int) < (F.kids.length : Int) := by omega
            have hj0 : (0 : Int) ≤ (j : Int) := by omega
            obtain ⟨b, o, k', x', nm', y1, m1, z1, y2, m2, z2, y3, m3, z3, rfl, g0, g1, g2, g3, g4, g5, hf, hbl⟩ := kid_sh ((HK.out.under HW.out).under hbw) hjl
            have HAr := Lib.hid ((hbw.block w.heap.size hlt1).trans HA.out)
            clear d0 d1 d2 d3 d4 d5
            obtain ⟨d0, d1, d2, d3, d4, d5, -⟩ := six HAr.out
            have HFr := Lib.hid hf
            have HWr := Lib.hid hbw
            have HX := Lib.hid hnf
            have HTK := Lib.hid (take_form hjl)
            have HM := Lib.hid (getD_mem hjl)
            have HI := Lib.hid (IH.out _ (getD_mem hjl) (even != e3))
            have HPr := Lib.hid (HP.out.2 _ (getD_mem hjl))
            clear hf hbw hnf
            generalize F.kids.getD j default = Gj at *
            obtain ⟨q, hq⟩ : ∃ q, positiveB nm (even != e3) Gj = q := ⟨_, rfl⟩
            have hltr : w.heap.size < wr.heap.size := Nat.lt_of_lt_of_le hlt1 HWr.out.size
            rw [hq] at HI
            cases q with
            | false =>
              have HQ := Lib.hid hq
              clear hq
              go_wp2_with (go_at_call 55; refine (HI.out _ _ _ (HFr.out.alloc _) HPr.out).mono ?_; rintro e w2 ⟨rfl, hb2⟩)
              go_ret
              refine ⟨ret_bool ?_, HW.out.trans ((HWr.out.trans ((below_one wr _).trans (hb2.mono (by simp only [World.size_alloc]; omega)) |>.mono HWr.out.size)).mono HW.out.size)⟩
              rw [HO.out, Eq.comm, List.all_eq_false]
              exact ⟨_, HM.out, by rw [HQ.out]; simp⟩
            | true =>
              have HQ := Lib.hid hq
              clear hq
              have hjl' := hjl
              go_wp2_with (go_at_call 55; refine (HI.out _ _ _ (HFr.out.alloc _) HPr.out).mono ?_; rintro e w2 ⟨rfl, hb2⟩)
              go_roundg (F.kids.length - (j + 1))
              case measure => omega
              case rel =>
                refine ⟨j + 1, hjl', rfl, next_int (show j + 1 ≤ maxLen by omega), HWr.out.trans ((below_one wr _).trans (hb2.mono (by simp only [World.size_alloc]; omega)) |>.mono HWr.out.size), ?_⟩
                rw [HTK.out, List.all_append, HX.out, List.all_cons, HQ.out]
                rfl
          · have hji : ¬ (j : Int) < (F.kids.length : Int) := by omega
            have HX := Lib.hid (show F.kids.all (positiveB nm (even != e3)) = true from by rw [← hnf, List.take_of_length_le (by omega)])
            have HWr := Lib.hid hbw
            clear hnf hbw
            go_wp2
            go_ret
            exact ⟨ret_bool (by rw [HO.out, HX.out]), HW.out.trans (HWr.out.mono HW.out.size)⟩
theorem positive_any (nm : ByteArray) (F : Form) : SP nm F := form_ind (p := SP nm) (fun _ ih => positive_step ih) _ F (Nat.lt_succ_self _)
end Go.Proofs.YtadnnijdbcdkjaaGreatDoor
