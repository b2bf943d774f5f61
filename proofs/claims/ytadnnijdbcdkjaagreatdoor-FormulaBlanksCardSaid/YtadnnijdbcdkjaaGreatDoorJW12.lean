/-
  Contract of the reader's method formula, word by word: not, some, all. Conditions: as in the texts before.
-/
import Derived.Test.YtadnnijdbcdkjaaGreatDoorJF
namespace Go.Proofs.YtadnnijdbcdkjaaGreatDoor
open Go.RowKit


theorem RKids.one' {w : World} {Q Q' : Nat → Prop} {c0 c1 c2 c3 c4 c5 : Value} {F : Form} (n : Nat) (hn : w.heap.size = n) (h : RForm w Q (.agg #[c0, c1, c2, c3, c4, c5]) F) (hq : ∀ b, Q b → b < w.heap.size → Q' b) (hQ : Q' w.heap.size) :
    RKids (w.alloc (.cells #[c0, c1, c2, c3, c4, c5] 31)) Q' (.slice (some ⟨n, 0, none⟩) 1 1) [F] := by
  subst hn; exact RKids.one h hq hQ

set_option maxHeartbeats 1600000 in
set_option maxRecDepth 100000 in
theorem f_not {w : World} {rb : Nat} {s : ByteArray} {r : RS} (n : Nat) (ih : SF n) (h : Pre w rb s r) (hk : r.kind = 119) (hw : r.text = ⟨#[110, 111, 116]⟩)
    (hne : ((needP s ⟨#[40]⟩ (stepR s r.pos)).bind fun _ r => (formulaP s n r).bind fun f r => (needP s ⟨#[41]⟩ r).bind fun _ r => Res.ok (Form.mk 3 0 eb [] [] [f]) r) ≠ .out) :
    Calls Tryz.prog 47 #[.pointer (some ⟨rb, 0, none⟩)] w (PostR ((needP s ⟨#[40]⟩ (stepR s r.pos)).bind fun _ r => (formulaP s n r).bind fun f r => (needP s ⟨#[41]⟩ r).bind fun _ r => .ok (.mk 3 0 eb [] [] [f]) r) w rb s (NewForm w.heap.size)) := by
  have HP := Lib.hid h
  have hlt := h.rd.lt
  have hk' : (r.kind == 110) = false := by rw [hk]; rfl
  have HK := Lib.hid hk
  have c2 := h.rd.c2
  have HO1 := Lib.hid (stepR_ok h.ok.pos).1
  clear h hk
  have IH := Lib.hid ih
  clear ih
  -- the opening bracket: no, then yes
  cases hb : isB (stepR s r.pos) ⟨#[40]⟩ with
  | false =>
    have e1 : needP s ⟨#[40]⟩ (stepR s r.pos) = .err (stepR s r.pos).at_ := by unfold needP; rw [if_neg (by rw [hb]; simp)]
    rw [e1]
    simp only [Res.bind_err]
    have HBR := Lib.hid hb
    clear hb e1 hne
    go_enter Tryz.func47, Tryz.ntmps47
    go_wp2_with fail
    refine (take_ok (HP.out.alloc _) 119 HK.out).mono ?_; rintro e w1 ⟨rfl, ht1⟩
    have HP1 := Lib.hid ((HP.out.alloc _).to ht1.out HO1.out)
    have HB1 := Lib.hid (ht1.out.keep.block_of (block_alloc_new w _) (by omega))
    have HT1 := Lib.hid ht1.out.new
    have hz1 := HT1.out.keep.size
    have hzw := block_lt HB1.out
    clear ht1 c2
    go_wp2_with fail
    refine (need_no (HP1.out.alloc _) ⟨#[40]⟩ _ (cell_one_new _ _ _ 0 _ rfl) HBR.out).mono ?_; rintro e w2 ⟨rfl, hkp⟩
    go_wp2
    exact ⟨rfl, rfl, HT1.out.keep.trans hkp.out.new⟩
  | true =>
    have e1 : needP s ⟨#[40]⟩ (stepR s r.pos) = .ok () (stepR s (stepR s r.pos).pos) := by unfold needP; rw [if_pos hb]
    rw [e1] at hne ⊢
    simp only [Res.bind_ok] at hne ⊢
    have HBR := Lib.hid hb
    have HO2 := Lib.hid (stepR_ok HO1.out.pos).1
    clear hb e1
    cases hf : formulaP s n (stepR s (stepR s r.pos).pos) with
    | out => rw [hf] at hne; exact absurd rfl hne
    | err i =>
      simp only [Res.bind_err]
      have HF := Lib.hid hf
      clear hf hne
      go_enter Tryz.func47, Tryz.ntmps47
      go_wp2_with fail
      refine (take_ok (HP.out.alloc _) 119 HK.out).mono ?_; rintro e w1 ⟨rfl, ht1⟩
      have HP1 := Lib.hid ((HP.out.alloc _).to ht1.out HO1.out)
      have HB1 := Lib.hid (ht1.out.keep.block_of (block_alloc_new w _) (by omega))
      have HT1 := Lib.hid ht1.out.new
      have hz1 := HT1.out.keep.size
      have hzw := block_lt HB1.out
      clear ht1 c2
      go_wp2_with fail
      refine (need_ok (HP1.out.alloc _) ⟨#[40]⟩ _ (cell_one_new _ _ _ 0 _ rfl) HBR.out).mono ?_; rintro e w2 ⟨rfl, ht2⟩
      have HP2 := Lib.hid ((HP1.out.alloc _).to ht2.out HO2.out)
      have HT2 := Lib.hid (HT1.out.trans ht2.out.new)
      have HB2 := Lib.hid (ht2.out.new.keep.block_of HB1.out (by omega))
      have hz2 := ht2.out.new.keep.size
      clear ht2
      go_wp2_with fail
      refine (IH.out w2 rb s _ HP2.out (by rw [HF.out]; simp)).mono ?_; intro e w3 hp3; rw [HF.out] at hp3; obtain ⟨rfl, hkp⟩ := hp3
      have HKP := Lib.hid hkp
      clear hkp
      go_wp2
      exact ⟨rfl, rfl, HT2.out.keep.trans HKP.out⟩
    | ok F r3 =>
      simp only [Res.bind_ok]
      have HF := Lib.hid hf
      clear hf hne
      cases hk2 : isB r3 ⟨#[41]⟩ with
      | false =>
        have e2 : needP s ⟨#[41]⟩ r3 = .err r3.at_ := by unfold needP; rw [if_neg (by rw [hk2]; simp)]
        rw [e2]
        simp only [Res.bind_err]
        have HK2 := Lib.hid hk2
        clear e2 hk2
        go_enter Tryz.func47, Tryz.ntmps47
        go_wp2_with fail
        refine (take_ok (HP.out.alloc _) 119 HK.out).mono ?_; rintro e w1 ⟨rfl, ht1⟩
        have HP1 := Lib.hid ((HP.out.alloc _).to ht1.out HO1.out)
        have HB1 := Lib.hid (ht1.out.keep.block_of (block_alloc_new w _) (by omega))
        have HT1 := Lib.hid ht1.out.new
        have hz1 := HT1.out.keep.size
        have hzw := block_lt HB1.out
        clear ht1 c2
        go_wp2_with fail
        refine (need_ok (HP1.out.alloc _) ⟨#[40]⟩ _ (cell_one_new _ _ _ 0 _ rfl) HBR.out).mono ?_; rintro e w2 ⟨rfl, ht2⟩
        have HP2 := Lib.hid ((HP1.out.alloc _).to ht2.out HO2.out)
        have HT2 := Lib.hid (HT1.out.trans ht2.out.new)
        have HB2 := Lib.hid (ht2.out.new.keep.block_of HB1.out (by omega))
        have hz2 := ht2.out.new.keep.size
        clear ht2
        go_wp2_with fail
        refine (IH.out w2 rb s _ HP2.out (by rw [HF.out]; simp)).mono ?_; intro e w3 hp3; rw [HF.out] at hp3; obtain ⟨v, rfl, hform, ht3, ho3⟩ := hp3
        obtain ⟨k, a, nm, a1, n1, c1, a2, n2, c2, a3, n3, c3, rfl⟩ := form_shape hform
        have HP3 := Lib.hid (HP2.out.to ht3 ho3)
        have HB3 := Lib.hid (ht3.keep.block_of HB2.out (by omega))
        have HX := Lib.hid (And.intro hform (And.intro ht3 ho3))
        have hz3 := ht3.keep.size
        clear hform ht3 ho3
        go_wp2_with fail
        refine (need_no (HP3.out.alloc _ |>.alloc _) ⟨#[41]⟩ _ (cell_new2 _ _ _ _) HK2.out).mono ?_; rintro e w4 ⟨rfl, hkp⟩
        go_wp2
        exact ⟨rfl, rfl, (HT2.out.keep.trans HX.out.2.1.keep).trans hkp.out.new.new⟩
      | true =>
        have e2 : needP s ⟨#[41]⟩ r3 = .ok () (stepR s r3.pos) := by unfold needP; rw [if_pos hk2]
        rw [e2]
        simp only [Res.bind_ok]
        have HK2 := Lib.hid hk2
        clear e2 hk2
        go_enter Tryz.func47, Tryz.ntmps47
        go_wp2_with fail
        refine (take_ok (HP.out.alloc _) 119 HK.out).mono ?_; rintro e w1 ⟨rfl, ht1⟩
        have HP1 := Lib.hid ((HP.out.alloc _).to ht1.out HO1.out)
        have HB1 := Lib.hid (ht1.out.keep.block_of (block_alloc_new w _) (by omega))
        have HT1 := Lib.hid ht1.out.new
        have hz1 := HT1.out.keep.size
        have hzw := block_lt HB1.out
        clear ht1 c2
        go_wp2_with fail
        refine (need_ok (HP1.out.alloc _) ⟨#[40]⟩ _ (cell_one_new _ _ _ 0 _ rfl) HBR.out).mono ?_; rintro e w2 ⟨rfl, ht2⟩
        have HP2 := Lib.hid ((HP1.out.alloc _).to ht2.out HO2.out)
        have HT2 := Lib.hid (HT1.out.trans ht2.out.new)
        have HB2 := Lib.hid (ht2.out.new.keep.block_of HB1.out (by omega))
        have hz2 := ht2.out.new.keep.size
        clear ht2
        go_wp2_with fail
        refine (IH.out w2 rb s _ HP2.out (by rw [HF.out]; simp)).mono ?_; intro e w3 hp3; rw [HF.out] at hp3; obtain ⟨v, rfl, hform, ht3, ho3⟩ := hp3
        obtain ⟨k, a, nm, a1, n1, c1, a2, n2, c2, a3, n3, c3, rfl⟩ := form_shape hform
        have HP3 := Lib.hid (HP2.out.to ht3 ho3)
        have HB3 := Lib.hid (ht3.keep.block_of HB2.out (by omega))
        have HX := Lib.hid (And.intro hform (And.intro ht3 ho3))
        have hz3 := ht3.keep.size
        clear hform ht3 ho3
        go_wp2_with fail
        refine (need_ok (HP3.out.alloc _ |>.alloc _) ⟨#[41]⟩ _ (cell_new2 _ _ _ _) HK2.out).mono ?_; rintro e w4 ⟨rfl, ht4⟩
        have HB5 := Lib.hid (ht4.out.keep.block_of (block_alloc_old (block_alloc_new w3 _) _) (by have := HP3.out.rd.lt; omega))
        have HT4 := Lib.hid ht4.out.new.new
        have HB4 := Lib.hid (HT4.out.keep.block_of HB3.out (by omega))
        have hz4 := HT4.out.keep.size
        have hz5 := block_lt HB4.out
        clear ht4
        obtain ⟨d0, d1, d2, d3, d4, d5, df⟩ := six HB4.out
        obtain ⟨g0, g1, g2, g3, g4, g5, gf⟩ := six HB5.out
        go_wp2
        refine bodyPost_form rfl rfl (block_alloc_old (set6 HB4.out) _) rfl ?_
        obtain ⟨hform, ht3, ho3⟩ := HX.out
        refine ⟨_, rfl, RForm.of_kids 3 0 eb (RStrs.nil _ _) (RStrs.nil _ _) (RKids.one' _ (by simp) ((hform.stay hz4 (fun b hb hlt2 => HT4.out.keep.block b hlt2 ?_) (fun b hb _ => hb)).stay (by simp) (fun b hb _ => set6_other ?_) (fun b hb _ => hb)) (fun b hb _ => ?_) ?_), (((HT2.out.trans ht3).trans HT4.out).set6 (Nat.le_refl _) hlt _ _ _ _ _ _).alloc _, (stepR_ok HP3.out.ok.pos).1⟩
        · unfold New at hb; omega
        · unfold New at hb; omega
        · unfold New at *; omega
        · unfold New; simp; omega
end Go.Proofs.YtadnnijdbcdkjaaGreatDoor
