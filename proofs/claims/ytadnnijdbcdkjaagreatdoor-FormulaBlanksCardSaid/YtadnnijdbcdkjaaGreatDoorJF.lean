/-
  Joined texts of one proof: W10, W11. Conditions: none.
-/
import Derived.Test.YtadnnijdbcdkjaaGreatDoorJW9
/-
  Contract of the reader's method formula, word by word. Conditions: as in the texts before.
-/
namespace Go.Proofs.YtadnnijdbcdkjaaGreatDoor
open Go.RowKit


set_option maxHeartbeats 1600000 in
set_option maxRecDepth 100000 in
theorem f_true {w : World} {rb : Nat} {s : ByteArray} {r : RS} (h : Pre w rb s r) (hk : r.kind = 119) (hw : r.text = ⟨#[116, 114, 117, 101]⟩) :
    Calls Tryz.prog 47 #[.pointer (some ⟨rb, 0, none⟩)] w (PostR (.ok (.mk 4 0 eb [] [] []) (stepR s r.pos)) w rb s (NewForm w.heap.size)) := by
  have HP := Lib.hid h
  have hlt := h.rd.lt
  have hk' : (r.kind == 110) = false := by rw [hk]; rfl
  have HK := Lib.hid hk
  have c2 := h.rd.c2
  have HO1 := Lib.hid (stepR_ok h.ok.pos).1
  clear h hk
  go_enter Tryz.func47, Tryz.ntmps47
  go_wp2_with fail
  refine (take_ok (HP.out.alloc _) 119 HK.out).mono ?_; rintro e w1 ⟨rfl, ht1⟩
  have HP1 := Lib.hid ((HP.out.alloc _).to ht1.out HO1.out)
  have HB1 := Lib.hid (ht1.out.keep.block_of (block_alloc_new w _) (by omega))
  have HT1 := Lib.hid ht1.out.new
  have hz1 := HT1.out.keep.size
  have hzw := block_lt HB1.out
  clear ht1 c2
  obtain ⟨d0, d1, d2, d3, d4, d5, df⟩ := six HB1.out
  go_wp2
  refine bodyPost_form rfl rfl (set6 HB1.out) rfl ?_
  exact ⟨_, rfl, RForm.leaf 4 0 eb (RStrs.nil _ _) (RStrs.nil _ _), HT1.out.set6 (Nat.le_refl _) hlt _ _ _ _ _ _, HO1.out⟩

set_option maxHeartbeats 1600000 in
set_option maxRecDepth 100000 in
theorem f_false {w : World} {rb : Nat} {s : ByteArray} {r : RS} (h : Pre w rb s r) (hk : r.kind = 119) (hw : r.text = ⟨#[102, 97, 108, 115, 101]⟩) :
    Calls Tryz.prog 47 #[.pointer (some ⟨rb, 0, none⟩)] w (PostR (.ok (.mk 5 0 eb [] [] []) (stepR s r.pos)) w rb s (NewForm w.heap.size)) := by
  have HP := Lib.hid h
  have hlt := h.rd.lt
  have hk' : (r.kind == 110) = false := by rw [hk]; rfl
  have HK := Lib.hid hk
  have c2 := h.rd.c2
  have HO1 := Lib.hid (stepR_ok h.ok.pos).1
  clear h hk
  go_enter Tryz.func47, Tryz.ntmps47
  go_wp2_with fail
  refine (take_ok (HP.out.alloc _) 119 HK.out).mono ?_; rintro e w1 ⟨rfl, ht1⟩
  have HP1 := Lib.hid ((HP.out.alloc _).to ht1.out HO1.out)
  have HB1 := Lib.hid (ht1.out.keep.block_of (block_alloc_new w _) (by omega))
  have HT1 := Lib.hid ht1.out.new
  have hz1 := HT1.out.keep.size
  have hzw := block_lt HB1.out
  clear ht1 c2
  obtain ⟨d0, d1, d2, d3, d4, d5, df⟩ := six HB1.out
  go_wp2
  refine bodyPost_form rfl rfl (set6 HB1.out) rfl ?_
  exact ⟨_, rfl, RForm.leaf 5 0 eb (RStrs.nil _ _) (RStrs.nil _ _), HT1.out.set6 (Nat.le_refl _) hlt _ _ _ _ _ _, HO1.out⟩

set_option maxHeartbeats 1600000 in
set_option maxRecDepth 100000 in
theorem f_atom {w : World} {rb : Nat} {s : ByteArray} {r : RS} (h : Pre w rb s r) (hk : r.kind = 110) :
    Calls Tryz.prog 47 #[.pointer (some ⟨rb, 0, none⟩)] w (PostR (atomP s r) w rb s (NewForm w.heap.size)) := by
  have HP := Lib.hid h
  have hlt := h.rd.lt
  have hk' : (r.kind == 110) = true := by rw [hk]; rfl
  have c2 := h.rd.c2
  clear h hk
  cases ha : atomP s r with
  | out => exact absurd ha (by
      unfold atomP takeP
      split
      · simp only [Res.bind_ok]
        split
        · cases h : argsP s (stepR s r.pos) with
          | out => exact absurd h (args_ne_out _ _)
          | ok => simp [Res.bind_ok]
          | err => simp [Res.bind_err]
        · split
          · split <;> simp [Res.bind_ok, Res.bind_err]
          · split
            · split <;> simp [Res.bind_ok, Res.bind_err]
            · simp
      · simp [Res.bind_err])
  | err i =>
    have HA := Lib.hid ha
    clear ha
    go_enter Tryz.func47, Tryz.ntmps47
    go_wp2_with fail
    refine (atom_any (HP.out.alloc _)).mono ?_; intro e w2 hp2; rw [HA.out] at hp2; obtain ⟨rfl, hkp⟩ := hp2
    have HKP := Lib.hid hkp
    clear hkp
    go_wp2
    exact ⟨rfl, rfl, HKP.out.new⟩
  | ok F r2 =>
    have HA := Lib.hid ha
    clear ha
    go_enter Tryz.func47, Tryz.ntmps47
    go_wp2_with fail
    refine (atom_any (HP.out.alloc _)).mono ?_; intro e w2 hp2; rw [HA.out] at hp2; obtain ⟨v, rfl, hform, ht2, ho2⟩ := hp2
    obtain ⟨k, a, nm, a1, n1, c1, a2, n2, c2', a3, n3, c3, rfl⟩ := form_shape hform
    have HB2 := Lib.hid (ht2.keep.block_of (block_alloc_new w _) (by omega))
    have HX := Lib.hid (And.intro hform (And.intro ht2 ho2))
    have hz2 := block_lt HB2.out
    clear hform ht2 ho2 c2
    obtain ⟨d0, d1, d2, d3, d4, d5, df⟩ := six HB2.out
    go_wp2
    refine bodyPost_form rfl rfl (set6 HB2.out) rfl ?_
    obtain ⟨hform, ht2, ho2⟩ := HX.out
    refine ⟨_, rfl, hform.stay (by simp) (fun b hb _ => set6_other ?_) (fun b hb _ => ?_), ht2.new.set6 (Nat.le_refl _) hlt _ _ _ _ _ _, ho2⟩
    · unfold New at hb; simp at hb; omega
    · unfold New at *; simp at hb; omega
theorem f_stop {w : World} {rb : Nat} {s : ByteArray} {r : RS} (h : Pre w rb s r) (hk : ¬ r.kind = 110) (hk9 : ¬ r.kind = 119) :
    Calls Tryz.prog 47 #[.pointer (some ⟨rb, 0, none⟩)] w (PostR (.err r.at_) w rb s (NewForm w.heap.size)) := by
  have HP := Lib.hid h
  have hlt := h.rd.lt
  have hk' : (r.kind == 110) = false := by simp [hk]
  have c2 := h.rd.c2
  have HK := Lib.hid hk9
  clear h hk hk9
  go_enter Tryz.func47, Tryz.ntmps47
  go_wp2_with (go_at_call 80; refine (take_no (HP.out.alloc _) 119 HK.out).mono ?_; rintro e w1 ⟨rfl, hkp⟩)
  exact ⟨rfl, rfl, hkp.out.new⟩
end Go.Proofs.YtadnnijdbcdkjaaGreatDoor
/-
  Contract of the reader's method formula, word by word: and, or, not, some, all. Conditions: as in the texts before.
-/
namespace Go.Proofs.YtadnnijdbcdkjaaGreatDoor
open Go.RowKit

set_option maxHeartbeats 1600000 in
set_option maxRecDepth 100000 in
theorem f_and {w : World} {rb : Nat} {s : ByteArray} {r : RS} (n : Nat) (ih : SK n) (h : Pre w rb s r) (hk : r.kind = 119) (hw : r.text = ⟨#[97, 110, 100]⟩)
    (hne : ((needP s ⟨#[40]⟩ (stepR s r.pos)).bind fun _ r => (kidsP s n r).bind fun l r => Res.ok (Form.mk 4 0 eb [] [] l) r) ≠ .out) :
    Calls Tryz.prog 47 #[.pointer (some ⟨rb, 0, none⟩)] w (PostR ((needP s ⟨#[40]⟩ (stepR s r.pos)).bind fun _ r => (kidsP s n r).bind fun l r => .ok (.mk 4 0 eb [] [] l) r) w rb s (NewForm w.heap.size)) := by
  have HP := Lib.hid h
  have hlt := h.rd.lt
  have hk' : (r.kind == 110) = false := by rw [hk]; rfl
  have HK := Lib.hid hk
  have c2 := h.rd.c2
  have HO1 := Lib.hid (stepR_ok h.ok.pos).1
  clear h hk
  have IH := Lib.hid ih
  clear ih
  -- the opening bracket: no, then yes
  cases hb : isB (stepR s r.pos) ⟨#[40]⟩ with
  | false =>
    have e1 : needP s ⟨#[40]⟩ (stepR s r.pos) = .err (stepR s r.pos).at_ := by unfold needP; rw [if_neg (by rw [hb]; simp)]
    rw [e1]
    simp only [Res.bind_err]
    have HBR := Lib.hid hb
    clear hb e1 hne
    go_enter Tryz.func47, Tryz.ntmps47
    go_wp2_with fail
    refine (take_ok (HP.out.alloc _) 119 HK.out).mono ?_; rintro e w1 ⟨rfl, ht1⟩
    have HP1 := Lib.hid ((HP.out.alloc _).to ht1.out HO1.out)
    have HB1 := Lib.hid (ht1.out.keep.block_of (block_alloc_new w _) (by omega))
    have HT1 := Lib.hid ht1.out.new
    have hz1 := HT1.out.keep.size
    have hzw := block_lt HB1.out
    clear ht1 c2
    go_wp2_with fail
    refine (need_no (HP1.out.alloc _) ⟨#[40]⟩ _ (cell_one_new _ _ _ 0 _ rfl) HBR.out).mono ?_; rintro e w2 ⟨rfl, hkp⟩
    go_wp2
    exact ⟨rfl, rfl, HT1.out.keep.trans hkp.out.new⟩
  | true =>
    have e1 : needP s ⟨#[40]⟩ (stepR s r.pos) = .ok () (stepR s (stepR s r.pos).pos) := by unfold needP; rw [if_pos hb]
    rw [e1] at hne ⊢
    simp only [Res.bind_ok] at hne ⊢
    have HBR := Lib.hid hb
    have HO2 := Lib.hid (stepR_ok HO1.out.pos).1
    clear hb e1
    cases hf : kidsP s n (stepR s (stepR s r.pos).pos) with
    | out => rw [hf] at hne; exact absurd rfl hne
    | err i =>
      simp only [Res.bind_err]
      have HF := Lib.hid hf
      clear hf hne
      go_enter Tryz.func47, Tryz.ntmps47
      go_wp2_with fail
      refine (take_ok (HP.out.alloc _) 119 HK.out).mono ?_; rintro e w1 ⟨rfl, ht1⟩
      have HP1 := Lib.hid ((HP.out.alloc _).to ht1.out HO1.out)
      have HB1 := Lib.hid (ht1.out.keep.block_of (block_alloc_new w _) (by omega))
      have HT1 := Lib.hid ht1.out.new
      have hz1 := HT1.out.keep.size
      have hzw := block_lt HB1.out
      clear ht1 c2
      go_wp2_with fail
      refine (need_ok (HP1.out.alloc _) ⟨#[40]⟩ _ (cell_one_new _ _ _ 0 _ rfl) HBR.out).mono ?_; rintro e w2 ⟨rfl, ht2⟩
      have HP2 := Lib.hid ((HP1.out.alloc _).to ht2.out HO2.out)
      have HT2 := Lib.hid (HT1.out.trans ht2.out.new)
      have HB2 := Lib.hid (ht2.out.new.keep.block_of HB1.out (by omega))
      have hz2 := ht2.out.new.keep.size
      clear ht2
      go_wp2_with fail
      refine (IH.out w2 rb s _ HP2.out (by rw [HF.out]; simp)).mono ?_; intro e w3 hp3; rw [HF.out] at hp3; obtain ⟨rfl, hkp⟩ := hp3
      have HKP := Lib.hid hkp
      clear hkp
      go_wp2
      exact ⟨rfl, rfl, HT2.out.keep.trans HKP.out⟩
    | ok l r3 =>
      simp only [Res.bind_ok]
      have HF := Lib.hid hf
      clear hf hne
      go_enter Tryz.func47, Tryz.ntmps47
      go_wp2_with fail
      refine (take_ok (HP.out.alloc _) 119 HK.out).mono ?_; rintro e w1 ⟨rfl, ht1⟩
      have HP1 := Lib.hid ((HP.out.alloc _).to ht1.out HO1.out)
      have HB1 := Lib.hid (ht1.out.keep.block_of (block_alloc_new w _) (by omega))
      have HT1 := Lib.hid ht1.out.new
      have hz1 := HT1.out.keep.size
      have hzw := block_lt HB1.out
      clear ht1 c2
      go_wp2_with fail
      refine (need_ok (HP1.out.alloc _) ⟨#[40]⟩ _ (cell_one_new _ _ _ 0 _ rfl) HBR.out).mono ?_; rintro e w2 ⟨rfl, ht2⟩
      have HP2 := Lib.hid ((HP1.out.alloc _).to ht2.out HO2.out)
      have HT2 := Lib.hid (HT1.out.trans ht2.out.new)
      have HB2 := Lib.hid (ht2.out.new.keep.block_of HB1.out (by omega))
      have hz2 := ht2.out.new.keep.size
      clear ht2
      go_wp2_with fail
      refine (IH.out w2 rb s _ HP2.out (by rw [HF.out]; simp)).mono ?_; intro e w3 hp3; rw [HF.out] at hp3; obtain ⟨v, rfl, hkids, ht3, ho3⟩ := hp3
      obtain ⟨va, vn, vc, rfl⟩ := kids_shape hkids
      have HB3 := Lib.hid (ht3.keep.block_of HB2.out (by omega))
      have HX := Lib.hid (And.intro hkids (And.intro ht3 ho3))
      clear hkids ht3 ho3
      obtain ⟨d0, d1, d2, d3, d4, d5, df⟩ := six HB3.out
      go_wp2
      refine bodyPost_form rfl rfl (set6 HB3.out) rfl ?_
      obtain ⟨hkids, ht3, ho3⟩ := HX.out
      refine ⟨_, rfl, (RForm.of_kids 4 0 eb (RStrs.nil _ _) (RStrs.nil _ _) hkids).stay (by simp) (fun b hb _ => set6_other ?_) (fun b hb _ => ?_), (HT2.out.trans ht3).set6 (Nat.le_refl _) hlt _ _ _ _ _ _, ho3⟩
      · unfold New at hb; omega
      · unfold New at *; omega

set_option maxHeartbeats 1600000 in
set_option maxRecDepth 100000 in
theorem f_or {w : World} {rb : Nat} {s : ByteArray} {r : RS} (n : Nat) (ih : SK n) (h : Pre w rb s r) (hk : r.kind = 119) (hw : r.text = ⟨#[111, 114]⟩)
    (hne : ((needP s ⟨#[40]⟩ (stepR s r.pos)).bind fun _ r => (kidsP s n r).bind fun l r => Res.ok (Form.mk 5 0 eb [] [] l) r) ≠ .out) :
    Calls Tryz.prog 47 #[.pointer (some ⟨rb, 0, none⟩)] w (PostR ((needP s ⟨#[40]⟩ (stepR s r.pos)).bind fun _ r => (kidsP s n r).bind fun l r => .ok (.mk 5 0 eb [] [] l) r) w rb s (NewForm w.heap.size)) := by
  have HP := Lib.hid h
  have hlt := h.rd.lt
  have hk' : (r.kind == 110) = false := by rw [hk]; rfl
  have HK := Lib.hid hk
  have c2 := h.rd.c2
  have HO1 := Lib.hid (stepR_ok h.ok.pos).1
  clear h hk
  have IH := Lib.hid ih
  clear ih
  -- the opening bracket: no, then yes
  cases hb : isB (stepR s r.pos) ⟨#[40]⟩ with
  | false =>
    have e1 : needP s ⟨#[40]⟩ (stepR s r.pos) = .err (stepR s r.pos).at_ := by unfold needP; rw [if_neg (by rw [hb]; simp)]
    rw [e1]
    simp only [Res.bind_err]
    have HBR := Lib.hid hb
    clear hb e1 hne
    go_enter Tryz.func47, Tryz.ntmps47
    go_wp2_with fail
    refine (take_ok (HP.out.alloc _) 119 HK.out).mono ?_; rintro e w1 ⟨rfl, ht1⟩
    have HP1 := Lib.hid ((HP.out.alloc _).to ht1.out HO1.out)
    have HB1 := Lib.hid (ht1.out.keep.block_of (block_alloc_new w _) (by omega))
    have HT1 := Lib.hid ht1.out.new
    have hz1 := HT1.out.keep.size
    have hzw := block_lt HB1.out
    clear ht1 c2
    go_wp2_with fail
    refine (need_no (HP1.out.alloc _) ⟨#[40]⟩ _ (cell_one_new _ _ _ 0 _ rfl) HBR.out).mono ?_; rintro e w2 ⟨rfl, hkp⟩
    go_wp2
    exact ⟨rfl, rfl, HT1.out.keep.trans hkp.out.new⟩
  | true =>
    have e1 : needP s ⟨#[40]⟩ (stepR s r.pos) = .ok () (stepR s (stepR s r.pos).pos) := by unfold needP; rw [if_pos hb]
    rw [e1] at hne ⊢
    simp only [Res.bind_ok] at hne ⊢
    have HBR := Lib.hid hb
    have HO2 := Lib.hid (stepR_ok HO1.out.pos).1
    clear hb e1
    cases hf : kidsP s n (stepR s (stepR s r.pos).pos) with
    | out => rw [hf] at hne; exact absurd rfl hne
    | err i =>
      simp only [Res.bind_err]
      have HF := Lib.hid hf
      clear hf hne
      go_enter Tryz.func47, Tryz.ntmps47
      go_wp2_with fail
      refine (take_ok (HP.out.alloc _) 119 HK.out).mono ?_; rintro e w1 ⟨rfl, ht1⟩
      have HP1 := Lib.hid ((HP.out.alloc _).to ht1.out HO1.out)
      have HB1 := Lib.hid (ht1.out.keep.block_of (block_alloc_new w _) (by omega))
      have HT1 := Lib.hid ht1.out.new
      have hz1 := HT1.out.keep.size
      have hzw := block_lt HB1.out
      clear ht1 c2
      go_wp2_with fail
      refine (need_ok (HP1.out.alloc _) ⟨#[40]⟩ _ (cell_one_new _ _ _ 0 _ rfl) HBR.out).mono ?_; rintro e w2 ⟨rfl, ht2⟩
      have HP2 := Lib.hid ((HP1.out.alloc _).to ht2.out HO2.out)
      have HT2 := Lib.hid (HT1.out.trans ht2.out.new)
      have HB2 := Lib.hid (ht2.out.new.keep.block_of HB1.out (by omega))
      have hz2 := ht2.out.new.keep.size
      clear ht2
      go_wp2_with fail
      refine (IH.out w2 rb s _ HP2.out (by rw [HF.out]; simp)).mono ?_; intro e w3 hp3; rw [HF.out] at hp3; obtain ⟨rfl, hkp⟩ := hp3
      have HKP := Lib.hid hkp
      clear hkp
      go_wp2
      exact ⟨rfl, rfl, HT2.out.keep.trans HKP.out⟩
    | ok l r3 =>
      simp only [Res.bind_ok]
      have HF := Lib.hid hf
      clear hf hne
      go_enter Tryz.func47, Tryz.ntmps47
      go_wp2_with fail
      refine (take_ok (HP.out.alloc _) 119 HK.out).mono ?_; rintro e w1 ⟨rfl, ht1⟩
      have HP1 := Lib.hid ((HP.out.alloc _).to ht1.out HO1.out)
      have HB1 := Lib.hid (ht1.out.keep.block_of (block_alloc_new w _) (by omega))
      have HT1 := Lib.hid ht1.out.new
      have hz1 := HT1.out.keep.size
      have hzw := block_lt HB1.out
      clear ht1 c2
      go_wp2_with fail
      refine (need_ok (HP1.out.alloc _) ⟨#[40]⟩ _ (cell_one_new _ _ _ 0 _ rfl) HBR.out).mono ?_; rintro e w2 ⟨rfl, ht2⟩
      have HP2 := Lib.hid ((HP1.out.alloc _).to ht2.out HO2.out)
      have HT2 := Lib.hid (HT1.out.trans ht2.out.new)
      have HB2 := Lib.hid (ht2.out.new.keep.block_of HB1.out (by omega))
      have hz2 := ht2.out.new.keep.size
      clear ht2
      go_wp2_with fail
      refine (IH.out w2 rb s _ HP2.out (by rw [HF.out]; simp)).mono ?_; intro e w3 hp3; rw [HF.out] at hp3; obtain ⟨v, rfl, hkids, ht3, ho3⟩ := hp3
      obtain ⟨va, vn, vc, rfl⟩ := kids_shape hkids
      have HB3 := Lib.hid (ht3.keep.block_of HB2.out (by omega))
      have HX := Lib.hid (And.intro hkids (And.intro ht3 ho3))
      clear hkids ht3 ho3
      obtain ⟨d0, d1, d2, d3, d4, d5, df⟩ := six HB3.out
      go_wp2
      refine bodyPost_form rfl rfl (set6 HB3.out) rfl ?_
      obtain ⟨hkids, ht3, ho3⟩ := HX.out
      refine ⟨_, rfl, (RForm.of_kids 5 0 eb (RStrs.nil _ _) (RStrs.nil _ _) hkids).stay (by simp) (fun b hb _ => set6_other ?_) (fun b hb _ => ?_), (HT2.out.trans ht3).set6 (Nat.le_refl _) hlt _ _ _ _ _ _, ho3⟩
      · unfold New at hb; omega
      · unfold New at *; omega

end Go.Proofs.YtadnnijdbcdkjaaGreatDoor
