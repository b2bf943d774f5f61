/-
  Contract of the reader's method formula, word by word: some, all. Conditions: as in the texts before.
-/
import Derived.Test.YtadnnijdbcdkjaaGreatDoorJW12
namespace Go.Proofs.YtadnnijdbcdkjaaGreatDoor
open Go.RowKit


theorem set_other {w : World} {b x i : Nat} {v : Value} {o : Obj} (h : w.heap[b]? = some o) (hne : b ≠ x) : (w.setCell ⟨x, i, none⟩ v).heap[b]? = some o :=
  (Below.heap_setCell _ _ _ _ hne).trans h
theorem NewKids.open {base : Nat} {l : List Form} {v : Value} {w : World} (h : NewKids base l v w) : RKids w (fun b => base ≤ b) v l := h

set_option maxHeartbeats 1600000 in
set_option maxRecDepth 100000 in
theorem f_some {w : World} {rb : Nat} {s : ByteArray} {r : RS} (n : Nat) (ih : SI n) (h : Pre w rb s r) (hk : r.kind = 119) (hw : r.text = ⟨#[115, 111, 109, 101]⟩)
    (hne : ((needP s ⟨#[40]⟩ (stepR s r.pos)).bind fun _ r => (innerP s n (listP s r).2).bind fun l r' => Res.ok (Form.mk 6 0 eb (listP s r).1 [] l) r') ≠ .out) :
    Calls Tryz.prog 47 #[.pointer (some ⟨rb, 0, none⟩)] w (PostR ((needP s ⟨#[40]⟩ (stepR s r.pos)).bind fun _ r => (innerP s n (listP s r).2).bind fun l r' => .ok (.mk 6 0 eb (listP s r).1 [] l) r') w rb s (NewForm w.heap.size)) := by
  have HP := Lib.hid h
  have hlt := h.rd.lt
  have hk' : (r.kind == 110) = false := by rw [hk]; rfl
  have HK := Lib.hid hk
  have c2 := h.rd.c2
  have HO1 := Lib.hid (stepR_ok h.ok.pos).1
  clear h hk
  have IH := Lib.hid ih
  clear ih
  -- the opening bracket: no, then yes
  cases hb : isB (stepR s r.pos) ⟨#[40]⟩ with
  | false =>
    have e1 : needP s ⟨#[40]⟩ (stepR s r.pos) = .err (stepR s r.pos).at_ := by unfold needP; rw [if_neg (by rw [hb]; simp)]
    rw [e1]
    simp only [Res.bind_err]
    have HBR := Lib.hid hb
    clear hb e1 hne
    go_enter Tryz.func47, Tryz.ntmps47
    go_wp2_with fail
    refine (take_ok (HP.out.alloc _) 119 HK.out).mono ?_; rintro e w1 ⟨rfl, ht1⟩
    have HP1 := Lib.hid ((HP.out.alloc _).to ht1.out HO1.out)
    have HB1 := Lib.hid (ht1.out.keep.block_of (block_alloc_new w _) (by omega))
    have HT1 := Lib.hid ht1.out.new
    have hz1 := HT1.out.keep.size
    have hzw := block_lt HB1.out
    clear ht1 c2
    go_wp2_with fail
    refine (need_no (HP1.out.alloc _) ⟨#[40]⟩ _ (cell_one_new _ _ _ 0 _ rfl) HBR.out).mono ?_; rintro e w2 ⟨rfl, hkp⟩
    go_wp2
    exact ⟨rfl, rfl, HT1.out.keep.trans hkp.out.new⟩
  | true =>
    have e1 : needP s ⟨#[40]⟩ (stepR s r.pos) = .ok () (stepR s (stepR s r.pos).pos) := by unfold needP; rw [if_pos hb]
    rw [e1] at hne ⊢
    simp only [Res.bind_ok] at hne ⊢
    have HBR := Lib.hid hb
    have HO2 := Lib.hid (stepR_ok HO1.out.pos).1
    clear hb e1
    have HO3 := Lib.hid (listP_okr HO2.out)
    cases hf : innerP s n (listP s (stepR s (stepR s r.pos).pos)).2 with
    | out => rw [hf] at hne; exact absurd rfl hne
    | err i =>
      simp only [Res.bind_err]
      have HF := Lib.hid hf
      clear hf hne
      go_enter Tryz.func47, Tryz.ntmps47
      go_wp2_with fail
      refine (take_ok (HP.out.alloc _) 119 HK.out).mono ?_; rintro e w1 ⟨rfl, ht1⟩
      have HP1 := Lib.hid ((HP.out.alloc _).to ht1.out HO1.out)
      have HB1 := Lib.hid (ht1.out.keep.block_of (block_alloc_new w _) (by omega))
      have HT1 := Lib.hid ht1.out.new
      have hz1 := HT1.out.keep.size
      have hzw := block_lt HB1.out
      clear ht1 c2
      go_wp2_with fail
      refine (need_ok (HP1.out.alloc _) ⟨#[40]⟩ _ (cell_one_new _ _ _ 0 _ rfl) HBR.out).mono ?_; rintro e w2 ⟨rfl, ht2⟩
      have HP2 := Lib.hid ((HP1.out.alloc _).to ht2.out HO2.out)
      have HT2 := Lib.hid (HT1.out.trans ht2.out.new)
      have HB2 := Lib.hid (ht2.out.new.keep.block_of HB1.out (by omega))
      have hz2 := ht2.out.new.keep.size
      clear ht2
      go_wp2_with fail
      -- the names, into the new formula's Vars
      refine (list_pre HP2.out).mono ?_; rintro e w3 ⟨v3, rfl, hown, ht3⟩
      obtain ⟨va, vn, vc, rfl⟩ := own_shape hown.out
      have HP3 := Lib.hid ((HP2.out.to ht3.out HO3.out).alloc (.cells #[.int .i64 6, .int .i64 0, .string ⟨#[]⟩, .slice va vn vc, .slice none 0 0, .slice none 0 0] 31))
      have HT3 := Lib.hid (HT2.out.trans ht3.out)
      have HB3 := Lib.hid (ht3.out.keep.block_of HB2.out (by omega))
      have HOW := Lib.hid hown.out
      have hz3 := ht3.out.keep.size
      clear hown ht3
      go_wp2_with fail
      refine (IH.out _ rb s _ HP3.out (by rw [HF.out]; simp)).mono ?_; intro e w4 hp4; rw [HF.out] at hp4; obtain ⟨rfl, hkp⟩ := hp4
      have HKP := Lib.hid hkp
      clear hkp
      go_wp2
      exact ⟨rfl, rfl, HT3.out.keep.trans HKP.out.new⟩
    | ok l r4 =>
      simp only [Res.bind_ok]
      have HF := Lib.hid hf
      clear hf hne
      go_enter Tryz.func47, Tryz.ntmps47
      go_wp2_with fail
      refine (take_ok (HP.out.alloc _) 119 HK.out).mono ?_; rintro e w1 ⟨rfl, ht1⟩
      have HP1 := Lib.hid ((HP.out.alloc _).to ht1.out HO1.out)
      have HB1 := Lib.hid (ht1.out.keep.block_of (block_alloc_new w _) (by omega))
      have HT1 := Lib.hid ht1.out.new
      have hz1 := HT1.out.keep.size
      have hzw := block_lt HB1.out
      clear ht1 c2
      go_wp2_with fail
      refine (need_ok (HP1.out.alloc _) ⟨#[40]⟩ _ (cell_one_new _ _ _ 0 _ rfl) HBR.out).mono ?_; rintro e w2 ⟨rfl, ht2⟩
      have HP2 := Lib.hid ((HP1.out.alloc _).to ht2.out HO2.out)
      have HT2 := Lib.hid (HT1.out.trans ht2.out.new)
      have HB2 := Lib.hid (ht2.out.new.keep.block_of HB1.out (by omega))
      have hz2 := ht2.out.new.keep.size
      clear ht2
      go_wp2_with fail
      -- the names, into the new formula's Vars
      refine (list_pre HP2.out).mono ?_; rintro e w3 ⟨v3, rfl, hown, ht3⟩
      obtain ⟨va, vn, vc, rfl⟩ := own_shape hown.out
      have HP3 := Lib.hid ((HP2.out.to ht3.out HO3.out).alloc (.cells #[.int .i64 6, .int .i64 0, .string ⟨#[]⟩, .slice va vn vc, .slice none 0 0, .slice none 0 0] 31))
      have HT3 := Lib.hid (HT2.out.trans ht3.out)
      have HB3 := Lib.hid (ht3.out.keep.block_of HB2.out (by omega))
      have HOW := Lib.hid hown.out
      have hz3 := ht3.out.keep.size
      clear hown ht3
      go_wp2_with fail
      refine (IH.out _ rb s _ HP3.out (by rw [HF.out]; simp)).mono ?_; intro e w4 hp4; rw [HF.out] at hp4; obtain ⟨v4, rfl, hkids, ht4, ho4⟩ := hp4
      obtain ⟨ka, kn, kc, rfl⟩ := kids_shape hkids
      have HT4 := Lib.hid ht4.new
      have HB4 := Lib.hid (HT4.out.keep.block_of HB3.out (by omega))
      have HC4 := Lib.hid (ht4.keep.block_of (block_alloc_new w3 _) (by have := HP2.out.rd.lt; omega))
      have HX := Lib.hid (And.intro hkids ho4)
      have hz4 := HT4.out.keep.size
      have hz5 := block_lt HC4.out
      clear hkids ht4 ho4
      obtain ⟨d0, d1, d2, d3, d4, d5, df⟩ := six HB4.out
      obtain ⟨g0, g1, g2, g3, g4, g5, gf⟩ := six HC4.out
      go_wp2
      refine bodyPost_form rfl rfl (set6 (set_other HB4.out (by omega))) rfl ?_
      obtain ⟨hkids, ho4⟩ := HX.out
      have hk2 := hkids.open
      simp only [World.size_alloc] at hk2
      have hrv : RStrs w4 (fun b => w2.heap.size ≤ b ∧ b ≠ w3.heap.size) (.slice va vn vc) _ :=
        (RStrs.of_own (Q := fun b => w2.heap.size ≤ b) HOW.out (fun b hb _ => hb)).stay hz4 (fun b hb hlt2 => HT4.out.keep.block b hlt2 (by omega)) (fun b hb hlt2 => ⟨hb, by omega⟩)
      refine ⟨_, rfl, (RForm.of_kids 6 0 eb hrv (RStrs.nil _ _) (hk2.stay (Nat.le_refl _) (fun _ _ _ => rfl) (fun b hb _ => ⟨by omega, by omega⟩))).stay (by simp) (fun b hb _ => ?_) (fun b hb _ => ?_), ((HT3.out.trans HT4.out).set (x := w3.heap.size) (by omega) hlt 5 _).set6 (Nat.le_refl _) hlt _ _ _ _ _ _, ho4⟩
      · rw [set6_other (by omega)]; exact Below.heap_setCell _ _ _ _ hb.2
      · unfold New; omega

set_option maxHeartbeats 1600000 in
set_option maxRecDepth 100000 in
theorem f_all {w : World} {rb : Nat} {s : ByteArray} {r : RS} (n : Nat) (ih : SI n) (h : Pre w rb s r) (hk : r.kind = 119) (hw : r.text = ⟨#[97, 108, 108]⟩)
    (hne : ((needP s ⟨#[40]⟩ (stepR s r.pos)).bind fun _ r => (innerP s n (listP s r).2).bind fun l r' => Res.ok (Form.mk 7 0 eb (listP s r).1 [] l) r') ≠ .out) :
    Calls Tryz.prog 47 #[.pointer (some ⟨rb, 0, none⟩)] w (PostR ((needP s ⟨#[40]⟩ (stepR s r.pos)).bind fun _ r => (innerP s n (listP s r).2).bind fun l r' => .ok (.mk 7 0 eb (listP s r).1 [] l) r') w rb s (NewForm w.heap.size)) := by
  have HP := Lib.hid h
  have hlt := h.rd.lt
  have hk' : (r.kind == 110) = false := by rw [hk]; rfl
  have HK := Lib.hid hk
  have c2 := h.rd.c2
  have HO1 := Lib.hid (stepR_ok h.ok.pos).1
  clear h hk
  have IH := Lib.hid ih
  clear ih
  -- the opening bracket: no, then yes
  cases hb : isB (stepR s r.pos) ⟨#[40]⟩ with
  | false =>
    have e1 : needP s ⟨#[40]⟩ (stepR s r.pos) = .err (stepR s r.pos).at_ := by unfold needP; rw [if_neg (by rw [hb]; simp)]
    rw [e1]
    simp only [Res.bind_err]
    have HBR := Lib.hid hb
    clear hb e1 hne
    go_enter Tryz.func47, Tryz.ntmps47
    go_wp2_with fail
    refine (take_ok (HP.out.alloc _) 119 HK.out).mono ?_; rintro e w1 ⟨rfl, ht1⟩
    have HP1 := Lib.hid ((HP.out.alloc _).to ht1.out HO1.out)
    have HB1 := Lib.hid (ht1.out.keep.block_of (block_alloc_new w _) (by omega))
    have HT1 := Lib.hid ht1.out.new
    have hz1 := HT1.out.keep.size
    have hzw := block_lt HB1.out
    clear ht1 c2
    go_wp2_with fail
    refine (need_no (HP1.out.alloc _) ⟨#[40]⟩ _ (cell_one_new _ _ _ 0 _ rfl) HBR.out).mono ?_; rintro e w2 ⟨rfl, hkp⟩
    go_wp2
    exact ⟨rfl, rfl, HT1.out.keep.trans hkp.out.new⟩
  | true =>
    have e1 : needP s ⟨#[40]⟩ (stepR s r.pos) = .ok () (stepR s (stepR s r.pos).pos) := by unfold needP; rw [if_pos hb]
    rw [e1] at hne ⊢
    simp only [Res.bind_ok] at hne ⊢
    have HBR := Lib.hid hb
    have HO2 := Lib.hid (stepR_ok HO1.out.pos).1
    clear hb e1
    have HO3 := Lib.hid (listP_okr HO2.out)
    cases hf : innerP s n (listP s (stepR s (stepR s r.pos).pos)).2 with
    | out => rw [hf] at hne; exact absurd rfl hne
    | err i =>
      simp only [Res.bind_err]
      have HF := Lib.hid hf
      clear hf hne
      go_enter Tryz.func47, Tryz.ntmps47
      go_wp2_with fail
      refine (take_ok (HP.out.alloc _) 119 HK.out).mono ?_; rintro e w1 ⟨rfl, ht1⟩
      have HP1 := Lib.hid ((HP.out.alloc _).to ht1.out HO1.out)
      have HB1 := Lib.hid (ht1.out.keep.block_of (block_alloc_new w _) (by omega))
      have HT1 := Lib.hid ht1.out.new
      have hz1 := HT1.out.keep.size
      have hzw := block_lt HB1.out
      clear ht1 c2
      go_wp2_with fail
      refine (need_ok (HP1.out.alloc _) ⟨#[40]⟩ _ (cell_one_new _ _ _ 0 _ rfl) HBR.out).mono ?_; rintro e w2 ⟨rfl, ht2⟩
      have HP2 := Lib.hid ((HP1.out.alloc _).to ht2.out HO2.out)
      have HT2 := Lib.hid (HT1.out.trans ht2.out.new)
      have HB2 := Lib.hid (ht2.out.new.keep.block_of HB1.out (by omega))
      have hz2 := ht2.out.new.keep.size
      clear ht2
      go_wp2_with fail
      -- the names, into the new formula's Vars
      refine (list_pre HP2.out).mono ?_; rintro e w3 ⟨v3, rfl, hown, ht3⟩
      obtain ⟨va, vn, vc, rfl⟩ := own_shape hown.out
      have HP3 := Lib.hid ((HP2.out.to ht3.out HO3.out).alloc (.cells #[.int .i64 7, .int .i64 0, .string ⟨#[]⟩, .slice va vn vc, .slice none 0 0, .slice none 0 0] 31))
      have HT3 := Lib.hid (HT2.out.trans ht3.out)
      have HB3 := Lib.hid (ht3.out.keep.block_of HB2.out (by omega))
      have HOW := Lib.hid hown.out
      have hz3 := ht3.out.keep.size
      clear hown ht3
      go_wp2_with fail
      refine (IH.out _ rb s _ HP3.out (by rw [HF.out]; simp)).mono ?_; intro e w4 hp4; rw [HF.out] at hp4; obtain ⟨rfl, hkp⟩ := hp4
      have HKP := Lib.hid hkp
      clear hkp
      go_wp2
      exact ⟨rfl, rfl, HT3.out.keep.trans HKP.out.new⟩
    | ok l r4 =>
      simp only [Res.bind_ok]
      have HF := Lib.hid hf
      clear hf hne
      go_enter Tryz.func47, Tryz.ntmps47
      go_wp2_with fail
      refine (take_ok (HP.out.alloc _) 119 HK.out).mono ?_; rintro e w1 ⟨rfl, ht1⟩
      have HP1 := Lib.hid ((HP.out.alloc _).to ht1.out HO1.out)
      have HB1 := Lib.hid (ht1.out.keep.block_of (block_alloc_new w _) (by omega))
      have HT1 := Lib.hid ht1.out.new
      have hz1 := HT1.out.keep.size
      have hzw := block_lt HB1.out
      clear ht1 c2
      go_wp2_with fail
      refine (need_ok (HP1.out.alloc _) ⟨#[40]⟩ _ (cell_one_new _ _ _ 0 _ rfl) HBR.out).mono ?_; rintro e w2 ⟨rfl, ht2⟩
      have HP2 := Lib.hid ((HP1.out.alloc _).to ht2.out HO2.out)
      have HT2 := Lib.hid (HT1.out.trans ht2.out.new)
      have HB2 := Lib.hid (ht2.out.new.keep.block_of HB1.out (by omega))
      have hz2 := ht2.out.new.keep.size
      clear ht2
      go_wp2_with fail
      -- the names, into the new formula's Vars
      refine (list_pre HP2.out).mono ?_; rintro e w3 ⟨v3, rfl, hown, ht3⟩
      obtain ⟨va, vn, vc, rfl⟩ := own_shape hown.out
      have HP3 := Lib.hid ((HP2.out.to ht3.out HO3.out).alloc (.cells #[.int .i64 7, .int .i64 0, .string ⟨#[]⟩, .slice va vn vc, .slice none 0 0, .slice none 0 0] 31))
      have HT3 := Lib.hid (HT2.out.trans ht3.out)
      have HB3 := Lib.hid (ht3.out.keep.block_of HB2.out (by omega))
      have HOW := Lib.hid hown.out
      have hz3 := ht3.out.keep.size
      clear hown ht3
      go_wp2_with fail
      refine (IH.out _ rb s _ HP3.out (by rw [HF.out]; simp)).mono ?_; intro e w4 hp4; rw [HF.out] at hp4; obtain ⟨v4, rfl, hkids, ht4, ho4⟩ := hp4
      obtain ⟨ka, kn, kc, rfl⟩ := kids_shape hkids
      have HT4 := Lib.hid ht4.new
      have HB4 := Lib.hid (HT4.out.keep.block_of HB3.out (by omega))
      have HC4 := Lib.hid (ht4.keep.block_of (block_alloc_new w3 _) (by have := HP2.out.rd.lt; omega))
      have HX := Lib.hid (And.intro hkids ho4)
      have hz4 := HT4.out.keep.size
      have hz5 := block_lt HC4.out
      clear hkids ht4 ho4
      obtain ⟨d0, d1, d2, d3, d4, d5, df⟩ := six HB4.out
      obtain ⟨g0, g1, g2, g3, g4, g5, gf⟩ := six HC4.out
      go_wp2
      refine bodyPost_form rfl rfl (set6 (set_other HB4.out (by omega))) rfl ?_
      obtain ⟨hkids, ho4⟩ := HX.out
      have hk2 := hkids.open
      simp only [World.size_alloc] at hk2
      have hrv : RStrs w4 (fun b => w2.heap.size ≤ b ∧ b ≠ w3.heap.size) (.slice va vn vc) _ :=
        (RStrs.of_own (Q := fun b => w2.heap.size ≤ b) HOW.out (fun b hb _ => hb)).stay hz4 (fun b hb hlt2 => HT4.out.keep.block b hlt2 (by omega)) (fun b hb hlt2 => ⟨hb, by omega⟩)
      refine ⟨_, rfl, (RForm.of_kids 7 0 eb hrv (RStrs.nil _ _) (hk2.stay (Nat.le_refl _) (fun _ _ _ => rfl) (fun b hb _ => ⟨by omega, by omega⟩))).stay (by simp) (fun b hb _ => ?_) (fun b hb _ => ?_), ((HT3.out.trans HT4.out).set (x := w3.heap.size) (by omega) hlt 5 _).set6 (Nat.le_refl _) hlt _ _ _ _ _ _, ho4⟩
      · rw [set6_other (by omega)]; exact Below.heap_setCell _ _ _ _ hb.2
      · unfold New; omega

end Go.Proofs.YtadnnijdbcdkjaaGreatDoor
