/-
  Contract of the reader's method formula, word by word: exists; and all words together. Conditions: as in the texts before.
-/
import Derived.Test.YtadnnijdbcdkjaaGreatDoorJW15
namespace Go.Proofs.YtadnnijdbcdkjaaGreatDoor
open Go.RowKit


theorem num_size {t : ByteArray} {v : Int} (h0 : 0 ≤ v) (h9 : v ≤ 99) (h : Lib.decDigits v.toNat = t.data.toList) : t.size ≤ 2 := by
  have h2 : ∀ n : Nat, n < 100 → (Lib.decDigits n).length ≤ 2 := by
    intro n hn
    by_cases h1 : n < 10
    · rw [Lib.decDigits_one h1]; simp
    · rw [Lib.decDigits_two h1 hn]; simp
  have := h2 v.toNat (by omega)
  rw [h] at this
  simpa using this
set_option maxHeartbeats 3200000 in
set_option maxRecDepth 100000 in
theorem f_exists {w : World} {rb : Nat} {s : ByteArray} {r : RS} (n : Nat) (ih : SI n) (h : Pre w rb s r) (hk : r.kind = 119) (hw : r.text = ⟨#[101, 120, 105, 115, 116, 115]⟩)
    (hne : ((needP s ⟨#[40]⟩ (stepR s r.pos)).bind fun _ r => (takeP s 110 r).bind fun nm r => (takeP s 48 r).bind fun t r => (innerP s n r).bind fun l r => Res.ok (Form.mk 11 (numV t) nm [] [] l) r) ≠ .out) :
    Calls Tryz.prog 47 #[.pointer (some ⟨rb, 0, none⟩)] w (PostR ((needP s ⟨#[40]⟩ (stepR s r.pos)).bind fun _ r => (takeP s 110 r).bind fun nm r => (takeP s 48 r).bind fun t r => (innerP s n r).bind fun l r => .ok (.mk 11 (numV t) nm [] [] l) r) w rb s (NewForm w.heap.size)) := by
  have HP := Lib.hid h
  have hlt := h.rd.lt
  have hk' : (r.kind == 110) = false := by rw [hk]; rfl
  have HK := Lib.hid hk
  have c2 := h.rd.c2
  have HO1 := Lib.hid (stepR_ok h.ok.pos).1
  clear h hk
  have IH := Lib.hid ih
  clear ih
  -- the opening bracket: no, then yes
  cases hb : isB (stepR s r.pos) ⟨#[40]⟩ with
  | false =>
    have e1 : needP s ⟨#[40]⟩ (stepR s r.pos) = .err (stepR s r.pos).at_ := by unfold needP; rw [if_neg (by rw [hb]; simp)]
    rw [e1]
    simp only [Res.bind_err]
    have HBR := Lib.hid hb
    clear hb e1 hne
    go_enter Tryz.func47, Tryz.ntmps47
    go_wp2_with fail
    refine (take_ok (HP.out.alloc _) 119 HK.out).mono ?_; rintro e w1 ⟨rfl, ht1⟩
    have HP1 := Lib.hid ((HP.out.alloc _).to ht1.out HO1.out)
    have HB1 := Lib.hid (ht1.out.keep.block_of (block_alloc_new w _) (by omega))
    have HT1 := Lib.hid ht1.out.new
    have hz1 := HT1.out.keep.size
    have hzw := block_lt HB1.out
    clear ht1 c2
    go_wp2_with fail
    refine (need_no (HP1.out.alloc _) ⟨#[40]⟩ _ (cell_one_new _ _ _ 0 _ rfl) HBR.out).mono ?_; rintro e w2 ⟨rfl, hkp⟩
    go_wp2
    exact ⟨rfl, rfl, HT1.out.keep.trans hkp.out.new⟩
  | true =>
    have e1 : needP s ⟨#[40]⟩ (stepR s r.pos) = .ok () (stepR s (stepR s r.pos).pos) := by unfold needP; rw [if_pos hb]
    rw [e1] at hne ⊢
    simp only [Res.bind_ok] at hne ⊢
    have HBR := Lib.hid hb
    have HO2 := Lib.hid (stepR_ok HO1.out.pos).1
    clear hb e1
    by_cases hk2 : (stepR s (stepR s r.pos).pos).kind = 110
    case neg =>
      have e2 : takeP s 110 (stepR s (stepR s r.pos).pos) = .err (stepR s (stepR s r.pos).pos).at_ := by unfold takeP; rw [if_neg hk2]
      rw [e2]
      simp only [Res.bind_err]
      have HK2 := Lib.hid hk2
      clear e2 hk2 hne
      go_enter Tryz.func47, Tryz.ntmps47
      go_wp2_with fail
      refine (take_ok (HP.out.alloc _) 119 HK.out).mono ?_; rintro e w1 ⟨rfl, ht1⟩
      have HP1 := Lib.hid ((HP.out.alloc _).to ht1.out HO1.out)
      have HB1 := Lib.hid (ht1.out.keep.block_of (block_alloc_new w _) (by omega))
      have HT1 := Lib.hid ht1.out.new
      have hz1 := HT1.out.keep.size
      have hzw := block_lt HB1.out
      clear ht1 c2
      go_wp2_with fail
      refine (need_ok (HP1.out.alloc _) ⟨#[40]⟩ _ (cell_one_new _ _ _ 0 _ rfl) HBR.out).mono ?_; rintro e w2 ⟨rfl, ht2⟩
      have HP2 := Lib.hid ((HP1.out.alloc _).to ht2.out HO2.out)
      have HT2 := Lib.hid (HT1.out.trans ht2.out.new)
      have HB2 := Lib.hid (ht2.out.new.keep.block_of HB1.out (by omega))
      have hz2 := ht2.out.new.keep.size
      clear ht2
      go_wp2_with fail
      refine (take_no HP2.out 110 HK2.out).mono ?_; rintro e w3 ⟨rfl, hkp⟩
      go_wp2
      exact ⟨rfl, rfl, HT2.out.keep.trans hkp.out⟩
    case pos =>
      have e2 : takeP s 110 (stepR s (stepR s r.pos).pos) = .ok (stepR s (stepR s r.pos).pos).text (stepR s (stepR s (stepR s r.pos).pos).pos) := by unfold takeP; rw [if_pos hk2]
      rw [e2] at hne ⊢
      simp only [Res.bind_ok] at hne ⊢
      have HK2 := Lib.hid hk2
      have HO3 := Lib.hid (stepR_ok HO2.out.pos).1
      clear e2 hk2
      by_cases hk3 : (stepR s (stepR s (stepR s r.pos).pos).pos).kind = 48
      case neg =>
        have e2 : takeP s 48 (stepR s (stepR s (stepR s r.pos).pos).pos) = .err (stepR s (stepR s (stepR s r.pos).pos).pos).at_ := by unfold takeP; rw [if_neg hk3]
        rw [e2]
        simp only [Res.bind_err]
        have HK3 := Lib.hid hk3
        clear e2 hk3 hne
        go_enter Tryz.func47, Tryz.ntmps47
        go_wp2_with fail
        refine (take_ok (HP.out.alloc _) 119 HK.out).mono ?_; rintro e w1 ⟨rfl, ht1⟩
        have HP1 := Lib.hid ((HP.out.alloc _).to ht1.out HO1.out)
        have HB1 := Lib.hid (ht1.out.keep.block_of (block_alloc_new w _) (by omega))
        have HT1 := Lib.hid ht1.out.new
        have hz1 := HT1.out.keep.size
        have hzw := block_lt HB1.out
        clear ht1 c2
        go_wp2_with fail
        refine (need_ok (HP1.out.alloc _) ⟨#[40]⟩ _ (cell_one_new _ _ _ 0 _ rfl) HBR.out).mono ?_; rintro e w2 ⟨rfl, ht2⟩
        have HP2 := Lib.hid ((HP1.out.alloc _).to ht2.out HO2.out)
        have HT2 := Lib.hid (HT1.out.trans ht2.out.new)
        have HB2 := Lib.hid (ht2.out.new.keep.block_of HB1.out (by omega))
        have hz2 := ht2.out.new.keep.size
        clear ht2
        go_wp2_with fail
        -- the name, into a new formula's block; the number
        refine (take_ok HP2.out 110 HK2.out).mono ?_; rintro e w3 ⟨rfl, ht3⟩
        have HT3 := Lib.hid (HT2.out.trans ht3.out)
        have HB3 := Lib.hid (ht3.out.keep.block_of HB2.out (by omega))
        have hz3 := ht3.out.keep.size
        have HP3 := Lib.hid ((HP2.out.to ht3.out HO3.out).alloc (.cells #[.int .i64 11, .int .i64 0, .string (stepR s (stepR s r.pos).pos).text, .slice none 0 0, .slice none 0 0, .slice none 0 0] 31))
        clear ht3
        go_wp2_with fail
        refine (take_no HP3.out 48 HK3.out).mono ?_; rintro e w4 ⟨rfl, hkp⟩
        go_wp2
        exact ⟨rfl, rfl, HT3.out.keep.trans hkp.out.new⟩
      case pos =>
        have e2 : takeP s 48 (stepR s (stepR s (stepR s r.pos).pos).pos) = .ok (stepR s (stepR s (stepR s r.pos).pos).pos).text (stepR s (stepR s (stepR s (stepR s r.pos).pos).pos).pos) := by unfold takeP; rw [if_pos hk3]
        rw [e2] at hne ⊢
        simp only [Res.bind_ok] at hne ⊢
        have HK3 := Lib.hid hk3
        have HO4 := Lib.hid (stepR_ok HO3.out.pos).1
        have HV : Hid (Lib.atoiAll (stepR s (stepR s (stepR s r.pos).pos).pos).text.data.toList = .ok (numV (stepR s (stepR s (stepR s r.pos).pos).pos).text) ∧ (stepR s (stepR s (stepR s r.pos).pos).pos).text.size ≤ 2 ∧ True) := by
          obtain ⟨q1, q2⟩ := HO3.out.txt hk3
          obtain ⟨v, h1, h2, h3, h4, h5⟩ := num_ok q1 q2
          exact ⟨by rw [h2]; exact h1, num_size h3 h4 h5, trivial⟩
        clear e2 hk3
        cases hf : innerP s n (stepR s (stepR s (stepR s (stepR s r.pos).pos).pos).pos) with
        | out => rw [hf] at hne; exact absurd rfl hne
        | err i =>
          simp only [Res.bind_err]
          have HF := Lib.hid hf
          clear hf hne
          go_enter Tryz.func47, Tryz.ntmps47
          go_wp2_with fail
          refine (take_ok (HP.out.alloc _) 119 HK.out).mono ?_; rintro e w1 ⟨rfl, ht1⟩
          have HP1 := Lib.hid ((HP.out.alloc _).to ht1.out HO1.out)
          have HB1 := Lib.hid (ht1.out.keep.block_of (block_alloc_new w _) (by omega))
          have HT1 := Lib.hid ht1.out.new
          have hz1 := HT1.out.keep.size
          have hzw := block_lt HB1.out
          clear ht1 c2
          go_wp2_with fail
          refine (need_ok (HP1.out.alloc _) ⟨#[40]⟩ _ (cell_one_new _ _ _ 0 _ rfl) HBR.out).mono ?_; rintro e w2 ⟨rfl, ht2⟩
          have HP2 := Lib.hid ((HP1.out.alloc _).to ht2.out HO2.out)
          have HT2 := Lib.hid (HT1.out.trans ht2.out.new)
          have HB2 := Lib.hid (ht2.out.new.keep.block_of HB1.out (by omega))
          have hz2 := ht2.out.new.keep.size
          clear ht2
          go_wp2_with fail
          -- the name, into a new formula's block; the number
          refine (take_ok HP2.out 110 HK2.out).mono ?_; rintro e w3 ⟨rfl, ht3⟩
          have HT3 := Lib.hid (HT2.out.trans ht3.out)
          have HB3 := Lib.hid (ht3.out.keep.block_of HB2.out (by omega))
          have hz3 := ht3.out.keep.size
          have HP3 := Lib.hid ((HP2.out.to ht3.out HO3.out).alloc (.cells #[.int .i64 11, .int .i64 0, .string (stepR s (stepR s r.pos).pos).text, .slice none 0 0, .slice none 0 0, .slice none 0 0] 31))
          clear ht3
          go_wp2_with fail
          refine (take_ok HP3.out 48 HK3.out).mono ?_; rintro e w4 ⟨rfl, ht4⟩
          have HT4' := Lib.hid ht4.out.new
          have hz4 := HT4'.out.keep.size
          have HB4 := Lib.hid (HT4'.out.keep.block_of HB3.out (by omega))
          have HC4 := Lib.hid (ht4.out.keep.block_of (block_alloc_new w3 _) (by have := HP2.out.rd.lt; omega))
          have HP4 := Lib.hid (HP3.out.next ht4.out)
          clear ht4
          go_wp2_with fail
          refine (atoi_good _ (by have := HV.out.2.1; omega) _ _ HV.out.1).mono ?_; rintro e w5 ⟨rfl, hb5⟩
          have HT5' := Lib.hid (HT4'.out.trans ⟨HP4.out.rd.below hb5, Keep.of_below hb5⟩)
          have hz5 := hb5.size
          have HB5 := Lib.hid ((hb5.block _ (block_lt HB4.out)).trans HB4.out)
          have HC5 := Lib.hid ((hb5.block _ (block_lt HC4.out)).trans HC4.out)
          have hz5' := block_lt HC5.out
          have HT5 := Lib.hid ((HT3.out.trans HT5'.out).set (x := w3.heap.size) (by omega) hlt 1 (.int .i64 (numV (stepR s (stepR s (stepR s r.pos).pos).pos).text)))
          have HP5 := Lib.hid (HP.out.to HT5.out HO4.out)
          clear hb5
          obtain ⟨g0, g1, g2, g3, g4, g5, gf⟩ := six HC5.out
          go_wp2_with fail
          clear g0 g1 g2 g3 g4 g5 gf
          refine (IH.out _ rb s _ HP5.out (by rw [HF.out]; simp)).mono ?_; intro e w6 hp6; rw [HF.out] at hp6; obtain ⟨rfl, hkp⟩ := hp6
          have HKP := Lib.hid hkp
          clear hkp
          go_wp2
          exact ⟨rfl, rfl, HT5.out.keep.trans HKP.out⟩
        | ok l r5 =>
          simp only [Res.bind_ok]
          have HF := Lib.hid hf
          clear hf hne
          go_enter Tryz.func47, Tryz.ntmps47
          go_wp2_with fail
          refine (take_ok (HP.out.alloc _) 119 HK.out).mono ?_; rintro e w1 ⟨rfl, ht1⟩
          have HP1 := Lib.hid ((HP.out.alloc _).to ht1.out HO1.out)
          have HB1 := Lib.hid (ht1.out.keep.block_of (block_alloc_new w _) (by omega))
          have HT1 := Lib.hid ht1.out.new
          have hz1 := HT1.out.keep.size
          have hzw := block_lt HB1.out
          clear ht1 c2
          go_wp2_with fail
          refine (need_ok (HP1.out.alloc _) ⟨#[40]⟩ _ (cell_one_new _ _ _ 0 _ rfl) HBR.out).mono ?_; rintro e w2 ⟨rfl, ht2⟩
          have HP2 := Lib.hid ((HP1.out.alloc _).to ht2.out HO2.out)
          have HT2 := Lib.hid (HT1.out.trans ht2.out.new)
          have HB2 := Lib.hid (ht2.out.new.keep.block_of HB1.out (by omega))
          have hz2 := ht2.out.new.keep.size
          clear ht2
          go_wp2_with fail
          -- the name, into a new formula's block; the number
          refine (take_ok HP2.out 110 HK2.out).mono ?_; rintro e w3 ⟨rfl, ht3⟩
          have HT3 := Lib.hid (HT2.out.trans ht3.out)
          have HB3 := Lib.hid (ht3.out.keep.block_of HB2.out (by omega))
          have hz3 := ht3.out.keep.size
          have HP3 := Lib.hid ((HP2.out.to ht3.out HO3.out).alloc (.cells #[.int .i64 11, .int .i64 0, .string (stepR s (stepR s r.pos).pos).text, .slice none 0 0, .slice none 0 0, .slice none 0 0] 31))
          clear ht3
          go_wp2_with fail
          refine (take_ok HP3.out 48 HK3.out).mono ?_; rintro e w4 ⟨rfl, ht4⟩
          have HT4' := Lib.hid ht4.out.new
          have hz4 := HT4'.out.keep.size
          have HB4 := Lib.hid (HT4'.out.keep.block_of HB3.out (by omega))
          have HC4 := Lib.hid (ht4.out.keep.block_of (block_alloc_new w3 _) (by have := HP2.out.rd.lt; omega))
          have HP4 := Lib.hid (HP3.out.next ht4.out)
          clear ht4
          go_wp2_with fail
          refine (atoi_good _ (by have := HV.out.2.1; omega) _ _ HV.out.1).mono ?_; rintro e w5 ⟨rfl, hb5⟩
          have HT5' := Lib.hid (HT4'.out.trans ⟨HP4.out.rd.below hb5, Keep.of_below hb5⟩)
          have hz5 := hb5.size
          have HB5 := Lib.hid ((hb5.block _ (block_lt HB4.out)).trans HB4.out)
          have HC5 := Lib.hid ((hb5.block _ (block_lt HC4.out)).trans HC4.out)
          have hz5' := block_lt HC5.out
          have HT5 := Lib.hid ((HT3.out.trans HT5'.out).set (x := w3.heap.size) (by omega) hlt 1 (.int .i64 (numV (stepR s (stepR s (stepR s r.pos).pos).pos).text)))
          have HP5 := Lib.hid (HP.out.to HT5.out HO4.out)
          clear hb5
          obtain ⟨g0, g1, g2, g3, g4, g5, gf⟩ := six HC5.out
          go_wp2_with fail
          clear g0 g1 g2 g3 g4 g5 gf
          refine (IH.out _ rb s _ HP5.out (by rw [HF.out]; simp)).mono ?_; intro e w6 hp6; rw [HF.out] at hp6; obtain ⟨v6, rfl, hkids, ht6, ho6⟩ := hp6
          obtain ⟨ka, kn, kc, rfl⟩ := kids_shape hkids
          have HB6 := Lib.hid (ht6.keep.block_of (set_other HB5.out (x := w3.heap.size) (i := 1) (v := .int .i64 (numV (stepR s (stepR s (stepR s r.pos).pos).pos).text)) (by omega)) (by omega))
          have HC6' := Lib.hid (ht6.keep.block_of (block_setCell HC5.out 1 (.int .i64 (numV (stepR s (stepR s (stepR s r.pos).pos).pos).text))) (by have := HP2.out.rd.lt; omega))
          have HC6 := Lib.hid (show w6.heap[w3.heap.size]? = some (.cells #[.int .i64 11, .int .i64 (numV (stepR s (stepR s (stepR s r.pos).pos).pos).text), .string (stepR s (stepR s r.pos).pos).text, .slice none 0 0, .slice none 0 0, .slice none 0 0] 31 (0, 0)) from by simpa using HC6'.out)
          have hz6 := ht6.keep.size
          simp only [World.size_setCell] at hz6
          have HT7 := Lib.hid (HT5.out.trans ht6)
          have HX6 := Lib.hid (And.intro hkids (And.intro ht6 ho6))
          clear hkids ht6 ho6 HC6'
          obtain ⟨g0, g1, g2, g3, g4, g5, gf⟩ := six HC6.out
          obtain ⟨d0, d1, d2, d3, d4, d5, df⟩ := six HB6.out
          go_wp2
          refine bodyPost_form rfl rfl (set6 (set_other HB6.out (by omega))) rfl ?_
          obtain ⟨hkids, ht6, ho6⟩ := HX6.out
          have hk6 := hkids.open
          simp only [World.size_setCell] at hk6
          have hrk : RKids w6 (fun b => w3.heap.size < b) (.slice ka kn kc) l := hk6.stay (by omega) (fun b hb hlt2 => rfl) (fun b hb _ => by omega)
          refine ⟨_, rfl, (RForm.of_kids 11 _ _ (RStrs.nil _ _) (RStrs.nil _ _) hrk).stay (by simp) (fun b hb _ => ?_) (fun b hb _ => ?_), (HT7.out.set (x := w3.heap.size) (by omega) hlt 5 _).set6 (Nat.le_refl _) hlt _ _ _ _ _ _, ho6⟩
          · rw [set6_other (by omega)]; exact Below.heap_setCell _ _ _ _ (by show b ≠ w3.heap.size; omega)
          · unfold New; omega
end Go.Proofs.YtadnnijdbcdkjaaGreatDoor
