/-
  Contract of the reader's method formula, word by word: lfp, pfp. Conditions: as in the texts before.
-/
import Derived.Test.YtadnnijdbcdkjaaGreatDoorJW13
namespace Go.Proofs.YtadnnijdbcdkjaaGreatDoor
open Go.RowKit


set_option maxHeartbeats 3200000 in
set_option maxRecDepth 100000 in
theorem f_lfp {w : World} {rb : Nat} {s : ByteArray} {r : RS} (n : Nat) (ih : SI n) (h : Pre w rb s r) (hk : r.kind = 119) (hw : r.text = ⟨#[108, 102, 112]⟩)
    (hne : ((needP s ⟨#[40]⟩ (stepR s r.pos)).bind fun _ r => (takeP s 110 r).bind fun nm r => (innerP s n (listP s r).2).bind fun l r' => (argsP s r').bind fun al r'' => Res.ok (Form.mk 8 0 nm (listP s r).1 al l) r'') ≠ .out) :
    Calls Tryz.prog 47 #[.pointer (some ⟨rb, 0, none⟩)] w (PostR ((needP s ⟨#[40]⟩ (stepR s r.pos)).bind fun _ r => (takeP s 110 r).bind fun nm r => (innerP s n (listP s r).2).bind fun l r' => (argsP s r').bind fun al r'' => .ok (.mk 8 0 nm (listP s r).1 al l) r'') w rb s (NewForm w.heap.size)) := by
  have HP := Lib.hid h
  have hlt := h.rd.lt
  have hk' : (r.kind == 110) = false := by rw [hk]; rfl
  have HK := Lib.hid hk
  have c2 := h.rd.c2
  have HO1 := Lib.hid (stepR_ok h.ok.pos).1
  clear h hk
  have IH := Lib.hid ih
  clear ih
  -- the opening bracket: no, then yes
  cases hb : isB (stepR s r.pos) ⟨#[40]⟩ with
  | false =>
    have e1 : needP s ⟨#[40]⟩ (stepR s r.pos) = .err (stepR s r.pos).at_ := by unfold needP; rw [if_neg (by rw [hb]; simp)]
    rw [e1]
    simp only [Res.bind_err]
    have HBR := Lib.hid hb
    clear hb e1 hne
    go_enter Tryz.func47, Tryz.ntmps47
    go_wp2_with fail
    refine (take_ok (HP.out.alloc _) 119 HK.out).mono ?_; rintro e w1 ⟨rfl, ht1⟩
    have HP1 := Lib.hid ((HP.out.alloc _).to ht1.out HO1.out)
    have HB1 := Lib.hid (ht1.out.keep.block_of (block_alloc_new w _) (by omega))
    have HT1 := Lib.hid ht1.out.new
    have hz1 := HT1.out.keep.size
    have hzw := block_lt HB1.out
    clear ht1 c2
    go_wp2_with fail
    refine (need_no (HP1.out.alloc _) ⟨#[40]⟩ _ (cell_one_new _ _ _ 0 _ rfl) HBR.out).mono ?_; rintro e w2 ⟨rfl, hkp⟩
    go_wp2
    exact ⟨rfl, rfl, HT1.out.keep.trans hkp.out.new⟩
  | true =>
    have e1 : needP s ⟨#[40]⟩ (stepR s r.pos) = .ok () (stepR s (stepR s r.pos).pos) := by unfold needP; rw [if_pos hb]
    rw [e1] at hne ⊢
    simp only [Res.bind_ok] at hne ⊢
    have HBR := Lib.hid hb
    have HO2 := Lib.hid (stepR_ok HO1.out.pos).1
    clear hb e1
    by_cases hk2 : (stepR s (stepR s r.pos).pos).kind = 110
    case neg =>
      have e2 : takeP s 110 (stepR s (stepR s r.pos).pos) = .err (stepR s (stepR s r.pos).pos).at_ := by unfold takeP; rw [if_neg hk2]
      rw [e2]
      simp only [Res.bind_err]
      have HK2 := Lib.hid hk2
      clear e2 hk2 hne
      go_enter Tryz.func47, Tryz.ntmps47
      go_wp2_with fail
      refine (take_ok (HP.out.alloc _) 119 HK.out).mono ?_; rintro e w1 ⟨rfl, ht1⟩
      have HP1 := Lib.hid ((HP.out.alloc _).to ht1.out HO1.out)
      have HB1 := Lib.hid (ht1.out.keep.block_of (block_alloc_new w _) (by omega))
      have HT1 := Lib.hid ht1.out.new
      have hz1 := HT1.out.keep.size
      have hzw := block_lt HB1.out
      clear ht1 c2
      go_wp2_with fail
      refine (need_ok (HP1.out.alloc _) ⟨#[40]⟩ _ (cell_one_new _ _ _ 0 _ rfl) HBR.out).mono ?_; rintro e w2 ⟨rfl, ht2⟩
      have HP2 := Lib.hid ((HP1.out.alloc _).to ht2.out HO2.out)
      have HT2 := Lib.hid (HT1.out.trans ht2.out.new)
      have HB2 := Lib.hid (ht2.out.new.keep.block_of HB1.out (by omega))
      have hz2 := ht2.out.new.keep.size
      clear ht2
      go_wp2_with fail
      refine (take_no HP2.out 110 HK2.out).mono ?_; rintro e w3 ⟨rfl, hkp⟩
      go_wp2
      exact ⟨rfl, rfl, HT2.out.keep.trans hkp.out⟩
    case pos =>
      have e2 : takeP s 110 (stepR s (stepR s r.pos).pos) = .ok (stepR s (stepR s r.pos).pos).text (stepR s (stepR s (stepR s r.pos).pos).pos) := by unfold takeP; rw [if_pos hk2]
      rw [e2] at hne ⊢
      simp only [Res.bind_ok] at hne ⊢
      have HK2 := Lib.hid hk2
      have HO3 := Lib.hid (stepR_ok HO2.out.pos).1
      have HO4 := Lib.hid (listP_okr HO3.out)
      clear e2 hk2
      cases hf : innerP s n (listP s (stepR s (stepR s (stepR s r.pos).pos).pos)).2 with
      | out => rw [hf] at hne; exact absurd rfl hne
      | err i =>
        simp only [Res.bind_err]
        have HF := Lib.hid hf
        clear hf hne
        go_enter Tryz.func47, Tryz.ntmps47
        go_wp2_with fail
        refine (take_ok (HP.out.alloc _) 119 HK.out).mono ?_; rintro e w1 ⟨rfl, ht1⟩
        have HP1 := Lib.hid ((HP.out.alloc _).to ht1.out HO1.out)
        have HB1 := Lib.hid (ht1.out.keep.block_of (block_alloc_new w _) (by omega))
        have HT1 := Lib.hid ht1.out.new
        have hz1 := HT1.out.keep.size
        have hzw := block_lt HB1.out
        clear ht1 c2
        go_wp2_with fail
        refine (need_ok (HP1.out.alloc _) ⟨#[40]⟩ _ (cell_one_new _ _ _ 0 _ rfl) HBR.out).mono ?_; rintro e w2 ⟨rfl, ht2⟩
        have HP2 := Lib.hid ((HP1.out.alloc _).to ht2.out HO2.out)
        have HT2 := Lib.hid (HT1.out.trans ht2.out.new)
        have HB2 := Lib.hid (ht2.out.new.keep.block_of HB1.out (by omega))
        have hz2 := ht2.out.new.keep.size
        clear ht2
        go_wp2_with fail
        -- the name, into a new formula's block
        refine (take_ok HP2.out 110 HK2.out).mono ?_; rintro e w3 ⟨rfl, ht3⟩
        have HT3 := Lib.hid (HT2.out.trans ht3.out)
        have HB3 := Lib.hid (ht3.out.keep.block_of HB2.out (by omega))
        have hz3 := ht3.out.keep.size
        have HP3 := Lib.hid ((HP2.out.to ht3.out HO3.out).alloc (.cells #[.int .i64 8, .int .i64 0, .string (stepR s (stepR s r.pos).pos).text, .slice none 0 0, .slice none 0 0, .slice none 0 0] 31))
        clear ht3
        go_wp2_with fail
        refine (list_pre HP3.out).mono ?_; rintro e w4 ⟨v4, rfl, hown, ht4⟩
        obtain ⟨va, vn, vc, rfl⟩ := own_shape hown.out
        have HT4' := Lib.hid ht4.out.new
        have hz4 := HT4'.out.keep.size
        have HB4 := Lib.hid (HT4'.out.keep.block_of HB3.out (by omega))
        have HC4 := Lib.hid (ht4.out.keep.block_of (block_alloc_new w3 _) (by have := HP2.out.rd.lt; omega))
        have hz4' := block_lt HC4.out
        have HOW := Lib.hid hown.out
        have HT5 := Lib.hid ((HT3.out.trans HT4'.out).set (x := w3.heap.size) (by omega) hlt 3 (.slice va vn vc))
        have HP5 := Lib.hid (HP.out.to HT5.out HO4.out)
        clear hown ht4
        obtain ⟨g0, g1, g2, g3, g4, g5, gf⟩ := six HC4.out
        go_wp2_with fail
        clear g0 g1 g2 g3 g4 g5 gf
        refine (IH.out _ rb s _ HP5.out (by rw [HF.out]; simp)).mono ?_; intro e w5 hp5; rw [HF.out] at hp5; obtain ⟨rfl, hkp⟩ := hp5
        have HKP := Lib.hid hkp
        clear hkp
        go_wp2
        exact ⟨rfl, rfl, HT5.out.keep.trans HKP.out⟩
      | ok l r5 =>
        rw [hf] at hne
        simp only [Res.bind_ok] at hne ⊢
        have HF := Lib.hid hf
        clear hf
        cases ha : argsP s r5 with
        | out => exact absurd ha (args_ne_out _ _)
        | err i =>
          simp only [Res.bind_err]
          have HA := Lib.hid ha
          clear ha hne
          go_enter Tryz.func47, Tryz.ntmps47
          go_wp2_with fail
          refine (take_ok (HP.out.alloc _) 119 HK.out).mono ?_; rintro e w1 ⟨rfl, ht1⟩
          have HP1 := Lib.hid ((HP.out.alloc _).to ht1.out HO1.out)
          have HB1 := Lib.hid (ht1.out.keep.block_of (block_alloc_new w _) (by omega))
          have HT1 := Lib.hid ht1.out.new
          have hz1 := HT1.out.keep.size
          have hzw := block_lt HB1.out
          clear ht1 c2
          go_wp2_with fail
          refine (need_ok (HP1.out.alloc _) ⟨#[40]⟩ _ (cell_one_new _ _ _ 0 _ rfl) HBR.out).mono ?_; rintro e w2 ⟨rfl, ht2⟩
          have HP2 := Lib.hid ((HP1.out.alloc _).to ht2.out HO2.out)
          have HT2 := Lib.hid (HT1.out.trans ht2.out.new)
          have HB2 := Lib.hid (ht2.out.new.keep.block_of HB1.out (by omega))
          have hz2 := ht2.out.new.keep.size
          clear ht2
          go_wp2_with fail
          -- the name, into a new formula's block
          refine (take_ok HP2.out 110 HK2.out).mono ?_; rintro e w3 ⟨rfl, ht3⟩
          have HT3 := Lib.hid (HT2.out.trans ht3.out)
          have HB3 := Lib.hid (ht3.out.keep.block_of HB2.out (by omega))
          have hz3 := ht3.out.keep.size
          have HP3 := Lib.hid ((HP2.out.to ht3.out HO3.out).alloc (.cells #[.int .i64 8, .int .i64 0, .string (stepR s (stepR s r.pos).pos).text, .slice none 0 0, .slice none 0 0, .slice none 0 0] 31))
          clear ht3
          go_wp2_with fail
          refine (list_pre HP3.out).mono ?_; rintro e w4 ⟨v4, rfl, hown, ht4⟩
          obtain ⟨va, vn, vc, rfl⟩ := own_shape hown.out
          have HT4' := Lib.hid ht4.out.new
          have hz4 := HT4'.out.keep.size
          have HB4 := Lib.hid (HT4'.out.keep.block_of HB3.out (by omega))
          have HC4 := Lib.hid (ht4.out.keep.block_of (block_alloc_new w3 _) (by have := HP2.out.rd.lt; omega))
          have hz4' := block_lt HC4.out
          have HOW := Lib.hid hown.out
          have HT5 := Lib.hid ((HT3.out.trans HT4'.out).set (x := w3.heap.size) (by omega) hlt 3 (.slice va vn vc))
          have HP5 := Lib.hid (HP.out.to HT5.out HO4.out)
          clear hown ht4
          obtain ⟨g0, g1, g2, g3, g4, g5, gf⟩ := six HC4.out
          go_wp2_with fail
          clear g0 g1 g2 g3 g4 g5 gf
          -- the kid
          refine (IH.out _ rb s _ HP5.out (by rw [HF.out]; simp)).mono ?_; intro e w6 hp6; rw [HF.out] at hp6; obtain ⟨v6, rfl, hkids, ht6, ho6⟩ := hp6
          obtain ⟨ka, kn, kc, rfl⟩ := kids_shape hkids
          have HB6 := Lib.hid (ht6.keep.block_of (set_other HB4.out (x := w3.heap.size) (i := 3) (v := .slice va vn vc) (by omega)) (by omega))
          have HC6' := Lib.hid (ht6.keep.block_of (block_setCell HC4.out 3 (.slice va vn vc)) (by have := HP2.out.rd.lt; omega))
          have HC6 := Lib.hid (show w6.heap[w3.heap.size]? = some (.cells #[.int .i64 8, .int .i64 0, .string (stepR s (stepR s r.pos).pos).text, .slice va vn vc, .slice none 0 0, .slice none 0 0] 31 (0, 0)) from by simpa using HC6'.out)
          have hz6 := ht6.keep.size
          simp only [World.size_setCell] at hz6
          have HT7 := Lib.hid ((HT5.out.trans ht6).set (x := w3.heap.size) (by omega) hlt 5 (.slice ka kn kc))
          have HP7 := Lib.hid (HP.out.to HT7.out ho6)
          have HX6 := Lib.hid (And.intro hkids (And.intro ht6 ho6))
          clear hkids ht6 ho6 HC6'
          obtain ⟨g0, g1, g2, g3, g4, g5, gf⟩ := six HC6.out
          go_wp2_with fail
          clear g0 g1 g2 g3 g4 g5 gf
          refine (args_any HP7.out).mono ?_; intro e w7 hp7; rw [HA.out] at hp7; obtain ⟨rfl, hkp⟩ := hp7
          have HKP := Lib.hid hkp
          clear hkp
          go_wp2
          exact ⟨rfl, rfl, HT7.out.keep.trans HKP.out⟩
        | ok al r6 =>
          simp only [Res.bind_ok]
          have HA := Lib.hid ha
          clear ha hne
          go_enter Tryz.func47, Tryz.ntmps47
          go_wp2_with fail
          refine (take_ok (HP.out.alloc _) 119 HK.out).mono ?_; rintro e w1 ⟨rfl, ht1⟩
          have HP1 := Lib.hid ((HP.out.alloc _).to ht1.out HO1.out)
          have HB1 := Lib.hid (ht1.out.keep.block_of (block_alloc_new w _) (by omega))
          have HT1 := Lib.hid ht1.out.new
          have hz1 := HT1.out.keep.size
          have hzw := block_lt HB1.out
          clear ht1 c2
          go_wp2_with fail
          refine (need_ok (HP1.out.alloc _) ⟨#[40]⟩ _ (cell_one_new _ _ _ 0 _ rfl) HBR.out).mono ?_; rintro e w2 ⟨rfl, ht2⟩
          have HP2 := Lib.hid ((HP1.out.alloc _).to ht2.out HO2.out)
          have HT2 := Lib.hid (HT1.out.trans ht2.out.new)
          have HB2 := Lib.hid (ht2.out.new.keep.block_of HB1.out (by omega))
          have hz2 := ht2.out.new.keep.size
          clear ht2
          go_wp2_with fail
          -- the name, into a new formula's block
          refine (take_ok HP2.out 110 HK2.out).mono ?_; rintro e w3 ⟨rfl, ht3⟩
          have HT3 := Lib.hid (HT2.out.trans ht3.out)
          have HB3 := Lib.hid (ht3.out.keep.block_of HB2.out (by omega))
          have hz3 := ht3.out.keep.size
          have HP3 := Lib.hid ((HP2.out.to ht3.out HO3.out).alloc (.cells #[.int .i64 8, .int .i64 0, .string (stepR s (stepR s r.pos).pos).text, .slice none 0 0, .slice none 0 0, .slice none 0 0] 31))
          clear ht3
          go_wp2_with fail
          refine (list_pre HP3.out).mono ?_; rintro e w4 ⟨v4, rfl, hown, ht4⟩
          obtain ⟨va, vn, vc, rfl⟩ := own_shape hown.out
          have HT4' := Lib.hid ht4.out.new
          have hz4 := HT4'.out.keep.size
          have HB4 := Lib.hid (HT4'.out.keep.block_of HB3.out (by omega))
          have HC4 := Lib.hid (ht4.out.keep.block_of (block_alloc_new w3 _) (by have := HP2.out.rd.lt; omega))
          have hz4' := block_lt HC4.out
          have HOW := Lib.hid hown.out
          have HT5 := Lib.hid ((HT3.out.trans HT4'.out).set (x := w3.heap.size) (by omega) hlt 3 (.slice va vn vc))
          have HP5 := Lib.hid (HP.out.to HT5.out HO4.out)
          clear hown ht4
          obtain ⟨g0, g1, g2, g3, g4, g5, gf⟩ := six HC4.out
          go_wp2_with fail
          clear g0 g1 g2 g3 g4 g5 gf
          -- the kid
          refine (IH.out _ rb s _ HP5.out (by rw [HF.out]; simp)).mono ?_; intro e w6 hp6; rw [HF.out] at hp6; obtain ⟨v6, rfl, hkids, ht6, ho6⟩ := hp6
          obtain ⟨ka, kn, kc, rfl⟩ := kids_shape hkids
          have HB6 := Lib.hid (ht6.keep.block_of (set_other HB4.out (x := w3.heap.size) (i := 3) (v := .slice va vn vc) (by omega)) (by omega))
          have HC6' := Lib.hid (ht6.keep.block_of (block_setCell HC4.out 3 (.slice va vn vc)) (by have := HP2.out.rd.lt; omega))
          have HC6 := Lib.hid (show w6.heap[w3.heap.size]? = some (.cells #[.int .i64 8, .int .i64 0, .string (stepR s (stepR s r.pos).pos).text, .slice va vn vc, .slice none 0 0, .slice none 0 0] 31 (0, 0)) from by simpa using HC6'.out)
          have hz6 := ht6.keep.size
          simp only [World.size_setCell] at hz6
          have HT7 := Lib.hid ((HT5.out.trans ht6).set (x := w3.heap.size) (by omega) hlt 5 (.slice ka kn kc))
          have HP7 := Lib.hid (HP.out.to HT7.out ho6)
          have HX6 := Lib.hid (And.intro hkids (And.intro ht6 ho6))
          clear hkids ht6 ho6 HC6'
          obtain ⟨g0, g1, g2, g3, g4, g5, gf⟩ := six HC6.out
          go_wp2_with fail
          clear g0 g1 g2 g3 g4 g5 gf
          refine (args_any HP7.out).mono ?_; intro e w7 hp7; rw [HA.out] at hp7; obtain ⟨v7, rfl, hown7, ht7, ho7⟩ := hp7
          obtain ⟨aa, an, ac, rfl⟩ := own_shape hown7
          have HB7 := Lib.hid (ht7.keep.block_of (set_other HB6.out (x := w3.heap.size) (i := 5) (v := .slice ka kn kc) (by omega)) (by omega))
          have HC7 := Lib.hid (ht7.keep.block_of (block_setCell HC6.out 5 (.slice ka kn kc)) (by have := HP2.out.rd.lt; omega))
          have HT8 := Lib.hid (HT7.out.trans ht7)
          have HX7 := Lib.hid (And.intro hown7 (And.intro ht7 ho7))
          have hz7 := ht7.keep.size
          simp only [World.size_setCell] at hz7
          clear hown7 ht7 ho7
          obtain ⟨d0, d1, d2, d3, d4, d5, df⟩ := six HB7.out
          have HC7' := Lib.hid (show w7.heap[w3.heap.size]? = some (.cells #[.int .i64 8, .int .i64 0, .string (stepR s (stepR s r.pos).pos).text, .slice va vn vc, .slice none 0 0, .slice ka kn kc] 31 (0, 0)) from by simpa using HC7.out)
          obtain ⟨g0, g1, g2, g3, g4, g5, gf⟩ := six HC7'.out
          go_wp2
          refine bodyPost_form rfl rfl (set6 (set_other HB7.out (by omega))) rfl ?_
          obtain ⟨hkids, ht6, ho6⟩ := HX6.out
          obtain ⟨hown7, ht7, ho7⟩ := HX7.out
          have hk6 := hkids.open
          have how := HOW.out
          simp only [World.size_alloc, World.size_setCell] at hk6 hown7 how
          have b7 : ∀ b, w3.heap.size < b → b < w6.heap.size → w7.heap[b]? = w6.heap[b]? := fun b h1 h2 => (ht7.keep.block b (by simpa using h2) (by omega)).trans (Below.heap_setCell _ _ _ _ (by show b ≠ w3.heap.size; omega))
          have b6 : ∀ b, w3.heap.size < b → b < w4.heap.size → w7.heap[b]? = w4.heap[b]? := fun b h1 h2 => (b7 b h1 (by omega)).trans ((ht6.keep.block b (by simpa using h2) (by omega)).trans (Below.heap_setCell _ _ _ _ (by show b ≠ w3.heap.size; omega)))
          have hrv : RStrs w7 (fun b => w3.heap.size < b) (.slice va vn vc) _ := (RStrs.of_own (Q := fun b => w3.heap.size < b) how (fun b hb _ => by omega)).stay (by omega) (fun b hb hlt2 => b6 b hb hlt2) (fun b hb _ => hb)
          have hrk : RKids w7 (fun b => w3.heap.size < b) (.slice ka kn kc) l := hk6.stay (by omega) (fun b hb hlt2 => b7 b (by omega) hlt2) (fun b hb _ => by omega)
          have hra : RStrs w7 (fun b => w3.heap.size < b) (.slice aa an ac) al := RStrs.of_own hown7 (fun b hb _ => by omega)
          refine ⟨_, rfl, (RForm.of_kids 8 0 _ hrv hra hrk).stay (by simp) (fun b hb _ => ?_) (fun b hb _ => ?_), (HT8.out.set (x := w3.heap.size) (by omega) hlt 4 _).set6 (Nat.le_refl _) hlt _ _ _ _ _ _, ho7⟩
          · rw [set6_other (by omega)]; exact Below.heap_setCell _ _ _ _ (by show b ≠ w3.heap.size; omega)
          · unfold New; omega

set_option maxHeartbeats 3200000 in
set_option maxRecDepth 100000 in
theorem f_pfp {w : World} {rb : Nat} {s : ByteArray} {r : RS} (n : Nat) (ih : SI n) (h : Pre w rb s r) (hk : r.kind = 119) (hw : r.text = ⟨#[112, 102, 112]⟩)
    (hne : ((needP s ⟨#[40]⟩ (stepR s r.pos)).bind fun _ r => (takeP s 110 r).bind fun nm r => (innerP s n (listP s r).2).bind fun l r' => (argsP s r').bind fun al r'' => Res.ok (Form.mk 9 0 nm (listP s r).1 al l) r'') ≠ .out) :
    Calls Tryz.prog 47 #[.pointer (some ⟨rb, 0, none⟩)] w (PostR ((needP s ⟨#[40]⟩ (stepR s r.pos)).bind fun _ r => (takeP s 110 r).bind fun nm r => (innerP s n (listP s r).2).bind fun l r' => (argsP s r').bind fun al r'' => .ok (.mk 9 0 nm (listP s r).1 al l) r'') w rb s (NewForm w.heap.size)) := by
  have HP := Lib.hid h
  have hlt := h.rd.lt
  have hk' : (r.kind == 110) = false := by rw [hk]; rfl
  have HK := Lib.hid hk
  have c2 := h.rd.c2
  have HO1 := Lib.hid (stepR_ok h.ok.pos).1
  clear h hk
  have IH := Lib.hid ih
  clear ih
  -- the opening bracket: no, then yes
  cases hb : isB (stepR s r.pos) ⟨#[40]⟩ with
  | false =>
    have e1 : needP s ⟨#[40]⟩ (stepR s r.pos) = .err (stepR s r.pos).at_ := by unfold needP; rw [if_neg (by rw [hb]; simp)]
    rw [e1]
    simp only [Res.bind_err]
    have HBR := Lib.hid hb
    clear hb e1 hne
    go_enter Tryz.func47, Tryz.ntmps47
    go_wp2_with fail
    refine (take_ok (HP.out.alloc _) 119 HK.out).mono ?_; rintro e w1 ⟨rfl, ht1⟩
    have HP1 := Lib.hid ((HP.out.alloc _).to ht1.out HO1.out)
    have HB1 := Lib.hid (ht1.out.keep.block_of (block_alloc_new w _) (by omega))
    have HT1 := Lib.hid ht1.out.new
    have hz1 := HT1.out.keep.size
    have hzw := block_lt HB1.out
    clear ht1 c2
    go_wp2_with fail
    refine (need_no (HP1.out.alloc _) ⟨#[40]⟩ _ (cell_one_new _ _ _ 0 _ rfl) HBR.out).mono ?_; rintro e w2 ⟨rfl, hkp⟩
    go_wp2
    exact ⟨rfl, rfl, HT1.out.keep.trans hkp.out.new⟩
  | true =>
    have e1 : needP s ⟨#[40]⟩ (stepR s r.pos) = .ok () (stepR s (stepR s r.pos).pos) := by unfold needP; rw [if_pos hb]
    rw [e1] at hne ⊢
    simp only [Res.bind_ok] at hne ⊢
    have HBR := Lib.hid hb
    have HO2 := Lib.hid (stepR_ok HO1.out.pos).1
    clear hb e1
    by_cases hk2 : (stepR s (stepR s r.pos).pos).kind = 110
    case neg =>
      have e2 : takeP s 110 (stepR s (stepR s r.pos).pos) = .err (stepR s (stepR s r.pos).pos).at_ := by unfold takeP; rw [if_neg hk2]
      rw [e2]
      simp only [Res.bind_err]
      have HK2 := Lib.hid hk2
      clear e2 hk2 hne
      go_enter Tryz.func47, Tryz.ntmps47
      go_wp2_with fail
      refine (take_ok (HP.out.alloc _) 119 HK.out).mono ?_; rintro e w1 ⟨rfl, ht1⟩
      have HP1 := Lib.hid ((HP.out.alloc _).to ht1.out HO1.out)
      have HB1 := Lib.hid (ht1.out.keep.block_of (block_alloc_new w _) (by omega))
      have HT1 := Lib.hid ht1.out.new
      have hz1 := HT1.out.keep.size
      have hzw := block_lt HB1.out
      clear ht1 c2
      go_wp2_with fail
      refine (need_ok (HP1.out.alloc _) ⟨#[40]⟩ _ (cell_one_new _ _ _ 0 _ rfl) HBR.out).mono ?_; rintro e w2 ⟨rfl, ht2⟩
      have HP2 := Lib.hid ((HP1.out.alloc _).to ht2.out HO2.out)
      have HT2 := Lib.hid (HT1.out.trans ht2.out.new)
      have HB2 := Lib.hid (ht2.out.new.keep.block_of HB1.out (by omega))
      have hz2 := ht2.out.new.keep.size
      clear ht2
      go_wp2_with fail
      refine (take_no HP2.out 110 HK2.out).mono ?_; rintro e w3 ⟨rfl, hkp⟩
      go_wp2
      exact ⟨rfl, rfl, HT2.out.keep.trans hkp.out⟩
    case pos =>
      have e2 : takeP s 110 (stepR s (stepR s r.pos).pos) = .ok (stepR s (stepR s r.pos).pos).text (stepR s (stepR s (stepR s r.pos).pos).pos) := by unfold takeP; rw [if_pos hk2]
      rw [e2] at hne ⊢
      simp only [Res.bind_ok] at hne ⊢
      have HK2 := Lib.hid hk2
      have HO3 := Lib.hid (stepR_ok HO2.out.pos).1
      have HO4 := Lib.hid (listP_okr HO3.out)
      clear e2 hk2
      cases hf : innerP s n (listP s (stepR s (stepR s (stepR s r.pos).pos).pos)).2 with
      | out => rw [hf] at hne; exact absurd rfl hne
      | err i =>
        simp only [Res.bind_err]
        have HF := Lib.hid hf
        clear hf hne
        go_enter Tryz.func47, Tryz.ntmps47
        go_wp2_with fail
        refine (take_ok (HP.out.alloc _) 119 HK.out).mono ?_; rintro e w1 ⟨rfl, ht1⟩
        have HP1 := Lib.hid ((HP.out.alloc _).to ht1.out HO1.out)
        have HB1 := Lib.hid (ht1.out.keep.block_of (block_alloc_new w _) (by omega))
        have HT1 := Lib.hid ht1.out.new
        have hz1 := HT1.out.keep.size
        have hzw := block_lt HB1.out
        clear ht1 c2
        go_wp2_with fail
        refine (need_ok (HP1.out.alloc _) ⟨#[40]⟩ _ (cell_one_new _ _ _ 0 _ rfl) HBR.out).mono ?_; rintro e w2 ⟨rfl, ht2⟩
        have HP2 := Lib.hid ((HP1.out.alloc _).to ht2.out HO2.out)
        have HT2 := Lib.hid (HT1.out.trans ht2.out.new)
        have HB2 := Lib.hid (ht2.out.new.keep.block_of HB1.out (by omega))
        have hz2 := ht2.out.new.keep.size
        clear ht2
        go_wp2_with fail
        -- the name, into a new formula's block
        refine (take_ok HP2.out 110 HK2.out).mono ?_; rintro e w3 ⟨rfl, ht3⟩
        have HT3 := Lib.hid (HT2.out.trans ht3.out)
        have HB3 := Lib.hid (ht3.out.keep.block_of HB2.out (by omega))
        have hz3 := ht3.out.keep.size
        have HP3 := Lib.hid ((HP2.out.to ht3.out HO3.out).alloc (.cells #[.int .i64 9, .int .i64 0, .string (stepR s (stepR s r.pos).pos).text, .slice none 0 0, .slice none 0 0, .slice none 0 0] 31))
        clear ht3
        go_wp2_with fail
        refine (list_pre HP3.out).mono ?_; rintro e w4 ⟨v4, rfl, hown, ht4⟩
        obtain ⟨va, vn, vc, rfl⟩ := own_shape hown.out
        have HT4' := Lib.hid ht4.out.new
        have hz4 := HT4'.out.keep.size
        have HB4 := Lib.hid (HT4'.out.keep.block_of HB3.out (by omega))
        have HC4 := Lib.hid (ht4.out.keep.block_of (block_alloc_new w3 _) (by have := HP2.out.rd.lt; omega))
        have hz4' := block_lt HC4.out
        have HOW := Lib.hid hown.out
        have HT5 := Lib.hid ((HT3.out.trans HT4'.out).set (x := w3.heap.size) (by omega) hlt 3 (.slice va vn vc))
        have HP5 := Lib.hid (HP.out.to HT5.out HO4.out)
        clear hown ht4
        obtain ⟨g0, g1, g2, g3, g4, g5, gf⟩ := six HC4.out
        go_wp2_with fail
        clear g0 g1 g2 g3 g4 g5 gf
        refine (IH.out _ rb s _ HP5.out (by rw [HF.out]; simp)).mono ?_; intro e w5 hp5; rw [HF.out] at hp5; obtain ⟨rfl, hkp⟩ := hp5
        have HKP := Lib.hid hkp
        clear hkp
        go_wp2
        exact ⟨rfl, rfl, HT5.out.keep.trans HKP.out⟩
      | ok l r5 =>
        rw [hf] at hne
        simp only [Res.bind_ok] at hne ⊢
        have HF := Lib.hid hf
        clear hf
        cases ha : argsP s r5 with
        | out => exact absurd ha (args_ne_out _ _)
        | err i =>
          simp only [Res.bind_err]
          have HA := Lib.hid ha
          clear ha hne
          go_enter Tryz.func47, Tryz.ntmps47
          go_wp2_with fail
          refine (take_ok (HP.out.alloc _) 119 HK.out).mono ?_; rintro e w1 ⟨rfl, ht1⟩
          have HP1 := Lib.hid ((HP.out.alloc _).to ht1.out HO1.out)
          have HB1 := Lib.hid (ht1.out.keep.block_of (block_alloc_new w _) (by omega))
          have HT1 := Lib.hid ht1.out.new
          have hz1 := HT1.out.keep.size
          have hzw := block_lt HB1.out
          clear ht1 c2
          go_wp2_with fail
          refine (need_ok (HP1.out.alloc _) ⟨#[40]⟩ _ (cell_one_new _ _ _ 0 _ rfl) HBR.out).mono ?_; rintro e w2 ⟨rfl, ht2⟩
          have HP2 := Lib.hid ((HP1.out.alloc _).to ht2.out HO2.out)
          have HT2 := Lib.hid (HT1.out.trans ht2.out.new)
          have HB2 := Lib.hid (ht2.out.new.keep.block_of HB1.out (by omega))
          have hz2 := ht2.out.new.keep.size
          clear ht2
          go_wp2_with fail
          -- the name, into a new formula's block
          refine (take_ok HP2.out 110 HK2.out).mono ?_; rintro e w3 ⟨rfl, ht3⟩
          have HT3 := Lib.hid (HT2.out.trans ht3.out)
          have HB3 := Lib.hid (ht3.out.keep.block_of HB2.out (by omega))
          have hz3 := ht3.out.keep.size
          have HP3 := Lib.hid ((HP2.out.to ht3.out HO3.out).alloc (.cells #[.int .i64 9, .int .i64 0, .string (stepR s (stepR s r.pos).pos).text, .slice none 0 0, .slice none 0 0, .slice none 0 0] 31))
          clear ht3
          go_wp2_with fail
          refine (list_pre HP3.out).mono ?_; rintro e w4 ⟨v4, rfl, hown, ht4⟩
          obtain ⟨va, vn, vc, rfl⟩ := own_shape hown.out
          have HT4' := Lib.hid ht4.out.new
          have hz4 := HT4'.out.keep.size
          have HB4 := Lib.hid (HT4'.out.keep.block_of HB3.out (by omega))
          have HC4 := Lib.hid (ht4.out.keep.block_of (block_alloc_new w3 _) (by have := HP2.out.rd.lt; omega))
          have hz4' := block_lt HC4.out
          have HOW := Lib.hid hown.out
          have HT5 := Lib.hid ((HT3.out.trans HT4'.out).set (x := w3.heap.size) (by omega) hlt 3 (.slice va vn vc))
          have HP5 := Lib.hid (HP.out.to HT5.out HO4.out)
          clear hown ht4
          obtain ⟨g0, g1, g2, g3, g4, g5, gf⟩ := six HC4.out
          go_wp2_with fail
          clear g0 g1 g2 g3 g4 g5 gf
          -- the kid
          refine (IH.out _ rb s _ HP5.out (by rw [HF.out]; simp)).mono ?_; intro e w6 hp6; rw [HF.out] at hp6; obtain ⟨v6, rfl, hkids, ht6, ho6⟩ := hp6
          obtain ⟨ka, kn, kc, rfl⟩ := kids_shape hkids
          have HB6 := Lib.hid (ht6.keep.block_of (set_other HB4.out (x := w3.heap.size) (i := 3) (v := .slice va vn vc) (by omega)) (by omega))
          have HC6' := Lib.hid (ht6.keep.block_of (block_setCell HC4.out 3 (.slice va vn vc)) (by have := HP2.out.rd.lt; omega))
          have HC6 := Lib.hid (show w6.heap[w3.heap.size]? = some (.cells #[.int .i64 9, .int .i64 0, .string (stepR s (stepR s r.pos).pos).text, .slice va vn vc, .slice none 0 0, .slice none 0 0] 31 (0, 0)) from by simpa using HC6'.out)
          have hz6 := ht6.keep.size
          simp only [World.size_setCell] at hz6
          have HT7 := Lib.hid ((HT5.out.trans ht6).set (x := w3.heap.size) (by omega) hlt 5 (.slice ka kn kc))
          have HP7 := Lib.hid (HP.out.to HT7.out ho6)
          have HX6 := Lib.hid (And.intro hkids (And.intro ht6 ho6))
          clear hkids ht6 ho6 HC6'
          obtain ⟨g0, g1, g2, g3, g4, g5, gf⟩ := six HC6.out
          go_wp2_with fail
          clear g0 g1 g2 g3 g4 g5 gf
          refine (args_any HP7.out).mono ?_; intro e w7 hp7; rw [HA.out] at hp7; obtain ⟨rfl, hkp⟩ := hp7
          have HKP := Lib.hid hkp
          clear hkp
          go_wp2
          exact ⟨rfl, rfl, HT7.out.keep.trans HKP.out⟩
        | ok al r6 =>
          simp only [Res.bind_ok]
          have HA := Lib.hid ha
          clear ha hne
          go_enter Tryz.func47, Tryz.ntmps47
          go_wp2_with fail
          refine (take_ok (HP.out.alloc _) 119 HK.out).mono ?_; rintro e w1 ⟨rfl, ht1⟩
          have HP1 := Lib.hid ((HP.out.alloc _).to ht1.out HO1.out)
          have HB1 := Lib.hid (ht1.out.keep.block_of (block_alloc_new w _) (by omega))
          have HT1 := Lib.hid ht1.out.new
          have hz1 := HT1.out.keep.size
          have hzw := block_lt HB1.out
          clear ht1 c2
          go_wp2_with fail
          refine (need_ok (HP1.out.alloc _) ⟨#[40]⟩ _ (cell_one_new _ _ _ 0 _ rfl) HBR.out).mono ?_; rintro e w2 ⟨rfl, ht2⟩
          have HP2 := Lib.hid ((HP1.out.alloc _).to ht2.out HO2.out)
          have HT2 := Lib.hid (HT1.out.trans ht2.out.new)
          have HB2 := Lib.hid (ht2.out.new.keep.block_of HB1.out (by omega))
          have hz2 := ht2.out.new.keep.size
          clear ht2
          go_wp2_with fail
          -- the name, into a new formula's block
          refine (take_ok HP2.out 110 HK2.out).mono ?_; rintro e w3 ⟨rfl, ht3⟩
          have HT3 := Lib.hid (HT2.out.trans ht3.out)
          have HB3 := Lib.hid (ht3.out.keep.block_of HB2.out (by omega))
          have hz3 := ht3.out.keep.size
          have HP3 := Lib.hid ((HP2.out.to ht3.out HO3.out).alloc (.cells #[.int .i64 9, .int .i64 0, .string (stepR s (stepR s r.pos).pos).text, .slice none 0 0, .slice none 0 0, .slice none 0 0] 31))
          clear ht3
          go_wp2_with fail
          refine (list_pre HP3.out).mono ?_; rintro e w4 ⟨v4, rfl, hown, ht4⟩
          obtain ⟨va, vn, vc, rfl⟩ := own_shape hown.out
          have HT4' := Lib.hid ht4.out.new
          have hz4 := HT4'.out.keep.size
          have HB4 := Lib.hid (HT4'.out.keep.block_of HB3.out (by omega))
          have HC4 := Lib.hid (ht4.out.keep.block_of (block_alloc_new w3 _) (by have := HP2.out.rd.lt; omega))
          have hz4' := block_lt HC4.out
          have HOW := Lib.hid hown.out
          have HT5 := Lib.hid ((HT3.out.trans HT4'.out).set (x := w3.heap.size) (by omega) hlt 3 (.slice va vn vc))
          have HP5 := Lib.hid (HP.out.to HT5.out HO4.out)
          clear hown ht4
          obtain ⟨g0, g1, g2, g3, g4, g5, gf⟩ := six HC4.out
          go_wp2_with fail
          clear g0 g1 g2 g3 g4 g5 gf
          -- the kid
          refine (IH.out _ rb s _ HP5.out (by rw [HF.out]; simp)).mono ?_; intro e w6 hp6; rw [HF.out] at hp6; obtain ⟨v6, rfl, hkids, ht6, ho6⟩ := hp6
          obtain ⟨ka, kn, kc, rfl⟩ := kids_shape hkids
          have HB6 := Lib.hid (ht6.keep.block_of (set_other HB4.out (x := w3.heap.size) (i := 3) (v := .slice va vn vc) (by omega)) (by omega))
          have HC6' := Lib.hid (ht6.keep.block_of (block_setCell HC4.out 3 (.slice va vn vc)) (by have := HP2.out.rd.lt; omega))
          have HC6 := Lib.hid (show w6.heap[w3.heap.size]? = some (.cells #[.int .i64 9, .int .i64 0, .string (stepR s (stepR s r.pos).pos).text, .slice va vn vc, .slice none 0 0, .slice none 0 0] 31 (0, 0)) from by simpa using HC6'.out)
          have hz6 := ht6.keep.size
          simp only [World.size_setCell] at hz6
          have HT7 := Lib.hid ((HT5.out.trans ht6).set (x := w3.heap.size) (by omega) hlt 5 (.slice ka kn kc))
          have HP7 := Lib.hid (HP.out.to HT7.out ho6)
          have HX6 := Lib.hid (And.intro hkids (And.intro ht6 ho6))
          clear hkids ht6 ho6 HC6'
          obtain ⟨g0, g1, g2, g3, g4, g5, gf⟩ := six HC6.out
          go_wp2_with fail
          clear g0 g1 g2 g3 g4 g5 gf
          refine (args_any HP7.out).mono ?_; intro e w7 hp7; rw [HA.out] at hp7; obtain ⟨v7, rfl, hown7, ht7, ho7⟩ := hp7
          obtain ⟨aa, an, ac, rfl⟩ := own_shape hown7
          have HB7 := Lib.hid (ht7.keep.block_of (set_other HB6.out (x := w3.heap.size) (i := 5) (v := .slice ka kn kc) (by omega)) (by omega))
          have HC7 := Lib.hid (ht7.keep.block_of (block_setCell HC6.out 5 (.slice ka kn kc)) (by have := HP2.out.rd.lt; omega))
          have HT8 := Lib.hid (HT7.out.trans ht7)
          have HX7 := Lib.hid (And.intro hown7 (And.intro ht7 ho7))
          have hz7 := ht7.keep.size
          simp only [World.size_setCell] at hz7
          clear hown7 ht7 ho7
          obtain ⟨d0, d1, d2, d3, d4, d5, df⟩ := six HB7.out
          have HC7' := Lib.hid (show w7.heap[w3.heap.size]? = some (.cells #[.int .i64 9, .int .i64 0, .string (stepR s (stepR s r.pos).pos).text, .slice va vn vc, .slice none 0 0, .slice ka kn kc] 31 (0, 0)) from by simpa using HC7.out)
          obtain ⟨g0, g1, g2, g3, g4, g5, gf⟩ := six HC7'.out
          go_wp2
          refine bodyPost_form rfl rfl (set6 (set_other HB7.out (by omega))) rfl ?_
          obtain ⟨hkids, ht6, ho6⟩ := HX6.out
          obtain ⟨hown7, ht7, ho7⟩ := HX7.out
          have hk6 := hkids.open
          have how := HOW.out
          simp only [World.size_alloc, World.size_setCell] at hk6 hown7 how
          have b7 : ∀ b, w3.heap.size < b → b < w6.heap.size → w7.heap[b]? = w6.heap[b]? := fun b h1 h2 => (ht7.keep.block b (by simpa using h2) (by omega)).trans (Below.heap_setCell _ _ _ _ (by show b ≠ w3.heap.size; omega))
          have b6 : ∀ b, w3.heap.size < b → b < w4.heap.size → w7.heap[b]? = w4.heap[b]? := fun b h1 h2 => (b7 b h1 (by omega)).trans ((ht6.keep.block b (by simpa using h2) (by omega)).trans (Below.heap_setCell _ _ _ _ (by show b ≠ w3.heap.size; omega)))
          have hrv : RStrs w7 (fun b => w3.heap.size < b) (.slice va vn vc) _ := (RStrs.of_own (Q := fun b => w3.heap.size < b) how (fun b hb _ => by omega)).stay (by omega) (fun b hb hlt2 => b6 b hb hlt2) (fun b hb _ => hb)
          have hrk : RKids w7 (fun b => w3.heap.size < b) (.slice ka kn kc) l := hk6.stay (by omega) (fun b hb hlt2 => b7 b (by omega) hlt2) (fun b hb _ => by omega)
          have hra : RStrs w7 (fun b => w3.heap.size < b) (.slice aa an ac) al := RStrs.of_own hown7 (fun b hb _ => by omega)
          refine ⟨_, rfl, (RForm.of_kids 9 0 _ hrv hra hrk).stay (by simp) (fun b hb _ => ?_) (fun b hb _ => ?_), (HT8.out.set (x := w3.heap.size) (by omega) hlt 4 _).set6 (Nat.le_refl _) hlt _ _ _ _ _ _, ho7⟩
          · rw [set6_other (by omega)]; exact Below.heap_setCell _ _ _ _ (by show b ≠ w3.heap.size; omega)
          · unfold New; omega

end Go.Proofs.YtadnnijdbcdkjaaGreatDoor
