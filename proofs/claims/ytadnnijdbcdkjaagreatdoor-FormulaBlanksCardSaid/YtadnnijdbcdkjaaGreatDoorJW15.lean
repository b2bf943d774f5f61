/-
  Contract of the reader's method formula, word by word: tc, exists. Conditions: as in the texts before.
-/
import Derived.Test.YtadnnijdbcdkjaaGreatDoorJW14
namespace Go.Proofs.YtadnnijdbcdkjaaGreatDoor
open Go.RowKit


set_option maxHeartbeats 3200000 in
set_option maxRecDepth 100000 in
theorem f_tc {w : World} {rb : Nat} {s : ByteArray} {r : RS} (n : Nat) (ih : SI n) (h : Pre w rb s r) (hk : r.kind = 119) (hw : r.text = ⟨#[116, 99]⟩)
    (hne : ((needP s ⟨#[40]⟩ (stepR s r.pos)).bind fun _ r => (innerP s n (listP s r).2).bind fun l r' => (argsP s r').bind fun al r'' => Res.ok (Form.mk 10 0 eb (listP s r).1 al l) r'') ≠ .out) :
    Calls Tryz.prog 47 #[.pointer (some ⟨rb, 0, none⟩)] w (PostR ((needP s ⟨#[40]⟩ (stepR s r.pos)).bind fun _ r => (innerP s n (listP s r).2).bind fun l r' => (argsP s r').bind fun al r'' => .ok (.mk 10 0 eb (listP s r).1 al l) r'') w rb s (NewForm w.heap.size)) := by
  have HP := Lib.hid h
  have hlt := h.rd.lt
  have hk' : (r.kind == 110) = false := by rw [hk]; rfl
  have HK := Lib.hid hk
  have c2 := h.rd.c2
  have HO1 := Lib.hid (stepR_ok h.ok.pos).1
  clear h hk
  have IH := Lib.hid ih
  clear ih
  -- the opening bracket: no, then yes
  cases hb : isB (stepR s r.pos) ⟨#[40]⟩ with
  | false =>
    have e1 : needP s ⟨#[40]⟩ (stepR s r.pos) = .err (stepR s r.pos).at_ := by unfold needP; rw [if_neg (by rw [hb]; simp)]
    rw [e1]
    simp only [Res.bind_err]
    have HBR := Lib.hid hb
    clear hb e1 hne
    go_enter Tryz.func47, Tryz.ntmps47
    go_wp2_with fail
    refine (take_ok (HP.out.alloc _) 119 HK.out).mono ?_; rintro e w1 ⟨rfl, ht1⟩
    have HP1 := Lib.hid ((HP.out.alloc _).to ht1.out HO1.out)
    have HB1 := Lib.hid (ht1.out.keep.block_of (block_alloc_new w _) (by omega))
    have HT1 := Lib.hid ht1.out.new
    have hz1 := HT1.out.keep.size
    have hzw := block_lt HB1.out
    clear ht1 c2
    go_wp2_with fail
    refine (need_no (HP1.out.alloc _) ⟨#[40]⟩ _ (cell_one_new _ _ _ 0 _ rfl) HBR.out).mono ?_; rintro e w2 ⟨rfl, hkp⟩
    go_wp2
    exact ⟨rfl, rfl, HT1.out.keep.trans hkp.out.new⟩
  | true =>
    have e1 : needP s ⟨#[40]⟩ (stepR s r.pos) = .ok () (stepR s (stepR s r.pos).pos) := by unfold needP; rw [if_pos hb]
    rw [e1] at hne ⊢
    simp only [Res.bind_ok] at hne ⊢
    have HBR := Lib.hid hb
    have HO2 := Lib.hid (stepR_ok HO1.out.pos).1
    clear hb e1
    have HO3 := Lib.hid (listP_okr HO2.out)
    cases hf : innerP s n (listP s (stepR s (stepR s r.pos).pos)).2 with
    | out => rw [hf] at hne; exact absurd rfl hne
    | err i =>
      simp only [Res.bind_err]
      have HF := Lib.hid hf
      clear hf hne
      go_enter Tryz.func47, Tryz.ntmps47
      go_wp2_with fail
      refine (take_ok (HP.out.alloc _) 119 HK.out).mono ?_; rintro e w1 ⟨rfl, ht1⟩
      have HP1 := Lib.hid ((HP.out.alloc _).to ht1.out HO1.out)
      have HB1 := Lib.hid (ht1.out.keep.block_of (block_alloc_new w _) (by omega))
      have HT1 := Lib.hid ht1.out.new
      have hz1 := HT1.out.keep.size
      have hzw := block_lt HB1.out
      clear ht1 c2
      go_wp2_with fail
      refine (need_ok (HP1.out.alloc _) ⟨#[40]⟩ _ (cell_one_new _ _ _ 0 _ rfl) HBR.out).mono ?_; rintro e w2 ⟨rfl, ht2⟩
      have HP2 := Lib.hid ((HP1.out.alloc _).to ht2.out HO2.out)
      have HT2 := Lib.hid (HT1.out.trans ht2.out.new)
      have HB2 := Lib.hid (ht2.out.new.keep.block_of HB1.out (by omega))
      have hz2 := ht2.out.new.keep.size
      clear ht2
      go_wp2_with fail
      -- the names, into the new formula's Vars
      refine (list_pre HP2.out).mono ?_; rintro e w3 ⟨v3, rfl, hown, ht3⟩
      obtain ⟨va, vn, vc, rfl⟩ := own_shape hown.out
      have HP3 := Lib.hid ((HP2.out.to ht3.out HO3.out).alloc (.cells #[.int .i64 10, .int .i64 0, .string ⟨#[]⟩, .slice va vn vc, .slice none 0 0, .slice none 0 0] 31))
      have HT3 := Lib.hid (HT2.out.trans ht3.out)
      have HB3 := Lib.hid (ht3.out.keep.block_of HB2.out (by omega))
      have HOW := Lib.hid hown.out
      have hz3 := ht3.out.keep.size
      clear hown ht3
      go_wp2_with fail
      refine (IH.out _ rb s _ HP3.out (by rw [HF.out]; simp)).mono ?_; intro e w4 hp4; rw [HF.out] at hp4; obtain ⟨rfl, hkp⟩ := hp4
      have HKP := Lib.hid hkp
      clear hkp
      go_wp2
      exact ⟨rfl, rfl, HT3.out.keep.trans HKP.out.new⟩
    | ok l r5 =>
      rw [hf] at hne
      simp only [Res.bind_ok] at hne ⊢
      have HF := Lib.hid hf
      clear hf
      cases ha : argsP s r5 with
      | out => exact absurd ha (args_ne_out _ _)
      | err i =>
        simp only [Res.bind_err]
        have HA := Lib.hid ha
        clear ha hne
        go_enter Tryz.func47, Tryz.ntmps47
        go_wp2_with fail
        refine (take_ok (HP.out.alloc _) 119 HK.out).mono ?_; rintro e w1 ⟨rfl, ht1⟩
        have HP1 := Lib.hid ((HP.out.alloc _).to ht1.out HO1.out)
        have HB1 := Lib.hid (ht1.out.keep.block_of (block_alloc_new w _) (by omega))
        have HT1 := Lib.hid ht1.out.new
        have hz1 := HT1.out.keep.size
        have hzw := block_lt HB1.out
        clear ht1 c2
        go_wp2_with fail
        refine (need_ok (HP1.out.alloc _) ⟨#[40]⟩ _ (cell_one_new _ _ _ 0 _ rfl) HBR.out).mono ?_; rintro e w2 ⟨rfl, ht2⟩
        have HP2 := Lib.hid ((HP1.out.alloc _).to ht2.out HO2.out)
        have HT2 := Lib.hid (HT1.out.trans ht2.out.new)
        have HB2 := Lib.hid (ht2.out.new.keep.block_of HB1.out (by omega))
        have hz2 := ht2.out.new.keep.size
        clear ht2
        go_wp2_with fail
        -- the names, into the new formula's Vars
        refine (list_pre HP2.out).mono ?_; rintro e w3 ⟨v3, rfl, hown, ht3⟩
        obtain ⟨va, vn, vc, rfl⟩ := own_shape hown.out
        have HP3 := Lib.hid ((HP2.out.to ht3.out HO3.out).alloc (.cells #[.int .i64 10, .int .i64 0, .string ⟨#[]⟩, .slice va vn vc, .slice none 0 0, .slice none 0 0] 31))
        have HT3 := Lib.hid (HT2.out.trans ht3.out)
        have HB3 := Lib.hid (ht3.out.keep.block_of HB2.out (by omega))
        have HOW := Lib.hid hown.out
        have hz3 := ht3.out.keep.size
        clear hown ht3
        go_wp2_with fail
        -- the kid
        refine (IH.out _ rb s _ HP3.out (by rw [HF.out]; simp)).mono ?_; intro e w6 hp6; rw [HF.out] at hp6; obtain ⟨v6, rfl, hkids, ht6, ho6⟩ := hp6
        obtain ⟨ka, kn, kc, rfl⟩ := kids_shape hkids
        have HT6 := Lib.hid ht6.new
        have HB6 := Lib.hid (HT6.out.keep.block_of HB3.out (by omega))
        have HC6 := Lib.hid (ht6.keep.block_of (block_alloc_new w3 _) (by have := HP2.out.rd.lt; omega))
        have hz6' := block_lt HC6.out
        have hz6 := HT6.out.keep.size
        have HT7 := Lib.hid ((HT3.out.trans HT6.out).set (x := w3.heap.size) (by omega) hlt 5 (.slice ka kn kc))
        have HP7 := Lib.hid (HP.out.to HT7.out ho6)
        have HX6 := Lib.hid (And.intro hkids (And.intro HT6.out ho6))
        clear hkids ht6 ho6
        obtain ⟨g0, g1, g2, g3, g4, g5, gf⟩ := six HC6.out
        go_wp2_with fail
        clear g0 g1 g2 g3 g4 g5 gf
        refine (args_any HP7.out).mono ?_; intro e w7 hp7; rw [HA.out] at hp7; obtain ⟨rfl, hkp⟩ := hp7
        have HKP := Lib.hid hkp
        clear hkp
        go_wp2
        exact ⟨rfl, rfl, HT7.out.keep.trans HKP.out⟩
      | ok al r6 =>
        simp only [Res.bind_ok]
        have HA := Lib.hid ha
        clear ha hne
        go_enter Tryz.func47, Tryz.ntmps47
        go_wp2_with fail
        refine (take_ok (HP.out.alloc _) 119 HK.out).mono ?_; rintro e w1 ⟨rfl, ht1⟩
        have HP1 := Lib.hid ((HP.out.alloc _).to ht1.out HO1.out)
        have HB1 := Lib.hid (ht1.out.keep.block_of (block_alloc_new w _) (by omega))
        have HT1 := Lib.hid ht1.out.new
        have hz1 := HT1.out.keep.size
        have hzw := block_lt HB1.out
        clear ht1 c2
        go_wp2_with fail
        refine (need_ok (HP1.out.alloc _) ⟨#[40]⟩ _ (cell_one_new _ _ _ 0 _ rfl) HBR.out).mono ?_; rintro e w2 ⟨rfl, ht2⟩
        have HP2 := Lib.hid ((HP1.out.alloc _).to ht2.out HO2.out)
        have HT2 := Lib.hid (HT1.out.trans ht2.out.new)
        have HB2 := Lib.hid (ht2.out.new.keep.block_of HB1.out (by omega))
        have hz2 := ht2.out.new.keep.size
        clear ht2
        go_wp2_with fail
        -- the names, into the new formula's Vars
        refine (list_pre HP2.out).mono ?_; rintro e w3 ⟨v3, rfl, hown, ht3⟩
        obtain ⟨va, vn, vc, rfl⟩ := own_shape hown.out
        have HP3 := Lib.hid ((HP2.out.to ht3.out HO3.out).alloc (.cells #[.int .i64 10, .int .i64 0, .string ⟨#[]⟩, .slice va vn vc, .slice none 0 0, .slice none 0 0] 31))
        have HT3 := Lib.hid (HT2.out.trans ht3.out)
        have HB3 := Lib.hid (ht3.out.keep.block_of HB2.out (by omega))
        have HOW := Lib.hid hown.out
        have hz3 := ht3.out.keep.size
        clear hown ht3
        go_wp2_with fail
        -- the kid
        refine (IH.out _ rb s _ HP3.out (by rw [HF.out]; simp)).mono ?_; intro e w6 hp6; rw [HF.out] at hp6; obtain ⟨v6, rfl, hkids, ht6, ho6⟩ := hp6
        obtain ⟨ka, kn, kc, rfl⟩ := kids_shape hkids
        have HT6 := Lib.hid ht6.new
        have HB6 := Lib.hid (HT6.out.keep.block_of HB3.out (by omega))
        have HC6 := Lib.hid (ht6.keep.block_of (block_alloc_new w3 _) (by have := HP2.out.rd.lt; omega))
        have hz6' := block_lt HC6.out
        have hz6 := HT6.out.keep.size
        have HT7 := Lib.hid ((HT3.out.trans HT6.out).set (x := w3.heap.size) (by omega) hlt 5 (.slice ka kn kc))
        have HP7 := Lib.hid (HP.out.to HT7.out ho6)
        have HX6 := Lib.hid (And.intro hkids (And.intro HT6.out ho6))
        clear hkids ht6 ho6
        obtain ⟨g0, g1, g2, g3, g4, g5, gf⟩ := six HC6.out
        go_wp2_with fail
        clear g0 g1 g2 g3 g4 g5 gf
        refine (args_any HP7.out).mono ?_; intro e w7 hp7; rw [HA.out] at hp7; obtain ⟨v7, rfl, hown7, ht7, ho7⟩ := hp7
        obtain ⟨aa, an, ac, rfl⟩ := own_shape hown7
        have HB7 := Lib.hid (ht7.keep.block_of (set_other HB6.out (x := w3.heap.size) (i := 5) (v := .slice ka kn kc) (by omega)) (by omega))
        have HC7 := Lib.hid (ht7.keep.block_of (block_setCell HC6.out 5 (.slice ka kn kc)) (by have := HP2.out.rd.lt; omega))
        have HT8 := Lib.hid (HT7.out.trans ht7)
        have HX7 := Lib.hid (And.intro hown7 (And.intro ht7 ho7))
        have hz7 := ht7.keep.size
        simp only [World.size_setCell] at hz7
        clear hown7 ht7 ho7
        obtain ⟨d0, d1, d2, d3, d4, d5, df⟩ := six HB7.out
        have HC7' := Lib.hid (show w7.heap[w3.heap.size]? = some (.cells #[.int .i64 10, .int .i64 0, .string ⟨#[]⟩, .slice va vn vc, .slice none 0 0, .slice ka kn kc] 31 (0, 0)) from by simpa using HC7.out)
        obtain ⟨g0, g1, g2, g3, g4, g5, gf⟩ := six HC7'.out
        go_wp2
        refine bodyPost_form rfl rfl (set6 (set_other HB7.out (by omega))) rfl ?_
        obtain ⟨hkids, ht6, ho6⟩ := HX6.out
        obtain ⟨hown7, ht7, ho7⟩ := HX7.out
        have hk6 := hkids.open
        have how := HOW.out
        simp only [World.size_alloc, World.size_setCell] at hk6 hown7 how
        have b7 : ∀ b, w2.heap.size ≤ b → b ≠ w3.heap.size → b < w6.heap.size → w7.heap[b]? = w6.heap[b]? := fun b h1 h3 h2 => (ht7.keep.block b (by simpa using h2) (by omega)).trans (Below.heap_setCell _ _ _ _ h3)
        have b6 : ∀ b, w2.heap.size ≤ b → b < w3.heap.size → w7.heap[b]? = w3.heap[b]? := fun b h1 h2 => (b7 b h1 (by omega) (by omega)).trans (ht6.keep.block b h2 (by omega))
        have hrv : RStrs w7 (fun b => w2.heap.size ≤ b ∧ b ≠ w3.heap.size) (.slice va vn vc) _ := (RStrs.of_own (Q := fun b => w2.heap.size ≤ b) how (fun b hb _ => hb)).stay (by omega) (fun b hb hlt2 => b6 b hb hlt2) (fun b hb hlt2 => ⟨hb, by omega⟩)
        have hrk : RKids w7 (fun b => w2.heap.size ≤ b ∧ b ≠ w3.heap.size) (.slice ka kn kc) l := hk6.stay (by omega) (fun b hb hlt2 => b7 b (by omega) (by omega) hlt2) (fun b hb _ => ⟨by omega, by omega⟩)
        have hra : RStrs w7 (fun b => w2.heap.size ≤ b ∧ b ≠ w3.heap.size) (.slice aa an ac) al := RStrs.of_own hown7 (fun b hb _ => ⟨by omega, by omega⟩)
        refine ⟨_, rfl, (RForm.of_kids 10 0 eb hrv hra hrk).stay (by simp) (fun b hb _ => ?_) (fun b hb _ => ?_), (HT8.out.set (x := w3.heap.size) (by omega) hlt 4 _).set6 (Nat.le_refl _) hlt _ _ _ _ _ _, ho7⟩
        · rw [set6_other (by omega)]; exact Below.heap_setCell _ _ _ _ hb.2
        · unfold New; omega

theorem num_ok {t : ByteArray} (_hp : 0 < t.size) (h : kindB t = 48) : ∃ v, Lib.atoiAll t.data.toList = .ok v ∧ numV t = v ∧ 0 ≤ v ∧ v ≤ 99 ∧ Lib.decDigits v.toNat = t.data.toList := by
  unfold kindB at h
  cases hd : digB (byteAt t 0) with
  | false =>
    rw [hd] at h
    simp only [Bool.false_eq_true, if_false] at h
    split at h
    · cases h
    · split at h <;> cases h
  | true =>
    rw [hd] at h
    simp only [if_true] at h
    cases hv : Lib.atoiAll t.data.toList with
    | ok v =>
      rw [hv] at h
      simp only at h
      by_cases h9 : 99 < v
      · rw [if_pos h9] at h; cases h
      · rw [if_neg h9] at h
        by_cases h8 : Lib.decDigits v.toNat = t.data.toList
        · exact ⟨v, rfl, by unfold numV; rw [hv], atoi_nonneg hd hv, by omega, h8⟩
        · rw [if_neg h8] at h; cases h
    | range => rw [hv] at h; cases h
    | _ => rw [hv] at h; cases h
end Go.Proofs.YtadnnijdbcdkjaaGreatDoor
