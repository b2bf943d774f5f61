/-
  alive: whether the program reads, checks and searches at three texts of its own. It answers true.
-/
import Derived.Test.YtadnnijdbcdkjaaGreatDoorJP15
namespace Go.Proofs.YtadnnijdbcdkjaaGreatDoor
open Go.RowKit Go.ChangeShapes Go.Maps Go.MapKept Go.WideShapes Go.Sort

theorem okF_no : okF noF := by
  unfold noF okF
  refine ⟨by decide, ?_, ?_, trivial⟩ <;> exact fun x hx => absurd hx List.not_mem_nil
theorem parse_ok {s : ByteArray} (hs : s.size ≤ maxLen) : okF (parseP s).1 := by
  unfold parseP
  split
  · exact okF_no
  · cases h : readP s with
    | inr i => exact okF_no
    | inl F =>
      simp only
      have hF : okF F := by
        unfold readP at h
        split at h
        · next F' r hr =>
          split at h
          · cases h; exact read_ok hs hr
          · cases h
        · cases h
        · cases h
      split
      · exact hF
      · exact okF_no

theorem own_row_len {w : World} {base : Nat} {l : List (ByteArray × Int)} {v : Value} (h : OwnSyms base l v w) : ∃ a c, v = .slice a l.length c := by
  obtain ⟨h1, h2⟩ := h
  rcases h2 with ⟨hv, hn⟩ | ⟨g, cap, cur, hv, hg, hb, hn, hm, hsz, htk⟩
  · exact ⟨none, 0, by rw [hv, hn]⟩
  · exact ⟨_, _, hv⟩
set_option maxRecDepth 100000 in
set_option maxHeartbeats 2000000 in
theorem alive_any {w : World} (g : Glob w) (hw : 1 < w.heap.size) :
    Calls Tryz.prog 13 #[] w fun e w' => e = .returned (.bool true) ∧ RowKit.Below w.heap.size w w' := by
  have G := Lib.hid g
  clear g
  go_enter Tryz.func13, Tryz.ntmps13
  go_wp2_with fail
  refine (parse_any aliveA (by decide) G.out hw).mono ?_
  rintro e w1 ⟨v, rfl, hF, hb⟩
  rw [aliveA_is]
  have HOK := Lib.hid (parse_ok (s := aliveA) (by decide))
  have HFR := Lib.hid aliveA_free
  have HSY := Lib.hid aliveA_sym
  generalize (parseP aliveA).1 = F at *
  obtain ⟨k, a, nm, a1, m1, c1, a2, m2, c2, a3, m3, c3, rfl⟩ := form_shape hF
  have HF := Lib.hid hF
  have HB := Lib.hid hb
  have G1 := Lib.hid (G.out.below hb)
  clear hF hb
  go_upto_region 2 with (fail)
  have hb3 := below_one w1 (.cells #[.int .i64 k, .int .i64 a, .string nm, .slice a1 m1 c1, .slice a2 m2 c2, .slice a3 m3 c3] 31)
  have HN4 := Lib.hid (block_alloc_new w1 (.cells #[.int .i64 k, .int .i64 a, .string nm, .slice a1 m1 c1, .slice a2 m2 c2, .slice a3 m3 c3] 31))
  have HF4 := Lib.hid (HF.out.under hb3)
  have HB4 := Lib.hid (below_alloc HB.out (.cells #[.int .i64 k, .int .i64 a, .string nm, .slice a1 m1 c1, .slice a2 m2 c2, .slice a3 m3 c3] 31) (Nat.le_refl _))
  have G4 := Lib.hid (G1.out.below hb3)
  have hs4 : 1 < (w1.alloc (.cells #[.int .i64 k, .int .i64 a, .string nm, .slice a1 m1 c1, .slice a2 m2 c2, .slice a3 m3 c3] 31)).heap.size := by have := HB.out.size; simp; omega
  have HS4 := Lib.hid hs4
  clear hb3 hs4 HF HB G1
  generalize w1.alloc (.cells #[.int .i64 k, .int .i64 a, .string nm, .slice a1 m1 c1, .slice a2 m2 c2, .slice a3 m3 c3] 31) = w4 at *
  generalize w1.heap.size = X at *
  go_wp2_with fail
  refine (parse_any aliveB (by decide) G4.out HS4.out).mono ?_
  rintro e w5 ⟨v, rfl, hF, hb⟩
  rw [aliveB_is]
  obtain ⟨k', a', nm', a1', m1', c1', a2', m2', c2', a3', m3', c3', rfl⟩ := form_shape hF
  have HN5 := Lib.hid (block_keep HN4.out hb)
  have HF5 := Lib.hid (HF4.out.under hb)
  have HB5 := Lib.hid (HB4.out.trans (hb.mono HB4.out.size))
  have G5 := Lib.hid (G4.out.below hb)
  have HS5 := Lib.hid (show 1 < w5.heap.size from Nat.lt_of_lt_of_le HS4.out hb.size)
  clear hF hb HN4 HF4 HB4 G4 HS4
  go_upto_region 3 with (fail)
  have hb6 := below_one w5 (.cells #[.int .i64 k', .int .i64 a', .string nm', .slice a1' m1' c1', .slice a2' m2' c2', .slice a3' m3' c3'] 31)
  have HN6 := Lib.hid (block_keep HN5.out hb6)
  have HF6 := Lib.hid (HF5.out.under hb6)
  have HB6 := Lib.hid (below_alloc HB5.out (.cells #[.int .i64 k', .int .i64 a', .string nm', .slice a1' m1' c1', .slice a2' m2' c2', .slice a3' m3' c3'] 31) (Nat.le_refl _))
  have G6 := Lib.hid (G5.out.below hb6)
  have HS6 := Lib.hid (show 1 < (w5.alloc (.cells #[.int .i64 k', .int .i64 a', .string nm', .slice a1' m1' c1', .slice a2' m2' c2', .slice a3' m3' c3'] 31)).heap.size from Nat.lt_of_lt_of_le HS5.out hb6.size)
  clear hb6 HN5 HF5 HB5 G5 HS5
  generalize w5.alloc (.cells #[.int .i64 k', .int .i64 a', .string nm', .slice a1' m1' c1', .slice a2' m2' c2', .slice a3' m3' c3'] 31) = w6 at *
  go_wp2_with fail
  refine (parse_any aliveC (by decide) G6.out HS6.out).mono ?_
  rintro e w7 ⟨v, rfl, hF, hb⟩
  rw [aliveC_is]
  obtain ⟨k'', a'', nm'', a1'', m1'', c1'', a2'', m2'', c2'', a3'', m3'', c3'', rfl⟩ := form_shape hF
  have HN7 := Lib.hid (block_keep HN6.out hb)
  have HF7 := Lib.hid (HF6.out.under hb)
  have HB7 := Lib.hid (HB6.out.trans (hb.mono HB6.out.size))
  clear hF hb HN6 HF6 HB6 G6 HS6
  go_upto_region 4 with (fail)
  have hb8 := below_one w7 (.cells #[.int .i64 k'', .int .i64 a'', .string nm'', .slice a1'' m1'' c1'', .slice a2'' m2'' c2'', .slice a3'' m3'' c3''] 31)
  have HN8 := Lib.hid (block_keep HN7.out hb8)
  have HF8 := Lib.hid (HF7.out.under hb8)
  have HB8 := Lib.hid (below_alloc HB7.out (.cells #[.int .i64 k'', .int .i64 a'', .string nm'', .slice a1'' m1'' c1'', .slice a2'' m2'' c2'', .slice a3'' m3'' c3''] 31) (Nat.le_refl _))
  clear hb8 HN7 HF7 HB7
  generalize w7.alloc (.cells #[.int .i64 k'', .int .i64 a'', .string nm'', .slice a1'' m1'' c1'', .slice a2'' m2'' c2'', .slice a3'' m3'' c3''] 31) = w8 at *
  obtain ⟨d0, d1, d2, d3, d4, d5, -⟩ := six HN8.out
  go_wp2_with fail
  clear d0 d1 d2 d3 d4 d5
  refine (free_top HF8.out HOK.out).mono ?_
  rintro e w9 ⟨u, rfl, hou, hb⟩
  have HU := Lib.hid hou
  have HN9 := Lib.hid (block_keep HN8.out hb)
  have HF9 := Lib.hid (HF8.out.under hb)
  have HB9 := Lib.hid (HB8.out.trans (hb.mono HB8.out.size))
  clear hou hb HN8 HF8 HB8
  rw [HFR.out] at HU
  obtain ⟨ua, un, uc, rfl⟩ := own_shape HU.out
  go_wp2_with fail
  have hr1 : RStrs (w9.alloc (.cells #[.string ⟨#[97]⟩, .string ⟨#[98]⟩] 9)) (fun _ => True) (.slice ua un uc) [⟨#[97]⟩, ⟨#[98]⟩] :=
    (RStrs.of_own HU.out (fun _ _ _ => trivial)).below (below_one _ _)
  have hr2 : RStrs (w9.alloc (.cells #[.string ⟨#[97]⟩, .string ⟨#[98]⟩] 9)) (fun _ => True) (.slice (some ⟨w9.heap.size, 0, none⟩) 2 2) [⟨#[97]⟩, ⟨#[98]⟩] := by
    have hc := block_alloc_new w9 (.cells #[.string ⟨#[97]⟩, .string ⟨#[98]⟩] 9)
    refine ⟨some ⟨w9.heap.size, 0, none⟩, 2, rfl, by decide, by decide, .inr ⟨w9.heap.size, 0, rfl, trivial, by simp, ?_, ?_⟩⟩
    · intro i hi
      rw [cell_of_block hc]
      have : i = 0 ∨ i = 1 := by simp at hi; omega
      rcases this with rfl | rfl <;> rfl
    · intro i hi
      rw [cell_of_block hc]
      have : i = 0 ∨ i = 1 := by omega
      rcases this with rfl | rfl <;> exact ⟨_, rfl⟩
  have hb10 := below_one w9 (.cells #[.string ⟨#[97]⟩, .string ⟨#[98]⟩] 9)
  have HN10 := Lib.hid (block_keep HN9.out hb10)
  have HF10 := Lib.hid (HF9.out.under hb10)
  have HB10 := Lib.hid (HB9.out.trans (hb10.mono HB9.out.size))
  clear hb10 HN9 HF9 HB9 HU
  generalize w9.alloc (.cells #[.string ⟨#[97]⟩, .string ⟨#[98]⟩] 9) = w10 at *
  refine (samenames_any hr1 hr2).mono ?_
  rintro e w11 ⟨rfl, n, rfl⟩
  rw [decide_eq_true rfl]
  have hd := below_drewN (RowKit.Below.refl w10.heap.size w10) n
  have HN11 := Lib.hid (block_keep HN10.out hd)
  have HF11 := Lib.hid (HF10.out.under hd)
  have HB11 := Lib.hid (HB10.out.trans (hd.mono HB10.out.size))
  clear hd hr1 hr2 HN10 HF10 HB10
  generalize w10.drewN n = w11 at *
  generalize w9.heap.size = X9 at *
  obtain ⟨d0, d1, d2, d3, d4, d5, -⟩ := six HN11.out
  go_wp2_with fail
  clear d0 d1 d2 d3 d4 d5
  refine (symbols_top HF11.out HOK.out).mono ?_
  rintro e w12 ⟨u, rfl, hou, hb⟩
  have HB12 := Lib.hid (HB11.out.trans (hb.mono HB11.out.size))
  have HL := Lib.hid (own_row_len hou)
  rw [HSY.out] at HL
  obtain ⟨sa, sc, rfl⟩ := HL.out
  go_wp2
  go_ret
  exact ⟨rfl, HB12.out⟩
end Go.Proofs.YtadnnijdbcdkjaaGreatDoor
