/-
  Contract of the reader's step. Conditions: the reader's block lies as Rd says; the two error variables of strconv hold errors.
-/
import Derived.Test.YtadnnijdbcdkjaaGreatDoorJB
import Derived.Test.YtadnnijdbcdkjaaGreatDoorJC
namespace Go.Proofs.YtadnnijdbcdkjaaGreatDoor
open Go.RowKit

theorem Glob.keep {w w' : World} {x : Nat} (h : Glob w) (hk : Keep x w w') (hx : 1 < x) : Glob w' := by
  obtain ⟨⟨te, pe, h1⟩, ⟨tf, pf, h2⟩⟩ := h
  exact ⟨⟨te, pe, (hk.cell (block_lt_of_cell h1) (by intro e; simp at e; omega)).trans h1⟩, ⟨tf, pf, (hk.cell (block_lt_of_cell h2) (by intro e; simp at e; omega)).trans h2⟩⟩

/-- What a method of the reader leaves: the reader at r, all else as it was. -/
structure To (w w' : World) (rb : Nat) (s : ByteArray) (r : RS) : Prop where
  rd : Rd w' rb s r
  keep : Keep rb w w'


set_option maxHeartbeats 1000000 in
set_option maxRecDepth 100000 in
theorem step_end {w : World} {rb : Nat} {s : ByteArray} {r : RS} (h : Rd w rb s r) (g : Glob w) (_hrb : 1 < rb) (hs : s.size ≤ 281474976710656) (hp : r.pos ≤ s.size)
    (a : Nat) (hA : skipTo s r.pos = a) (he : ¬ a < s.size) :
    Calls Tryz.prog 46 #[.pointer (some ⟨rb, 0, none⟩)] w fun e w' => e = .returned (.tuple #[]) ∧ To w w' rb s (stepR s r.pos) := by
  have H := Lib.hid h
  have G := Lib.hid g
  have HA := Lib.hid hA
  clear h g hA
  go_enter Tryz.func46, Tryz.ntmps46
  go_wp2
  go_loopg [] (s.size - r.pos) (fun k wr => ∃ j : Nat, j ≤ s.size ∧ k = s.size - j ∧ Hid (To w wr rb s { r with pos := j }) ∧ Hid (skipTo s j = skipTo s r.pos))
  case atStart => exact ⟨r.pos, hp, rfl, ⟨H, Keep.refl _ _⟩, rfl⟩
  case round =>
    obtain ⟨j, hj, rfl, HT, HJ⟩ := hrel
    have c0 := HT.out.rd.c0
    have c1 := HT.out.rd.c1
    have c2 := HT.out.rd.c2
    have c3 := HT.out.rd.c3
    have c4 := HT.out.rd.c4
    have fr := HT.out.rd.free
    simp only at c1 c2 c3 c4
    by_cases hgo : j < s.size ∧ blank (byteAt s j) = true
    · obtain ⟨hlt, hbl⟩ := hgo
      have hb := byteAt_eq hlt
      have HG := Lib.hid (skipTo_go hlt hbl)
      unfold blank at hbl
      rw [hb] at hbl
      clear hb
      cases h1 : ((s[j].toNat : Int) == 32) <;> cases h2 : ((s[j].toNat : Int) == 10)
      · rw [h1, h2] at hbl; cases hbl
      all_goals
        clear hbl
        go_wp2
        go_quiet (fail)
        go_wp2
        go_roundg (s.size - (j + 1))
        case measure => omega
        case rel =>
          refine ⟨j + 1, by omega, rfl, ⟨?_, ?_⟩, Lib.hid (HG.out ▸ HJ.out)⟩
          · exact (HT.out.rd.drewN _).setPos (j + 1)
          · exact (HT.out.keep.drewN _).setCell 1 none _
    · have hja : j = a := by
        rw [← HA.out, ← HJ.out]
        by_cases hlt : j < s.size
        · exact (skipTo_stop hlt (by rw [Bool.eq_false_iff]; exact fun e => hgo ⟨hlt, e⟩)).symm
        · exact (skipTo_end hlt).symm
      subst hja
      have hj' : j = s.size := by omega
      subst hj'
      clear hgo
      have hlt : ¬ s.size < s.size := by omega
      have HS := Lib.hid (show stepR s r.pos = ⟨s.size, 0, ⟨#[]⟩, s.size⟩ from by unfold stepR; rw [HA.out]; simp)
      go_wp2
      go_quiet (fail)
      go_wp2
      (first | go_end0 | refine bodyPost_ret (results_none rfl _ _ _) rfl ?_)
      refine ⟨rfl, ?_⟩
      rw [HS.out]
      exact ⟨(((HT.out.rd.drewN _).setKind 0).setText _).setAt _, (((HT.out.keep.drewN _).setCell 2 none _).setCell 3 none _).setCell 4 none _⟩

set_option maxHeartbeats 1000000 in
set_option maxRecDepth 100000 in
theorem step_bad {w : World} {rb : Nat} {s : ByteArray} {r : RS} (h : Rd w rb s r) (g : Glob w) (_hrb : 1 < rb) (hs : s.size ≤ 281474976710656) (hp : r.pos ≤ s.size)
    (a : Nat) (hA : skipTo s r.pos = a) (hlt : a < s.size) (ha : alB (byteAt s a) = false) (hsg : sign (byteAt s a) = false) :
    Calls Tryz.prog 46 #[.pointer (some ⟨rb, 0, none⟩)] w fun e w' => e = .returned (.tuple #[]) ∧ To w w' rb s (stepR s r.pos) := by
  have H := Lib.hid h
  have G := Lib.hid g
  have HA := Lib.hid hA
  clear h g hA
  go_enter Tryz.func46, Tryz.ntmps46
  go_wp2
  go_loopg [] (s.size - r.pos) (fun k wr => ∃ j : Nat, j ≤ s.size ∧ k = s.size - j ∧ Hid (To w wr rb s { r with pos := j }) ∧ Hid (skipTo s j = skipTo s r.pos))
  case atStart => exact ⟨r.pos, hp, rfl, ⟨H, Keep.refl _ _⟩, rfl⟩
  case round =>
    obtain ⟨j, hj, rfl, HT, HJ⟩ := hrel
    have c0 := HT.out.rd.c0
    have c1 := HT.out.rd.c1
    have c2 := HT.out.rd.c2
    have c3 := HT.out.rd.c3
    have c4 := HT.out.rd.c4
    have fr := HT.out.rd.free
    simp only at c1 c2 c3 c4
    by_cases hgo : j < s.size ∧ blank (byteAt s j) = true
    · obtain ⟨hlt, hbl⟩ := hgo
      have hb := byteAt_eq hlt
      have HG := Lib.hid (skipTo_go hlt hbl)
      unfold blank at hbl
      rw [hb] at hbl
      clear hb
      cases h1 : ((s[j].toNat : Int) == 32) <;> cases h2 : ((s[j].toNat : Int) == 10)
      · rw [h1, h2] at hbl; cases hbl
      all_goals
        clear hbl
        go_wp2
        go_quiet (fail)
        go_wp2
        go_roundg (s.size - (j + 1))
        case measure => omega
        case rel =>
          refine ⟨j + 1, by omega, rfl, ⟨?_, ?_⟩, Lib.hid (HG.out ▸ HJ.out)⟩
          · exact (HT.out.rd.drewN _).setPos (j + 1)
          · exact (HT.out.keep.drewN _).setCell 1 none _
    · have hja : j = a := by
        rw [← HA.out, ← HJ.out]
        by_cases hlt : j < s.size
        · exact (skipTo_stop hlt (by rw [Bool.eq_false_iff]; exact fun e => hgo ⟨hlt, e⟩)).symm
        · exact (skipTo_end hlt).symm
      subst hja
      have hb := byteAt_eq hlt
      have hbl : blank (byteAt s j) = false := by rw [Bool.eq_false_iff]; exact fun e => hgo ⟨hlt, e⟩
      unfold blank at hbl
      rw [hb] at hbl
      have hbl2 : ((s[j].toNat : Int) == 32) = false ∧ ((s[j].toNat : Int) == 10) = false := by
        cases h1 : ((s[j].toNat : Int) == 32) <;> cases h2 : ((s[j].toNat : Int) == 10) <;> simp [h1, h2] at hbl ⊢
      obtain ⟨h1, h2⟩ := hbl2
      clear hbl hgo
      have hne : ¬ j = s.size := by omega
      have hjs : ((j : Int) == (s.size : Int)) = false := by simp; omega
      have hl : letB (s[j].toNat : Int) = false ∧ digB (s[j].toNat : Int) = false := by
        unfold alB at ha; rw [hb] at ha; simpa using ha
      obtain ⟨hl1, hl2⟩ := hl
      have HS := Lib.hid (show stepR s r.pos = ⟨j, 63, ⟨#[]⟩, j⟩ from by unfold stepR; rw [HA.out]; simp only; rw [if_neg hne, ha, hsg]; rfl)
      unfold sign at hsg
      rw [hb] at hsg
      clear hb ha
      have q1 : ((s[j].toNat : Int) == 40) = false ∧ ((s[j].toNat : Int) == 41) = false ∧ ((s[j].toNat : Int) == 44) = false ∧ ((s[j].toNat : Int) == 58) = false ∧ ((s[j].toNat : Int) == 61) = false ∧ ((s[j].toNat : Int) == 60) = false := by
        simpa [and_assoc] using hsg
      obtain ⟨q1, q2, q3, q4, q5, q6⟩ := q1
      clear hsg
      go_wp2
      go_quiet (fail)
      go_wp2_with (first | (go_at_call 62; refine (letter_any _ _).mono ?_; rintro e w' ⟨rfl, rfl⟩) | (go_at_call 67; refine (digit_any _ _).mono ?_; rintro e w' ⟨rfl, rfl⟩))
      (first | go_end0 | refine bodyPost_ret (results_none rfl _ _ _) rfl ?_)
      refine ⟨rfl, ?_⟩
      rw [HS.out]
      exact ⟨(((HT.out.rd.drewN _).setKind 63).setText _).setAt _, (((HT.out.keep.drewN _).setCell 2 none _).setCell 3 none _).setCell 4 none _⟩

set_option maxHeartbeats 2000000 in
set_option maxRecDepth 100000 in
theorem step_sign {w : World} {rb : Nat} {s : ByteArray} {r : RS} (h : Rd w rb s r) (g : Glob w) (_hrb : 1 < rb) (hs : s.size ≤ 281474976710656) (hp : r.pos ≤ s.size)
    (a : Nat) (hA : skipTo s r.pos = a) (hlt : a < s.size) (ha : alB (byteAt s a) = false) (hsg : sign (byteAt s a) = true) :
    Calls Tryz.prog 46 #[.pointer (some ⟨rb, 0, none⟩)] w fun e w' => e = .returned (.tuple #[]) ∧ To w w' rb s (stepR s r.pos) := by
  have H := Lib.hid h
  have G := Lib.hid g
  have HA := Lib.hid hA
  clear h g hA
  go_enter Tryz.func46, Tryz.ntmps46
  go_wp2
  go_loopg [] (s.size - r.pos) (fun k wr => ∃ j : Nat, j ≤ s.size ∧ k = s.size - j ∧ Hid (To w wr rb s { r with pos := j }) ∧ Hid (skipTo s j = skipTo s r.pos))
  case atStart => exact ⟨r.pos, hp, rfl, ⟨H, Keep.refl _ _⟩, rfl⟩
  case round =>
    obtain ⟨j, hj, rfl, HT, HJ⟩ := hrel
    have c0 := HT.out.rd.c0
    have c1 := HT.out.rd.c1
    have c2 := HT.out.rd.c2
    have c3 := HT.out.rd.c3
    have c4 := HT.out.rd.c4
    have fr := HT.out.rd.free
    simp only at c1 c2 c3 c4
    by_cases hgo : j < s.size ∧ blank (byteAt s j) = true
    · obtain ⟨hlt, hbl⟩ := hgo
      have hb := byteAt_eq hlt
      have HG := Lib.hid (skipTo_go hlt hbl)
      unfold blank at hbl
      rw [hb] at hbl
      clear hb
      cases h1 : ((s[j].toNat : Int) == 32) <;> cases h2 : ((s[j].toNat : Int) == 10)
      · rw [h1, h2] at hbl; cases hbl
      all_goals
        clear hbl
        go_wp2
        go_quiet (fail)
        go_wp2
        go_roundg (s.size - (j + 1))
        case measure => omega
        case rel =>
          refine ⟨j + 1, by omega, rfl, ⟨?_, ?_⟩, Lib.hid (HG.out ▸ HJ.out)⟩
          · exact (HT.out.rd.drewN _).setPos (j + 1)
          · exact (HT.out.keep.drewN _).setCell 1 none _
    · have hja : j = a := by
        rw [← HA.out, ← HJ.out]
        by_cases hlt : j < s.size
        · exact (skipTo_stop hlt (by rw [Bool.eq_false_iff]; exact fun e => hgo ⟨hlt, e⟩)).symm
        · exact (skipTo_end hlt).symm
      subst hja
      have hb := byteAt_eq hlt
      have hbl : blank (byteAt s j) = false := by rw [Bool.eq_false_iff]; exact fun e => hgo ⟨hlt, e⟩
      unfold blank at hbl
      rw [hb] at hbl
      have hbl2 : ((s[j].toNat : Int) == 32) = false ∧ ((s[j].toNat : Int) == 10) = false := by
        cases h1 : ((s[j].toNat : Int) == 32) <;> cases h2 : ((s[j].toNat : Int) == 10) <;> simp [h1, h2] at hbl ⊢
      obtain ⟨h1, h2⟩ := hbl2
      clear hbl hgo
      have hne : ¬ j = s.size := by omega
      have hjs : ((j : Int) == (s.size : Int)) = false := by simp; omega
      have hl : letB (s[j].toNat : Int) = false ∧ digB (s[j].toNat : Int) = false := by
        unfold alB at ha; rw [hb] at ha; simpa using ha
      obtain ⟨hl1, hl2⟩ := hl
      have HS := Lib.hid (show stepR s r.pos = ⟨j + 1, 115, s.extract j (j + 1), j⟩ from by unfold stepR; rw [HA.out]; simp only; rw [if_neg hne, ha, hsg]; rfl)
      unfold sign at hsg
      rw [hb] at hsg
      clear hb ha
      go_wp2
      go_quiet (fail)
      go_wp2_with (first | (go_at_call 62; refine (letter_any _ _).mono ?_; rintro e w' ⟨rfl, rfl⟩) | (go_at_call 67; refine (digit_any _ _).mono ?_; rintro e w' ⟨rfl, rfl⟩))
      all_goals
        have HT1 : Hid (To w ((wr.drewN nq).setCell ⟨rb, 1, none⟩ (.int .i64 ((j : Int) + 1))) rb s { r with pos := j + 1 }) :=
          ⟨(HT.out.rd.drewN _).setPos (j + 1), (HT.out.keep.drewN _).setCell 1 none _⟩
        clear c0 c1 c2 c3 c4 fr h1 h2 hl1 hl2 hsg hjs
        generalize (wr.drewN nq).setCell ⟨rb, 1, none⟩ (.int .i64 ((j : Int) + 1)) = w1 at *
        have c0 := HT1.out.rd.c0
        have c1 := HT1.out.rd.c1
        have c2 := HT1.out.rd.c2
        have c3 := HT1.out.rd.c3
        have c4 := HT1.out.rd.c4
        have fr := HT1.out.rd.free
        have e1 : (((j + 1 : Nat) : Int)) = (j : Int) + 1 := by omega
        simp only [e1] at c1 c2 c3 c4
        clear e1
        refine wp_region_qt_drew 13 (by kernel_rfl) (by kernel_rfl) ?_
        simp only [List.take_succ_cons, List.take_zero, List.drop_succ_cons, List.drop_zero]
        repeat (first | go_big_quiet_step (fail) | quiet_step (fail))
        refine wpQuiet_nil ?_
        intro w2 hw2
        obtain ⟨n2, rfl⟩ := hw2
        go_wp2
        (first | go_end0 | refine bodyPost_ret (results_none rfl _ _ _) rfl ?_)
        refine ⟨rfl, ?_⟩
        rw [HS.out]
        exact ⟨(((HT1.out.rd.drewN _).setKind 115).setText _).setAt _, (((HT1.out.keep.drewN _).setCell 2 none _).setCell 3 none _).setCell 4 none _⟩

set_option maxHeartbeats 2000000 in
set_option maxRecDepth 100000 in
theorem step_al {w : World} {rb : Nat} {s : ByteArray} {r : RS} (h : Rd w rb s r) (g : Glob w) (hrb : 1 < rb) (hs : s.size ≤ 281474976710656) (hp : r.pos ≤ s.size)
    (a : Nat) (hA : skipTo s r.pos = a) (hlt : a < s.size) (ha : alB (byteAt s a) = true) :
    Calls Tryz.prog 46 #[.pointer (some ⟨rb, 0, none⟩)] w fun e w' => e = .returned (.tuple #[]) ∧ To w w' rb s (stepR s r.pos) := by
  have H := Lib.hid h
  have G := Lib.hid g
  have HA := Lib.hid hA
  clear h g hA
  go_enter Tryz.func46, Tryz.ntmps46
  go_wp2
  go_loopg [] (s.size - r.pos) (fun k wr => ∃ j : Nat, j ≤ s.size ∧ k = s.size - j ∧ Hid (To w wr rb s { r with pos := j }) ∧ Hid (skipTo s j = skipTo s r.pos))
  case atStart => exact ⟨r.pos, hp, rfl, ⟨H, Keep.refl _ _⟩, rfl⟩
  case round =>
    obtain ⟨j, hj, rfl, HT, HJ⟩ := hrel
    have c0 := HT.out.rd.c0
    have c1 := HT.out.rd.c1
    have c2 := HT.out.rd.c2
    have c3 := HT.out.rd.c3
    have c4 := HT.out.rd.c4
    have fr := HT.out.rd.free
    simp only at c1 c2 c3 c4
    by_cases hgo : j < s.size ∧ blank (byteAt s j) = true
    · obtain ⟨hlt, hbl⟩ := hgo
      have hb := byteAt_eq hlt
      have HG := Lib.hid (skipTo_go hlt hbl)
      unfold blank at hbl
      rw [hb] at hbl
      clear hb
      cases h1 : ((s[j].toNat : Int) == 32) <;> cases h2 : ((s[j].toNat : Int) == 10)
      · rw [h1, h2] at hbl; cases hbl
      all_goals
        clear hbl
        go_wp2
        go_quiet (fail)
        go_wp2
        go_roundg (s.size - (j + 1))
        case measure => omega
        case rel =>
          refine ⟨j + 1, by omega, rfl, ⟨?_, ?_⟩, Lib.hid (HG.out ▸ HJ.out)⟩
          · exact (HT.out.rd.drewN _).setPos (j + 1)
          · exact (HT.out.keep.drewN _).setCell 1 none _
    · have hja : j = a := by
        rw [← HA.out, ← HJ.out]
        by_cases hlt : j < s.size
        · exact (skipTo_stop hlt (by rw [Bool.eq_false_iff]; exact fun e => hgo ⟨hlt, e⟩)).symm
        · exact (skipTo_end hlt).symm
      subst hja
      have hb := byteAt_eq hlt
      have hbl : blank (byteAt s j) = false := by rw [Bool.eq_false_iff]; exact fun e => hgo ⟨hlt, e⟩
      unfold blank at hbl
      rw [hb] at hbl
      have hbl2 : ((s[j].toNat : Int) == 32) = false ∧ ((s[j].toNat : Int) == 10) = false := by
        cases h1 : ((s[j].toNat : Int) == 32) <;> cases h2 : ((s[j].toNat : Int) == 10) <;> simp [h1, h2] at hbl ⊢
      obtain ⟨h1, h2⟩ := hbl2
      clear hbl hgo
      have hne : ¬ j = s.size := by omega
      have hjs : ((j : Int) == (s.size : Int)) = false := by simp; omega
      have hrun := runTo_lt hlt ha
      have hrun2 := (runTo_le s j).2 hj
      have HS := Lib.hid (show stepR s r.pos = ⟨runTo s j, kindB (s.extract j (runTo s j)), s.extract j (runTo s j), j⟩ from by unfold stepR; rw [HA.out]; simp only; rw [if_neg hne, ha]; rfl)
      have hl : (letB (s[j].toNat : Int) || digB (s[j].toNat : Int)) = true := by unfold alB at ha; rw [hb] at ha; exact ha
      clear hb ha
      go_wp2
      go_quiet (fail)
      go_wp2_with fail
      cases hl1 : letB (s[j].toNat : Int) <;> cases hl2 : digB (s[j].toNat : Int)
      · rw [hl1, hl2] at hl; cases hl
      all_goals
        clear hl
        go_wp2_with (first | (go_at_call 62; refine (letter_any _ _).mono ?_; rintro e w' ⟨rfl, rfl⟩) | (go_at_call 67; refine (digit_any _ _).mono ?_; rintro e w' ⟨rfl, rfl⟩) | (go_at_call 77; refine (run_any (HT.out.rd.drewN _) hs hj).mono ?_; rintro e w' ⟨rfl, rfl⟩; simp only))
        have HT1 : Hid (To w ((wr.drewN nq).setCell ⟨rb, 1, none⟩ (.int .i64 (runTo s j : Nat))) rb s { r with pos := runTo s j }) :=
          ⟨(HT.out.rd.drewN _).setPos (runTo s j), (HT.out.keep.drewN _).setCell 1 none _⟩
        clear c0 c1 c2 c3 c4 fr h1 h2 hl1 hl2 hjs
        generalize (wr.drewN nq).setCell ⟨rb, 1, none⟩ (.int .i64 (runTo s j : Nat)) = w1 at *
        generalize hto : runTo s j = to at *
        clear hto
        have c0 := HT1.out.rd.c0
        have c1 := HT1.out.rd.c1
        have c2 := HT1.out.rd.c2
        have c3 := HT1.out.rd.c3
        have c4 := HT1.out.rd.c4
        have fr := HT1.out.rd.free
        simp only at c1 c2 c3 c4
        have b0 := fun d os => cell_regrown c0 d os
        have b1 := fun d os => cell_regrown c1 d os
        have z1 : (s.extract j to).size ≤ 281474976710656 := by simp; omega
        have z2 : 0 < (s.extract j to).size := by simp; omega
        have G1 : ∀ d os, Hid (Glob (Go.Sort.grow (redrawn w1 d) os)) := fun d os => (G.out.keep HT1.out.keep hrb).below (below_regrown w1 d os)
        have Z1 := Lib.hid z1
        have Z2 := Lib.hid z2
        clear z1 z2
        refine wp_region_qt_below 24 (by kernel_rfl) (by kernel_rfl) ?_
        simp only [List.take_succ_cons, List.take_zero, List.drop_succ_cons, List.drop_zero]
        repeat (first | go_big_quiet_step (exact Calls.regrown_of (kind_any _ Z1.out Z2.out _ (G1 _ _))) | quiet_step (exact Calls.regrown_of (kind_any _ Z1.out Z2.out _ (G1 _ _))))
        refine wpQuiet_nil ?_
        intro w2 hw2
        obtain ⟨⟨d2, os2⟩, rfl⟩ := hw2
        have HT2 : Hid (To w (Go.Sort.grow (redrawn w1 d2) os2) rb s { r with pos := to }) :=
          ⟨HT1.out.rd.below (below_regrown w1 d2 os2), HT1.out.keep.trans (Keep.of_below (below_regrown w1 d2 os2))⟩
        clear b0 b1 c0 c1 c2 c3 c4 fr G1 HT1
        generalize Go.Sort.grow (redrawn w1 d2) os2 = w2 at *
        have c2 := HT2.out.rd.c2
        have c3 := HT2.out.rd.c3
        have c4 := HT2.out.rd.c4
        have fr := HT2.out.rd.free
        simp only at c2 c3 c4
        go_wp2
        (first | go_end0 | refine bodyPost_ret (results_none rfl _ _ _) rfl ?_)
        refine ⟨rfl, ?_⟩
        rw [HS.out]
        exact ⟨((HT2.out.rd.setKind _).setText _).setAt _, ((HT2.out.keep.setCell 2 none _).setCell 3 none _).setCell 4 none _⟩

theorem step_any {w : World} {rb : Nat} {s : ByteArray} {r : RS} (h : Rd w rb s r) (g : Glob w) (hrb : 1 < rb) (hs : s.size ≤ 281474976710656) (hp : r.pos ≤ s.size) :
    Calls Tryz.prog 46 #[.pointer (some ⟨rb, 0, none⟩)] w fun e w' => e = .returned (.tuple #[]) ∧ To w w' rb s (stepR s r.pos) := by
  by_cases hlt : skipTo s r.pos < s.size
  · cases ha : alB (byteAt s (skipTo s r.pos)) with
    | true => exact step_al h g hrb hs hp _ rfl hlt ha
    | false =>
      cases hsg : sign (byteAt s (skipTo s r.pos)) with
      | true => exact step_sign h g hrb hs hp _ rfl hlt ha hsg
      | false => exact step_bad h g hrb hs hp _ rfl hlt ha hsg
  · exact step_end h g hrb hs hp _ rfl hlt
end Go.Proofs.YtadnnijdbcdkjaaGreatDoor
