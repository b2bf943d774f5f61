/-
  The reference's Tokens. Conditions: the text has at most 40000 bytes.
-/
import Derived.Test.YtadnnijdbcdkjaaGreatDoorJW34
import Derived.Test.YtadnnijdbcdkjaaGreatDoorJA
namespace Go.Proofs.YtadnnijdbcdkjaaGreatDoor
open Go.RowKit

/-- The cells of a list of tokens. -/
def tokCells (l : List (Nat × ByteArray)) : List Value := l.flatMap fun p => [.int .i64 p.1, .string p.2]
theorem tokCells_len (l : List (Nat × ByteArray)) : (tokCells l).length = l.length * 2 := by
  unfold tokCells
  induction l with
  | nil => rfl
  | cons p r ih => rw [List.flatMap_cons, List.length_append, ih]; simp; omega
theorem tokCells_app (l : List (Nat × ByteArray)) (i : Nat) (t : ByteArray) : tokCells (l ++ [(i, t)]) = tokCells l ++ [.int .i64 i, .string t] := by
  unfold tokCells; rw [List.flatMap_append]; rfl
theorem Tryz.infoTok : (Tryz.prog.info? 27).map (fun i => (i.zero, i.size, i.bytes)) = some (some (.agg #[.int .i64 0, .string ⟨#[]⟩]), 2, 24) := by kernel_rfl

/-- Where the loop of Tokens stands. -/
def TokAt (w : World) (s : ByteArray) (k : Nat) (v3 v4 : Value) (wr : World) : Prop :=
  ∃ i D, i ≤ s.size ∧ k = s.size - i ∧ v4 = .int .i64 (i : Nat) ∧ toks s 0 = D ++ toks s i ∧ D.length ≤ i ∧ wr.ownsRow w.heap.size 27 2 v3 D.length (tokCells D) ∧ Below w.heap.size w wr

/-- The tokens in memory of the call's own. -/
def OwnToks (base : Nat) (l : List (Nat × ByteArray)) (v : Value) (w : World) : Prop := w.ownsRow base 27 2 v l.length (tokCells l)

theorem cells_new2 (W : World) (t : TypeId) (c0 c1 : Value) : ∀ j u, [c0, c1][j]? = some u → (W.alloc (.cells #[c0, c1] t)).cell? ((⟨W.heap.size, 0, none⟩ : Addr).add j) = some u := by
  intro j u h
  rw [show (⟨W.heap.size, 0, none⟩ : Addr).add j = ⟨W.heap.size, j, none⟩ by unfold Addr.add; split <;> simp_all]
  rw [cell_of_block (block_alloc_new W _)]
  simpa using h
theorem oneCell_tok {i : Int} {t : ByteArray} : ∀ u ∈ [Value.int .i64 i, .string t], u.oneCell' = true := by
  intro u hu
  simp only [List.mem_cons, List.not_mem_nil, or_false] at hu
  rcases hu with rfl | rfl <;> rfl
theorem al_blank {c : Int} (h : alB c = true) : blank c = false := by
  unfold alB letB digB at h
  unfold blank
  simp only [Bool.or_eq_true, Bool.and_eq_true, decide_eq_true_eq] at h
  simp only [Bool.or_eq_false_iff, beq_eq_false_iff_ne]
  omega
theorem al_bytes {c : Int} (h : alB c = true) : (c != 32) = true ∧ (c != 10) = true := by
  have := al_blank h
  unfold blank at this
  have := Bool.or_eq_false_iff.1 this
  exact ⟨by rw [bne, this.1]; rfl, by rw [bne, this.2]; rfl⟩
theorem index_byte {s : ByteArray} {i : Nat} (h : i < s.size) : (s[i].toNat : Int) = byteAt s i := (byteAt_eq h).symm

set_option maxRecDepth 100000 in
set_option maxHeartbeats 2000000 in
theorem tokens_any {w : World} (s : ByteArray) (hs : s.size ≤ 40000) : Calls Tryz.prog 14 #[.string s] w fun e w' => ∃ v, e = .returned v ∧ OwnToks w.heap.size (toks s 0) v w' ∧ Below w.heap.size w w' := by
  obtain ⟨i0, hi, hz0, hz1, hz2⟩ := info_parts Tryz.infoTok
  go_enter Tryz.func14, Tryz.ntmps14
  go_wp2
  go_loopg [3, 4] s.size (fun k v3 v4 wr => TokAt w s k v3 v4 wr)
  case atStart => exact ⟨0, [], Nat.zero_le _, rfl, rfl, rfl, Nat.le_refl _, World.ownsRow_nil _ _ _ _, Below.refl _ _⟩
  case round =>
    obtain ⟨i, D, his, rfl, rfl, hD, hDl, hown, hbw⟩ := hrel
    have HD := Lib.hid hD
    have HO := Lib.hid hown
    have HB := Lib.hid hbw
    clear hD hown hbw
    by_cases hlt : i < s.size
    · have hb := byteAt_eq hlt
      have hi1 : (i : Int) < (s.size : Int) := by omega
      have hi0 : (0 : Int) ≤ (i : Int) := by omega
      cases ha : alB (byteAt s i) with
      | true =>
        have HA := Lib.hid ha
        rw [hb] at ha
        clear hb
        go_wp2_with fail
        go_loopg [5] (s.size - (i + 1)) (fun m v wx => ∃ k : Nat, i < k ∧ k ≤ s.size ∧ m = s.size - k ∧ v = .int .i64 k ∧ wx = wr ∧ Hid (runTo s k = runTo s i))
        case atStart => exact ⟨i + 1, by omega, by omega, rfl, by go_num, rfl, (runTo_go hlt HA.out).symm⟩
        case round =>
          obtain ⟨k, hk1, hk2, rfl, rfl, rfl, HK⟩ := hrel
          have hk0 : (0 : Int) ≤ (k : Int) := by omega
          by_cases hkl : k < s.size
          · have hkb := byteAt_eq hkl
            have hki : (k : Int) < (s.size : Int) := by omega
            cases hka : alB (byteAt s k) with
            | true =>
              have HKA := Lib.hid hka
              rw [hkb] at hka
              clear hkb
              go_wp2_with (go_at_call 44; refine (alnum_any _ _).mono ?_; rintro e w5 ⟨rfl, rfl⟩)
              go_roundg (s.size - (k + 1))
              case measure => omega
              case rel => exact ⟨k + 1, by omega, by omega, rfl, by go_num, rfl, (runTo_go hkl HKA.out).symm.trans HK.out⟩
            | false =>
              have HKA := Lib.hid hka
              rw [hkb] at hka
              clear hkb
              have HR := Lib.hid (show runTo s i = k from by rw [← HK.out, runTo_stop hkl HKA.out])
              obtain ⟨n1, n2⟩ := al_bytes HA.out
              rw [byteAt_eq hlt] at n1 n2
              go_wp2_with (first | (go_at_call 44; refine (alnum_any _ _).mono ?_; rintro e w5 ⟨rfl, rfl⟩) | (at_builtin; refine wpList_append_own _ rfl _ _ 24 rfl w.heap.size 27 i0 (.agg #[.int .i64 0, .string ⟨#[]⟩]) 2 24 Tryz.underlying24 hi hz0 hz1 hz2 rfl (by decide) _ _ _ rfl (HO.out.alloc _) ⟨wr.heap.size, 0, none⟩ 1 1 [.int .i64 i, .string (s.extract i k)] rfl rfl (cells_new2 _ _ _ _) oneCell_tok (by unfold maxLen; omega) (by omega) (by have := HB.out.size; simp; omega) ?_; intro v7 w7 hown7 hg7 _; have HO7 := Lib.hid hown7; have HG7 := Lib.hid hg7; clear hown7 hg7))
              go_roundg (s.size - k)
              case measure => omega
              case rel =>
                have hrow := fun q hq => (HO.out.lt q hq).1
                refine ⟨k, D ++ [(i, s.extract i k)], hk2, rfl, by first | rfl | go_num, ?_, by simp; omega, ?_, ?_⟩
                · rw [HD.out, toks_run hlt (al_blank HA.out) HA.out, HR.out]; simp
                · have := HO7.out
                  rw [tokCells_app]
                  simpa using this
                · have h1 := below_alloc HB.out (.cells #[.int .i64 i, .string (s.extract i k)] 27) (Nat.le_refl _)
                  have hg := HG7.out
                  exact ⟨hg.os.trans h1.os, hg.tape.trans h1.tape, hg.output.trans h1.output, Nat.le_trans h1.size hg.size, fun q hq => (hg.block q (Nat.lt_of_lt_of_le hq h1.size) (fun e => by have := hrow q e.symm; omega)).trans (h1.block q hq)⟩
          · have hki : ¬ (k : Int) < (s.size : Int) := by omega
            have HR := Lib.hid (show runTo s i = k from by rw [← HK.out, runTo_end hkl])
            obtain ⟨n1, n2⟩ := al_bytes HA.out
            rw [byteAt_eq hlt] at n1 n2
            go_wp2_with (first | (go_at_call 44; refine (alnum_any _ _).mono ?_; rintro e w5 ⟨rfl, rfl⟩) | (at_builtin; refine wpList_append_own _ rfl _ _ 24 rfl w.heap.size 27 i0 (.agg #[.int .i64 0, .string ⟨#[]⟩]) 2 24 Tryz.underlying24 hi hz0 hz1 hz2 rfl (by decide) _ _ _ rfl (HO.out.alloc _) ⟨wr.heap.size, 0, none⟩ 1 1 [.int .i64 i, .string (s.extract i k)] rfl rfl (cells_new2 _ _ _ _) oneCell_tok (by unfold maxLen; omega) (by omega) (by have := HB.out.size; simp; omega) ?_; intro v7 w7 hown7 hg7 _; have HO7 := Lib.hid hown7; have HG7 := Lib.hid hg7; clear hown7 hg7))
            go_roundg (s.size - k)
            case measure => omega
            case rel =>
              have hrow := fun q hq => (HO.out.lt q hq).1
              refine ⟨k, D ++ [(i, s.extract i k)], hk2, rfl, by first | rfl | go_num, ?_, by simp; omega, ?_, ?_⟩
              · rw [HD.out, toks_run hlt (al_blank HA.out) HA.out, HR.out]; simp
              · have := HO7.out
                rw [tokCells_app]
                simpa using this
              · have h1 := below_alloc HB.out (.cells #[.int .i64 i, .string (s.extract i k)] 27) (Nat.le_refl _)
                have hg := HG7.out
                exact ⟨hg.os.trans h1.os, hg.tape.trans h1.tape, hg.output.trans h1.output, Nat.le_trans h1.size hg.size, fun q hq => (hg.block q (Nat.lt_of_lt_of_le hq h1.size) (fun e => by have := hrow q e.symm; omega)).trans (h1.block q hq)⟩
      | false =>
        have HA := Lib.hid ha
        have HBQ := Lib.hid hb
        rw [hb] at ha
        clear hb
        go_wp2_with fail
        go_loopg [5] (s.size - (i + 1)) (fun m v wx => ∃ k : Nat, k = i + 1 ∧ m = s.size - k ∧ v = .int .i64 k ∧ wx = wr)
        case atStart => exact ⟨i + 1, rfl, rfl, by go_num, rfl⟩
        case round =>
          obtain ⟨k, hk, rfl, rfl, rfl⟩ := hrel
          have HKI := Lib.hid hk
          have hk1 : i < k := by omega
          have hk2 : k ≤ s.size := by omega
          have hk0 : (0 : Int) ≤ (k : Int) := by omega
          clear hk
          have HE := Lib.hid (show s.extract i k = s.extract i (i + 1) from by rw [HKI.out])
          cases hbl : blank (byteAt s i) with
          | true =>
            have HBL := Lib.hid hbl
            by_cases h32 : (byteAt s i == 32) = true
            · have n1 : ((s[i].toNat : Int) != 32) = false := by rw [← HBQ.out, bne, h32]; rfl
              clear h32 hbl
              go_wp2_with (first | (go_at_call 44; refine (alnum_any _ _).mono ?_; rintro e w5 ⟨rfl, rfl⟩) | (at_builtin; refine wpList_append_own _ rfl _ _ 24 rfl w.heap.size 27 i0 (.agg #[.int .i64 0, .string ⟨#[]⟩]) 2 24 Tryz.underlying24 hi hz0 hz1 hz2 rfl (by decide) _ _ _ rfl (HO.out.alloc _) ⟨wr.heap.size, 0, none⟩ 1 1 [.int .i64 i, .string (s.extract i k)] rfl rfl (cells_new2 _ _ _ _) oneCell_tok (by unfold maxLen; omega) (by omega) (by have := HB.out.size; simp; omega) ?_; intro v7 w7 hown7 hg7 _; have HO7 := Lib.hid hown7; have HG7 := Lib.hid hg7; clear hown7 hg7))
              go_roundg (s.size - k)
              case measure => omega
              case rel => exact ⟨k, D, hk2, rfl, by first | rfl | go_num, by rw [HD.out, toks_blank hlt HBL.out, ← HKI.out], by omega, HO.out, HB.out⟩
            · have n1 : ((s[i].toNat : Int) != 32) = true := by rw [← HBQ.out]; simpa using h32
              have n2 : ((s[i].toNat : Int) != 10) = false := by rw [← HBQ.out]; unfold blank at hbl; simpa [h32] using hbl
              clear h32 hbl
              go_wp2_with (first | (go_at_call 44; refine (alnum_any _ _).mono ?_; rintro e w5 ⟨rfl, rfl⟩) | (at_builtin; refine wpList_append_own _ rfl _ _ 24 rfl w.heap.size 27 i0 (.agg #[.int .i64 0, .string ⟨#[]⟩]) 2 24 Tryz.underlying24 hi hz0 hz1 hz2 rfl (by decide) _ _ _ rfl (HO.out.alloc _) ⟨wr.heap.size, 0, none⟩ 1 1 [.int .i64 i, .string (s.extract i k)] rfl rfl (cells_new2 _ _ _ _) oneCell_tok (by unfold maxLen; omega) (by omega) (by have := HB.out.size; simp; omega) ?_; intro v7 w7 hown7 hg7 _; have HO7 := Lib.hid hown7; have HG7 := Lib.hid hg7; clear hown7 hg7))
              go_roundg (s.size - k)
              case measure => omega
              case rel => exact ⟨k, D, hk2, rfl, by first | rfl | go_num, by rw [HD.out, toks_blank hlt HBL.out, ← HKI.out], by omega, HO.out, HB.out⟩
          | false =>
            have HBL := Lib.hid hbl
            have n1 : ((s[i].toNat : Int) != 32) = true := by rw [← HBQ.out, bne]; unfold blank at hbl; rw [(Bool.or_eq_false_iff.1 hbl).1]; rfl
            have n2 : ((s[i].toNat : Int) != 10) = true := by rw [← HBQ.out, bne]; unfold blank at hbl; rw [(Bool.or_eq_false_iff.1 hbl).2]; rfl
            clear hbl
            go_wp2_with (first | (go_at_call 44; refine (alnum_any _ _).mono ?_; rintro e w5 ⟨rfl, rfl⟩) | (at_builtin; refine wpList_append_own _ rfl _ _ 24 rfl w.heap.size 27 i0 (.agg #[.int .i64 0, .string ⟨#[]⟩]) 2 24 Tryz.underlying24 hi hz0 hz1 hz2 rfl (by decide) _ _ _ rfl (HO.out.alloc _) ⟨wr.heap.size, 0, none⟩ 1 1 [.int .i64 i, .string (s.extract i k)] rfl rfl (cells_new2 _ _ _ _) oneCell_tok (by unfold maxLen; omega) (by omega) (by have := HB.out.size; simp; omega) ?_; intro v7 w7 hown7 hg7 _; have HO7 := Lib.hid hown7; have HG7 := Lib.hid hg7; clear hown7 hg7))
            go_roundg (s.size - k)
            case measure => omega
            case rel =>
              have hrow := fun q hq => (HO.out.lt q hq).1
              refine ⟨k, D ++ [(i, s.extract i k)], hk2, rfl, by first | rfl | go_num, ?_, by simp; omega, ?_, ?_⟩
              · rw [HD.out, toks_one hlt HBL.out HA.out, ← HKI.out]; simp
              · have := HO7.out
                rw [tokCells_app]
                simpa using this
              · have h1 := below_alloc HB.out (.cells #[.int .i64 i, .string (s.extract i k)] 27) (Nat.le_refl _)
                have hg := HG7.out
                exact ⟨hg.os.trans h1.os, hg.tape.trans h1.tape, hg.output.trans h1.output, Nat.le_trans h1.size hg.size, fun q hq => (hg.block q (Nat.lt_of_lt_of_le hq h1.size) (fun e => by have := hrow q e.symm; omega)).trans (h1.block q hq)⟩
    · have hi1 : ¬ (i : Int) < (s.size : Int) := by omega
      go_wp2
      go_ret
      have e : toks s 0 = D := by rw [HD.out, toks_end hlt, List.append_nil]
      exact ⟨_, rfl, by unfold OwnToks; rw [e]; exact HO.out, HB.out⟩
end Go.Proofs.YtadnnijdbcdkjaaGreatDoor
