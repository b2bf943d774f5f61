/-
  Joined texts of one proof: Base, W1, W2, W3. Conditions: none.
-/
import Derived.Test.YtadnnijdbcdkjaaGreatDoorProg
import Derived.WalkKit
import Derived.WalkSpells
import Derived.WalkLawsBesides
import Derived.Deep.QuietTactic
import Derived.BigQuiet
import Derived.Deep.LoopGhost
import Derived.Lib.Hide
import Derived.Lib.QuietBelow
import Derived.Test.YtadnnijdbcdkjaaGreatDoorJA
import Derived.Test.YtadnnijdbcdkjaaGreatDoorShelf
import Derived.Lib.AtoiErrMem
/-
  Words used by all texts of this seat: what a call leaves alone, how lists of strings read. Conditions: none.
-/
namespace Go.Proofs.YtadnnijdbcdkjaaGreatDoor
open Go.RowKit

/-- All blocks but block x are as they were. -/
structure Keep (x : Nat) (w w' : World) : Prop where
  os : w'.os = w.os
  tape : w'.tape = w.tape
  output : w'.output = w.output
  size : w.heap.size ≤ w'.heap.size
  block : ∀ k, k < w.heap.size → k ≠ x → w'.heap[k]? = w.heap[k]?

theorem Keep.refl (x : Nat) (w : World) : Keep x w w := ⟨rfl, rfl, rfl, Nat.le_refl _, fun _ _ _ => rfl⟩
theorem Keep.trans {x : Nat} {a b c : World} (h : Keep x a b) (k : Keep x b c) : Keep x a c :=
  ⟨k.os.trans h.os, k.tape.trans h.tape, k.output.trans h.output, Nat.le_trans h.size k.size, fun i hi hx => (k.block i (Nat.lt_of_lt_of_le hi h.size) hx).trans (h.block i hi hx)⟩
theorem Keep.of_below {x : Nat} {a b : World} (h : Below a.heap.size a b) : Keep x a b :=
  ⟨h.os, h.tape, h.output, h.size, fun i hi _ => h.block i hi⟩
theorem Keep.drewN {x : Nat} {a b : World} (h : Keep x a b) (n : Nat) : Keep x a (b.drewN n) := ⟨h.os, h.tape, h.output, h.size, h.block⟩
theorem Keep.drew {x : Nat} {a b : World} (h : Keep x a b) : Keep x a b.drew := ⟨h.os, h.tape, h.output, h.size, h.block⟩
theorem Keep.alloc {x : Nat} {a b : World} (h : Keep x a b) (o : Obj) : Keep x a (b.alloc o) :=
  h.trans ⟨rfl, rfl, rfl, by simp, fun k hk _ => Below.heap_alloc _ _ _ (by omega)⟩
theorem Keep.setCell {x : Nat} {a b : World} (h : Keep x a b) (o : Nat) (sp : Option Nat) (u : Value) : Keep x a (b.setCell ⟨x, o, sp⟩ u) :=
  h.trans ⟨rfl, rfl, rfl, by simp [World.setCell], fun k _ hk => Below.heap_setCell _ _ _ _ hk⟩
/-- A store into a block that was not there. -/
theorem Keep.setNew {x : Nat} {a b : World} (h : Keep x a b) {p : Addr} (hp : a.heap.size ≤ p.block) (u : Value) : Keep x a (b.setCell p u) :=
  ⟨h.os, h.tape, h.output, by simpa [World.setCell] using h.size, fun k hk hx => (Below.heap_setCell _ _ _ _ (by omega)).trans (h.block k hk hx)⟩
theorem Keep.below {x B : Nat} {a b : World} (h : Keep x a b) (hB : B ≤ a.heap.size) (hx : B ≤ x) : Below B a b :=
  ⟨h.os, h.tape, h.output, h.size, fun i hi => h.block i (by omega) (by omega)⟩
theorem Keep.cell {x : Nat} {a b : World} (h : Keep x a b) {p : Addr} (hp : p.block < a.heap.size) (hx : p.block ≠ x) : b.cell? p = a.cell? p := World.cell?_of_block (w := a) (h.block p.block hp hx)
theorem Keep.frozen {x : Nat} {a b : World} (h : Keep x a b) {p : Addr} (hp : p.block < a.heap.size) (hx : p.block ≠ x) : b.frozen? p = a.frozen? p := World.frozen?_of_block (w := a) (h.block p.block hp hx)

theorem ret_bool {a b : Bool} (h : a = b) : Ending.returned (.bool a) = .returned (.bool b) := by rw [h]
theorem ret_int {k : IntKind} {a b : Int} (h : a = b) : Ending.returned (.int k a) = .returned (.int k b) := by rw [h]

end Go.Proofs.YtadnnijdbcdkjaaGreatDoor
/-
  Contracts of the small functions on bytes. Conditions: none.
-/
namespace Go.Proofs.YtadnnijdbcdkjaaGreatDoor
open Go.RowKit

set_option maxHeartbeats 400000 in
theorem letter_any (c : Int) (w : World) : Calls Tryz.prog 62 #[.int .u8 c] w fun e w' => e = .returned (.bool (letB c)) ∧ w = w' := by
  go_enter Tryz.func62, Tryz.ntmps62
  go_wp2
  all_goals
    go_ret
    refine ⟨ret_bool ?_, rfl⟩
    unfold letB
    rw [Bool.eq_iff_iff]; simp <;> omega
theorem digit_any (c : Int) (w : World) : Calls Tryz.prog 67 #[.int .u8 c] w fun e w' => e = .returned (.bool (digB c)) ∧ w = w' := by
  go_enter Tryz.func67, Tryz.ntmps67
  go_wp2
  all_goals
    go_ret
    refine ⟨ret_bool ?_, rfl⟩
    unfold digB
    rw [Bool.eq_iff_iff]; simp <;> omega

set_option maxHeartbeats 400000 in
theorem alnum_any (c : Int) (w : World) : Calls Tryz.prog 44 #[.int .u8 c] w fun e w' => e = .returned (.bool (alB c)) ∧ w = w' := by
  go_enter Tryz.func44, Tryz.ntmps44
  go_wp2
  all_goals
    go_ret
    refine ⟨ret_bool ?_, rfl⟩
    unfold alB letB digB
    rw [Bool.eq_iff_iff]; simp <;> omega
set_option maxHeartbeats 400000 in
theorem letter1_any (c : Int) (w : World) : Calls Tryz.prog 68 #[.int .u8 c] w fun e w' => e = .returned (.bool (letB c)) ∧ w = w' := by
  go_enter Tryz.func68, Tryz.ntmps68
  go_wp2
  all_goals
    go_ret
    refine ⟨ret_bool ?_, rfl⟩
    unfold letB
    rw [Bool.eq_iff_iff]; simp <;> omega
theorem digit1_any (c : Int) (w : World) : Calls Tryz.prog 70 #[.int .u8 c] w fun e w' => e = .returned (.bool (digB c)) ∧ w = w' := by
  go_enter Tryz.func70, Tryz.ntmps70
  go_wp2
  all_goals
    go_ret
    refine ⟨ret_bool ?_, rfl⟩
    unfold digB
    rw [Bool.eq_iff_iff]; simp <;> omega

set_option maxHeartbeats 400000 in
/-- The closure of formula.Name: a rune that may not stand in a name. -/
theorem name_rune (r : Int) (w : World) (h0 : 0 ≤ r) (h1 : r ≤ 1114111) : Calls Tryz.prog 66 #[.int .i32 r] w fun e w' => e = .returned (.bool (decide (127 < r) || !alB r)) ∧ w = w' := by
  by_cases h : 127 < r
  · go_enter Tryz.func66, Tryz.ntmps66
    go_wp2
    go_ret
    refine ⟨ret_bool ?_, rfl⟩
    simp [h]
  · cases hl : letB r <;> cases hd : digB r
    all_goals
      go_enter Tryz.func66, Tryz.ntmps66
      go_wp2_with (first | (go_at_call 62; refine (letter_any _ _).mono ?_; rintro e w' ⟨rfl, rfl⟩) | (go_at_call 67; refine (digit_any _ _).mono ?_; rintro e w' ⟨rfl, rfl⟩))
      go_ret
      refine ⟨ret_bool ?_, rfl⟩
      unfold alB
      simp [hl, hd]
      try omega

theorem words_any (w : World) : Calls Tryz.prog 64 #[] w fun e w' => e = .returned (.slice (some ⟨w.heap.size, 0, none⟩) 11 11) ∧ w' = w.alloc (.cells (wordsL.map Value.string).toArray 9) := by
  go_enter Tryz.func64, Tryz.ntmps64
  go_wp2
  go_ret
  exact ⟨rfl, rfl⟩

theorem words_cells (w : World) : ∀ j, j < wordsL.length → (w.alloc (.cells (wordsL.map Value.string).toArray 9)).cell? ⟨w.heap.size, 0 + j, none⟩ = some (.string (wordsL.getD j ByteArray.empty)) := by
  intro j hj
  rw [World.cell?_alloc_new]
  simp [List.getElem?_eq_getElem hj]


theorem name_pred (w : World) : Go.Proofs.PredAtRunes Tryz.prog 66 #[] badRune w := by
  intro W x hx _
  refine (name_rune (x : Int) W (by omega) (by omega)).mono ?_
  rintro e w' ⟨rfl, rfl⟩
  exact ⟨rfl, 0, rfl⟩

theorem empty_of_size {s : ByteArray} (h : s.size = 0) : s = ⟨#[]⟩ := by
  cases s with | mk d =>
  have h' : d.size = 0 := h
  have : d = #[] := Array.eq_empty_of_size_eq_zero h'
  rw [this]
theorem toList_ne {s : ByteArray} (h : ¬ s.size = 0) : s.toList.isEmpty = false := by
  rw [ByteArray.toList_eq, List.isEmpty_eq_false_iff]
  intro e
  apply h
  have := congrArg List.length e
  simpa using this

set_option maxHeartbeats 1000000 in
theorem name_any (s : ByteArray) (hs : s.size ≤ 9223372036854775807) (w : World) : Calls Tryz.prog 30 #[.string s] w fun e w' => e = .returned (.bool (nameB s)) ∧ Below w.heap.size w w' := by
  by_cases h0 : s.size = 0
  · obtain rfl := empty_of_size h0
    go_enter Tryz.func30, Tryz.ntmps30
    go_wp2
    go_ret
    exact ⟨rfl, Below.refl _ _⟩
  · have e0 := toList_ne h0
    have hp : 0 < s.size := by omega
    by_cases h1 : 12 < s.size
    · have hn : nameB s = false := by unfold nameB; rw [decide_eq_false (by omega : ¬ s.size ≤ 12)]; simp
      go_enter Tryz.func30, Tryz.ntmps30
      go_wp2
      go_ret
      exact ⟨rfl, Below.refl _ _⟩
    · have h1' : (s.size : Int) ≤ 12 := by omega
      have hb := byteAt_eq hp
      cases hl : letB (byteAt s 0) with
      | false =>
        have hn : nameB s = false := by unfold nameB; rw [hl]; simp
        have HN := Lib.hid hn
        rw [hb] at hl
        clear hb hn
        go_enter Tryz.func30, Tryz.ntmps30
        go_wp2_with (go_at_call 62; refine (letter_any _ _).mono ?_; rintro e w' ⟨rfl, rfl⟩)
        go_ret
        exact ⟨ret_bool HN.out.symm, Below.refl _ _⟩
      | true =>
        cases hw : Lib.containsS wordsL s with
        | true =>
          have hn : nameB s = false := by unfold nameB; rw [hw]; simp
          have HW := Lib.hid hw
          have HN := Lib.hid hn
          rw [hb] at hl
          clear hb hw hn
          go_enter Tryz.func30, Tryz.ntmps30
          go_wp2_with (first | (go_at_call 62; refine (letter_any _ _).mono ?_; rintro e w' ⟨rfl, rfl⟩) | (go_at_call 64; refine (words_any _).mono ?_; rintro e w' ⟨rfl, rfl⟩) | (go_at_call 63; refine (Tryz.slices_Contains_string _ 0 11 11 wordsL s _ (Nat.le_refl _) (by omega) (words_cells _)).mono ?_; rintro e w' ⟨rfl, rfl⟩; rw [show wordsL.take 11 = wordsL from rfl, HW.out]))
          go_ret
          exact ⟨ret_bool HN.out.symm, (Below.refl _ _).alloc (Nat.le_refl _) _⟩
        | false =>
          have hn : nameB s = allAl s := by unfold nameB; rw [hl, hw, decide_eq_true hp, decide_eq_true (by omega)]; simp
          have HW := Lib.hid hw
          have HN := Lib.hid hn
          rw [hb] at hl
          clear hb hw hn
          go_enter Tryz.func30, Tryz.ntmps30
          go_wp2_with (first | (go_at_call 62; refine (letter_any _ _).mono ?_; rintro e w' ⟨rfl, rfl⟩) | (go_at_call 64; refine (words_any _).mono ?_; rintro e w' ⟨rfl, rfl⟩) | (go_at_call 63; refine (Tryz.slices_Contains_string _ 0 11 11 wordsL s _ (Nat.le_refl _) (by omega) (words_cells _)).mono ?_; rintro e w' ⟨rfl, rfl⟩; rw [show wordsL.take 11 = wordsL from rfl, HW.out]) | (go_at_call 65; refine (Tryz.strings_ContainsFunc_runes 66 #[] (enters_of Tryz.func66 (by kernel_rfl) rfl) badRune s _ (name_pred _)).mono ?_; rintro e w' ⟨rfl, hb'⟩; rw [idx_all]))
          go_ret
          exact ⟨ret_bool HN.out.symm, ((Below.refl _ _).alloc (Nat.le_refl _) _).trans (hb'.mono (by simp))⟩
end Go.Proofs.YtadnnijdbcdkjaaGreatDoor
/-
  Contracts of the lexer: kindOf, run, step, fail, is. Conditions: the two error variables of strconv hold errors.
-/
namespace Go.Proofs.YtadnnijdbcdkjaaGreatDoor
open Go.RowKit

/-- What the two error variables of strconv hold: an error each. -/
structure Glob (w : World) : Prop where
  es : ∃ te pe, w.cell? ⟨0, 0, none⟩ = some (.iface te pe)
  er : ∃ te pe, w.cell? ⟨1, 0, none⟩ = some (.iface te pe)

theorem Glob.below {w w' : World} (h : Glob w) (hb : Below w.heap.size w w') : Glob w' := by
  obtain ⟨⟨te, pe, h1⟩, ⟨tf, pf, h2⟩⟩ := h
  exact ⟨⟨te, pe, cell_later hb h1⟩, ⟨tf, pf, cell_later hb h2⟩⟩

theorem beq_bytes {a b : ByteArray} : (a.toList == b.toList) = decide (a.data.toList = b.data.toList) := by
  rw [ByteArray.toList_eq, ByteArray.toList_eq]
  rw [Bool.eq_iff_iff]; simp

/-- strconv.Atoi where it finds no number. -/
theorem atoi_bad (s : ByteArray) (hs : s.size ≤ 281474976710656) (w : World) (g : Glob w) (h : ∀ v, Lib.atoiAll s.data.toList ≠ .ok v) :
    Calls Tryz.prog 86 #[.string s] w fun e w' => ∃ v N, e = .returned (.tuple #[.int .i64 v, .iface 139 (.pointer (some ⟨N, 0, none⟩))]) ∧ Below w.heap.size w w' := by
  cases hv : Lib.atoiAll s.data.toList with
  | ok v => exact absurd hv (h v)
  | range =>
    obtain ⟨te, pe, hc⟩ := g.er
    exact (Tryz.strconv_Atoi_range s hs hv _ w hc (.inr ⟨te, pe, rfl⟩)).mono fun e w' ⟨N, he, _, _, hb⟩ => ⟨_, N, he, hb⟩
  | _ =>
    obtain ⟨te, pe, hc⟩ := g.es
    exact (Tryz.strconv_Atoi_syntax s hs hv _ w hc (.inr ⟨te, pe, rfl⟩)).mono fun e w' ⟨N, he, _, _, hb⟩ => ⟨_, N, he, hb⟩
theorem atoi_good (s : ByteArray) (hs : s.size ≤ 281474976710656) (w : World) (v : Int) (h : Lib.atoiAll s.data.toList = .ok v) :
    Calls Tryz.prog 86 #[.string s] w fun e w' => e = .returned (.tuple #[.int .i64 v, .nilIface]) ∧ Below w.heap.size w w' :=
  (Tryz.strconv_Atoi_ok s (by omega) v h w).mono fun e w' ⟨he, hb⟩ => ⟨he, by
    rcases hb with rfl | ⟨t, rfl⟩
    · exact Below.refl _ _
    · exact Lib.bytesWorld_below w _ t⟩
theorem itoa_small (v : Int) (h0 : 0 ≤ v) (h9 : v < 100) (w : World) :
    Calls Tryz.prog 101 #[.int .i64 v] w fun e w' => e = .returned (.string ⟨(Lib.decDigits v.toNat).toArray⟩) ∧ w = w' := by
  obtain ⟨n, rfl⟩ := Int.eq_ofNat_of_zero_le h0
  exact (Tryz.strconv_Itoa_small n (by omega) w).mono fun e w' ⟨he, hw⟩ => ⟨he, hw.symm⟩

set_option maxHeartbeats 1000000 in
theorem kind_dig_bad (s : ByteArray) (hs : s.size ≤ 281474976710656) (hp : 0 < s.size) (w : World) (g : Glob w) (hd : digB (byteAt s 0) = true) (hv : ∀ v, Lib.atoiAll s.data.toList ≠ .ok v) :
    Calls Tryz.prog 78 #[.string s] w fun e w' => e = .returned (.int .u8 (kindB s)) ∧ Below w.heap.size w w' := by
  have hk : kindB s = 63 := by
    unfold kindB; rw [hd]; simp only [if_true]
  have hb := byteAt_eq hp
  have HK := Lib.hid hk
  have HV := Lib.hid hv
  rw [hb] at hd
  clear hb hk hv
  go_enter Tryz.func78, Tryz.ntmps78
  go_wp2_with (first | (go_at_call 67; refine (digit_any _ _).mono ?_; rintro e w' ⟨rfl, rfl⟩) | (go_at_call 86; refine (atoi_bad s hs _ g HV.out).mono ?_; rintro e w' ⟨v, N, rfl, hb'⟩))
  go_ret
  exact ⟨ret_int HK.out.symm, hb'⟩

set_option maxHeartbeats 1000000 in
theorem kind_dig_ok (s : ByteArray) (hs : s.size ≤ 281474976710656) (hp : 0 < s.size) (w : World) (hd : digB (byteAt s 0) = true) (v : Int) (hv : Lib.atoiAll s.data.toList = .ok v) :
    Calls Tryz.prog 78 #[.string s] w fun e w' => e = .returned (.int .u8 (kindB s)) ∧ Below w.heap.size w w' := by
  have h0 := atoi_nonneg hd hv
  have hb := byteAt_eq hp
  by_cases h9 : 99 < v
  · have hk : kindB s = 63 := by unfold kindB; rw [hd, hv]; simp only [if_true]; rw [if_pos h9]
    have HK := Lib.hid hk
    have HV := Lib.hid hv
    rw [hb] at hd
    clear hb hk hv
    go_enter Tryz.func78, Tryz.ntmps78
    go_wp2_with (first | (go_at_call 67; refine (digit_any _ _).mono ?_; rintro e w' ⟨rfl, rfl⟩) | (go_at_call 86; refine (atoi_good s hs _ v HV.out).mono ?_; rintro e w' ⟨rfl, hb'⟩))
    go_ret
    exact ⟨ret_int HK.out.symm, hb'⟩
  · have h9' : v ≤ 99 := by omega
    have hd9 : decide (99 < v) = false := decide_eq_false h9
    by_cases h8 : Lib.decDigits v.toNat = s.data.toList
    · have hk : kindB s = 48 := by unfold kindB; rw [hd, hv]; simp only [if_true]; rw [if_neg h9, if_pos h8]
      have hq : (Lib.decDigits v.toNat == s.toList) = true := by rw [ByteArray.toList_eq]; simp [h8]
      have HK := Lib.hid hk
      have HV := Lib.hid hv
      rw [hb] at hd
      clear hb hk hv h8
      go_enter Tryz.func78, Tryz.ntmps78
      go_wp2_with (first | (go_at_call 67; refine (digit_any _ _).mono ?_; rintro e w' ⟨rfl, rfl⟩) | (go_at_call 86; refine (atoi_good s hs _ v HV.out).mono ?_; rintro e w' ⟨rfl, hb'⟩) | (go_at_call 101; refine (itoa_small v h0 (by omega) _).mono ?_; rintro e w' ⟨rfl, rfl⟩))
      go_ret
      exact ⟨ret_int HK.out.symm, hb'⟩
    · have hk : kindB s = 63 := by unfold kindB; rw [hd, hv]; simp only [if_true]; rw [if_neg h9, if_neg h8]
      have hq : (Lib.decDigits v.toNat == s.toList) = false := by rw [ByteArray.toList_eq]; simp [h8]
      have HK := Lib.hid hk
      have HV := Lib.hid hv
      rw [hb] at hd
      clear hb hk hv h8
      go_enter Tryz.func78, Tryz.ntmps78
      go_wp2_with (first | (go_at_call 67; refine (digit_any _ _).mono ?_; rintro e w' ⟨rfl, rfl⟩) | (go_at_call 86; refine (atoi_good s hs _ v HV.out).mono ?_; rintro e w' ⟨rfl, hb'⟩) | (go_at_call 101; refine (itoa_small v h0 (by omega) _).mono ?_; rintro e w' ⟨rfl, rfl⟩))
      go_ret
      exact ⟨ret_int HK.out.symm, hb'⟩

theorem words_mem (s : ByteArray) : Lib.containsS wordsL s = true ↔ ∃ j, j < 11 ∧ wordsL.getD j ByteArray.empty = s := by
  rw [Lib.containsS_iff, List.mem_iff_getElem]
  constructor
  · rintro ⟨i, hi, h⟩
    exact ⟨i, hi, by rw [List.getD_eq_getElem?_getD, List.getElem?_eq_getElem hi]; exact h⟩
  · rintro ⟨j, hj, h⟩
    have hj' : j < wordsL.length := hj
    exact ⟨j, hj', by rw [List.getD_eq_getElem?_getD, List.getElem?_eq_getElem hj'] at h; exact h⟩

set_option maxHeartbeats 1000000 in
theorem kind_let (s : ByteArray) (hs : s.size ≤ 281474976710656) (hp : 0 < s.size) (w : World) (hd : digB (byteAt s 0) = false) :
    Calls Tryz.prog 78 #[.string s] w fun e w' => e = .returned (.int .u8 (kindB s)) ∧ Below w.heap.size w w' := by
  have hk : kindB s = if Lib.containsS wordsL s then 119 else if nameB s then 110 else 63 := by unfold kindB; rw [hd]; simp
  have hb := byteAt_eq hp
  have HK := Lib.hid hk
  rw [hb] at hd
  clear hb hk
  go_enter Tryz.func78, Tryz.ntmps78
  go_wp2_with (first | (go_at_call 67; refine (digit_any _ _).mono ?_; rintro e w' ⟨rfl, rfl⟩) | (go_at_call 64; refine (words_any _).mono ?_; rintro e w' ⟨rfl, rfl⟩))
  have hlw := (Below.refl w.heap.size w).alloc (Nat.le_refl _) (.cells (wordsL.map Value.string).toArray 9)
  have hwc := words_cells w
  have HW := Lib.hid hwc
  have HL := Lib.hid hlw
  clear hwc hlw
  generalize w.alloc (.cells (wordsL.map Value.string).toArray 9) = w1 at *
  go_loopg [29] 11 (fun k i wr => ∃ j : Nat, j ≤ 11 ∧ k = 11 - j ∧ i = .int .i64 j ∧ wr = w1 ∧ Hid (∀ m, m < j → wordsL.getD m ByteArray.empty ≠ s))
  case atStart => exact ⟨0, by omega, rfl, rfl, rfl, fun m hm => absurd hm (Nat.not_lt_zero m)⟩
  case round =>
    obtain ⟨j, hj, rfl, rfl, rfl, HJ⟩ := hrel
    by_cases hlt : j < 11
    · have hc := HW.out j hlt
      rw [Nat.zero_add] at hc
      by_cases he : wordsL.getD j ByteArray.empty = s
      · have hq : (s.toList == (wordsL.getD j ByteArray.empty).toList) = true := by rw [he]; simp
        have HE := Lib.hid he
        clear he
        generalize hg : wordsL.getD j ByteArray.empty = y at *
        have HG := Lib.hid hg
        clear hg
        go_wp2
        go_ret
        refine ⟨ret_int ?_, HL.out⟩
        rw [HK.out, if_pos ((words_mem s).2 ⟨j, hlt, HG.out.trans HE.out⟩)]
      · have hq : (s.toList == (wordsL.getD j ByteArray.empty).toList) = false := by
          rw [beq_bytes, decide_eq_false_iff_not]
          intro e; apply he
          exact (bytes_ext e).symm
        have HE := Lib.hid he
        clear he
        generalize hg : wordsL.getD j ByteArray.empty = y at *
        have HG := Lib.hid hg
        clear hg
        go_wp2
        go_roundg (11 - (j + 1))
        case measure => omega
        case rel =>
          refine ⟨j + 1, by omega, rfl, by go_num, rfl, ?_⟩
          intro m hm
          by_cases e : m = j
          · subst e; rw [HG.out]; exact HE.out
          · exact HJ.out m (by omega)
    · have hw : Lib.containsS wordsL s = false := by
        rw [Bool.eq_false_iff]; intro h
        obtain ⟨m, hm, e⟩ := (words_mem s).1 h
        exact HJ.out m (by omega) e
      have HW' := Lib.hid hw
      clear hw
      cases hn : nameB s with
      | true =>
        have HN := Lib.hid hn
        clear hn
        go_wp2_with (go_at_call 30; refine (name_any s (by omega) _).mono ?_; rintro e w' ⟨rfl, hb'⟩; rw [HN.out])
        go_ret
        refine ⟨ret_int ?_, HL.out.trans (hb'.mono HL.out.size)⟩
        rw [HK.out, HW'.out, HN.out]; rfl
      | false =>
        have HN := Lib.hid hn
        clear hn
        go_wp2_with (go_at_call 30; refine (name_any s (by omega) _).mono ?_; rintro e w' ⟨rfl, hb'⟩; rw [HN.out])
        go_ret
        refine ⟨ret_int ?_, HL.out.trans (hb'.mono HL.out.size)⟩
        rw [HK.out, HW'.out, HN.out]; rfl

theorem kind_any (s : ByteArray) (hs : s.size ≤ 281474976710656) (hp : 0 < s.size) (w : World) (g : Glob w) :
    Calls Tryz.prog 78 #[.string s] w fun e w' => e = .returned (.int .u8 (kindB s)) ∧ Below w.heap.size w w' := by
  cases hd : digB (byteAt s 0) with
  | false => exact kind_let s hs hp w hd
  | true =>
    by_cases h : ∃ v, Lib.atoiAll s.data.toList = .ok v
    · obtain ⟨v, hv⟩ := h
      exact kind_dig_ok s hs hp w hd v hv
    · exact kind_dig_bad s hs hp w g hd fun v hv => h ⟨v, hv⟩
end Go.Proofs.YtadnnijdbcdkjaaGreatDoor
/-
  Contracts of the reader's small methods: run, is, fail, step. Conditions: the reader's block lies as Rd says; the two error variables of strconv hold errors.
-/
namespace Go.Proofs.YtadnnijdbcdkjaaGreatDoor
open Go.RowKit

/-- A reader lies in block rb. -/
def Rd (w : World) (rb : Nat) (s : ByteArray) (r : RS) : Prop :=
  w.heap[rb]? = some (.cells #[.string s, .int .i64 r.pos, .int .u8 r.kind, .string r.text, .int .i64 r.at_] 73 (0, 0))

theorem cell_of_block {w : World} {b : Nat} {c : Array Value} {t : TypeId} {f : Nat × Nat} (h : w.heap[b]? = some (.cells c t f)) (i : Nat) : w.cell? ⟨b, i, none⟩ = c[i]? := by
  simp [World.cell?, h]
theorem free_of_block {w : World} {b : Nat} {c : Array Value} {t : TypeId} (h : w.heap[b]? = some (.cells c t (0, 0))) (i : Nat) : w.frozen? ⟨b, i, none⟩ = false := by
  simp [World.frozen?, h]
theorem block_setCell {w : World} {b : Nat} {c : Array Value} {t : TypeId} {f : Nat × Nat} (h : w.heap[b]? = some (.cells c t f)) (o : Nat) (v : Value) :
    (w.setCell ⟨b, o, none⟩ v).heap[b]? = some (.cells (c.setIfInBounds o v) t f) := by
  simp [World.setCell, Array.getElem?_modify, h]
theorem block_lt {w : World} {b : Nat} {o : Obj} (h : w.heap[b]? = some o) : b < w.heap.size := by
  rcases Nat.lt_or_ge b w.heap.size with h' | h'
  · exact h'
  · rw [Array.getElem?_eq_none h'] at h; cases h

section
variable {w : World} {rb : Nat} {s : ByteArray} {r : RS}
theorem Rd.c0 (h : Rd w rb s r) : w.cell? ⟨rb, 0, none⟩ = some (.string s) := cell_of_block h 0
theorem Rd.c1 (h : Rd w rb s r) : w.cell? ⟨rb, 1, none⟩ = some (.int .i64 r.pos) := cell_of_block h 1
theorem Rd.c2 (h : Rd w rb s r) : w.cell? ⟨rb, 2, none⟩ = some (.int .u8 r.kind) := cell_of_block h 2
theorem Rd.c3 (h : Rd w rb s r) : w.cell? ⟨rb, 3, none⟩ = some (.string r.text) := cell_of_block h 3
theorem Rd.c4 (h : Rd w rb s r) : w.cell? ⟨rb, 4, none⟩ = some (.int .i64 r.at_) := cell_of_block h 4
theorem Rd.free (h : Rd w rb s r) (i : Nat) : w.frozen? ⟨rb, i, none⟩ = false := free_of_block h i
theorem Rd.lt (h : Rd w rb s r) : rb < w.heap.size := block_lt h
theorem Rd.drewN (h : Rd w rb s r) (n : Nat) : Rd (w.drewN n) rb s r := h
theorem Rd.below {w' : World} (h : Rd w rb s r) (hb : Below w.heap.size w w') : Rd w' rb s r := (hb.block rb h.lt).trans h
theorem Rd.setPos (h : Rd w rb s r) (p : Nat) : Rd (w.setCell ⟨rb, 1, none⟩ (.int .i64 p)) rb s { r with pos := p } := block_setCell h 1 _
theorem Rd.setKind (h : Rd w rb s r) (k : Int) : Rd (w.setCell ⟨rb, 2, none⟩ (.int .u8 k)) rb s { r with kind := k } := block_setCell h 2 _
theorem Rd.setText (h : Rd w rb s r) (t : ByteArray) : Rd (w.setCell ⟨rb, 3, none⟩ (.string t)) rb s { r with text := t } := block_setCell h 3 _
theorem Rd.setAt (h : Rd w rb s r) (p : Nat) : Rd (w.setCell ⟨rb, 4, none⟩ (.int .i64 p)) rb s { r with at_ := p } := block_setCell h 4 _
end

/-- The value that the reader panics with. -/
def stopAt (i : Nat) : PanicEntry := { v := .iface 67 (.int .i64 i), recovered := false }

theorem fail_any {w : World} {rb : Nat} {s : ByteArray} {r : RS} (h : Rd w rb s r) :
    Calls Tryz.prog 48 #[.pointer (some ⟨rb, 0, none⟩)] w fun e w' => e = .panicked [stopAt r.at_] ∧ w = w' := by
  have c4 := h.c4
  clear h
  go_enter Tryz.func48, Tryz.ntmps48
  go_wp2
  exact ⟨rfl, rfl, rfl⟩

theorem text_beq {a b : ByteArray} : (a.toList == b.toList) = decide (a = b) := by
  rw [beq_bytes, Bool.eq_iff_iff]
  simp only [decide_eq_true_eq]
  exact ⟨bytes_ext, fun h => by rw [h]⟩

set_option maxHeartbeats 400000 in
theorem is_any {w : World} {rb : Nat} {s : ByteArray} {r : RS} (h : Rd w rb s r) (t : ByteArray) :
    Calls Tryz.prog 104 #[.pointer (some ⟨rb, 0, none⟩), .string t] w fun e w' => e = .returned (.bool (isB r t)) ∧ w = w' := by
  have c2 := h.c2
  have c3 := h.c3
  clear h
  have hI : isB r t = ((r.kind == 115 || r.kind == 119) && (r.text.toList == t.toList)) := by unfold isB; rw [text_beq]
  have HI := Lib.hid hI
  clear hI
  cases h1 : r.kind == 115 <;> cases h2 : r.kind == 119 <;> cases h3 : r.text.toList == t.toList
  all_goals
    go_enter Tryz.func104, Tryz.ntmps104
    go_wp2
    go_ret
    exact ⟨ret_bool (by rw [HI.out, h1, h2, h3]; rfl), rfl⟩

set_option maxHeartbeats 400000 in
set_option maxRecDepth 100000 in
theorem run_any {w : World} {rb : Nat} {s : ByteArray} {r : RS} (h : Rd w rb s r) (hs : s.size ≤ 281474976710656) (hp : r.pos ≤ s.size) :
    Calls Tryz.prog 77 #[.pointer (some ⟨rb, 0, none⟩)] w fun e w' => e = .returned (.int .i64 (runTo s r.pos)) ∧ w = w' := by
  have c0 := h.c0
  have c1 := h.c1
  clear h
  go_enter Tryz.func77, Tryz.ntmps77
  go_wp2
  go_loopg [3] (s.size - r.pos) (fun k i wr => ∃ j : Nat, j ≤ s.size ∧ k = s.size - j ∧ i = .int .i64 j ∧ wr = w ∧ Hid (runTo s j = runTo s r.pos))
  case atStart => exact ⟨r.pos, hp, rfl, rfl, rfl, Lib.hid rfl⟩
  case round =>
    obtain ⟨j, hj, rfl, rfl, rfl, HJ⟩ := hrel
    by_cases hlt : j < s.size
    · have hb := byteAt_eq hlt
      cases ha : alB (byteAt s j) with
      | true =>
        have HG := Lib.hid (runTo_go hlt ha)
        unfold alB at ha
        rw [hb] at ha
        clear hb
        cases hl : letB (s[j].toNat : Int) <;> cases hd : digB (s[j].toNat : Int)
        · rw [hl, hd] at ha; cases ha
        all_goals
          clear ha
          go_wp2_with (first | (go_at_call 62; refine (letter_any _ _).mono ?_; rintro e w' ⟨rfl, rfl⟩) | (go_at_call 67; refine (digit_any _ _).mono ?_; rintro e w' ⟨rfl, rfl⟩))
          go_roundg (s.size - (j + 1))
          case measure => omega
          case rel => exact ⟨j + 1, by omega, rfl, by go_num, rfl, Lib.hid (HG.out ▸ HJ.out)⟩
      | false =>
        have HG := Lib.hid (runTo_stop hlt ha)
        unfold alB at ha
        rw [hb] at ha
        clear hb
        cases hl : letB (s[j].toNat : Int) <;> cases hd : digB (s[j].toNat : Int)
        · clear ha
          go_wp2_with (first | (go_at_call 62; refine (letter_any _ _).mono ?_; rintro e w' ⟨rfl, rfl⟩) | (go_at_call 67; refine (digit_any _ _).mono ?_; rintro e w' ⟨rfl, rfl⟩))
          go_ret
          exact ⟨ret_int (by rw [← HJ.out, HG.out]), rfl⟩
        all_goals (rw [hl, hd] at ha; cases ha)
    · have HG := Lib.hid (runTo_end hlt)
      go_wp2
      go_ret
      exact ⟨ret_int (by rw [← HJ.out, HG.out]), rfl⟩
end Go.Proofs.YtadnnijdbcdkjaaGreatDoor
