/-
  Free. Conditions: the value reads as a formula whose names' lengths are lengths.
-/
import Derived.Test.YtadnnijdbcdkjaaGreatDoorJW36
import Derived.Test.YtadnnijdbcdkjaaGreatDoorJA
import Derived.Test.YtadnnijdbcdkjaaGreatDoorIter
import Derived.Deep.Onto
namespace Go.Proofs.YtadnnijdbcdkjaaGreatDoor
open Go.RowKit Go.ChangeShapes Go.Maps Go.MapKept Go.WideShapes Go.Sort

/-- A map's keys, in order. -/
def keysB (D : DataW Unit) : List ByteArray := ((strKeys D).mergeSort leB).map fun l => ⟨l.toArray⟩
/-- The free variables of a formula; none where it is not valid. -/
def freeL (F : Form) : List ByteArray := if validB F then keysB (freeW F (.map []) (.map [])).2 else []

theorem keys_own {w : World} {base base' : Nat} {D : DataW Unit} {v : Value} {ss : List (List UInt8)} (hp : ss.Perm (strKeys D)) (h : w.ownsRow base 9 1 v ss.length ((ss.mergeSort (fun x y => decide (x ≤ y))).map Go.Proofs.encStr)) (hb : base' ≤ base) : OwnStrs base' (keysB D) v w := by
  have e1 : ss.mergeSort leB = (strKeys D).mergeSort leB := mergeSort_of_perm hp
  have e2 : ((ss.mergeSort leB).map fun l => (⟨l.toArray⟩ : ByteArray)) = keysB D := by unfold keysB; rw [e1]
  have e3 : (keysB D).length = ss.length := by rw [← e2, List.length_map, List.length_mergeSort]
  unfold OwnStrs
  rw [e3, ← e2, List.map_map]
  exact h.mono hb

set_option maxHeartbeats 1000000 in
theorem free_top {w : World} {Q : Nat → Prop} {v : Value} {F : Form} (hF : RForm w Q v F) (hok : okF F) :
    Calls Tryz.prog 19 #[v] w fun e w' => ∃ u, e = .returned u ∧ OwnStrs w.heap.size (freeL F) u w' ∧ Below w.heap.size w w' := by
  obtain ⟨k, a, nm, a1, m1, c1, a2, m2, c2, a3, m3, c3, rfl⟩ := form_shape hF
  have HF := Lib.hid hF
  have HOK := Lib.hid hok
  clear hF hok
  have hmm := @run_makeMap Tryz.prog
  go_enter Tryz.func19, Tryz.ntmps19
  go_wp2_with fail
  have hb0 := below_one w (.cells #[.int .i64 k, .int .i64 a, .string nm, .slice a1 m1 c1, .slice a2 m2 c2, .slice a3 m3 c3] 31)
  have hbx := block_alloc_new w (.cells #[.int .i64 k, .int .i64 a, .string nm, .slice a1 m1 c1, .slice a2 m2 c2, .slice a3 m3 c3] 31)
  have HB := Lib.hid hb0
  have HX := Lib.hid hbx
  clear hb0 hbx
  refine (valid_any (HF.out.under HB.out) HOK.out).mono ?_
  rintro e w2 ⟨rfl, hb2⟩
  have HB2 := Lib.hid (HB.out.trans (hb2.mono HB.out.size))
  have HX2 := Lib.hid (block_keep HX.out hb2)
  clear hb2 HB HX
  obtain ⟨vb, hvb⟩ : ∃ b, validB F = b := ⟨_, rfl⟩
  rw [hvb]
  have HVB := Lib.hid hvb
  clear hvb
  cases vb with
  | false =>
    go_wp2
    go_ret
    exact ⟨_, rfl, by unfold freeL; rw [if_neg (by rw [HVB.out]; simp)]; exact World.ownsRow_nil _ _ _ _, HB2.out⟩
  | true =>
    have HVS := Lib.hid (valid_small HVB.out)
    go_upto_region 4 with (fail)
    have hm3 := World.ownsMap_made (H := Unit) w2 Tryz.prog 9 (plainElem Tryz.prog 4)
    have hb3 := below_one w2 (.map #[] 0)
    have HX3 := Lib.hid (block_keep HX2.out hb3)
    have HB3 := Lib.hid (below_alloc HB2.out (.map #[] 0) (Nat.le_refl _))
    have hlt3 : w2.heap.size < (w2.alloc (.map #[] 0)).heap.size := by simp
    have HM3 := Lib.hid hm3
    have HLT := Lib.hid hlt3
    have hle := HB2.out.size
    clear hm3 hb3 hlt3 HX2
    generalize w2.alloc (.map #[] 0) = u3 at *
    generalize w2.heap.size = ob at *
    obtain ⟨d0, d1, d2, d3, d4, d5, -⟩ := six HX3.out
    go_wp2_with fail
    have hm4 := World.ownsMap_made (H := Unit) u3 Tryz.prog 9 (plainElem Tryz.prog 3)
    have hm4' := HM3.out.alloc (.map #[] 0)
    have HB4 := Lib.hid (below_alloc HB3.out (.map #[] 0) (Nat.le_refl _))
    have HNE := Lib.hid (show u3.heap.size ≠ ob from by have := HLT.out; omega)
    have HFA := Lib.hid (FreeAt.mk hm4 hm4' (Fr.refl (But2 u3.heap.size ob) _) (fun x => by unfold numAt; exact ⟨Int.le_refl _, Int.le_refl _⟩))
    have hle3 := HLT.out
    have HF4 := Lib.hid (HF.out.stay (Q' := fun b => b < w.heap.size) HB4.out.size (fun b _ hl => HB4.out.block b hl) (fun b _ hl => hl))
    clear hm4 hm4' d0 d1 d2 d3 d4 d5
    generalize u3.alloc (.map #[] 0) = u4 at *
    generalize u3.heap.size = bb at *
    refine (free_any F u4 (fun b => b < w.heap.size) _ bb ob 0 0 (.map []) (.map []) HF4.out HOK.out (fun b hb => ⟨by omega, by omega⟩) HNE.out HFA.out (by have := HVS.out; omega) (by have := HVS.out; omega)).mono ?_
    rintro e w5 ⟨rfl, hfa5⟩
    have HFA5 := Lib.hid hfa5
    have HB5 := Lib.hid (HB4.out.trans (show RowKit.Below w.heap.size u4 w5 from ⟨hfa5.fr.os, hfa5.fr.tape, hfa5.fr.output, hfa5.fr.size, fun b hb => hfa5.fr.block b ⟨by omega, by omega⟩ (by have := HB4.out.size; omega)⟩))
    clear hfa5
    go_wp2_with fail
    refine (callsIn_wide.1 (Tryz.maps_Keys_53 _ _)).mono ?_
    rintro e w6 ⟨rfl, rfl⟩
    go_wp2_with fail
    have hsz := HFA5.out.out.size_le
    have HSZ := Lib.hid hsz
    clear hsz
    refine (callsIn_wide.1 (Tryz.slices_Sorted_keys_52_53 ob _ _ _ w5 HFA5.out.out (by have := HSZ.out; have := HVS.out; unfold maxLen; omega) (by have := HSZ.out; have := HVS.out; omega))).mono ?_
    rintro e w7 ⟨u, ss, rfl, hperm, hown7, -, hb7⟩
    have HB7 := Lib.hid ((below_alloc HB5.out (.cells #[.map (some ob)] 82) (Nat.le_refl _)).trans (hb7.mono (by have := HB5.out.size; simp; omega)))
    have HO7 := Lib.hid (keys_own hperm hown7 (by have := HB5.out.size; simp; omega : w.heap.size ≤ _))
    clear hperm hown7 hb7
    go_wp2
    go_ret
    exact ⟨_, rfl, by unfold freeL; rw [if_pos HVB.out]; exact HO7.out, HB7.out⟩
end Go.Proofs.YtadnnijdbcdkjaaGreatDoor
