/-
  Symbols. Conditions: the value reads as a formula whose names' lengths are lengths.
-/
import Derived.Test.YtadnnijdbcdkjaaGreatDoorJW37
namespace Go.Proofs.YtadnnijdbcdkjaaGreatDoor
open Go.RowKit Go.ChangeShapes Go.Maps Go.MapKept Go.WideShapes Go.Sort

/-- The symbols of a formula; none where it is not valid. -/
def symL (F : Form) : List (ByteArray × Int) := if validB F then (keysB (checkedB F).free).map fun n => (n, numAt (checkedB F).free n) else []
def symCells (l : List (ByteArray × Int)) : List Value := l.flatMap fun p => [.string p.1, .int .i64 p.2]
theorem symCells_app (l : List (ByteArray × Int)) (n : ByteArray) (z : Int) : symCells (l ++ [(n, z)]) = symCells l ++ [.string n, .int .i64 z] := by
  unfold symCells; rw [List.flatMap_append]; rfl
/-- Symbols in memory of the call's own. -/
def OwnSyms (base : Nat) (l : List (ByteArray × Int)) (v : Value) (w : World) : Prop := w.ownsRow base 47 2 v l.length (symCells l)
theorem Tryz.infoSym : (Tryz.prog.info? 47).map (fun i => (i.zero, i.size, i.bytes)) = some (some (.agg #[.string ⟨#[]⟩, .int .i64 0]), 2, 24) := by kernel_rfl
theorem oneCell_sym {i : Int} {t : ByteArray} : ∀ u ∈ [Value.string t, Value.int .i64 i], u.oneCell' = true := by
  intro u hu
  simp only [List.mem_cons, List.not_mem_nil, or_false] at hu
  rcases hu with rfl | rfl <;> rfl
theorem keysB_size {w : World} {R : Value → Option (DataW Unit × List MemPlace)} {b n : Nat} {D : DataW Unit} (h : w.ownsMap Tryz.prog 9 R b n D) : ∀ x ∈ keysB D, x.size ≤ maxLen := by
  obtain ⟨es, rfl, hk⟩ := h.keysOf
  intro x hx
  unfold keysB at hx
  obtain ⟨l, hl, rfl⟩ := List.mem_map.1 hx
  rw [List.mem_mergeSort] at hl
  obtain ⟨p, hp, rfl⟩ := List.mem_map.1 (show l ∈ es.map fun p => strOf p.1 from hl)
  obtain ⟨key, hkey⟩ := hk p hp
  obtain ⟨y, _, e2, e3⟩ := Maps.keyOf_str hString hkey
  rw [e2]
  exact e3
theorem look_int {w : World} {fb n : Nat} {D : DataW Unit} (h : w.ownsMap Tryz.prog 9 (plainElem Tryz.prog 3) fb n D) {x : ByteArray} (hx : x.size ≤ maxLen) : (Instr.lookup 77 (.map (some fb)) (.string x) false).run Tryz.prog w = .ok (.int .i64 (numAt D x)) w := by
  obtain ⟨c, hrun, hat, _⟩ := h.lookup_int law hMI hInt (zInt w) (key_of hx)
  rw [hrun]
  unfold numAt
  rw [hat]
  rfl
theorem keysB_len {D : DataW Unit} {n : Nat} (h : Maps.size D ≤ n) : (keysB D).length ≤ n := by
  unfold keysB
  rw [List.length_map, List.length_mergeSort]
  unfold strKeys
  cases D with
  | map es => simp only [List.length_map]; exact h
  | _ => exact Nat.zero_le _

/-- Where the loop of Symbols stands. -/
def SymAt (w7 : World) (D : DataW Unit) (l : List ByteArray) (k : Nat) (v4 v20 : Value) (wr : World) : Prop :=
  ∃ j : Nat, j ≤ l.length ∧ k = l.length - j ∧ v20 = .int .i64 j ∧ wr.ownsRow w7.heap.size 47 2 v4 j (symCells ((l.take j).map fun n => (n, numAt D n))) ∧ RowKit.Below w7.heap.size w7 wr

set_option maxRecDepth 100000 in
set_option maxHeartbeats 2000000 in
theorem symbols_top {w : World} {Q : Nat → Prop} {v : Value} {F : Form} (hF : RForm w Q v F) (hok : okF F) :
    Calls Tryz.prog 20 #[v] w fun e w' => ∃ u, e = .returned u ∧ OwnSyms w.heap.size (symL F) u w' ∧ RowKit.Below w.heap.size w w' := by
  obtain ⟨i0, hi, hz0, hz1, hz2⟩ := info_parts Tryz.infoSym
  obtain ⟨k, a, nm, a1, m1, c1, a2, m2, c2, a3, m3, c3, rfl⟩ := form_shape hF
  have HF := Lib.hid hF
  have HOK := Lib.hid hok
  clear hF hok
  go_enter Tryz.func20, Tryz.ntmps20
  go_wp2_with fail
  have hb0 := below_one w (.cells #[.int .i64 k, .int .i64 a, .string nm, .slice a1 m1 c1, .slice a2 m2 c2, .slice a3 m3 c3] 31)
  have HB := Lib.hid hb0
  clear hb0
  refine (checked_any (HF.out.under HB.out) HOK.out).mono ?_
  rintro e w2 ⟨cb, mb, fb, B, n2, rfl, hci, hb2⟩
  have HCI := Lib.hid hci
  have HB2 := Lib.hid (HB.out.trans (hb2.mono HB.out.size))
  clear hci hb2 HB
  obtain ⟨q0, q1, q2, q3, q4, qf⟩ := HCI.out.load
  obtain ⟨vb, hvb⟩ : ∃ b, (checkedB F).bad = b := ⟨_, rfl⟩
  rw [hvb] at q4
  have HVB := Lib.hid (show validB F = !vb from by unfold validB; rw [hvb])
  clear hvb
  cases vb with
  | true =>
    go_wp2
    go_ret
    exact ⟨_, rfl, by unfold symL; rw [if_neg (by rw [HVB.out]; simp)]; exact World.ownsRow_nil _ _ _ _, HB2.out⟩
  | false =>
    go_wp2_with fail
    refine (callsIn_wide.1 (Tryz.maps_Keys_54 _ _)).mono ?_
    rintro e w6 ⟨rfl, rfl⟩
    go_wp2_with fail
    have hsz := HCI.out.fre.size_le
    have hcnt := HCI.out.cnt
    have HSZ := Lib.hid (And.intro hsz hcnt)
    clear hsz hcnt
    refine (callsIn_wide.1 (Tryz.slices_Sorted_keys_52_54 fb _ _ _ w2 HCI.out.fre (by have := HSZ.out; unfold maxLen; omega) (by have := HSZ.out; omega))).mono ?_
    rintro e w7 ⟨u, ss, rfl, hperm, hown7, -, hb7⟩
    have HB7 := Lib.hid ((below_alloc (RowKit.Below.refl w2.heap.size w2) (.cells #[.map (some fb)] 77) (Nat.le_refl _)).trans (hb7.mono (by simp)))
    have HO7 := Lib.hid (RStrs.of_own (Q := fun b => b < w7.heap.size) (keys_own hperm hown7 (Nat.zero_le _)) (fun b _ hb => (hown7.lt b hb).2))
    have HKL := Lib.hid (keysB_len HSZ.out.1)
    have HKS := Lib.hid (keysB_size HCI.out.fre)
    have HC7 := Lib.hid (HCI.out.below HB7.out)
    have HBW := Lib.hid (HB2.out.trans (HB7.out.mono HB2.out.size))
    have HSL := Lib.hid (show symL F = (keysB (checkedB F).free).map fun n => (n, numAt (checkedB F).free n) from by unfold symL; rw [if_pos (by rw [HVB.out]; rfl)])
    clear hperm hown7 hb7 q0 q1 q2 q3 q4 qf
    generalize hD : (checkedB F).free = D at *
    have HDE := Lib.hid hD
    clear hD
    generalize keysB D = l at *
    obtain ⟨ua, un, uc, rfl⟩ := strs_shape HO7.out
    obtain ⟨hun, huc, hum⟩ := strs_len HO7.out
    subst hun
    unfold maxLen at hum
    go_wp2_with fail
    go_loopg [4, 20] l.length (fun k v4 v20 wr => SymAt w7 D l k v4 v20 wr)
    case atStart => exact ⟨0, Nat.zero_le _, rfl, rfl, World.ownsRow_nil _ _ _ _, RowKit.Below.refl _ _⟩
    case round =>
      obtain ⟨j, hj, rfl, rfl, hown, hbw⟩ := hrel
      have HO := Lib.hid hown
      have HBR := Lib.hid hbw
      clear hown hbw
      by_cases hlt : j < l.length
      · have hji : (j : Int) < (l.length : Int) := by omega
        have hj0 : (0 : Int) ≤ (j : Int) := by omega
        have hlt2 := hlt
        obtain ⟨b, o, rfl, _, hlc, hcm, hq, hbs, hcell⟩ := HO7.out.cell (by omega)
        have hx := (World.cell?_of_block (w := w7) (w' := wr) (a := ⟨b, o + j, none⟩) (HBR.out.block b hbs)).trans (hcell j hlt)
        have HCR := Lib.hid (HC7.out.below HBR.out)
        obtain ⟨q0, q1, q2, q3, q4, qf⟩ := HCR.out.load
        have hxs := HKS.out (l.getD j eb) (getD_mem' hlt)
        have hlk := look_int HCR.out.fre hxs
        rw [HDE.out] at hlk
        have HTK := Lib.hid (show l.take (j + 1) = l.take j ++ [l.getD j eb] from take_succ' hlt)
        clear hcell hq
        generalize l.getD j eb = x at *
        have hkn := HKL.out
        have hsz := HSZ.out.2
        go_wp2_with (at_builtin; refine wpList_append_own _ rfl _ _ 41 rfl w7.heap.size 47 i0 (.agg #[.string ⟨#[]⟩, .int .i64 0]) 2 24 Tryz.underlying41 hi hz0 hz1 hz2 rfl (by decide) _ _ _ rfl (HO.out.alloc _) ⟨wr.heap.size, 0, none⟩ 1 1 [.string x, .int .i64 (numAt D x)] rfl rfl (cells_new2 _ _ _ _) oneCell_sym (by unfold maxLen; omega) (by omega) (by have := HBR.out.size; simp; omega) ?_; intro v9 w9 hown9 hg9 _; have HO9 := Lib.hid hown9; have HG9 := Lib.hid hg9; clear hown9 hg9)
        go_roundg (l.length - (j + 1))
        case measure => omega
        case rel =>
          have hrow := fun q hq => (HO.out.lt q hq).1
          refine ⟨j + 1, hlt2, rfl, by first | exact next_int (show j + 1 ≤ maxLen by unfold maxLen; omega) | go_num, ?_, ?_⟩
          · rw [HTK.out, List.map_append, List.map_cons, List.map_nil, symCells_app]
            exact HO9.out
          · have h1 := below_alloc HBR.out (.cells #[.string x, .int .i64 (numAt D x)] 47) (Nat.le_refl _)
            have hg := HG9.out
            exact ⟨hg.os.trans h1.os, hg.tape.trans h1.tape, hg.output.trans h1.output, Nat.le_trans h1.size hg.size, fun q hq => (hg.block q (Nat.lt_of_lt_of_le hq h1.size) (fun e => by have := hrow q e.symm; omega)).trans (h1.block q hq)⟩
      · have hji : ¬ (j : Int) < (l.length : Int) := by omega
        go_wp2
        go_ret
        have e : l.take j = l := List.take_of_length_le (by omega)
        have e2 : j = l.length := by omega
        refine ⟨_, rfl, ?_, HBW.out.trans (HBR.out.mono HBW.out.size)⟩
        unfold OwnSyms
        rw [HSL.out, List.length_map]
        have h := HO.out
        rw [e, e2] at h
        exact h.mono HBW.out.size
end Go.Proofs.YtadnnijdbcdkjaaGreatDoor
