/-
  The reference's comparisons: SameNames, Same. Conditions: the values read as lists of strings, as formulas.
-/
import Derived.Test.YtadnnijdbcdkjaaGreatDoorJW32
namespace Go.Proofs.YtadnnijdbcdkjaaGreatDoor
open Go.RowKit

theorem beq_bytes' {a b : ByteArray} : (a.toList == b.toList) = decide (a = b) := by
  rw [beq_bytes]
  by_cases h : a = b
  · subst h; simp
  · rw [decide_eq_false h, decide_eq_false (fun e => h (bytes_ext e))]
theorem drewN_add (w : World) (n m : Nat) : (w.drewN n).drewN m = w.drewN (n + m) := by
  simp [World.drewN, Nat.add_assoc]
theorem list_ext_getD {l l' : List ByteArray} (hl : l.length = l'.length) (h : ∀ m, m < l.length → l.getD m eb = l'.getD m eb) : l = l' := by
  apply List.ext_getElem hl
  intro i h1 h2
  have := h i h1
  rw [List.getD_eq_getElem?_getD, List.getD_eq_getElem?_getD, List.getElem?_eq_getElem h1, List.getElem?_eq_getElem h2] at this
  exact this

/-- Where SameNames' loop stands. -/
def SameAt (w : World) (l l' : List ByteArray) (k : Nat) (v : Value) (wr : World) : Prop :=
  ∃ j n : Nat, j ≤ l.length ∧ k = l.length - j ∧ v = .int .i64 j ∧ wr = w.drewN n ∧ ∀ m, m < j → l.getD m eb = l'.getD m eb

set_option maxHeartbeats 1000000 in
theorem samenames_any {w : World} {Q Q' : Nat → Prop} {v v' : Value} {l l' : List ByteArray} (h : RStrs w Q v l) (h' : RStrs w Q' v' l') :
    Calls Tryz.prog 34 #[v, v'] w fun e w' => e = .returned (.bool (decide (l = l'))) ∧ ∃ n, w' = w.drewN n := by
  obtain ⟨a, n, c, rfl⟩ := strs_shape h
  obtain ⟨a', n', c', rfl⟩ := strs_shape h'
  have e1 := strs_len h
  have e2 := strs_len h'
  obtain ⟨rfl, hc1, hm1⟩ := e1
  obtain ⟨rfl, hc2, hm2⟩ := e2
  unfold maxLen at hm1 hm2
  have HR := Lib.hid h
  have HR' := Lib.hid h'
  clear h h'
  by_cases hne : l.length = l'.length
  · have hq : ((l.length : Int) != (l'.length : Int)) = false := by simp [hne]
    have HN := Lib.hid hne
    clear hne
    go_enter Tryz.func34, Tryz.ntmps34
    go_wp2
    go_loopg [5] l.length (fun k i wr => SameAt w l l' k i wr)
    case atStart => exact ⟨0, 0, Nat.zero_le _, rfl, rfl, rfl, fun m hm => absurd hm (Nat.not_lt_zero m)⟩
    case round =>
      obtain ⟨j, n, hj, rfl, rfl, rfl, hJ⟩ := hrel
      have HJ := Lib.hid hJ
      clear hJ
      by_cases hlt : j < l.length
      · have hlt' : j < l'.length := by rw [← HN.out]; exact hlt
        obtain ⟨b, o, rfl, _, hlc, hcm, hQ, hbs, hcell⟩ := HR.out.cell (by omega)
        obtain ⟨b', o', rfl, _, hlc', hcm', hQ', hbs', hcell'⟩ := HR'.out.cell (by omega)
        have hx := hcell j hlt
        have hx' := hcell' j hlt'
        clear hcell hcell' hQ hQ'
        have hji : (j : Int) < (l.length : Int) := by omega
        have hji' : (j : Int) < (l'.length : Int) := by omega
        have hj0 : (0 : Int) ≤ (j : Int) := by omega
        have hlt2 := hlt
        by_cases he : l.getD j eb = l'.getD j eb
        · have hq2 : ((l.getD j eb).toList == (l'.getD j eb).toList) = true := by rw [beq_bytes', he]; simp
          have HE := Lib.hid he
          clear he
          generalize hg : l.getD j eb = x at *
          generalize hg' : l'.getD j eb = x' at *
          have HG := Lib.hid hg
          have HG' := Lib.hid hg'
          clear hg hg'
          go_wp2
          go_quiet (fail)
          go_wp2
          go_roundg (l.length - (j + 1))
          case measure => omega
          case rel =>
            refine ⟨j + 1, n + nq, hlt2, rfl, by go_num, rfl, ?_⟩
            intro m hm
            by_cases e : m = j
            · subst e; rw [HG.out, HG'.out]; exact HE.out
            · exact HJ.out m (by omega)
        · have hq2 : ((l.getD j eb).toList == (l'.getD j eb).toList) = false := by rw [beq_bytes', decide_eq_false he]
          have HF := Lib.hid (show decide (l = l') = false from decide_eq_false (fun e => he (by rw [e])))
          clear he
          generalize l.getD j eb = x at *
          generalize l'.getD j eb = x' at *
          go_wp2
          go_quiet (fail)
          go_wp2
          go_ret
          exact ⟨ret_bool HF.out.symm, n + nq, drewN_add w n nq⟩
      · have hji : ¬ (j : Int) < (l.length : Int) := by omega
        have HT := Lib.hid (show decide (l = l') = true from decide_eq_true (list_ext_getD HN.out fun m hm => HJ.out m (by omega)))
        go_wp2
        go_ret
        exact ⟨ret_bool HT.out.symm, n, rfl⟩
  · have hq : ((l.length : Int) != (l'.length : Int)) = true := by simp; omega
    have HF := Lib.hid (show decide (l = l') = false from decide_eq_false (fun e => hne (by rw [e])))
    clear hne
    go_enter Tryz.func34, Tryz.ntmps34
    go_wp2
    go_ret
    exact ⟨ret_bool HF.out.symm, 0, rfl⟩
end Go.Proofs.YtadnnijdbcdkjaaGreatDoor
