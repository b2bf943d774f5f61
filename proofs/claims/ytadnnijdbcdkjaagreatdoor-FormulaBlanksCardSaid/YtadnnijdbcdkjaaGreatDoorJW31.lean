/-
  The checker's walk at every formula; checked; Valid. Conditions: the value reads as a formula whose names' lengths are lengths.
-/
import Derived.Test.YtadnnijdbcdkjaaGreatDoorJW30
namespace Go.Proofs.YtadnnijdbcdkjaaGreatDoor
open Go.RowKit Go.ChangeShapes Go.Maps Go.MapKept Go.WideShapes

theorem walk_step {F : Form} (ih : ∀ G ∈ F.kids, SW G) : SW F := by
  intro w v cb mb fb B n c No level h hbad hcn4 hF hok hl0 hl1 hmap
  cases hB : (decide (4000 < c.n + 1) || decide (60 < level) || !shapedB F) with
  | true => exact walk_bad ih h hbad hcn4 hF hok hl0 hl1 hmap hB
  | false =>
    by_cases h0 : F.kind = 0
    · by_cases hb : c.boundAt F.name = []
      · exact walk_free ih h hbad hcn4 hF hok hl0 hl1 hmap hB h0 hb
      · exact walk_bound ih h hbad hcn4 hF hok hl0 hl1 hmap hB h0 hb
    · cases hbi : (bindsB F).2.2 with
      | true => exact walk_bind ih h hbad hcn4 hF hok hl0 hl1 hmap hB hbi
      | false => exact walk_plain ih h hbad hcn4 hF hok hl0 hl1 hmap hB h0 hbi
theorem walk_any (F : Form) : SW F := form_ind (p := SW) (fun _ ih => walk_step ih) _ F (Nat.lt_succ_self _)

/-- What a walk over a whole formula leaves. -/
def Checked (w : World) (F : Form) (e : Ending) (w' : World) : Prop :=
  ∃ cb mb fb B n', e = .returned (.pointer (some ⟨cb, 0, none⟩)) ∧ CI w' cb mb fb B n' (checkedB F) (fun b => b < w.heap.size) ∧ Below w.heap.size w w'
theorem CI.fresh {w : World} {mb fb cb : Nat} {No : Nat → Prop} (hm : w.heap[mb]? = some (.map #[] 0)) (hf : w.heap[fb]? = some (.map #[] 0)) (hc : w.heap[cb]? = some (.cells #[.int .i64 0, .int .i64 0, .map (some mb), .map (some fb), .bool false] 79 (0, 0)))
    (hne : mb ≠ fb) (hoff : ¬ No cb ∧ ¬ No mb ∧ ¬ No fb) (hnob : ∀ b, No b → b < w.heap.size) : CI w cb mb fb w.heap.size 0 ck0 No := by
  refine ⟨hc, ⟨#[], 0, hm, ⟨by simp, stamped_empty 0, by simp⟩, Nat.le_refl _, rfl, block_lt hm, by simp, by simp⟩, ⟨#[], 0, hf, ⟨by simp, stamped_empty 0, by simp⟩, Nat.le_refl _, rfl⟩, ?_, hoff, ⟨block_lt hc, block_lt hf, Nat.le_refl _⟩, hne, ⟨Int.le_refl _, by decide, by decide⟩, hnob⟩
  intro es clock hb x hx
  rw [hm] at hb
  cases hb
  cases hx
theorem below_of_fr {w w1 w' : World} (h1 : Below w.heap.size w w1) (h2 : Fr (fun b => b < w.heap.size) w1 w') : Below w.heap.size w w' :=
  ⟨h2.os.trans h1.os, h2.tape.trans h1.tape, h2.output.trans h1.output, Nat.le_trans h1.size h2.size, fun k hk => (h2.block k hk (Nat.lt_of_lt_of_le hk h1.size)).trans (h1.block k hk)⟩

theorem checked_world (w : World) (o : Obj) :
    CI ((((w.alloc o).alloc (.map #[] 0)).alloc (.map #[] 0)).alloc (.cells #[.int .i64 0, .int .i64 0, .map (some (w.heap.size + 1)), .map (some (w.heap.size + 1 + 1)), .bool false] 79))
      (w.heap.size + 1 + 1 + 1) (w.heap.size + 1) (w.heap.size + 1 + 1) ((((w.alloc o).alloc (.map #[] 0)).alloc (.map #[] 0)).alloc (.cells #[.int .i64 0, .int .i64 0, .map (some (w.heap.size + 1)), .map (some (w.heap.size + 1 + 1)), .bool false] 79)).heap.size 0 ck0 (fun b => b < w.heap.size) ∧
    Below w.heap.size w ((((w.alloc o).alloc (.map #[] 0)).alloc (.map #[] 0)).alloc (.cells #[.int .i64 0, .int .i64 0, .map (some (w.heap.size + 1)), .map (some (w.heap.size + 1 + 1)), .bool false] 79)) := by
  have e1 := block_alloc_new (w.alloc o) (.map #[] 0)
  have e2 := block_alloc_new ((w.alloc o).alloc (.map #[] 0)) (.map #[] 0)
  have e3 := block_alloc_new (((w.alloc o).alloc (.map #[] 0)).alloc (.map #[] 0)) (.cells #[.int .i64 0, .int .i64 0, .map (some (w.heap.size + 1)), .map (some (w.heap.size + 1 + 1)), .bool false] 79)
  simp only [World.size_alloc] at e1 e2 e3
  refine ⟨CI.fresh (block_alloc_old (block_alloc_old e1 _) _) (block_alloc_old e2 _) e3 (by omega) ⟨by omega, by omega, by omega⟩ (fun b hb => by simp only [World.size_alloc]; omega), ?_⟩
  exact below_alloc (below_alloc (below_alloc (below_one w o) _ (Nat.le_refl _)) _ (Nat.le_refl _)) _ (Nat.le_refl _)

set_option maxHeartbeats 1000000 in
theorem checked_any {w : World} {Q : Nat → Prop} {v : Value} {F : Form} (hF : RForm w Q v F) (hok : okF F) : Calls Tryz.prog 50 #[v] w (Checked w F) := by
  obtain ⟨k, a, nm, a1, m1, c1, a2, m2, c2, a3, m3, c3, rfl⟩ := form_shape hF
  have HF := Lib.hid hF
  have HOK := Lib.hid hok
  clear hF hok
  have hmm := @run_makeMap Tryz.prog
  go_enter Tryz.func50, Tryz.ntmps50
  go_wp2_with fail
  have hW := checked_world w (.cells #[.int .i64 k, .int .i64 a, .string nm, .slice a1 m1 c1, .slice a2 m2 c2, .slice a3 m3 c3] 31)
  have HW := Lib.hid hW
  clear hW
  generalize ((((w.alloc (.cells #[.int .i64 k, .int .i64 a, .string nm, .slice a1 m1 c1, .slice a2 m2 c2, .slice a3 m3 c3] 31)).alloc (.map #[] 0)).alloc (.map #[] 0)).alloc (.cells #[.int .i64 0, .int .i64 0, .map (some (w.heap.size + 1)), .map (some (w.heap.size + 1 + 1)), .bool false] 79)) = u1 at *
  refine (walk_any F _ _ _ _ _ _ _ _ _ 1 HW.out.1 rfl (by decide) (HF.out.stay HW.out.2.size (fun b _ hl => HW.out.2.block b hl) (fun b _ hl => hl)) HOK.out (by omega) (by omega) isMap_empty).mono ?_
  rintro e w2 ⟨rfl, n2, hci, _, hfr⟩
  have HC := Lib.hid (And.intro hci (below_of_fr HW.out.2 hfr))
  clear hci hfr
  go_wp2
  go_ret
  exact ⟨_, _, _, _, _, rfl, HC.out⟩
set_option maxHeartbeats 1000000 in
theorem valid_any {w : World} {Q : Nat → Prop} {v : Value} {F : Form} (hF : RForm w Q v F) (hok : okF F) : Calls Tryz.prog 18 #[v] w fun e w' => e = .returned (.bool (validB F)) ∧ Below w.heap.size w w' := by
  obtain ⟨k, a, nm, a1, m1, c1, a2, m2, c2, a3, m3, c3, rfl⟩ := form_shape hF
  have HF := Lib.hid hF
  have HOK := Lib.hid hok
  clear hF hok
  go_enter Tryz.func18, Tryz.ntmps18
  go_wp2_with fail
  have hb0 := below_one w (.cells #[.int .i64 k, .int .i64 a, .string nm, .slice a1 m1 c1, .slice a2 m2 c2, .slice a3 m3 c3] 31)
  have HB := Lib.hid hb0
  clear hb0
  refine (checked_any (HF.out.under HB.out) HOK.out).mono ?_
  rintro e w2 ⟨cb, mb, fb, B, n2, rfl, hci, hb⟩
  obtain ⟨q0, q1, q2, q3, q4, qf⟩ := hci.load
  have HC := Lib.hid (HB.out.trans (hb.mono HB.out.size))
  clear hci hb
  go_wp2
  go_ret
  exact ⟨rfl, HC.out⟩
end Go.Proofs.YtadnnijdbcdkjaaGreatDoor
