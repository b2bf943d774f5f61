/-
  A slice of formulas that a call builds. Conditions: none.
-/
import Derived.Test.YtadnnijdbcdkjaaGreatDoorJW8
import Derived.Test.YtadnnijdbcdkjaaGreatDoorJC
namespace Go.Proofs.YtadnnijdbcdkjaaGreatDoor
open Go.RowKit

def fc (xs : List Value) (i j : Nat) : Value := xs.getD (6 * i + j) undef
def fagg (xs : List Value) (i : Nat) : Value := .agg #[fc xs i 0, fc xs i 1, fc xs i 2, fc xs i 3, fc xs i 4, fc xs i 5]

/-- A slice of formulas in memory of the call's own; the formulas lie beside the slice's block. -/
def OwnForms (base : Nat) (l : List Form) (v : Value) (w : World) : Prop :=
  ∃ xs : List Value, w.ownsRow base 31 6 v l.length xs ∧ ∀ i, i < l.length → RForm w (fun b => base ≤ b ∧ v.ownBlock ≠ some b) (fagg xs i) (l.getD i default)

theorem OwnForms.nil (base : Nat) (w : World) : OwnForms base [] (.slice none 0 0) w := ⟨[], World.ownsRow_nil _ _ _ _, fun i hi => by simp at hi⟩

theorem fc_app {xs ys : List Value} {n i j : Nat} (hx : xs.length = n * 6) (hi : i < n) (hj : j < 6) : fc (xs ++ ys) i j = fc xs i j := by
  unfold fc
  rw [List.getD_eq_getElem?_getD, List.getElem?_append_left (by omega), ← List.getD_eq_getElem?_getD]
theorem fagg_app {xs ys : List Value} {n i : Nat} (hx : xs.length = n * 6) (hi : i < n) : fagg (xs ++ ys) i = fagg xs i := by
  unfold fagg
  rw [fc_app hx hi (by omega), fc_app hx hi (by omega), fc_app hx hi (by omega), fc_app hx hi (by omega), fc_app hx hi (by omega), fc_app hx hi (by omega)]
theorem fagg_last {xs : List Value} {n : Nat} {c0 c1 c2 c3 c4 c5 : Value} (hx : xs.length = n * 6) : fagg (xs ++ [c0, c1, c2, c3, c4, c5]) n = .agg #[c0, c1, c2, c3, c4, c5] := by
  have h : ∀ j, fc (xs ++ [c0, c1, c2, c3, c4, c5]) n j = [c0, c1, c2, c3, c4, c5].getD j undef := by
    intro j
    unfold fc
    rw [List.getD_eq_getElem?_getD, List.getElem?_append_right (by omega), ← List.getD_eq_getElem?_getD]
    congr 1
    omega
  unfold fagg
  rw [h, h, h, h, h, h]
  rfl

theorem OwnForms.push {base : Nat} {l : List Form} {v v' : Value} {w w' : World} {xs : List Value} {c0 c1 c2 c3 c4 c5 : Value} {F : Form} {Q : Nat → Prop}
    (hown : w.ownsRow base 31 6 v l.length xs) (hf : ∀ i, i < l.length → RForm w (fun b => base ≤ b ∧ v.ownBlock ≠ some b) (fagg xs i) (l.getD i default))
    (hF : RForm w Q (.agg #[c0, c1, c2, c3, c4, c5]) F) (hQ : ∀ b, Q b → base ≤ b ∧ v.ownBlock ≠ some b)
    (h' : w'.ownsRow base 31 6 v' (l.length + 1) (xs ++ [c0, c1, c2, c3, c4, c5])) (hg : w.grownBy w' v.ownBlock) (hob : v'.ownBlock = v.ownBlock ∨ ∀ k, v'.ownBlock = some k → w.heap.size ≤ k) :
    OwnForms base (l ++ [F]) v' w' := by
  have hq : ∀ b, base ≤ b ∧ v.ownBlock ≠ some b → b < w.heap.size → base ≤ b ∧ v'.ownBlock ≠ some b := by
    rintro b ⟨h1, h2⟩ h3
    refine ⟨h1, fun e => ?_⟩
    rcases hob with hob | hob
    · exact h2 (hob ▸ e)
    · have := hob b e; omega
  have hx := hown.1
  refine ⟨xs ++ [c0, c1, c2, c3, c4, c5], by simpa using h', ?_⟩
  intro i hi
  have hi' : i < l.length + 1 := by simpa using hi
  by_cases h : i < l.length
  · rw [fagg_app hx h]
    have e : (l ++ [F]).getD i default = l.getD i default := by
      rw [List.getD_eq_getElem?_getD, List.getElem?_append_left h, ← List.getD_eq_getElem?_getD]
    rw [e]
    exact (hf i h).stay hg.size (fun b hb hlt => hg.block b hlt (fun e => hb.2 e.symm)) hq
  · have : i = l.length := by omega
    subst this
    rw [fagg_last hx]
    have e : (l ++ [F]).getD l.length default = F := by
      rw [List.getD_eq_getElem?_getD, List.getElem?_append_right (Nat.le_refl _)]; simp
    rw [e]
    exact hF.stay hg.size (fun b hb hlt => hg.block b hlt (fun e => (hQ b hb).2 e.symm)) (fun b hb hlt => hq b (hQ b hb) hlt)

theorem OwnForms.kids {base : Nat} {l : List Form} {v : Value} {w : World} (h : OwnForms base l v w) : RKids w (New base) v l := by
  obtain ⟨xs, ⟨hx, h2⟩, hf⟩ := h
  rcases h2 with ⟨hv, hn⟩ | ⟨g, cap, cur, hv, hg, hb, hn, hm, hsz, htk⟩
  · refine ⟨none, 0, 0, 0, fun _ _ => undef, by rw [hv, hn], by omega, Nat.zero_le _, .inl ⟨rfl, rfl⟩, fun i hi => by omega, fun i j hi => by omega, fun i hi => by omega⟩
  · refine ⟨some ⟨g, 0, none⟩, cap, g, 0, fc xs, hv, hn, hm, .inr ⟨rfl, hg, block_lt hb⟩, ?_, ?_, ?_⟩
    · intro i hi
      rw [Nat.zero_add, cell_of_block hb]
      exact ⟨cur[i]'(by omega), Array.getElem?_eq_getElem (by omega)⟩
    · intro i j hi hj
      rw [Nat.zero_add, cell_of_block hb]
      have h3 : (cur.toList.take (l.length * 6))[6 * i + j]? = xs[6 * i + j]? := by rw [htk]
      rw [List.getElem?_take_of_lt (by omega)] at h3
      rw [← Array.getElem?_toList, h3]
      unfold fc
      rw [List.getD_eq_getElem?_getD, List.getElem?_eq_getElem (by omega)]
      rfl
    · intro i hi
      exact (hf i hi).stay (Nat.le_refl _) (fun _ _ _ => rfl) (fun b hb _ => hb.1)

theorem OwnForms.keep {base x : Nat} {l : List Form} {v : Value} {w w' : World} {xs : List Value} (hf : ∀ i, i < l.length → RForm w (fun b => base ≤ b ∧ v.ownBlock ≠ some b) (fagg xs i) (l.getD i default))
    (hk : Keep x w w') (hx : x < base) : ∀ i, i < l.length → RForm w' (fun b => base ≤ b ∧ v.ownBlock ≠ some b) (fagg xs i) (l.getD i default) :=
  fun i hi => (hf i hi).stay hk.size (fun b hb hlt => hk.block b hlt (by omega)) (fun b hb _ => hb)
end Go.Proofs.YtadnnijdbcdkjaaGreatDoor
