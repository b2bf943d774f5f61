/-
  Contracts of the reader's methods inner and kids, from formula's. Conditions: as in the texts before.
-/
import Derived.Test.YtadnnijdbcdkjaaGreatDoorJW7
namespace Go.Proofs.YtadnnijdbcdkjaaGreatDoor
open Go.RowKit

/-- A value reads as a list of formulas. -/
def RKids (w : World) (Q : Nat → Prop) (v : Value) (l : List Form) : Prop :=
  ∃ (ka : Option Addr) (kc b o : Nat) (C : Nat → Nat → Value), v = .slice ka l.length kc ∧ l.length ≤ kc ∧ kc ≤ maxLen ∧
    ((ka = none ∧ kc = 0) ∨ (ka = some ⟨b, o, none⟩ ∧ Q b ∧ b < w.heap.size)) ∧
    (∀ i, i < 6 * kc → ∃ u, w.cell? ⟨b, o + i, none⟩ = some u) ∧
    (∀ i j, i < l.length → j < 6 → w.cell? ⟨b, o + (6 * i + j), none⟩ = some (C i j)) ∧
    (∀ i, i < l.length → RForm w Q (.agg #[C i 0, C i 1, C i 2, C i 3, C i 4, C i 5]) (l.getD i default))
theorem RForm.of_kids {w : World} {Q : Nat → Prop} (k a : Int) (name : ByteArray) {vv va vk : Value} {vars args : List ByteArray} {kids : List Form}
    (hv : RStrs w Q vv vars) (ha : RStrs w Q va args) (hk : RKids w Q vk kids) : RForm w Q (.agg #[.int .i64 k, .int .i64 a, .string name, vv, va, vk]) (.mk k a name vars args kids) := by
  obtain ⟨ka, kc, b, o, C, rfl, h1, h2, h3, h4, h5, h6⟩ := hk
  exact .mk k a name vv va vars args ka kc b o C kids hv ha h1 h2 h3 h4 h5 h6
theorem RKids.stay {w w' : World} {Q Q' : Nat → Prop} {v : Value} {l : List Form} (h : RKids w Q v l) (hs : w.heap.size ≤ w'.heap.size)
    (hb : ∀ b, Q b → b < w.heap.size → w'.heap[b]? = w.heap[b]?) (hq : ∀ b, Q b → b < w.heap.size → Q' b) : RKids w' Q' v l := by
  obtain ⟨ka, kc, b, o, C, rfl, h1, h2, h3, h4, h5, h6⟩ := h
  rcases h3 with ⟨e1, e2⟩ | ⟨e1, hQ, hlt⟩
  · exact ⟨ka, kc, b, o, C, rfl, h1, h2, .inl ⟨e1, e2⟩, fun i hi => by omega, fun i j hi => by omega, fun i hi => by omega⟩
  · have e : ∀ o, w'.cell? ⟨b, o, none⟩ = w.cell? ⟨b, o, none⟩ := fun o => World.cell?_of_block (w := w) (hb b hQ hlt)
    exact ⟨ka, kc, b, o, C, rfl, h1, h2, .inr ⟨e1, hq b hQ hlt, by omega⟩, fun i hi => by rw [e]; exact h4 i hi, fun i j hi hj => (e _).trans (h5 i j hi hj), fun i hi => (h6 i hi).stay hs hb hq⟩
theorem RKids.nil (w : World) (Q : Nat → Prop) : RKids w Q (.slice none 0 0) [] :=
  ⟨none, 0, 0, 0, fun _ _ => undef, rfl, Nat.le_refl _, Nat.zero_le _, .inl ⟨rfl, rfl⟩, fun i hi => by omega, fun i j hi => by simp at hi, fun i hi => by simp at hi⟩
def NewKids (base : Nat) (l : List Form) (v : Value) (w : World) : Prop := RKids w (New base) v l

theorem cell_new2 (w : World) (o : Obj) (x : Value) (t : TypeId) : ((w.alloc o).alloc (.cells #[x] t)).cell? ⟨w.heap.size + 1, 0, none⟩ = some x := by
  simp
theorem strs_shape {w : World} {Q : Nat → Prop} {v : Value} {l : List ByteArray} (h : RStrs w Q v l) : ∃ a n c, v = .slice a n c := by
  obtain ⟨a, c, hv, _⟩ := h
  exact ⟨_, _, _, hv⟩
theorem kids_shape {w : World} {Q : Nat → Prop} {v : Value} {l : List Form} (h : RKids w Q v l) : ∃ a n c, v = .slice a n c := by
  obtain ⟨ka, kc, b, o, C, hv, _⟩ := h
  exact ⟨_, _, _, hv⟩
theorem form_shape {w : World} {Q : Nat → Prop} {v : Value} {F : Form} (h : RForm w Q v F) :
    ∃ k a n a1 n1 c1 a2 n2 c2 a3 n3 c3, v = .agg #[.int .i64 k, .int .i64 a, .string n, .slice a1 n1 c1, .slice a2 n2 c2, .slice a3 n3 c3] := by
  cases h with
  | mk k a name vv va vars args ka kc b o C kids hv ha hl hm hk hex hc hr =>
    obtain ⟨a1, n1, c1, rfl⟩ := strs_shape hv
    obtain ⟨a2, n2, c2, rfl⟩ := strs_shape ha
    exact ⟨_, _, _, _, _, _, _, _, _, _, _, _, rfl⟩
/-- One formula in a new block. -/
theorem RKids.one {w : World} {Q Q' : Nat → Prop} {c0 c1 c2 c3 c4 c5 : Value} {F : Form} (h : RForm w Q (.agg #[c0, c1, c2, c3, c4, c5]) F) (hq : ∀ b, Q b → b < w.heap.size → Q' b) (hQ : Q' w.heap.size) :
    RKids (w.alloc (.cells #[c0, c1, c2, c3, c4, c5] 31)) Q' (.slice (some ⟨w.heap.size, 0, none⟩) 1 1) [F] := by
  refine ⟨some ⟨w.heap.size, 0, none⟩, 1, w.heap.size, 0, fun _ j => #[c0, c1, c2, c3, c4, c5].getD j undef, rfl, Nat.le_refl _, by unfold maxLen; omega, .inr ⟨rfl, hQ, by simp⟩, ?_, ?_, ?_⟩
  · intro i hi
    rw [Nat.zero_add, World.cell?_alloc_new]
    exact ⟨_, Array.getElem?_eq_getElem (by simpa using hi)⟩
  · intro i j hi hj
    have : i = 0 := by simp at hi; omega
    subst this
    rw [Nat.zero_add, Nat.mul_zero, Nat.zero_add, World.cell?_alloc_new, Array.getElem?_eq_getElem (by simpa using hj)]
    simp [Array.getD, hj]
  · intro i hi
    have : i = 0 := by simp at hi; omega
    subst this
    exact h.stay (by simp) (fun b _ hb => Below.heap_alloc _ _ _ hb) hq

def SF (n : Nat) : Prop := ∀ (w : World) (rb : Nat) (s : ByteArray) (r : RS), Pre w rb s r → formulaP s n r ≠ .out →
  Calls Tryz.prog 47 #[.pointer (some ⟨rb, 0, none⟩)] w (PostR (formulaP s n r) w rb s (NewForm w.heap.size))
def SI (n : Nat) : Prop := ∀ (w : World) (rb : Nat) (s : ByteArray) (r : RS), Pre w rb s r → innerP s n r ≠ .out →
  Calls Tryz.prog 84 #[.pointer (some ⟨rb, 0, none⟩)] w (PostR (innerP s n r) w rb s (NewKids w.heap.size))
def SK (n : Nat) : Prop := ∀ (w : World) (rb : Nat) (s : ByteArray) (r : RS), Pre w rb s r → kidsP s n r ≠ .out →
  Calls Tryz.prog 82 #[.pointer (some ⟨rb, 0, none⟩)] w (PostR (kidsP s n r) w rb s (NewKids w.heap.size))

theorem Rd.okr_of_post {α : Type} {res : Res α} {w w' : World} {rb : Nat} {s : ByteArray} {R : α → Value → World → Prop} {e : Ending} {a : α} {r : RS} (h : PostR res w rb s R e w') (hr : res = .ok a r) : Okr s r := by
  subst hr
  obtain ⟨_, _, _, _, h⟩ := h
  exact h


set_option maxHeartbeats 1600000 in
set_option maxRecDepth 100000 in
theorem inner_step (n : Nat) (ih : SF n) : SI (n + 1) := by
  intro w rb s r h hne
  have HP := Lib.hid h
  have hlt := h.rd.lt
  have IH := Lib.hid ih
  clear h ih
  unfold innerP at hne ⊢
  cases hk1 : isB r ⟨#[58]⟩ with
  | false =>
    have HQ := Lib.hid (show (needP s ⟨#[58]⟩ r).bind (fun _ r => (formulaP s n r).bind fun f r => (needP s ⟨#[41]⟩ r).bind fun _ r => Res.ok [f] r) = .err r.at_ from by unfold needP; rw [if_neg (by rw [hk1]; simp)]; rfl)
    have HK := Lib.hid hk1
    clear hk1 hne
    rw [HQ.out]
    clear HQ
    go_enter Tryz.func84, Tryz.ntmps84
    go_wp2_with (go_at_call 81; refine (need_no (HP.out.alloc _) ⟨#[58]⟩ _ (cell_one_new _ _ _ 0 _ rfl) HK.out).mono ?_; rintro e w1 ⟨rfl, hkp⟩)
    exact ⟨rfl, rfl, hkp.out.new⟩
  | true =>
    have e1 : needP s ⟨#[58]⟩ r = .ok () (stepR s r.pos) := by unfold needP; rw [if_pos hk1]
    rw [e1] at hne ⊢
    clear e1
    simp only [Res.bind_ok] at hne ⊢
    have HK := Lib.hid hk1
    have HO1 := Lib.hid (stepR_ok HP.out.ok.pos).1
    clear hk1
    cases hf : formulaP s n (stepR s r.pos) with
    | out => rw [hf] at hne; exact absurd rfl hne
    | err i =>
      simp only [Res.bind_err]
      have HF := Lib.hid hf
      clear hf hne
      go_enter Tryz.func84, Tryz.ntmps84
      go_wp2_with fail
      refine (need_ok (HP.out.alloc _) ⟨#[58]⟩ _ (cell_one_new _ _ _ 0 _ rfl) HK.out).mono ?_; rintro e w1 ⟨rfl, ht1⟩
      have HP1 := Lib.hid ((HP.out.alloc _).to ht1.out HO1.out)
      go_wp2_with fail
      refine (IH.out w1 rb s _ HP1.out (by rw [HF.out]; simp)).mono ?_; intro e w2 hp2; rw [HF.out] at hp2; obtain ⟨rfl, hkp⟩ := hp2
      have HKP := Lib.hid hkp
      clear hkp
      go_wp2
      exact ⟨rfl, rfl, ht1.out.new.keep.trans HKP.out⟩
    | ok F r2 =>
      simp only [Res.bind_ok]
      have HF := Lib.hid hf
      clear hf hne
      cases hk2 : isB r2 ⟨#[41]⟩ with
      | false =>
        have e2 : needP s ⟨#[41]⟩ r2 = .err r2.at_ := by unfold needP; rw [if_neg (by rw [hk2]; simp)]
        rw [e2]
        simp only [Res.bind_err]
        have HK2 := Lib.hid hk2
        clear e2 hk2
        go_enter Tryz.func84, Tryz.ntmps84
        go_wp2_with fail
        refine (need_ok (HP.out.alloc _) ⟨#[58]⟩ _ (cell_one_new _ _ _ 0 _ rfl) HK.out).mono ?_; rintro e w1 ⟨rfl, ht1⟩
        have HP1 := Lib.hid ((HP.out.alloc _).to ht1.out HO1.out)
        go_wp2_with fail
        refine (IH.out w1 rb s _ HP1.out (by rw [HF.out]; simp)).mono ?_; intro e w2 hp2; rw [HF.out] at hp2; obtain ⟨v, rfl, hform, ht2, ho2⟩ := hp2
        obtain ⟨k, a, nm, a1, n1, c1, a2, n2, c2, a3, n3, c3, rfl⟩ := form_shape hform
        have HP2 := Lib.hid (HP1.out.to ht2 ho2)
        have HX := Lib.hid (And.intro hform ht2)
        clear hform ht2 ho2
        go_wp2_with fail
        refine (need_no (HP2.out.alloc _ |>.alloc _) ⟨#[41]⟩ _ (cell_new2 _ _ _ _) HK2.out).mono ?_; rintro e w3 ⟨rfl, hkp⟩
        go_wp2
        obtain ⟨hform, ht2⟩ := HX.out
        exact ⟨rfl, rfl, (ht1.out.new.keep.trans ht2.keep).trans hkp.out.new.new⟩
      | true =>
        have e2 : needP s ⟨#[41]⟩ r2 = .ok () (stepR s r2.pos) := by unfold needP; rw [if_pos hk2]
        rw [e2]
        simp only [Res.bind_ok]
        have HK2 := Lib.hid hk2
        clear e2 hk2
        go_enter Tryz.func84, Tryz.ntmps84
        go_wp2_with fail
        refine (need_ok (HP.out.alloc _) ⟨#[58]⟩ _ (cell_one_new _ _ _ 0 _ rfl) HK.out).mono ?_; rintro e w1 ⟨rfl, ht1⟩
        have HP1 := Lib.hid ((HP.out.alloc _).to ht1.out HO1.out)
        go_wp2_with fail
        refine (IH.out w1 rb s _ HP1.out (by rw [HF.out]; simp)).mono ?_; intro e w2 hp2; rw [HF.out] at hp2; obtain ⟨v, rfl, hform, ht2, ho2⟩ := hp2
        obtain ⟨k, a, nm, a1, n1, c1, a2, n2, c2, a3, n3, c3, rfl⟩ := form_shape hform
        have HP2 := Lib.hid (HP1.out.to ht2 ho2)
        have HX := Lib.hid (And.intro hform ht2)
        clear hform ht2 ho2
        go_wp2_with fail
        refine (need_ok (HP2.out.alloc _ |>.alloc _) ⟨#[41]⟩ _ (cell_new2 _ _ _ _) HK2.out).mono ?_; rintro e w3 ⟨rfl, ht3⟩
        have HB3 := Lib.hid (ht3.out.keep.block_of (block_alloc_old (block_alloc_new w2 _) _) (by have := HP2.out.rd.lt; omega))
        obtain ⟨d0, d1, d2, d3, d4, d5, df⟩ := six HB3.out
        go_wp2
        go_ret
        obtain ⟨hform, ht2⟩ := HX.out
        have hz1 := ht1.out.new.keep.size
        have hz2 := ht2.keep.size
        have hz3 := ht3.out.new.new.keep.size
        refine ⟨_, rfl, ?_, (((ht1.out.new.trans ht2).trans ht3.out.new.new)).alloc _, (stepR_ok HP2.out.ok.pos).1⟩
        refine RKids.one (hform.stay hz3 (fun b _ hb => ht3.out.new.new.keep.block b hb ?_) (fun b hb _ => hb)) (fun b hb _ => ?_) ?_
        · have := hlt; unfold New at *; omega
        · unfold New at *; omega
        · unfold New; omega
end Go.Proofs.YtadnnijdbcdkjaaGreatDoor
