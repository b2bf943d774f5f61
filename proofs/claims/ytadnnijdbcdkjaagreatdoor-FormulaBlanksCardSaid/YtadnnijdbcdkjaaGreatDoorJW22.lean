/-
  Contracts of the checker's functions occurs and positive. Conditions: the value reads as a formula.
-/
import Derived.Test.YtadnnijdbcdkjaaGreatDoorJW21
namespace Go.Proofs.YtadnnijdbcdkjaaGreatDoor
open Go.RowKit

/-- What occurs comes to at one formula. -/
def SO (nm : ByteArray) (F : Form) : Prop := ∀ (w : World) (Q : Nat → Prop) (v : Value), RForm w Q v F →
  Calls Tryz.prog 93 #[v, .string nm] w fun e w' => e = .returned (.bool (occursB nm F)) ∧ Below w.heap.size w w'

theorem RForm.under {w w' : World} {Q : Nat → Prop} {v : Value} {F : Form} (h : RForm w Q v F) (hb : Below w.heap.size w w') : RForm w' Q v F :=
  h.stay hb.size (fun b _ hlt => hb.block b hlt) (fun _ hq _ => hq)
theorem RForm.alloc {w : World} {Q : Nat → Prop} {v : Value} {F : Form} (h : RForm w Q v F) (o : Obj) : RForm (w.alloc o) Q v F := h.under (below_one w o)

theorem occurs_in {nm : ByteArray} {F : Form} (ih : SO nm F) {w : World} {Q : Nat → Prop} {v : Value} (h : RForm w Q v F) {nb : Nat} (hn : w.cell? ⟨nb, 0, none⟩ = some (.string nm)) (hlt : nb < w.heap.size) :
    Calls Tryz.prog 113 #[v, .pointer (some ⟨nb, 0, none⟩)] w fun e w' => e = .returned (.bool (occursB nm F)) ∧ Below w.heap.size w w' := by
  obtain ⟨k, a, n, a1, n1, c1, a2, n2, c2, a3, n3, c3, rfl⟩ := form_shape h
  have HF := Lib.hid h
  have IH := Lib.hid ih
  have hn' : ∀ o, (w.alloc o).cell? ⟨nb, 0, none⟩ = some (.string nm) := fun o => (World.cell?_of_block (a := ⟨nb, 0, none⟩) (Below.heap_alloc _ _ _ hlt)).trans hn
  clear h ih
  go_enter Tryz.func113, Tryz.ntmps113
  go_wp2_with (go_at_call 93; refine (IH.out _ _ _ (HF.out.alloc _)).mono ?_; rintro e w1 ⟨rfl, hb1⟩)
  go_ret
  exact ⟨rfl, (below_one w _).trans (hb1.mono (by simp))⟩

theorem RKids.under {w w' : World} {Q : Nat → Prop} {v : Value} {l : List Form} (h : RKids w Q v l) (hb : Below w.heap.size w w') : RKids w' Q v l :=
  h.stay hb.size (fun b _ hlt => hb.block b hlt) (fun _ hq _ => hq)
/-- One of the formulas of a list. -/
theorem kid_at {w : World} {Q : Nat → Prop} {ka : Option Addr} {n kc : Nat} {l : List Form} (h : RKids w Q (.slice ka n kc) l) {j : Nat} (hj : j < l.length) : ∃ b o c0 c1 c2 c3 c4 c5, ka = some ⟨b, o, none⟩ ∧
    w.cell? ⟨b, o + j * 6, none⟩ = some c0 ∧ w.cell? ⟨b, o + j * 6 + 1, none⟩ = some c1 ∧ w.cell? ⟨b, o + j * 6 + 2, none⟩ = some c2 ∧ w.cell? ⟨b, o + j * 6 + 3, none⟩ = some c3 ∧ w.cell? ⟨b, o + j * 6 + 4, none⟩ = some c4 ∧ w.cell? ⟨b, o + j * 6 + 5, none⟩ = some c5 ∧
    RForm w Q (.agg #[c0, c1, c2, c3, c4, c5]) (l.getD j default) ∧ b < w.heap.size := by
  obtain ⟨ka', kc', b, o, C, hv, h1, h2, h3, h4, h5, h6⟩ := h
  cases hv
  obtain ⟨e1, hq, hbl⟩ : ka = some ⟨b, o, none⟩ ∧ Q b ∧ b < w.heap.size := by
    rcases h3 with ⟨_, h0⟩ | h
    · omega
    · exact h
  have c : ∀ i, i < 6 → w.cell? ⟨b, o + j * 6 + i, none⟩ = some (C j i) := fun i hi => by
    have := h5 j i hj hi
    rw [show o + (6 * j + i) = o + j * 6 + i by omega] at this
    exact this
  exact ⟨b, o, _, _, _, _, _, _, e1, c 0 (by omega), c 1 (by omega), c 2 (by omega), c 3 (by omega), c 4 (by omega), c 5 (by omega), h6 j hj, hbl⟩
theorem kids_len {w : World} {Q : Nat → Prop} {ka : Option Addr} {n kc : Nat} {l : List Form} (h : RKids w Q (.slice ka n kc) l) : n = l.length ∧ l.length ≤ kc ∧ kc ≤ maxLen := by
  obtain ⟨ka', kc', b, o, C, hv, h1, h2, _⟩ := h
  cases hv
  exact ⟨rfl, h1, h2⟩
theorem getD_mem {l : List Form} {j : Nat} (h : j < l.length) : l.getD j default ∈ l := by
  rw [List.getD_eq_getElem?_getD, List.getElem?_eq_getElem h]; simp
theorem take_form {l : List Form} {j : Nat} (h : j < l.length) : l.take (j + 1) = l.take j ++ [l.getD j default] := by
  rw [List.take_add_one, List.getD_eq_getElem?_getD, List.getElem?_eq_getElem h]; rfl

/-- Where the search over kids stands. -/
def IdxAt (w : World) (l : List Form) (p : Form → Bool) (k : Nat) (v : Value) (wr : World) : Prop :=
  ∃ j : Nat, j ≤ l.length ∧ k = l.length - j ∧ v = .int .i64 j ∧ Below w.heap.size w wr ∧ (l.take j).any p = false

set_option maxRecDepth 100000 in
set_option maxHeartbeats 1000000 in
theorem index_any {nm : ByteArray} {l : List Form} (ih : ∀ F ∈ l, SO nm F) {w : World} {Q : Nat → Prop} {v : Value} (h : RKids w Q v l) {nb : Nat} (hn : w.cell? ⟨nb, 0, none⟩ = some (.string nm)) (hlt : nb < w.heap.size) :
    Calls Tryz.prog 138 #[v, .func (.func 113) #[] #[.pointer (some ⟨nb, 0, none⟩)]] w fun e w' => ∃ r : Int, e = .returned (.int .i64 r) ∧ decide (0 ≤ r) = l.any (occursB nm) ∧ Below w.heap.size w w' := by
  obtain ⟨ka, n, kc, rfl⟩ := kids_shape h
  obtain ⟨rfl, h1, h2⟩ := kids_len h
  have IH := Lib.hid ih
  have HK := Lib.hid h
  have HN := Lib.hid hn
  clear ih h hn
  go_enter Tryz.func138, Tryz.ntmps138
  go_wp2
  go_loopg [8] l.length (fun k i wr => IdxAt w l (occursB nm) k i wr)
  case atStart => exact ⟨0, Nat.zero_le _, rfl, rfl, Below.refl _ _, rfl⟩
  case round =>
    obtain ⟨j, hj, rfl, rfl, hbw, hnf⟩ := hrel
    by_cases hjl : j < l.length
    · have hji : (j : Int) < (l.length : Int) := by omega
      have hj0 : (0 : Int) ≤ (j : Int) := by omega
      obtain ⟨b, o, c0, c1, c2, c3, c4, c5, rfl, d0, d1, d2, d3, d4, d5, hf, hbl⟩ := kid_at (HK.out.under hbw) hjl
      have HF := Lib.hid hf
      have HW := Lib.hid hbw
      have HX := Lib.hid hnf
      have HI := Lib.hid (IH.out _ (getD_mem hjl))
      have hnw := (World.cell?_of_block (a := ⟨nb, 0, none⟩) (hbw.block nb hlt)).trans HN.out
      clear hf hbw hnf
      cases ho : occursB nm (l.getD j default) with
      | true =>
        have HO := Lib.hid ho
        clear ho
        go_wp2_with (go_at_call 113; refine (occurs_in HI.out HF.out hnw (Nat.lt_of_lt_of_le hlt HW.out.size)).mono ?_; rintro e w1 ⟨rfl, hb1⟩; rw [HO.out])
        go_ret
        refine ⟨_, rfl, ?_, HW.out.trans (hb1.mono HW.out.size)⟩
        rw [decide_eq_true hj0, Eq.comm, List.any_eq_true]
        exact ⟨_, getD_mem hjl, HO.out⟩
      | false =>
        have HO := Lib.hid ho
        clear ho
        have hjl' := hjl
        go_wp2_with (go_at_call 113; refine (occurs_in HI.out HF.out hnw (Nat.lt_of_lt_of_le hlt HW.out.size)).mono ?_; rintro e w1 ⟨rfl, hb1⟩; rw [HO.out])
        go_roundg (l.length - (j + 1))
        case measure => omega
        case rel =>
          refine ⟨j + 1, hjl', rfl, next_int (show j + 1 ≤ maxLen by omega), HW.out.trans (hb1.mono HW.out.size), ?_⟩
          rw [take_form hjl', List.any_append, HX.out, List.any_cons, HO.out]
          rfl
    · have hji : ¬ (j : Int) < (l.length : Int) := by omega
      have HX := Lib.hid (show l.any (occursB nm) = false from by rw [← hnf, List.take_of_length_le (by omega)])
      have HW := Lib.hid hbw
      clear hnf hbw
      go_wp2
      go_ret
      exact ⟨_, rfl, by rw [HX.out]; rfl, HW.out⟩

theorem contains_any {nm : ByteArray} {l : List Form} (ih : ∀ F ∈ l, SO nm F) {w : World} {Q : Nat → Prop} {v : Value} (h : RKids w Q v l) {nb : Nat} (hn : w.cell? ⟨nb, 0, none⟩ = some (.string nm)) (hlt : nb < w.heap.size) :
    Calls Tryz.prog 112 #[v, .func (.func 113) #[] #[.pointer (some ⟨nb, 0, none⟩)]] w fun e w' => e = .returned (.bool (l.any (occursB nm))) ∧ Below w.heap.size w w' := by
  obtain ⟨ka, n, kc, rfl⟩ := kids_shape h
  have IH := Lib.hid ih
  have HK := Lib.hid h
  clear ih h
  go_enter Tryz.func112, Tryz.ntmps112
  go_wp2_with (go_at_call 138; refine (index_any IH.out HK.out hn hlt).mono ?_; rintro e w1 ⟨r, rfl, hr, hb1⟩)
  go_ret
  exact ⟨ret_bool (by rw [← hr]), hb1⟩

theorem RForm.kids_of {w : World} {Q : Nat → Prop} {k a : Int} {n : ByteArray} {vv va vk : Value} {F : Form} (h : RForm w Q (.agg #[.int .i64 k, .int .i64 a, .string n, vv, va, vk]) F) :
    RKids w Q vk F.kids ∧ RStrs w Q vv F.vars ∧ RStrs w Q va F.args ∧ F.kind = k ∧ F.arity = a ∧ F.name = n := by
  cases h with
  | mk k a name vv va vars args ka kc b o C kids hv ha hl hm hk hex hc hr => exact ⟨⟨ka, kc, b, o, C, rfl, hl, hm, hk, hex, hc, hr⟩, hv, ha, rfl, rfl, rfl⟩
theorem strs_len {w : World} {Q : Nat → Prop} {a : Option Addr} {n c : Nat} {l : List ByteArray} (h : RStrs w Q (.slice a n c) l) : n = l.length ∧ l.length ≤ c ∧ c ≤ maxLen := by
  obtain ⟨a', c', hv, h1, h2, _⟩ := h
  cases hv
  exact ⟨rfl, h1, h2⟩

/-- binds at any formula. -/
theorem binds_any {w : World} {Q : Nat → Prop} {v : Value} {F : Form} (h : RForm w Q v F) :
    Calls Tryz.prog 92 #[v] w fun e w' => e = .returned (.tuple #[.string (bindsB F).1, .int .i64 (bindsB F).2.1, .bool (bindsB F).2.2]) ∧ Below w.heap.size w w' := by
  obtain ⟨k, a, n, a1, n1, c1, a2, n2, c2, a3, n3, c3, rfl⟩ := form_shape h
  obtain ⟨_, hv, _, e1, e2, e3⟩ := h.kids_of
  have e4 := (strs_len hv).1
  unfold bindsB
  by_cases h8 : k = 8
  · rw [if_pos (by rw [e1]; exact .inl h8), e3, ← e4]; exact binds_8 k a n a1 a2 a3 n1 n2 n3 c1 c2 c3 w h8
  · by_cases h9 : k = 9
    · rw [if_pos (by rw [e1]; exact .inr h9), e3, ← e4]; exact binds_9 k a n a1 a2 a3 n1 n2 n3 c1 c2 c3 w h9
    · by_cases h11 : k = 11
      · rw [if_neg (by rw [e1]; omega), if_pos (by rw [e1]; exact h11), e3, e2]; exact binds_11 k a n a1 a2 a3 n1 n2 n3 c1 c2 c3 w h11
      · rw [if_neg (by rw [e1]; omega), if_neg (by rw [e1]; exact h11)]; exact binds_no k a n a1 a2 a3 n1 n2 n3 c1 c2 c3 w ⟨h8, h9, h11⟩

theorem occursB_eq (nm : ByteArray) (F : Form) : occursB nm F = if F.kind = 0 then decide (F.name = nm) else if (bindsB F).2.2 = true ∧ (bindsB F).1 = nm then false else F.kids.any (occursB nm) := by
  cases F with
  | mk k a n vars args kids => rw [occursB, occursL_eq]; rfl

set_option maxRecDepth 100000 in
set_option maxHeartbeats 1000000 in
theorem occurs_step {nm : ByteArray} {F : Form} (ih : ∀ G ∈ F.kids, SO nm G) : SO nm F := by
  intro w Q v h
  obtain ⟨k, a, n, a1, n1, c1, a2, n2, c2, a3, n3, c3, rfl⟩ := form_shape h
  obtain ⟨hk, hv, ha, rfl, rfl, rfl⟩ := h.kids_of
  have HO := Lib.hid (occursB_eq nm F)
  by_cases h0 : F.kind = 0
  · rw [if_pos h0] at HO
    clear h hk hv ha ih
    go_enter Tryz.func93, Tryz.ntmps93
    go_wp2
    go_ret
    refine ⟨ret_bool ?_, below_alloc (below_one w _) _ (Nat.le_refl _)⟩
    rw [HO.out, text_beq]
  · rw [if_neg h0] at HO
    have HF := Lib.hid h
    have HK := Lib.hid hk
    have IH := Lib.hid ih
    have HB := Lib.hid (fun (w : World) (Q : Nat → Prop) (v : Value) (h : RForm w Q v F) => binds_any h)
    clear h hk hv ha ih
    generalize bindsB F = bb at *
    obtain ⟨bn, ba, bi⟩ := bb
    simp only at HO HB
    cases bi with
    | true =>
      by_cases hb : bn = nm
      · rw [if_pos ⟨rfl, hb⟩] at HO
        have he : (bn.toList == nm.toList) = true := by rw [text_beq, decide_eq_true hb]
        clear hb
        go_enter Tryz.func93, Tryz.ntmps93
        go_wp2_with fail
        refine (HB.out _ _ _ ((HF.out.alloc _).alloc _)).mono ?_; rintro e w1 ⟨rfl, hb1⟩
        have HA := Lib.hid (hb1.block w.heap.size (by simp only [World.size_alloc]; omega) |>.trans (block_alloc_old (block_alloc_new w _) _))
        have hnb := (World.cell?_of_block (a := ⟨w.heap.size + 1, 0, none⟩) (hb1.block (w.heap.size + 1) (by simp only [World.size_alloc]; omega))).trans (cell_new2 w _ _ _)
        obtain ⟨d0, d1, d2, d3, d4, d5, -⟩ := six HA.out
        have HW := Lib.hid ((below_alloc (below_one w _) _ (Nat.le_refl _)).trans (hb1.mono (by simp only [World.size_alloc]; omega)))
        have hlt1 : w.heap.size + 1 < w1.heap.size := by have := hb1.size; simp only [World.size_alloc] at this; omega
        have hwf : ∀ v : Value, True := fun _ => trivial
        clear hb1 hwf
        go_wp2
        go_ret
        exact ⟨ret_bool HO.out.symm, HW.out⟩
      · rw [if_neg (fun h => hb h.2)] at HO
        have he : (bn.toList == nm.toList) = false := by rw [text_beq, decide_eq_false hb]
        clear hb
        go_enter Tryz.func93, Tryz.ntmps93
        go_wp2_with fail
        refine (HB.out _ _ _ ((HF.out.alloc _).alloc _)).mono ?_; rintro e w1 ⟨rfl, hb1⟩
        have HA := Lib.hid (hb1.block w.heap.size (by simp only [World.size_alloc]; omega) |>.trans (block_alloc_old (block_alloc_new w _) _))
        have hnb := (World.cell?_of_block (a := ⟨w.heap.size + 1, 0, none⟩) (hb1.block (w.heap.size + 1) (by simp only [World.size_alloc]; omega))).trans (cell_new2 w _ _ _)
        obtain ⟨d0, d1, d2, d3, d4, d5, -⟩ := six HA.out
        have HW := Lib.hid ((below_alloc (below_one w _) _ (Nat.le_refl _)).trans (hb1.mono (by simp only [World.size_alloc]; omega)))
        have hlt1 : w.heap.size + 1 < w1.heap.size := by have := hb1.size; simp only [World.size_alloc] at this; omega
        have hwf : ∀ v : Value, True := fun _ => trivial
        clear hb1 hwf
        have hmf : ∀ (fn : Fn) (first cap : Array Value) (w : World), (Instr.makeFunc fn first cap).run Tryz.prog w = .ok (.func fn first cap) w := fun _ _ _ _ => rfl
        go_wp2_with (go_at_call 112; refine (contains_any IH.out (HK.out.under HW.out) hnb hlt1).mono ?_; rintro e w2 ⟨rfl, hb2⟩)
        go_ret
        exact ⟨ret_bool HO.out.symm, HW.out.trans (hb2.mono HW.out.size)⟩
    | false =>
      rw [if_neg (fun h => by cases h.1)] at HO
      go_enter Tryz.func93, Tryz.ntmps93
      go_wp2_with fail
      refine (HB.out _ _ _ ((HF.out.alloc _).alloc _)).mono ?_; rintro e w1 ⟨rfl, hb1⟩
      have HA := Lib.hid (hb1.block w.heap.size (by simp only [World.size_alloc]; omega) |>.trans (block_alloc_old (block_alloc_new w _) _))
      have hnb := (World.cell?_of_block (a := ⟨w.heap.size + 1, 0, none⟩) (hb1.block (w.heap.size + 1) (by simp only [World.size_alloc]; omega))).trans (cell_new2 w _ _ _)
      obtain ⟨d0, d1, d2, d3, d4, d5, -⟩ := six HA.out
      have HW := Lib.hid ((below_alloc (below_one w _) _ (Nat.le_refl _)).trans (hb1.mono (by simp only [World.size_alloc]; omega)))
      have hlt1 : w.heap.size + 1 < w1.heap.size := by have := hb1.size; simp only [World.size_alloc] at this; omega
      have hwf : ∀ v : Value, True := fun _ => trivial
      clear hb1 hwf
      have hmf : ∀ (fn : Fn) (first cap : Array Value) (w : World), (Instr.makeFunc fn first cap).run Tryz.prog w = .ok (.func fn first cap) w := fun _ _ _ _ => rfl
      go_wp2_with (go_at_call 112; refine (contains_any IH.out (HK.out.under HW.out) hnb hlt1).mono ?_; rintro e w2 ⟨rfl, hb2⟩)
      go_ret
      exact ⟨ret_bool HO.out.symm, HW.out.trans (hb2.mono HW.out.size)⟩

theorem form_ind {p : Form → Prop} (step : ∀ F, (∀ G ∈ F.kids, p G) → p F) : ∀ (n : Nat) (F : Form), SizeOf.sizeOf F < n → p F
  | 0, _, h => by omega
  | n + 1, F, h => by
    refine step F fun G hG => form_ind step n G ?_
    cases F with
    | mk k a nm vars args kids =>
      have := List.sizeOf_lt_of_mem (show G ∈ kids from hG)
      simp at h
      omega
theorem occurs_any (nm : ByteArray) (F : Form) : SO nm F := form_ind (p := SO nm) (fun _ ih => occurs_step ih) _ F (Nat.lt_succ_self _)
end Go.Proofs.YtadnnijdbcdkjaaGreatDoor
