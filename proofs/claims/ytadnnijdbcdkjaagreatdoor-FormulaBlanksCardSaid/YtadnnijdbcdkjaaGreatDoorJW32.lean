/-
  Parse's deferred closure, and Parse. Conditions: the two error variables of strconv hold errors.
-/
import Derived.Test.YtadnnijdbcdkjaaGreatDoorJW31
import Derived.Test.YtadnnijdbcdkjaaGreatDoorJA
import Derived.Recover
namespace Go.Proofs.YtadnnijdbcdkjaaGreatDoor
open Go.RowKit

/-- Parse's three results: the formula's block, the place's, the error's. -/
structure Outs3 (w : World) (b : Nat) : Prop where
  f : ∃ c0 c1 c2 c3 c4 c5, w.heap[b]? = some (.cells #[c0, c1, c2, c3, c4, c5] 31 (0, 0))
  a : ∃ c, w.heap[b + 1]? = some (.cells #[c] 3 (0, 0))
  e : ∃ c, w.heap[b + 2]? = some (.cells #[c] 32 (0, 0))

set_option maxRecDepth 100000 in
theorem catch_stop (b : Nat) (i : Nat) (older : List PanicEntry) (w : World) (h : Outs3 w b) :
    CallsD Tryz.prog 45 #[.pointer (some ⟨b, 0, none⟩), .pointer (some ⟨b + 1, 0, none⟩), .pointer (some ⟨b + 2, 0, none⟩)] (.panicking (stopAt i :: older)) w fun e u' w' =>
      e = .returned (.tuple #[]) ∧ u' = .panicking ({ stopAt i with recovered := true } :: older) ∧ w'.heap[b]? = some (.cells #[.int .i64 0, .int .i64 0, .string eb, .slice none 0 0, .slice none 0 0, .slice none 0 0] 31 (0, 0)) ∧
        w'.heap[b + 1]? = some (.cells #[.int .i64 i] 3 (0, 0)) ∧ w'.heap[b + 2]? = some (.cells #[.int .i64 3] 32 (0, 0)) ∧ Below b w w' := by
  obtain ⟨⟨c0, c1, c2, c3, c4, c5, hf⟩, ⟨ca, ha⟩, ⟨ce, he⟩⟩ := h
  obtain ⟨h0, h1, h2, h3, h4, h5, hz⟩ := six hf
  have a0 := cell_of_block ha 0
  have e0 := cell_of_block he 0
  have az := free_of_block ha
  have ez := free_of_block he
  simp only [List.getElem?_toArray, List.getElem?_cons_zero] at a0 e0
  have hta : ∀ w, (Instr.typeAssert (.iface 67 (.int .i64 i)) 20 67 true).run Tryz.prog w = .ok (.tuple #[.int .i64 i, .bool true]) w := fun _ => by kernel_rfl
  refine callsD_of_wpS Tryz.func45 rfl fun c₀ cs hu => ?_
  apply wpS_seq
  apply wpS_region
  simp [wpOpsS, go_sem, recoverD, hu, Tryz.ntmps45, Exit.thenS, stopAt, hta]
  have hrep : Array.replicate 10 undef = #[undef, undef, undef, undef, undef, undef, undef, undef, undef, undef] := rfl
  simp only [hrep, List.setIfInBounds_toArray, List.set_cons_succ, List.set_cons_zero, List.append_toArray, List.cons_append, List.nil_append]
  refine wpS_of_wp ?_
  go_wp2
  have k0 := set6 (c0 := .int .i64 0) (c1 := .int .i64 0) (c2 := .string eb) (c3 := .slice none 0 0) (c4 := .slice none 0 0) (c5 := .slice none 0 0) hf
  have k1 := (set6_other (w := w) (b := b) (c0 := .int .i64 0) (c1 := .int .i64 0) (c2 := .string eb) (c3 := .slice none 0 0) (c4 := .slice none 0 0) (c5 := .slice none 0 0) (k := b + 1) (by omega)).trans ha
  have k2 := (set6_other (w := w) (b := b) (c0 := .int .i64 0) (c1 := .int .i64 0) (c2 := .string eb) (c3 := .slice none 0 0) (c4 := .slice none 0 0) (c5 := .slice none 0 0) (k := b + 2) (by omega)).trans he
  have kb : Below b w ((((((w.setCell ⟨b, 0, none⟩ (.int .i64 0)).setCell ⟨b, 1, none⟩ (.int .i64 0)).setCell ⟨b, 2, none⟩ (.string eb)).setCell ⟨b, 3, none⟩ (.slice none 0 0)).setCell ⟨b, 4, none⟩ (.slice none 0 0)).setCell ⟨b, 5, none⟩ (.slice none 0 0)) :=
    ((((((Below.refl b w).setCell (Nat.le_refl _) _).setCell (Nat.le_refl _) _).setCell (Nat.le_refl _) _).setCell (Nat.le_refl _) _).setCell (Nat.le_refl _) _).setCell (Nat.le_refl _) _
  unfold eb at k0 k1 k2 kb
  generalize ((((((w.setCell ⟨b, 0, none⟩ (.int .i64 0)).setCell ⟨b, 1, none⟩ (.int .i64 0)).setCell ⟨b, 2, none⟩ (.string ⟨#[]⟩)).setCell ⟨b, 3, none⟩ (.slice none 0 0)).setCell ⟨b, 4, none⟩ (.slice none 0 0)).setCell ⟨b, 5, none⟩ (.slice none 0 0)) = u at *
  have m0 := (Below.heap_setCell (u.setCell ⟨b + 1, 0, none⟩ (.int .i64 i)) ⟨b + 2, 0, none⟩ (.int .i64 3) b (by simp)).trans ((Below.heap_setCell u ⟨b + 1, 0, none⟩ (.int .i64 i) b (by simp)).trans k0)
  have m1 := (Below.heap_setCell (u.setCell ⟨b + 1, 0, none⟩ (.int .i64 i)) ⟨b + 2, 0, none⟩ (.int .i64 3) (b + 1) (by simp)).trans (block_setCell k1 0 (.int .i64 i))
  have m2 := block_setCell ((Below.heap_setCell u ⟨b + 1, 0, none⟩ (.int .i64 i) (b + 2) (by simp)).trans k2) 0 (.int .i64 3)
  have mb := (kb.setCell (p := ⟨b + 1, 0, none⟩) (by simp) (.int .i64 i)).setCell (p := ⟨b + 2, 0, none⟩) (by simp) (.int .i64 3)
  exact ⟨rfl, _, rfl, _, results_none rfl _ _ _, rfl, rfl, m0, m1, m2, mb⟩

set_option maxRecDepth 100000 in
theorem catch_idle (b : Nat) (w : World) :
    CallsD Tryz.prog 45 #[.pointer (some ⟨b, 0, none⟩), .pointer (some ⟨b + 1, 0, none⟩), .pointer (some ⟨b + 2, 0, none⟩)] .returning w fun e u' w' => e = .returned (.tuple #[]) ∧ u' = .returning ∧ w' = w := by
  have hta : ∀ w, (Instr.typeAssert .nilIface 20 67 true).run Tryz.prog w = .ok (.tuple #[.int .i64 0, .bool false]) w := fun _ => by kernel_rfl
  refine callsD_of_wpS Tryz.func45 rfl fun c₀ cs hu => ?_
  apply wpS_seq
  apply wpS_region
  simp [wpOpsS, go_sem, recoverD, hu, Tryz.ntmps45, Exit.thenS, hta]
  have hrep : Array.replicate 10 undef = #[undef, undef, undef, undef, undef, undef, undef, undef, undef, undef] := rfl
  simp only [hrep, List.setIfInBounds_toArray, List.set_cons_succ, List.set_cons_zero, List.append_toArray, List.cons_append, List.nil_append]
  refine wpS_of_wp ?_
  go_wp2
  refine ⟨rfl, .returning, ?_, _, results_none rfl _ _ _, rfl, rfl, rfl⟩
  cases c₀
  simp_all

/-- Behind the three stores. -/
theorem outs_set {w : World} {b : Nat} (h : Outs3 w b) (c0 c1 c2 c3 c4 c5 a e : Value) :
    ((((((((w.setCell ⟨b, 0, none⟩ c0).setCell ⟨b, 1, none⟩ c1).setCell ⟨b, 2, none⟩ c2).setCell ⟨b, 3, none⟩ c3).setCell ⟨b, 4, none⟩ c4).setCell ⟨b, 5, none⟩ c5).setCell ⟨b + 1, 0, none⟩ a).setCell ⟨b + 1 + 1, 0, none⟩ e).heap[b]? = some (.cells #[c0, c1, c2, c3, c4, c5] 31 (0, 0)) ∧
    ((((((((w.setCell ⟨b, 0, none⟩ c0).setCell ⟨b, 1, none⟩ c1).setCell ⟨b, 2, none⟩ c2).setCell ⟨b, 3, none⟩ c3).setCell ⟨b, 4, none⟩ c4).setCell ⟨b, 5, none⟩ c5).setCell ⟨b + 1, 0, none⟩ a).setCell ⟨b + 1 + 1, 0, none⟩ e).heap[b + 1]? = some (.cells #[a] 3 (0, 0)) ∧
    ((((((((w.setCell ⟨b, 0, none⟩ c0).setCell ⟨b, 1, none⟩ c1).setCell ⟨b, 2, none⟩ c2).setCell ⟨b, 3, none⟩ c3).setCell ⟨b, 4, none⟩ c4).setCell ⟨b, 5, none⟩ c5).setCell ⟨b + 1, 0, none⟩ a).setCell ⟨b + 1 + 1, 0, none⟩ e).heap[b + 2]? = some (.cells #[e] 32 (0, 0)) ∧
    Below b w ((((((((w.setCell ⟨b, 0, none⟩ c0).setCell ⟨b, 1, none⟩ c1).setCell ⟨b, 2, none⟩ c2).setCell ⟨b, 3, none⟩ c3).setCell ⟨b, 4, none⟩ c4).setCell ⟨b, 5, none⟩ c5).setCell ⟨b + 1, 0, none⟩ a).setCell ⟨b + 1 + 1, 0, none⟩ e) ∧
    (w.heap.size ≤ ((((((((w.setCell ⟨b, 0, none⟩ c0).setCell ⟨b, 1, none⟩ c1).setCell ⟨b, 2, none⟩ c2).setCell ⟨b, 3, none⟩ c3).setCell ⟨b, 4, none⟩ c4).setCell ⟨b, 5, none⟩ c5).setCell ⟨b + 1, 0, none⟩ a).setCell ⟨b + 1 + 1, 0, none⟩ e).heap.size ∧ ∀ k, b + 2 < k → ((((((((w.setCell ⟨b, 0, none⟩ c0).setCell ⟨b, 1, none⟩ c1).setCell ⟨b, 2, none⟩ c2).setCell ⟨b, 3, none⟩ c3).setCell ⟨b, 4, none⟩ c4).setCell ⟨b, 5, none⟩ c5).setCell ⟨b + 1, 0, none⟩ a).setCell ⟨b + 1 + 1, 0, none⟩ e).heap[k]? = w.heap[k]?) := by
  obtain ⟨⟨x0, x1, x2, x3, x4, x5, hf⟩, ⟨ca, ha⟩, ⟨ce, he⟩⟩ := h
  have k0 := set6 (c0 := c0) (c1 := c1) (c2 := c2) (c3 := c3) (c4 := c4) (c5 := c5) hf
  have k1 := (set6_other (w := w) (b := b) (c0 := c0) (c1 := c1) (c2 := c2) (c3 := c3) (c4 := c4) (c5 := c5) (k := b + 1) (by omega)).trans ha
  have k2 := (set6_other (w := w) (b := b) (c0 := c0) (c1 := c1) (c2 := c2) (c3 := c3) (c4 := c4) (c5 := c5) (k := b + 2) (by omega)).trans he
  have kb : Below b w ((((((w.setCell ⟨b, 0, none⟩ c0).setCell ⟨b, 1, none⟩ c1).setCell ⟨b, 2, none⟩ c2).setCell ⟨b, 3, none⟩ c3).setCell ⟨b, 4, none⟩ c4).setCell ⟨b, 5, none⟩ c5) :=
    ((((((Below.refl b w).setCell (Nat.le_refl _) _).setCell (Nat.le_refl _) _).setCell (Nat.le_refl _) _).setCell (Nat.le_refl _) _).setCell (Nat.le_refl _) _).setCell (Nat.le_refl _) _
  have ko : ∀ k, b + 2 < k → ((((((w.setCell ⟨b, 0, none⟩ c0).setCell ⟨b, 1, none⟩ c1).setCell ⟨b, 2, none⟩ c2).setCell ⟨b, 3, none⟩ c3).setCell ⟨b, 4, none⟩ c4).setCell ⟨b, 5, none⟩ c5).heap[k]? = w.heap[k]? := fun k hk =>
    set6_other (w := w) (b := b) (c0 := c0) (c1 := c1) (c2 := c2) (c3 := c3) (c4 := c4) (c5 := c5) (k := k) (by omega)
  generalize ((((((w.setCell ⟨b, 0, none⟩ c0).setCell ⟨b, 1, none⟩ c1).setCell ⟨b, 2, none⟩ c2).setCell ⟨b, 3, none⟩ c3).setCell ⟨b, 4, none⟩ c4).setCell ⟨b, 5, none⟩ c5) = u at *
  exact ⟨(Below.heap_setCell (u.setCell ⟨b + 1, 0, none⟩ a) ⟨b + 1 + 1, 0, none⟩ e b (by simp; omega)).trans ((Below.heap_setCell u ⟨b + 1, 0, none⟩ a b (by simp)).trans k0),
    (Below.heap_setCell (u.setCell ⟨b + 1, 0, none⟩ a) ⟨b + 1 + 1, 0, none⟩ e (b + 1) (by simp)).trans (block_setCell k1 0 a),
    block_setCell ((Below.heap_setCell u ⟨b + 1, 0, none⟩ a (b + 2) (by simp)).trans k2) 0 e,
    (kb.setCell (p := ⟨b + 1, 0, none⟩) (by simp) a).setCell (p := ⟨b + 1 + 1, 0, none⟩) (by simp; omega) e, by have := kb.size; simpa [World.setCell] using this, fun k hk =>
      (Below.heap_setCell (u.setCell ⟨b + 1, 0, none⟩ a) ⟨b + 1 + 1, 0, none⟩ e k (by simp; omega)).trans ((Below.heap_setCell u ⟨b + 1, 0, none⟩ a k (by simp; omega)).trans (ko k hk))⟩
theorem Outs3.keep {x b : Nat} {w w' : World} (h : Outs3 w b) (k : Keep x w w') (hx : b + 2 < x ∨ x < b) : Outs3 w' b := by
  obtain ⟨⟨c0, c1, c2, c3, c4, c5, hf⟩, ⟨ca, ha⟩, ⟨ce, he⟩⟩ := h
  exact ⟨⟨c0, c1, c2, c3, c4, c5, k.block_of hf (by omega)⟩, ⟨ca, k.block_of ha (by omega)⟩, ⟨ce, k.block_of he (by omega)⟩⟩
theorem Outs3.below {b : Nat} {w w' : World} (h : Outs3 w b) (k : Below w.heap.size w w') : Outs3 w' b := by
  obtain ⟨⟨c0, c1, c2, c3, c4, c5, hf⟩, ⟨ca, ha⟩, ⟨ce, he⟩⟩ := h
  exact ⟨⟨c0, c1, c2, c3, c4, c5, block_keep hf k⟩, ⟨ca, block_keep ha k⟩, ⟨ce, block_keep he k⟩⟩
/-- The three results are read. -/
theorem parse_results {w : World} {b : Nat} {tmps : Array Value} {c0 c1 c2 c3 c4 c5 a e : Value} (hf : w.heap[b]? = some (.cells #[c0, c1, c2, c3, c4, c5] 31 (0, 0))) (ha : w.heap[b + 1]? = some (.cells #[a] 3 (0, 0))) (he : w.heap[b + 2]? = some (.cells #[e] 32 (0, 0)))
    (h2 : tmps[2]? = some (.pointer (some ⟨b, 0, none⟩))) (h3 : tmps[3]? = some (.pointer (some ⟨b + 1, 0, none⟩))) (h4 : tmps[4]? = some (.pointer (some ⟨b + 1 + 1, 0, none⟩))) :
    (results Tryz.f15 tmps).run Tryz.prog w = .ok (.tuple #[.agg #[c0, c1, c2, c3, c4, c5], a, e]) w := by
  obtain ⟨q0, q1, q2, q3, q4, q5, _⟩ := six hf
  have a0 := cell_of_block ha 0
  have e0 := cell_of_block he 0
  simp only [List.getElem?_toArray, List.getElem?_cons_zero] at a0 e0
  simp [results, Tryz.results15, go_sem, h2, h3, h4, q0, q1, q2, q3, q4, q5, a0, e0]
theorem parse_world (w : World) (z : Value) :
    ((((w.alloc (.cells #[.int .i64 0, .int .i64 0, .string ⟨#[]⟩, .slice none 0 0, .slice none 0 0, .slice none 0 0] 31)).alloc (.cells #[.int .i64 0] 3)).alloc (.cells #[z] 32)).heap[w.heap.size]? = some (.cells #[.int .i64 0, .int .i64 0, .string ⟨#[]⟩, .slice none 0 0, .slice none 0 0, .slice none 0 0] 31 (0, 0)) ∧
     (((w.alloc (.cells #[.int .i64 0, .int .i64 0, .string ⟨#[]⟩, .slice none 0 0, .slice none 0 0, .slice none 0 0] 31)).alloc (.cells #[.int .i64 0] 3)).alloc (.cells #[z] 32)).heap[w.heap.size + 1]? = some (.cells #[.int .i64 0] 3 (0, 0)) ∧
     (((w.alloc (.cells #[.int .i64 0, .int .i64 0, .string ⟨#[]⟩, .slice none 0 0, .slice none 0 0, .slice none 0 0] 31)).alloc (.cells #[.int .i64 0] 3)).alloc (.cells #[z] 32)).heap[w.heap.size + 2]? = some (.cells #[z] 32 (0, 0))) ∧
    Below w.heap.size w (((w.alloc (.cells #[.int .i64 0, .int .i64 0, .string ⟨#[]⟩, .slice none 0 0, .slice none 0 0, .slice none 0 0] 31)).alloc (.cells #[.int .i64 0] 3)).alloc (.cells #[z] 32)) := by
  have e0 := block_alloc_new w (.cells #[.int .i64 0, .int .i64 0, .string ⟨#[]⟩, .slice none 0 0, .slice none 0 0, .slice none 0 0] 31)
  have e1 := block_alloc_new (w.alloc (.cells #[.int .i64 0, .int .i64 0, .string ⟨#[]⟩, .slice none 0 0, .slice none 0 0, .slice none 0 0] 31)) (.cells #[.int .i64 0] 3)
  have e2 := block_alloc_new ((w.alloc (.cells #[.int .i64 0, .int .i64 0, .string ⟨#[]⟩, .slice none 0 0, .slice none 0 0, .slice none 0 0] 31)).alloc (.cells #[.int .i64 0] 3)) (.cells #[z] 32)
  simp only [World.size_alloc] at e1 e2
  exact ⟨⟨block_alloc_old (block_alloc_old e0 _) _, block_alloc_old e1 _, e2⟩, below_alloc (below_alloc (below_one w _) _ (Nat.le_refl _)) _ (Nat.le_refl _)⟩
/-- The formula that stands where there is none. -/
def noF : Form := .mk 0 0 eb [] [] []
/-- What Parse answers: a formula, a place, an error. -/
def parseP (s : ByteArray) : Form × Nat × Int :=
  if 40000 < s.size then (noF, 0, 5)
  else match readP s with
    | .inr i => (noF, i, 3)
    | .inl F => if validB F then (F, 0, 0) else (noF, 0, 1)
def Parsed (s : ByteArray) (w : World) (e : Ending) (w' : World) : Prop :=
  ∃ v, e = .returned (.tuple #[v, .int .i64 (parseP s).2.1, .int .i64 (parseP s).2.2]) ∧ NewForm w.heap.size (parseP s).1 v w' ∧ Below w.heap.size w w'

theorem parsed_mk {s : ByteArray} {w w' : World} {F : Form} {i : Nat} {k : Int} {v : Value} (hP : parseP s = (F, i, k)) (hN : NewForm w.heap.size F v w') (hb : Below w.heap.size w w') : Parsed s w (.returned (.tuple #[v, .int .i64 i, .int .i64 k])) w' := by
  refine ⟨v, ?_, ?_, hb⟩
  · rw [hP]
  · rw [hP]; exact hN
theorem parse_leave {s : ByteArray} {w w' : World} {b : Nat} {tmps : Array Value} {c0 c1 c2 c3 c4 c5 a e : Value} (hf : w'.heap[b]? = some (.cells #[c0, c1, c2, c3, c4, c5] 31 (0, 0))) (ha : w'.heap[b + 1]? = some (.cells #[a] 3 (0, 0))) (he : w'.heap[b + 2]? = some (.cells #[e] 32 (0, 0)))
    (h2 : tmps[2]? = some (.pointer (some ⟨b, 0, none⟩))) (h3 : tmps[3]? = some (.pointer (some ⟨b + 1, 0, none⟩))) (h4 : tmps[4]? = some (.pointer (some ⟨b + 1 + 1, 0, none⟩))) (h : Parsed s w (.returned (.tuple #[.agg #[c0, c1, c2, c3, c4, c5], a, e])) w') :
    Leaves Tryz.prog Tryz.f15 tmps (Parsed s w) [] .returning w' := ⟨_, parse_results hf ha he h2 h3 h4, h⟩
theorem noF_new (base : Nat) (w : World) : NewForm base noF (.agg #[.int .i64 0, .int .i64 0, .string ⟨#[]⟩, .slice none 0 0, .slice none 0 0, .slice none 0 0]) w := RForm.leaf 0 0 eb (RStrs.nil _ _) (RStrs.nil _ _)

set_option maxRecDepth 100000 in
theorem parse_long {w : World} (s : ByteArray) (hs : 40000 < s.size) (hm : s.size ≤ maxLen) : Calls Tryz.prog 15 #[.string s] w (Parsed s w) := by
  have hmf : ∀ (fn : Fn) (first cap : Array Value) (w : World), (Instr.makeFunc fn first cap).run Tryz.prog w = .ok (.func fn first cap) w := fun _ _ _ _ => rfl
  unfold maxLen at hm
  go_enter_defers Tryz.func15, Tryz.ntmps15
  go_wp2_with fail
  have hW := parse_world w (.int .i64 5)
  have hP : parseP s = (noF, 0, 5) := by unfold parseP; rw [if_pos (by omega)]
  exact parse_leave hW.1.1 hW.1.2.1 hW.1.2.2 rfl rfl rfl (parsed_mk hP (noF_new _ _) hW.2)
set_option maxRecDepth 100000 in
theorem parse_short {w : World} (s : ByteArray) (hs : s.size ≤ 40000) (g : Glob w) (hw : 1 < w.heap.size) : Calls Tryz.prog 15 #[.string s] w (Parsed s w) := by
  have hmf : ∀ (fn : Fn) (first cap : Array Value) (w : World), (Instr.makeFunc fn first cap).run Tryz.prog w = .ok (.func fn first cap) w := fun _ _ _ _ => rfl
  have hs' : ¬ (40000 : Int) < (s.size : Int) := by omega
  have G := Lib.hid g
  clear g
  go_enter_defers Tryz.func15, Tryz.ntmps15
  go_wp2_with fail
  have hW := parse_world w (.int .i64 0)
  have hO : Outs3 (((w.alloc (.cells #[.int .i64 0, .int .i64 0, .string ⟨#[]⟩, .slice none 0 0, .slice none 0 0, .slice none 0 0] 31)).alloc (.cells #[.int .i64 0] 3)).alloc (.cells #[.int .i64 0] 32)) w.heap.size := ⟨⟨_, _, _, _, _, _, hW.1.1⟩, ⟨_, hW.1.2.1⟩, ⟨_, hW.1.2.2⟩⟩
  have hR := block_alloc_new (((w.alloc (.cells #[.int .i64 0, .int .i64 0, .string ⟨#[]⟩, .slice none 0 0, .slice none 0 0, .slice none 0 0] 31)).alloc (.cells #[.int .i64 0] 3)).alloc (.cells #[.int .i64 0] 32)) (.cells #[.string s, .int .i64 0, .int .u8 0, .string ⟨#[]⟩, .int .i64 0] 73)
  have hB1 := below_alloc hW.2 (.cells #[.string s, .int .i64 0, .int .u8 0, .string ⟨#[]⟩, .int .i64 0] 73) (Nat.le_refl _)
  have hO1 := hO.below (below_one _ (.cells #[.string s, .int .i64 0, .int .u8 0, .string ⟨#[]⟩, .int .i64 0] 73))
  simp only [World.size_alloc] at hR
  have HR := Lib.hid (show Rd ((((w.alloc (.cells #[.int .i64 0, .int .i64 0, .string ⟨#[]⟩, .slice none 0 0, .slice none 0 0, .slice none 0 0] 31)).alloc (.cells #[.int .i64 0] 3)).alloc (.cells #[.int .i64 0] 32)).alloc (.cells #[.string s, .int .i64 0, .int .u8 0, .string ⟨#[]⟩, .int .i64 0] 73)) (w.heap.size + 1 + 1 + 1) s ⟨0, 0, eb, 0⟩ from hR)
  have HB1 := Lib.hid hB1
  have HO1 := Lib.hid hO1
  clear hW hO hR hB1 hO1
  generalize ((((w.alloc (.cells #[.int .i64 0, .int .i64 0, .string ⟨#[]⟩, .slice none 0 0, .slice none 0 0, .slice none 0 0] 31)).alloc (.cells #[.int .i64 0] 3)).alloc (.cells #[.int .i64 0] 32)).alloc (.cells #[.string s, .int .i64 0, .int .u8 0, .string ⟨#[]⟩, .int .i64 0] 73)) = u1 at *
  have HBS := Lib.hid (show w.heap.size + 3 < u1.heap.size from HR.out.lt)
  refine (step_any HR.out (G.out.below HB1.out) (by omega) (by omega) (Nat.zero_le _)).mono ?_
  rintro e w2 ⟨rfl, hto⟩
  have HT := Lib.hid hto
  clear hto
  go_wp2_with fail
  have HP := Lib.hid (show Pre w2 (w.heap.size + 1 + 1 + 1) s (stepR s 0) from ⟨HT.out.rd, (G.out.below HB1.out).keep HT.out.keep (by omega), by omega, hs, (stepR_ok (Nat.zero_le _)).1⟩)
  refine (formula_read HP.out).mono ?_
  intro e w3 hpost
  obtain ⟨x, hx⟩ : ∃ x, formulaP s (2 * s.size + 3) (stepR s 0) = x := ⟨_, rfl⟩
  rw [hx] at hpost
  have HX := Lib.hid hx
  clear hx
  cases x with
  | out => exact hpost.elim
  | err i =>
    obtain ⟨rfl, hk⟩ := hpost
    have hk' := HT.out.keep.trans hk
    have hP : parseP s = (noF, i, 3) := by unfold parseP readP; rw [if_neg (by omega), HX.out]
    refine leaves_cons (f := 45) (args := #[.pointer (some ⟨w.heap.size, 0, none⟩), .pointer (some ⟨w.heap.size + 1, 0, none⟩), .pointer (some ⟨w.heap.size + 1 + 1, 0, none⟩)]) (by simp) (by simp [go_sem]) ?_
    refine (catch_stop w.heap.size i [] _ (HO1.out.keep hk' (by omega))).mono ?_
    rintro e5 u5 w5 ⟨rfl, rfl, hf, ha, he, hb⟩
    exact parse_leave hf ha he rfl rfl rfl (parsed_mk hP (noF_new _ _) ((HB1.out.trans (hk'.below HB1.out.size (by omega))).trans hb))
  | ok F r =>
    obtain ⟨v, rfl, hF, hto, hok⟩ := hpost
    obtain ⟨k, a, nm, a1, m1, c1, a2, m2, c2, a3, m3, c3, rfl⟩ := form_shape hF
    have HF := Lib.hid hF
    have HT2 := Lib.hid (HT.out.trans hto)
    have HK := Lib.hid (read_ok (by unfold maxLen; omega) HX.out)
    have HS2 := Lib.hid hto.keep.size
    clear hF hto
    go_upto_region 7 with (fail)
    have hb3 := below_one w3 (.cells #[.int .i64 k, .int .i64 a, .string nm, .slice a1 m1 c1, .slice a2 m2 c2, .slice a3 m3 c3] 31)
    have hn4 := block_alloc_new w3 (.cells #[.int .i64 k, .int .i64 a, .string nm, .slice a1 m1 c1, .slice a2 m2 c2, .slice a3 m3 c3] 31)
    have HT4 := Lib.hid (show To u1 (w3.alloc (.cells #[.int .i64 k, .int .i64 a, .string nm, .slice a1 m1 c1, .slice a2 m2 c2, .slice a3 m3 c3] 31)) (w.heap.size + 1 + 1 + 1) s r from ⟨HT2.out.rd.below hb3, HT2.out.keep.alloc _⟩)
    have HF4 := Lib.hid (HF.out.under hb3)
    have HN4 := Lib.hid hn4
    clear hb3 hn4 HF HT2
    generalize w3.alloc (.cells #[.int .i64 k, .int .i64 a, .string nm, .slice a1 m1 c1, .slice a2 m2 c2, .slice a3 m3 c3] 31) = w4 at *
    generalize w3.heap.size = X at *
    have r2 := HT4.out.rd.c2
    by_cases hk0 : r.kind = 0
    · have hq : (r.kind != 0) = false := by simp [hk0]
      have HK0 := Lib.hid hk0
      clear hk0
      obtain ⟨d0, d1, d2, d3, d4, d5, -⟩ := six HN4.out
      go_wp2_with fail
      clear d0 d1 d2 d3 d4 d5 r2
      refine (valid_any HF4.out HK.out).mono ?_
      rintro e w5 ⟨rfl, hb5⟩
      have HB5 := Lib.hid hb5
      obtain ⟨d0, d1, d2, d3, d4, d5, -⟩ := six (block_keep HN4.out HB5.out)
      have HO5 := Lib.hid ((HO1.out.keep HT4.out.keep (by omega)).below HB5.out)
      have HF5 := Lib.hid (HF4.out.under HB5.out)
      have HBL := Lib.hid ((HB1.out.trans (HT4.out.keep.below HB1.out.size (by omega))).trans (HB5.out.mono (Nat.le_trans HB1.out.size HT4.out.keep.size)))
      clear hb5
      obtain ⟨⟨x0, x1, x2, x3, x4, x5, hf⟩, ⟨xa, ha⟩, ⟨xe, he⟩⟩ := HO5.out
      obtain ⟨g0, g1, g2, g3, g4, g5, gz⟩ := six hf
      have a0 := cell_of_block ha 0
      have e0 := cell_of_block he 0
      have az := free_of_block ha
      have ez := free_of_block he
      simp only [List.getElem?_toArray, List.getElem?_cons_zero] at a0 e0
      clear hf ha he
      obtain ⟨vb, hvb⟩ : ∃ b, validB F = b := ⟨_, rfl⟩
      rw [hvb]
      have HVB := Lib.hid hvb
      clear hvb
      cases vb with
      | true =>
        go_wp2
        have hP : parseP s = (F, 0, 0) := by unfold parseP readP; rw [if_neg (by omega), HX.out]; simp only; rw [if_pos HK0.out]; simp only; rw [HVB.out]; rfl
        have hS := outs_set HO5.out (.int .i64 k) (.int .i64 a) (.string nm) (.slice a1 m1 c1) (.slice a2 m2 c2) (.slice a3 m3 c3) (.int .i64 0) (.int .i64 0)
        refine leaves_cons (f := 45) (args := #[.pointer (some ⟨w.heap.size, 0, none⟩), .pointer (some ⟨w.heap.size + 1, 0, none⟩), .pointer (some ⟨w.heap.size + 1 + 1, 0, none⟩)]) (by simp) (by simp [go_sem]) ?_
        refine (catch_idle w.heap.size _).mono ?_
        rintro e5 u5 w6 ⟨rfl, rfl, rfl⟩
        have hu := HT.out.keep.size
        have hbs := HBS.out
        exact parse_leave hS.1 hS.2.1 hS.2.2.1 rfl rfl rfl (parsed_mk hP (HF5.out.stay hS.2.2.2.2.1 (fun b hb _ => hS.2.2.2.2.2 b (by unfold New at hb; omega)) (fun b hb _ => by unfold New at hb ⊢; omega)) (HBL.out.trans hS.2.2.2.1))
      | false =>
        go_wp2
        have hP : parseP s = (noF, 0, 1) := by unfold parseP readP; rw [if_neg (by omega), HX.out]; simp only; rw [if_pos HK0.out]; simp only; rw [HVB.out]; rfl
        have hS := outs_set HO5.out (.int .i64 0) (.int .i64 0) (.string ⟨#[]⟩) (.slice none 0 0) (.slice none 0 0) (.slice none 0 0) (.int .i64 0) (.int .i64 1)
        refine leaves_cons (f := 45) (args := #[.pointer (some ⟨w.heap.size, 0, none⟩), .pointer (some ⟨w.heap.size + 1, 0, none⟩), .pointer (some ⟨w.heap.size + 1 + 1, 0, none⟩)]) (by simp) (by simp [go_sem]) ?_
        refine (catch_idle w.heap.size _).mono ?_
        rintro e5 u5 w6 ⟨rfl, rfl, rfl⟩
        exact parse_leave hS.1 hS.2.1 hS.2.2.1 rfl rfl rfl (parsed_mk hP (noF_new _ _) (HBL.out.trans hS.2.2.2.1))
    · have hq : (r.kind != 0) = true := by simp [hk0]
      have HK0 := Lib.hid hk0
      clear hk0
      go_wp2_with (go_at_call 48; refine (fail_any HT4.out.rd).mono ?_; rintro e w5 ⟨rfl, rfl⟩)
      have hP : parseP s = (noF, r.at_, 3) := by unfold parseP readP; rw [if_neg (by omega), HX.out]; simp only; rw [if_neg HK0.out]
      refine leaves_cons (f := 45) (args := #[.pointer (some ⟨w.heap.size, 0, none⟩), .pointer (some ⟨w.heap.size + 1, 0, none⟩), .pointer (some ⟨w.heap.size + 1 + 1, 0, none⟩)]) (by simp) (by simp [go_sem]) ?_
      refine (catch_stop w.heap.size r.at_ [] _ (HO1.out.keep HT4.out.keep (by omega))).mono ?_
      rintro e5 u5 w5 ⟨rfl, rfl, hf, ha, he, hb⟩
      exact parse_leave hf ha he rfl rfl rfl (parsed_mk hP (noF_new _ _) ((HB1.out.trans (HT4.out.keep.below HB1.out.size (by omega))).trans hb))
theorem parse_any {w : World} (s : ByteArray) (hm : s.size ≤ maxLen) (g : Glob w) (hw : 1 < w.heap.size) : Calls Tryz.prog 15 #[.string s] w (Parsed s w) := by
  by_cases h : s.size ≤ 40000
  · exact parse_short s h g hw
  · exact parse_long s (by omega) hm
end Go.Proofs.YtadnnijdbcdkjaaGreatDoor
