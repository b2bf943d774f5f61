/-
  Joined texts of one proof: W17, W18, W19, W20. Conditions: none.
-/
import Derived.Test.YtadnnijdbcdkjaaGreatDoorJW16
import Derived.Test.YtadnnijdbcdkjaaGreatDoorJA
/-
  Contract of the reader's method formula, by induction on the rounds. Conditions: as in the texts before.
-/
namespace Go.Proofs.YtadnnijdbcdkjaaGreatDoor
open Go.RowKit

theorem word_cases {t : ByteArray} (h : Lib.containsS wordsL t = true) :
    t = ⟨#[97, 110, 100]⟩ ∨ t = ⟨#[111, 114]⟩ ∨ t = ⟨#[110, 111, 116]⟩ ∨ t = ⟨#[115, 111, 109, 101]⟩ ∨ t = ⟨#[97, 108, 108]⟩ ∨ t = ⟨#[108, 102, 112]⟩ ∨ t = ⟨#[112, 102, 112]⟩ ∨ t = ⟨#[116, 99]⟩ ∨ t = ⟨#[101, 120, 105, 115, 116, 115]⟩ ∨ t = ⟨#[116, 114, 117, 101]⟩ ∨ t = ⟨#[102, 97, 108, 115, 101]⟩ := by
  rw [Lib.containsS_iff] at h
  simpa [wordsL] using h

set_option maxHeartbeats 1000000 in
theorem formula_step (n : Nat) (hF : SF n) (hI : SI n) (hK : SK n) : SF (n + 1) := by
  intro w rb s r h hne
  unfold formulaP at hne ⊢
  by_cases hk : r.kind = 110
  · rw [if_pos hk] at hne ⊢
    exact f_atom h hk
  · rw [if_neg hk] at hne ⊢
    by_cases hk9 : r.kind = 119
    · have e1 : takeP s 119 r = .ok r.text (stepR s r.pos) := by unfold takeP; rw [if_pos hk9]
      rw [e1] at hne ⊢
      simp only [Res.bind_ok] at hne ⊢
      have H9 := Lib.hid h
      rcases word_cases (h.ok.wd hk9) with hw | hw | hw | hw | hw | hw | hw | hw | hw | hw | hw
      · rw [hw, if_neg (by decide), if_neg (by decide), if_pos (by decide)] at hne ⊢
        exact f_and n hK h hk9 hw hne
      · rw [hw, if_neg (by decide), if_neg (by decide), if_pos (by decide)] at hne ⊢
        exact f_or n hK h hk9 hw hne
      · rw [hw, if_neg (by decide), if_neg (by decide), if_neg (by decide), if_pos (by decide)] at hne ⊢
        exact f_not n hF h hk9 hw hne
      · rw [hw, if_neg (by decide), if_neg (by decide), if_neg (by decide), if_neg (by decide), if_pos (by decide)] at hne ⊢
        exact f_some n hI h hk9 hw hne
      · rw [hw, if_neg (by decide), if_neg (by decide), if_neg (by decide), if_neg (by decide), if_pos (by decide)] at hne ⊢
        exact f_all n hI h hk9 hw hne
      · rw [hw, if_neg (by decide), if_neg (by decide), if_neg (by decide), if_neg (by decide), if_neg (by decide), if_neg (by decide), if_neg (by decide)] at hne ⊢
        exact f_lfp n hI h hk9 hw hne
      · rw [hw, if_neg (by decide), if_neg (by decide), if_neg (by decide), if_neg (by decide), if_neg (by decide), if_neg (by decide), if_neg (by decide)] at hne ⊢
        exact f_pfp n hI h hk9 hw hne
      · rw [hw, if_neg (by decide), if_neg (by decide), if_neg (by decide), if_neg (by decide), if_neg (by decide), if_pos (by decide)] at hne ⊢
        exact f_tc n hI h hk9 hw hne
      · rw [hw, if_neg (by decide), if_neg (by decide), if_neg (by decide), if_neg (by decide), if_neg (by decide), if_neg (by decide), if_pos (by decide)] at hne ⊢
        exact f_exists n hI h hk9 hw hne
      · rw [hw, if_pos rfl] at hne ⊢
        exact f_true h hk9 hw
      · rw [hw, if_neg (by decide), if_pos rfl] at hne ⊢
        exact f_false h hk9 hw
    · have e1 : takeP s 119 r = .err r.at_ := by unfold takeP; rw [if_neg hk9]
      rw [e1]
      simp only [Res.bind_err]
      exact f_stop h hk hk9
end Go.Proofs.YtadnnijdbcdkjaaGreatDoor
/-
  Contract of the reader's method formula at every text. Conditions: as in the texts before.
-/
namespace Go.Proofs.YtadnnijdbcdkjaaGreatDoor
open Go.RowKit

theorem formula_all : ∀ n, n ≤ 1000000000 → SF n ∧ SI n ∧ SK n ∧ ∀ m, m ≤ n → SF m
  | 0, _ => ⟨fun _ _ _ _ _ h => absurd (by unfold formulaP; rfl) h, fun _ _ _ _ _ h => absurd (by unfold innerP; rfl) h, fun _ _ _ _ _ h => absurd (by unfold kidsP; rfl) h,
      fun m hm => by have : m = 0 := by omega
                     subst this; exact fun _ _ _ _ _ h => absurd (by unfold formulaP; rfl) h⟩
  | n + 1, hn => by
    obtain ⟨hF, hI, hK, hA⟩ := formula_all n (by omega)
    have hF1 := formula_step n hF hI hK
    refine ⟨hF1, inner_step n hF, kids_step n (by omega) hA, fun m hm => ?_⟩
    by_cases h : m = n + 1
    · rw [h]; exact hF1
    · exact hA m (by omega)

/-- The reader's method formula at the beginning of a text. -/
theorem formula_read {w : World} {rb : Nat} {s : ByteArray} (h : Pre w rb s (stepR s 0)) :
    Calls Tryz.prog 47 #[.pointer (some ⟨rb, 0, none⟩)] w (PostR (formulaP s (2 * s.size + 3) (stepR s 0)) w rb s (NewForm w.heap.size)) :=
  (formula_all (2 * s.size + 3) (by have := h.hs; omega)).1 w rb s _ h ((ne_out_all s _).1 _ h.ok (by omega))
end Go.Proofs.YtadnnijdbcdkjaaGreatDoor
/-
  Contracts of the checker's small functions: binds, rules, names, shaped. Conditions: none beyond the readings named in each.
-/
namespace Go.Proofs.YtadnnijdbcdkjaaGreatDoor
open Go.RowKit

theorem below_drewN {B : Nat} {a b : World} (h : Below B a b) (n : Nat) : Below B a (b.drewN n) := ⟨h.os, h.tape, h.output, h.size, h.block⟩
theorem below_alloc {B : Nat} {a b : World} (h : Below B a b) (o : Obj) (hB : B ≤ a.heap.size) : Below B a (b.alloc o) := h.alloc (Nat.le_trans hB h.size) o
theorem below_one (w : World) (o : Obj) : Below w.heap.size w (w.alloc o) := (Below.refl _ _).alloc (Nat.le_refl _) _

theorem binds_8 (k a : Int) (n : ByteArray) (a1 a2 a3 : Option Addr) (n1 n2 n3 c1 c2 c3 : Nat) (w : World) (hk : k = 8) :
    Calls Tryz.prog 92 #[.agg #[.int .i64 k, .int .i64 a, .string n, .slice a1 n1 c1, .slice a2 n2 c2, .slice a3 n3 c3]] w fun e w' => e = .returned (.tuple #[.string n, .int .i64 n1, .bool true]) ∧ Below w.heap.size w w' := by
  subst hk
  go_enter Tryz.func92, Tryz.ntmps92
  go_wp2
  go_quiet (fail); go_wp2
  exact ⟨rfl, _, results_tmp3 rfl _ _ _, rfl, below_drewN (below_one _ _) _⟩
theorem binds_9 (k a : Int) (n : ByteArray) (a1 a2 a3 : Option Addr) (n1 n2 n3 c1 c2 c3 : Nat) (w : World) (hk : k = 9) :
    Calls Tryz.prog 92 #[.agg #[.int .i64 k, .int .i64 a, .string n, .slice a1 n1 c1, .slice a2 n2 c2, .slice a3 n3 c3]] w fun e w' => e = .returned (.tuple #[.string n, .int .i64 n1, .bool true]) ∧ Below w.heap.size w w' := by
  subst hk
  go_enter Tryz.func92, Tryz.ntmps92
  go_wp2
  go_quiet (fail); go_wp2
  exact ⟨rfl, _, results_tmp3 rfl _ _ _, rfl, below_drewN (below_one _ _) _⟩
theorem binds_11 (k a : Int) (n : ByteArray) (a1 a2 a3 : Option Addr) (n1 n2 n3 c1 c2 c3 : Nat) (w : World) (hk : k = 11) :
    Calls Tryz.prog 92 #[.agg #[.int .i64 k, .int .i64 a, .string n, .slice a1 n1 c1, .slice a2 n2 c2, .slice a3 n3 c3]] w fun e w' => e = .returned (.tuple #[.string n, .int .i64 a, .bool true]) ∧ Below w.heap.size w w' := by
  subst hk
  go_enter Tryz.func92, Tryz.ntmps92
  go_wp2
  go_quiet (fail); go_wp2
  exact ⟨rfl, _, results_tmp3 rfl _ _ _, rfl, below_drewN (below_one _ _) _⟩
theorem binds_no (k a : Int) (n : ByteArray) (a1 a2 a3 : Option Addr) (n1 n2 n3 c1 c2 c3 : Nat) (w : World) (hk : ¬ k = 8 ∧ ¬ k = 9 ∧ ¬ k = 11) :
    Calls Tryz.prog 92 #[.agg #[.int .i64 k, .int .i64 a, .string n, .slice a1 n1 c1, .slice a2 n2 c2, .slice a3 n3 c3]] w fun e w' => e = .returned (.tuple #[.string eb, .int .i64 0, .bool false]) ∧ Below w.heap.size w w' := by
  obtain ⟨h8, h9, h11⟩ := hk
  go_enter Tryz.func92, Tryz.ntmps92
  go_wp2
  skip
  exact ⟨rfl, _, results_tmp3 rfl _ _ _, rfl, below_one _ _⟩

def ruleC (r : Rule) : Array Value := #[.int .i64 r.k0, .int .i64 r.k1, .int .i64 r.a0, .int .i64 r.a1, .int .i64 r.v0, .int .i64 r.v1, .bool r.named, .bool r.sized, .bool r.fits]
theorem nine {w : World} {b : Nat} {c0 c1 c2 c3 c4 c5 c6 c7 c8 : Value} {t : TypeId} (h : w.heap[b]? = some (.cells #[c0, c1, c2, c3, c4, c5, c6, c7, c8] t (0, 0))) :
    w.cell? ⟨b, 0, none⟩ = some c0 ∧ w.cell? ⟨b, 1, none⟩ = some c1 ∧ w.cell? ⟨b, 2, none⟩ = some c2 ∧ w.cell? ⟨b, 3, none⟩ = some c3 ∧ w.cell? ⟨b, 4, none⟩ = some c4 ∧ w.cell? ⟨b, 5, none⟩ = some c5 ∧ w.cell? ⟨b, 6, none⟩ = some c6 ∧ w.cell? ⟨b, 7, none⟩ = some c7 ∧ w.cell? ⟨b, 8, none⟩ = some c8 :=
  ⟨cell_of_block h 0, cell_of_block h 1, cell_of_block h 2, cell_of_block h 3, cell_of_block h 4, cell_of_block h 5, cell_of_block h 6, cell_of_block h 7, cell_of_block h 8⟩
theorem load_rule {w : World} {b : Nat} {c0 c1 c2 c3 c4 c5 c6 c7 c8 : Value} {t : TypeId} (h : w.heap[b]? = some (.cells #[c0, c1, c2, c3, c4, c5, c6, c7, c8] t (0, 0))) :
    (loadVar 144 ⟨b, 0, none⟩).run Tryz.prog w = .ok (.agg #[c0, c1, c2, c3, c4, c5, c6, c7, c8]) w := by
  obtain ⟨h0, h1, h2, h3, h4, h5, h6, h7, h8⟩ := nine h
  simp [go_sem, h0, h1, h2, h3, h4, h5, h6, h7, h8]
theorem bodyPost_rule {fn : Func} {t : Tmp} {R : Ending → World → Prop} {a : Act} {w : World} {c0 c1 c2 c3 c4 c5 c6 c7 c8 : Value}
    (h : fn.results = #[.cell t 144]) (hp : a.tmps.getD t undef = .pointer (some ⟨w.heap.size, 0, none⟩)) (hd : a.defers = [])
    (hR : R (.returned (.agg #[c0, c1, c2, c3, c4, c5, c6, c7, c8])) (w.alloc (.cells #[c0, c1, c2, c3, c4, c5, c6, c7, c8] 144))) :
    bodyPost Tryz.prog fn R .ret a (w.alloc (.cells #[c0, c1, c2, c3, c4, c5, c6, c7, c8] 144)) :=
  bodyPost_ret (results_cell h hp (load_rule (block_alloc_new w _))) hd hR

set_option maxHeartbeats 1000000 in
theorem rules_any (k : Int) (w : World) : Calls Tryz.prog 125 #[.int .i64 k] w fun e w' => e = .returned (.agg (ruleC (ruleB k))) ∧ Below w.heap.size w w' := by
  by_cases h0 : k = 0
  · subst h0
    go_enter Tryz.func125, Tryz.ntmps125
    go_wp2
    exact bodyPost_rule rfl rfl rfl ⟨rfl, below_one _ _⟩
  by_cases h1 : k = 1
  · subst h1
    go_enter Tryz.func125, Tryz.ntmps125
    go_wp2
    exact bodyPost_rule rfl rfl rfl ⟨rfl, below_one _ _⟩
  by_cases h2 : k = 2
  · subst h2
    go_enter Tryz.func125, Tryz.ntmps125
    go_wp2
    exact bodyPost_rule rfl rfl rfl ⟨rfl, below_one _ _⟩
  by_cases h3 : k = 3
  · subst h3
    go_enter Tryz.func125, Tryz.ntmps125
    go_wp2
    exact bodyPost_rule rfl rfl rfl ⟨rfl, below_one _ _⟩
  by_cases h4 : k = 4
  · subst h4
    go_enter Tryz.func125, Tryz.ntmps125
    go_wp2
    exact bodyPost_rule rfl rfl rfl ⟨rfl, below_one _ _⟩
  by_cases h5 : k = 5
  · subst h5
    go_enter Tryz.func125, Tryz.ntmps125
    go_wp2
    exact bodyPost_rule rfl rfl rfl ⟨rfl, below_one _ _⟩
  by_cases h6 : k = 6
  · subst h6
    go_enter Tryz.func125, Tryz.ntmps125
    go_wp2
    exact bodyPost_rule rfl rfl rfl ⟨rfl, below_one _ _⟩
  by_cases h7 : k = 7
  · subst h7
    go_enter Tryz.func125, Tryz.ntmps125
    go_wp2
    exact bodyPost_rule rfl rfl rfl ⟨rfl, below_one _ _⟩
  by_cases h8 : k = 8
  · subst h8
    go_enter Tryz.func125, Tryz.ntmps125
    go_wp2
    exact bodyPost_rule rfl rfl rfl ⟨rfl, below_one _ _⟩
  by_cases h9 : k = 9
  · subst h9
    go_enter Tryz.func125, Tryz.ntmps125
    go_wp2
    exact bodyPost_rule rfl rfl rfl ⟨rfl, below_one _ _⟩
  by_cases h10 : k = 10
  · subst h10
    go_enter Tryz.func125, Tryz.ntmps125
    go_wp2
    exact bodyPost_rule rfl rfl rfl ⟨rfl, below_one _ _⟩
  by_cases h11 : k = 11
  · subst h11
    go_enter Tryz.func125, Tryz.ntmps125
    go_wp2
    exact bodyPost_rule rfl rfl rfl ⟨rfl, below_one _ _⟩
  · have hr : ruleB k = ⟨1, 0, 0, 0, 0, 0, false, false, false⟩ := by simp [ruleB, h0, h1, h2, h3, h4, h5, h6, h7, h8, h9, h10, h11]
    rw [hr]
    clear hr
    go_enter Tryz.func125, Tryz.ntmps125
    go_wp2
    exact bodyPost_rule rfl rfl rfl ⟨rfl, below_one _ _⟩
end Go.Proofs.YtadnnijdbcdkjaaGreatDoor
/-
  Contract of the checker's function names. Conditions: the value reads as a list of strings whose lengths are lengths.
-/
namespace Go.Proofs.YtadnnijdbcdkjaaGreatDoor
open Go.RowKit

theorem RStrs.below {w w' : World} {Q : Nat → Prop} {v : Value} {l : List ByteArray} (h : RStrs w Q v l) (hb : Below w.heap.size w w') : RStrs w' Q v l :=
  h.stay hb.size (fun b _ hlt => hb.block b hlt) (fun _ hq _ => hq)
theorem RStrs.cell {w : World} {Q : Nat → Prop} {a : Option Addr} {n c : Nat} {l : List ByteArray} (h : RStrs w Q (.slice a n c) l) (hl : 0 < l.length) :
    ∃ b o, a = some ⟨b, o, none⟩ ∧ n = l.length ∧ l.length ≤ c ∧ c ≤ maxLen ∧ Q b ∧ b < w.heap.size ∧ ∀ i, i < l.length → w.cell? ⟨b, o + i, none⟩ = some (.string (l.getD i eb)) := by
  obtain ⟨a', c', hv, h1, h2, h3⟩ := h
  cases hv
  rcases h3 with ⟨_, h0⟩ | ⟨b, o, ha, hq, hlt, hc, _⟩
  · omega
  · exact ⟨b, o, ha, rfl, h1, h2, hq, hlt, hc⟩
theorem next_int {j : Nat} (h : j + 1 ≤ maxLen) : Value.int .i64 (wrap64 ((j : Int) + 1)) = .int .i64 ((j + 1 : Nat) : Int) := by
  unfold maxLen at h
  have : wrap64 ((j : Int) + 1) = ((j + 1 : Nat) : Int) := by unfold wrap64; omega
  rw [this]
theorem drop_cons {l : List ByteArray} {j : Nat} (h : j < l.length) : l.drop j = l.getD j eb :: l.drop (j + 1) := by
  rw [List.drop_eq_getElem_cons h, List.getD_eq_getElem?_getD, List.getElem?_eq_getElem h]; rfl
theorem take_succ' {l : List ByteArray} {j : Nat} (h : j < l.length) : l.take (j + 1) = l.take j ++ [l.getD j eb] := by
  rw [List.take_add_one, List.getD_eq_getElem?_getD, List.getElem?_eq_getElem h]; rfl

/-- Where the loop of names stands. -/
def NamesAt (w : World) (l : List ByteArray) (ap : Bool) (k : Nat) (v : Value) (wr : World) : Prop :=
  ∃ j : Nat, j ≤ l.length ∧ k = l.length - j ∧ v = .int .i64 j ∧ Below w.heap.size w wr ∧ namesF ap (l.take j) (l.drop j) = namesF ap [] l

set_option maxHeartbeats 1000000 in
theorem names_any {w : World} {Q : Nat → Prop} {v : Value} {l : List ByteArray} (h : RStrs w Q v l) (hs : ∀ x ∈ l, x.size ≤ 9223372036854775807) (low high : Int) (ap : Bool) :
    Calls Tryz.prog 126 #[v, .int .i64 low, .int .i64 high, .bool ap] w fun e w' => e = .returned (.bool (namesB l low high ap)) ∧ Below w.heap.size w w' := by
  obtain ⟨a, n, c, rfl⟩ := strs_shape h
  have hn : n = l.length := by obtain ⟨_, _, hv, _⟩ := h; cases hv; rfl
  subst hn
  have HR := Lib.hid h
  have HS := Lib.hid hs
  clear h hs
  by_cases hr : (l.length : Int) < low ∨ high < (l.length : Int)
  · have HB := Lib.hid (show namesB l low high ap = false from by unfold namesB; rw [if_pos hr])
    rcases hr with h1 | h1
    · go_enter Tryz.func126, Tryz.ntmps126
      go_wp2
      go_ret
      rw [HB.out]
      exact ⟨rfl, Below.refl _ _⟩
    · by_cases h2 : (l.length : Int) < low
      all_goals
        go_enter Tryz.func126, Tryz.ntmps126
        go_wp2
        go_ret
        rw [HB.out]
        exact ⟨rfl, Below.refl _ _⟩
  · have HB := Lib.hid (show namesB l low high ap = namesF ap [] l from by unfold namesB; rw [if_neg hr])
    have h1 : ¬ (l.length : Int) < low := fun h => hr (.inl h)
    have h2 : ¬ high < (l.length : Int) := fun h => hr (.inr h)
    clear hr
    go_enter Tryz.func126, Tryz.ntmps126
    go_wp2
    go_loopg [23] l.length (fun k i wr => NamesAt w l ap k i wr)
    case atStart => exact ⟨0, Nat.zero_le _, rfl, rfl, Below.refl _ _, rfl⟩
    case round =>
      obtain ⟨j, hj, rfl, rfl, hbw, hnf⟩ := hrel
      clear h1 h2
      by_cases hlt : j < l.length
      · obtain ⟨b, o, rfl, _, hlc, hcm, hq, hbs, hcell⟩ := HR.out.cell (by omega)
        have hx := hcell j hlt
        have hx := (World.cell?_of_block (w := w) (w' := wr) (a := ⟨b, o + j, none⟩) (hbw.block b hbs)).trans hx
        have HC := Lib.hid (fun i hi => (World.cell?_of_block (w := w) (w' := wr) (a := ⟨b, o + i, none⟩) (hbw.block b hbs)).trans (hcell i hi) : ∀ i, i < l.length → wr.cell? ⟨b, o + i, none⟩ = some (.string (l.getD i eb)))
        have hxs : (l.getD j eb).size ≤ 9223372036854775807 := HS.out _ (by rw [List.getD_eq_getElem?_getD, List.getElem?_eq_getElem hlt]; simp)
        have HN := Lib.hid (show namesF ap [] l = if !nameB (l.getD j eb) || (ap && Lib.containsS (l.take j) (l.getD j eb)) then false else namesF ap (l.take (j + 1)) (l.drop (j + 1)) from by
          rw [← hnf, drop_cons hlt, namesF, take_succ' hlt])
        have HW := Lib.hid hbw
        have hji : (j : Int) < (l.length : Int) := by omega
        have hjc : (j : Int) ≤ (c : Int) := by omega
        have hj0 : (0 : Int) ≤ (j : Int) := by omega
        clear hcell hnf hbw hq hj
        generalize hxx : l.getD j eb = x at *
        cases hn : nameB x with
        | false =>
          have HY := Lib.hid hn
          clear hn
          have hjl := hlt
          go_wp2_with (go_at_call 30; refine (name_any _ hxs _).mono ?_; rintro e w1 ⟨rfl, hb1⟩; rw [HY.out])
          go_ret
          refine ⟨?_, HW.out.trans (hb1.mono HW.out.size)⟩
          rw [HB.out, HN.out, HY.out]
          rfl
        | true =>
          have HY := Lib.hid hn
          clear hn
          cases ap with
          | false =>
            have hjl := hlt
            go_wp2_with (go_at_call 30; refine (name_any _ hxs _).mono ?_; rintro e w1 ⟨rfl, hb1⟩; rw [HY.out])
            go_roundg (l.length - (j + 1))
            case measure => omega
            case rel =>
              refine ⟨j + 1, hjl, rfl, next_int (show j + 1 ≤ maxLen by omega), HW.out.trans (hb1.mono HW.out.size), ?_⟩
              rw [HN.out, HY.out]
              simp
          | true =>
            have HK := Lib.hid (fun w1 (hb1 : Below wr.heap.size wr w1) => Tryz.slices_Contains_string b o j c l x w1 (Nat.le_of_lt hlt) (by unfold maxLen at hcm; omega) (fun i hi => (World.cell?_of_block (a := ⟨b, o + i, none⟩) (hb1.block b (Nat.lt_of_lt_of_le hbs HW.out.size))).trans (HC.out i hi)))
            cases hc : Lib.containsS (l.take j) x with
            | true =>
              have HZ := Lib.hid hc
              clear hc
              go_wp2_with (first | (go_at_call 30; refine (name_any _ hxs _).mono ?_; rintro e w1 ⟨rfl, hb1⟩; rw [HY.out]) | (go_at_call 63; refine (HK.out _ hb1).mono ?_; rintro e w2 ⟨rfl, rfl⟩; rw [HZ.out]))
              go_ret
              refine ⟨?_, HW.out.trans (hb1.mono HW.out.size)⟩
              rw [HB.out, HN.out, HY.out, HZ.out]
              rfl
            | false =>
              have HZ := Lib.hid hc
              clear hc
              have hjl := hlt
              go_wp2_with (first | (go_at_call 30; refine (name_any _ hxs _).mono ?_; rintro e w1 ⟨rfl, hb1⟩; rw [HY.out]) | (go_at_call 63; refine (HK.out _ hb1).mono ?_; rintro e w2 ⟨rfl, rfl⟩; rw [HZ.out]))
              go_roundg (l.length - (j + 1))
              case measure => omega
              case rel =>
                refine ⟨j + 1, hjl, rfl, next_int (show j + 1 ≤ maxLen by omega), HW.out.trans (hb1.mono HW.out.size), ?_⟩
                rw [HN.out, HY.out, HZ.out]
                simp
      · have HN := Lib.hid (show namesF ap [] l = true from by rw [← hnf, List.drop_eq_nil_of_le (by omega)]; rfl)
        have HW := Lib.hid hbw
        have hji : ¬ (j : Int) < (l.length : Int) := by omega
        clear hnf hbw
        go_wp2
        go_ret
        rw [HB.out, HN.out]
        exact ⟨rfl, HW.out⟩
end Go.Proofs.YtadnnijdbcdkjaaGreatDoor
