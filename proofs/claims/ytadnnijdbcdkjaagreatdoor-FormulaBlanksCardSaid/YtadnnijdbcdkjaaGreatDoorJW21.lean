/-
  Contract of the checker's function shaped. Conditions: the value reads as a formula; its names' lengths are lengths.
-/
import Derived.Test.YtadnnijdbcdkjaaGreatDoorJD
import Derived.Deep.Cut
namespace Go.Proofs.YtadnnijdbcdkjaaGreatDoor
open Go.RowKit

theorem name_ne {n : ByteArray} : decide (n ≠ eb) = !n.toList.isEmpty := by
  by_cases h : n = eb
  · have h0 : n.toList = [] := by subst h; rw [ByteArray.toList_eq]; rfl
    rw [h0, decide_eq_false (by simp [h])]; rfl
  · rw [decide_eq_true h, Eq.comm, Bool.not_eq_true', ← Bool.not_eq_true]
    intro he
    apply h
    by_cases h0 : n.size = 0
    · exact empty_of_size h0
    · rw [toList_ne h0] at he; cases he
theorem bne_zero (z : Int) : (z != 0) = !decide (z = 0) := rfl
theorem block_keep {w w' : World} {b : Nat} {o : Obj} (h : w.heap[b]? = some o) (hb : Below w.heap.size w w') : w'.heap[b]? = some o := (hb.block b (block_lt h)).trans h

/-- Where shaped stands: the formula and its rule lie in their blocks. -/
structure ShAt (w : World) (rb : Nat) (fc rc : Array Value) (wx : World) : Prop where
  below : Below w.heap.size w wx
  fo : wx.heap[w.heap.size]? = some (.cells fc 31 (0, 0))
  ru : wx.heap[rb]? = some (.cells rc 144 (0, 0))
theorem ShAt.next {w : World} {rb : Nat} {fc rc : Array Value} {wx wy : World} (h : ShAt w rb fc rc wx) (hb : Below wx.heap.size wx wy) : ShAt w rb fc rc wy :=
  ⟨h.below.trans (hb.mono h.below.size), block_keep h.fo hb, block_keep h.ru hb⟩

set_option maxRecDepth 100000 in
set_option maxHeartbeats 2000000 in
theorem shaped_walk {w : World} {Q : Nat → Prop} {k a : Int} {name : ByteArray} {vars args : List ByteArray} {a1 a2 ka : Option Addr} {c1 c2 kn kc : Nat}
    (hv : RStrs w Q (.slice a1 vars.length c1) vars) (ha : RStrs w Q (.slice a2 args.length c2) args) (hns : name.size ≤ 9223372036854775807)
    (hs1 : ∀ x ∈ vars, x.size ≤ 9223372036854775807) (hs2 : ∀ x ∈ args, x.size ≤ 9223372036854775807) {rl : Rule} (hrl : ruleB k = rl) {k0 k1 a0 a1' v0 v1 : Int} {named sized fits : Bool}
    (hrl' : rl = ⟨k0, k1, a0, a1', v0, v1, named, sized, fits⟩) {B1 B2 B3 : Bool} (hB1 : B1 = (decide ((kn : Int) < k0) || decide (k1 < (kn : Int)) || (named != !name.toList.isEmpty) || (named && !nameB name)))
    (hB2 : B2 = ((!sized && decide (a ≠ 0)) || decide (a < 0) || decide (12 < a) || (decide (k = 10) && decide ((vars.length : Int) % 2 ≠ 0))))
    (hB3 : B3 = (namesB args a0 a1' false && namesB vars v0 v1 true && (!fits || decide (vars.length = args.length)))) :
    Calls Tryz.prog 107 #[.agg #[.int .i64 k, .int .i64 a, .string name, .slice a1 vars.length c1, .slice a2 args.length c2, .slice ka kn kc]] w fun e w' => e = .returned (.bool (!B1 && !B2 && B3)) ∧ Below w.heap.size w w' := by
  subst hrl'
  have HV := Lib.hid hv
  have HA := Lib.hid ha
  have HS1 := Lib.hid hs1
  have HS2 := Lib.hid hs2
  have HR := Lib.hid (rules_any k)
  rw [hrl] at HR
  simp only [ruleC] at HR
  have HB1 := Lib.hid hB1
  have HB2 := Lib.hid hB2
  have HB3 := Lib.hid hB3
  clear hv ha hs1 hs2 hrl hB1 hB2 hB3
  go_enter Tryz.func107, Tryz.ntmps107
  go_upto_region 2 with (go_at_call 125; refine (HR.out _).mono ?_; rintro e w1 ⟨rfl, hb1⟩)
  have HW := Lib.hid (⟨below_alloc ((below_one w _).trans (hb1.mono (by simp))) _ (Nat.le_refl _), block_alloc_old ((hb1.block _ (by simp)).trans (block_alloc_new w _)) _, block_alloc_new w1 _⟩ :
    ShAt w w1.heap.size #[.int .i64 k, .int .i64 a, .string name, .slice a1 vars.length c1, .slice a2 args.length c2, .slice ka kn kc] #[.int .i64 k0, .int .i64 k1, .int .i64 a0, .int .i64 a1', .int .i64 v0, .int .i64 v1, .bool named, .bool sized, .bool fits]
      (w1.alloc (.cells #[.int .i64 k0, .int .i64 k1, .int .i64 a0, .int .i64 a1', .int .i64 v0, .int .i64 v1, .bool named, .bool sized, .bool fits] 144)))
  generalize hrb : w1.heap.size = rb at *
  generalize (w1.alloc (.cells #[.int .i64 k0, .int .i64 k1, .int .i64 a0, .int .i64 a1', .int .i64 v0, .int .i64 v1, .bool named, .bool sized, .bool fits] 144)) = W at *
  clear hb1 hrb HR w1
  obtain ⟨d0, d1, d2, d3, d4, d5, -⟩ := six HW.out.fo
  obtain ⟨q0, q1, q2, q3, q4, q5, q6, q7, q8⟩ := nine HW.out.ru
  go_cut [0, 40] from 4 (fun _ s40 wx => s40 = .bool B1 ∧ Hid (ShAt w rb #[.int .i64 k, .int .i64 a, .string name, .slice a1 vars.length c1, .slice a2 args.length c2, .slice ka kn kc] #[.int .i64 k0, .int .i64 k1, .int .i64 a0, .int .i64 a1', .int .i64 v0, .int .i64 v1, .bool named, .bool sized, .bool fits] wx))
  case first =>
    go_wp2_with (go_at_call 30; refine (name_any _ hns _).mono ?_; rintro e w2 ⟨rfl, hb2⟩)
    all_goals go_meet
    all_goals refine ⟨?_, by first | exact HW | exact Lib.hid (HW.out.next hb2)⟩
    all_goals (rw [HB1.out]; simp_all)
  case rest =>
    obtain ⟨rfl, hwc⟩ := hcut
    clear d0 d1 d2 d3 d4 d5 q0 q1 q2 q3 q4 q5 q6 q7 q8 HW HB1 hns
    cases B1 with
    | true =>
      have hb := Lib.hid hwc.out.below
      clear HB2 HB3 HV HA HS1 HS2 hwc
      go_wp2
      go_ret
      exact ⟨by simp, hb.out⟩
    | false =>
    go_upto_region 4 with (fail)
    obtain ⟨d0, d1, d2, d3, d4, d5, -⟩ := six hwc.out.fo
    obtain ⟨q0, q1, q2, q3, q4, q5, q6, q7, q8⟩ := nine hwc.out.ru
    go_cut [0, 70] from 4 (fun _ s70 wx => s70 = .bool B2 ∧ wx = wc)
    case first =>
      go_wp2
      all_goals go_meet
      all_goals refine ⟨?_, rfl⟩
      all_goals (rw [HB2.out]; simp_all [bne_zero])
    case rest =>
      rename_i wc' _
      obtain ⟨rfl, rfl⟩ := hcut
      clear d0 d1 d2 d3 d4 d5 q0 q1 q2 q3 q4 q5 q6 q7 q8 HB2
      cases B2 with
      | true =>
        have hb := Lib.hid hwc.out.below
        clear HB3 HV HA HS1 HS2 hwc
        go_wp2
        go_ret
        exact ⟨by simp, hb.out⟩
      | false =>
      go_upto_region 6 with (fail)
      obtain ⟨d0, d1, d2, d3, d4, d5, -⟩ := six hwc.out.fo
      obtain ⟨q0, q1, q2, q3, q4, q5, q6, q7, q8⟩ := nine hwc.out.ru
      have HC1 := Lib.hid (fun a0 a1' => names_any (HA.out.below hwc.out.below) HS2.out a0 a1' false)
      have HC2 := Lib.hid (fun w3 (h3 : Below w.heap.size w w3) v0 v1 => names_any (HV.out.below h3) HS1.out v0 v1 true)
      clear HV HA HS1 HS2
      cases na : namesB args a0 a1' false with
      | false =>
        have HN := Lib.hid na
        clear na
        go_wp2_with (go_at_call 126; refine (HC1.out _ _).mono ?_; rintro e w3 ⟨rfl, hb3⟩; rw [HN.out])
        go_ret
        refine ⟨?_, (hwc.out.next hb3).below⟩
        rw [HB3.out, HN.out]
        rfl
      | true =>
        have HN := Lib.hid na
        clear na
        cases nv : namesB vars v0 v1 true with
        | false =>
          have HM := Lib.hid nv
          clear nv
          go_wp2_with (first
            | (go_at_call 126; refine (HC1.out _ _).mono ?_; rintro e w3 ⟨rfl, hb3⟩; rw [HN.out]; have H3 := Lib.hid (hwc.out.next hb3); clear hb3 d0 d1 d2 d3 d4 d5 q0 q1 q2 q3 q4 q5 q6 q7 q8 HC1; obtain ⟨d0, d1, d2, d3, d4, d5, -⟩ := six H3.out.fo; obtain ⟨q0, q1, q2, q3, q4, q5, q6, q7, q8⟩ := nine H3.out.ru)
            | (go_at_call 126; refine (HC2.out _ H3.out.below _ _).mono ?_; rintro e w4 ⟨rfl, hb4⟩; rw [HM.out]))
          go_ret
          refine ⟨?_, (H3.out.next hb4).below⟩
          rw [HB3.out, HN.out, HM.out]
          rfl
        | true =>
          have HM := Lib.hid nv
          clear nv
          cases fits with
          | false =>
            go_wp2_with (first
              | (go_at_call 126; refine (HC1.out _ _).mono ?_; rintro e w3 ⟨rfl, hb3⟩; rw [HN.out]; have H3 := Lib.hid (hwc.out.next hb3); clear hb3 d0 d1 d2 d3 d4 d5 q0 q1 q2 q3 q4 q5 q6 q7 q8 HC1; obtain ⟨d0, d1, d2, d3, d4, d5, -⟩ := six H3.out.fo; obtain ⟨q0, q1, q2, q3, q4, q5, q6, q7, q8⟩ := nine H3.out.ru)
              | (go_at_call 126; refine (HC2.out _ H3.out.below _ _).mono ?_; rintro e w4 ⟨rfl, hb4⟩; rw [HM.out]; have H4 := Lib.hid (H3.out.next hb4); clear hb4 d0 d1 d2 d3 d4 d5 q0 q1 q2 q3 q4 q5 q6 q7 q8 HC2; obtain ⟨d0, d1, d2, d3, d4, d5, -⟩ := six H4.out.fo; obtain ⟨q0, q1, q2, q3, q4, q5, q6, q7, q8⟩ := nine H4.out.ru))
            go_ret
            refine ⟨?_, H4.out.below⟩
            rw [HB3.out, HN.out, HM.out]
            rfl
          | true =>
            by_cases hl : vars.length = args.length
            · have hl' : (vars.length : Int) = (args.length : Int) := by omega
              have HL := Lib.hid hl
              clear hl
              go_wp2_with (first
                | (go_at_call 126; refine (HC1.out _ _).mono ?_; rintro e w3 ⟨rfl, hb3⟩; rw [HN.out]; have H3 := Lib.hid (hwc.out.next hb3); clear hb3 d0 d1 d2 d3 d4 d5 q0 q1 q2 q3 q4 q5 q6 q7 q8 HC1; obtain ⟨d0, d1, d2, d3, d4, d5, -⟩ := six H3.out.fo; obtain ⟨q0, q1, q2, q3, q4, q5, q6, q7, q8⟩ := nine H3.out.ru)
                | (go_at_call 126; refine (HC2.out _ H3.out.below _ _).mono ?_; rintro e w4 ⟨rfl, hb4⟩; rw [HM.out]; have H4 := Lib.hid (H3.out.next hb4); clear hb4 d0 d1 d2 d3 d4 d5 q0 q1 q2 q3 q4 q5 q6 q7 q8 HC2; obtain ⟨d0, d1, d2, d3, d4, d5, -⟩ := six H4.out.fo; obtain ⟨q0, q1, q2, q3, q4, q5, q6, q7, q8⟩ := nine H4.out.ru))
              go_ret
              refine ⟨?_, H4.out.below⟩
              rw [HB3.out, HN.out, HM.out, decide_eq_true HL.out]
              simp
            · have hl' : ¬ (vars.length : Int) = (args.length : Int) := by omega
              have HL := Lib.hid hl
              clear hl
              go_wp2_with (first
                | (go_at_call 126; refine (HC1.out _ _).mono ?_; rintro e w3 ⟨rfl, hb3⟩; rw [HN.out]; have H3 := Lib.hid (hwc.out.next hb3); clear hb3 d0 d1 d2 d3 d4 d5 q0 q1 q2 q3 q4 q5 q6 q7 q8 HC1; obtain ⟨d0, d1, d2, d3, d4, d5, -⟩ := six H3.out.fo; obtain ⟨q0, q1, q2, q3, q4, q5, q6, q7, q8⟩ := nine H3.out.ru)
                | (go_at_call 126; refine (HC2.out _ H3.out.below _ _).mono ?_; rintro e w4 ⟨rfl, hb4⟩; rw [HM.out]; have H4 := Lib.hid (H3.out.next hb4); clear hb4 d0 d1 d2 d3 d4 d5 q0 q1 q2 q3 q4 q5 q6 q7 q8 HC2; obtain ⟨d0, d1, d2, d3, d4, d5, -⟩ := six H4.out.fo; obtain ⟨q0, q1, q2, q3, q4, q5, q6, q7, q8⟩ := nine H4.out.ru))
              go_ret
              refine ⟨?_, H4.out.below⟩
              rw [HB3.out, HN.out, HM.out, decide_eq_false HL.out]
              simp [hl']

theorem shaped_any {w : World} {Q : Nat → Prop} {v : Value} {F : Form} (h : RForm w Q v F) (hs : okF F) :
    Calls Tryz.prog 107 #[v] w fun e w' => e = .returned (.bool (shapedB F)) ∧ Below w.heap.size w w' := by
  cases h with
  | mk k a name vv va vars args ka kc b o C kids hv ha hl hm hk hex hc hr =>
    obtain ⟨hsn, hsv, hsa, -⟩ := hs
    obtain ⟨a1, n1, c1, rfl⟩ := strs_shape hv
    obtain ⟨a2, n2, c2, rfl⟩ := strs_shape ha
    have e1 : n1 = vars.length := by obtain ⟨_, _, hv, _⟩ := hv; cases hv; rfl
    have e2 : n2 = args.length := by obtain ⟨_, _, hv, _⟩ := ha; cases hv; rfl
    subst e1 e2
    obtain ⟨⟨k0, k1, a0, a1', v0, v1, named, sized, fits⟩, hrl⟩ : ∃ rl, rl = ruleB k := ⟨_, rfl⟩
    have := shaped_walk (k := k) (a := a) (name := name) (kn := kids.length) (ka := ka) (kc := kc) hv ha (by unfold maxLen at hsn; omega) (fun x hx => by have := hsv x hx; unfold maxLen at this; omega) (fun x hx => by have := hsa x hx; unfold maxLen at this; omega) hrl.symm rfl rfl rfl rfl
    refine this.mono ?_
    rintro e w' ⟨rfl, hb⟩
    refine ⟨ret_bool ?_, hb⟩
    clear this
    simp only [shapedB, Form.kind, Form.arity, Form.name, Form.vars, Form.args, Form.kids, ← hrl]
    split
    · rename_i h
      have : (decide ((kids.length : Int) < k0) || decide (k1 < (kids.length : Int)) || (named != !name.toList.isEmpty) || (named && !nameB name)) = true := by
        simp only [Bool.or_eq_true, decide_eq_true_eq, bne_iff_ne, Bool.and_eq_true, Bool.not_eq_true']
        rcases h with (h | h) | h | h
        · exact .inl (.inl (.inl h))
        · exact .inl (.inl (.inr h))
        · exact .inl (.inr (by rw [← name_ne]; exact h))
        · exact .inr h
      rw [this]; rfl
    · rename_i h
      have : (decide ((kids.length : Int) < k0) || decide (k1 < (kids.length : Int)) || (named != !name.toList.isEmpty) || (named && !nameB name)) = false := by
        rw [← Bool.not_eq_true]
        simp only [Bool.or_eq_true, decide_eq_true_eq, bne_iff_ne, Bool.and_eq_true, Bool.not_eq_true']
        intro h'
        apply h
        rcases h' with ((h | h) | h) | h
        · exact .inl (.inl h)
        · exact .inl (.inr h)
        · exact .inr (.inl (fun he => h (he.trans (by rw [← name_ne]; by_cases hx : name = eb <;> simp [hx]))))
        · exact .inr (.inr h)
      rw [this]
      split
      · rename_i h
        have : ((!sized && decide (a ≠ 0)) || decide (a < 0) || decide (12 < a) || (decide (k = 10) && decide ((vars.length : Int) % 2 ≠ 0))) = true := by
          simp only [Bool.or_eq_true, decide_eq_true_eq, Bool.and_eq_true, Bool.not_eq_true']
          rcases h with h | h | h | h
          · exact .inl (.inl (.inl h))
          · exact .inl (.inl (.inr h))
          · exact .inl (.inr h)
          · exact .inr h
        rw [this]; rfl
      · rename_i h
        have : ((!sized && decide (a ≠ 0)) || decide (a < 0) || decide (12 < a) || (decide (k = 10) && decide ((vars.length : Int) % 2 ≠ 0))) = false := by
          rw [← Bool.not_eq_true]
          simp only [Bool.or_eq_true, decide_eq_true_eq, Bool.and_eq_true, Bool.not_eq_true']
          intro h'
          apply h
          rcases h' with ((h | h) | h) | h
          · exact .inl h
          · exact .inr (.inl h)
          · exact .inr (.inr (.inl h))
          · exact .inr (.inr (.inr h))
        rw [this]; rfl
end Go.Proofs.YtadnnijdbcdkjaaGreatDoor
