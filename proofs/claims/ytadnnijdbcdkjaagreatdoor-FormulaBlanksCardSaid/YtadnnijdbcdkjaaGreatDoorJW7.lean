/-
  Contract of the reader's method atom. Conditions: as in the texts before.
-/
import Derived.Test.YtadnnijdbcdkjaaGreatDoorJE
namespace Go.Proofs.YtadnnijdbcdkjaaGreatDoor
open Go.RowKit

def zForm : Array Value := #[.int .i64 0, .int .i64 0, .string ⟨#[]⟩, .slice none 0 0, .slice none 0 0, .slice none 0 0]

theorem results_cell {fn : Func} {t : Tmp} {T : TypeId} (h : fn.results = #[.cell t T]) {tmps : Array Value} {b : Nat} (hp : tmps.getD t undef = .pointer (some ⟨b, 0, none⟩)) {v : Value} {w : World}
    (hl : (loadVar T ⟨b, 0, none⟩).run Tryz.prog w = .ok v w) : (results fn tmps).run Tryz.prog w = .ok v w := by
  simp only [Array.getD_eq_getD_getElem?] at hp
  simp [results, h, hp, asAddr, hl]

theorem bodyPost_form {fn : Func} {t : Tmp} {R : Ending → World → Prop} {a : Act} {w : World} {b : Nat} {c0 c1 c2 c3 c4 c5 : Value}
    (h : fn.results = #[.cell t 31]) (hp : a.tmps.getD t undef = .pointer (some ⟨b, 0, none⟩)) (hb : w.heap[b]? = some (.cells #[c0, c1, c2, c3, c4, c5] 31 (0, 0))) (hd : a.defers = [])
    (hR : R (.returned (.agg #[c0, c1, c2, c3, c4, c5])) w) : bodyPost Tryz.prog fn R .ret a w :=
  bodyPost_ret (results_cell h hp (load_form hb)) hd hR


set_option maxHeartbeats 1600000 in
set_option maxRecDepth 100000 in
theorem atom_any {w : World} {rb : Nat} {s : ByteArray} {r : RS} (h : Pre w rb s r) :
    Calls Tryz.prog 79 #[.pointer (some ⟨rb, 0, none⟩)] w (PostR (atomP s r) w rb s (NewForm w.heap.size)) := by
  have HP := Lib.hid h
  have hlt := h.rd.lt
  clear h
  by_cases hk : r.kind = 110
  case neg =>
    have HQ := Lib.hid (show atomP s r = .err r.at_ from by unfold atomP takeP; rw [if_neg hk]; rfl)
    have HK := Lib.hid hk
    clear hk
    go_enter Tryz.func79, Tryz.ntmps79
    go_wp2_with (go_at_call 80; refine (take_no (HP.out.alloc _) 110 HK.out).mono ?_; rintro e w1 ⟨rfl, hkp⟩)
    exact ⟨rfl, by rw [HQ.out]; exact ⟨rfl, hkp.out.new⟩⟩
  case pos =>
    have HO1 := Lib.hid (stepR_ok HP.out.ok.pos).1
    have HK := Lib.hid hk
    cases hb1 : isB (stepR s r.pos) ⟨#[40]⟩ with
    | true =>
      cases hargs : argsP s (stepR s r.pos) with
      | out => exact absurd hargs (args_ne_out _ _)
      | err i =>
        have HQ := Lib.hid (show atomP s r = .err i from by unfold atomP takeP; rw [if_pos hk]; simp only [Res.bind_ok]; rw [if_pos hb1, hargs]; rfl)
        have HB1 := Lib.hid hb1
        have HA := Lib.hid hargs
        clear hk hb1 hargs
        go_enter Tryz.func79, Tryz.ntmps79
        go_wp2_with fail
        refine (take_ok (HP.out.alloc _) 110 HK.out).mono ?_; rintro e w1 ⟨rfl, ht1⟩
        have HP1 := Lib.hid ((HP.out.alloc _).to ht1.out HO1.out)
        have HB := Lib.hid (ht1.out.keep.block_of (block_alloc_new w _) (by omega))
        go_wp2_with (go_at_call 104; refine (is_any HP1.out.rd _).mono ?_; rintro e w' ⟨rfl, rfl⟩; rw [HB1.out])
        refine (args_any HP1.out).mono ?_; intro e w2 hp2; rw [HA.out] at hp2; obtain ⟨rfl, hkp⟩ := hp2
        have HKP := Lib.hid hkp
        clear hkp
        go_wp2
        exact ⟨rfl, by rw [HQ.out]; exact ⟨rfl, ht1.out.new.keep.trans HKP.out⟩⟩
      | ok l r2 =>
        have HQ := Lib.hid (show atomP s r = .ok (.mk 0 0 r.text [] l []) r2 from by unfold atomP takeP; rw [if_pos hk]; simp only [Res.bind_ok]; rw [if_pos hb1, hargs]; rfl)
        have HB1 := Lib.hid hb1
        have HA := Lib.hid hargs
        clear hk hb1 hargs
        go_enter Tryz.func79, Tryz.ntmps79
        go_wp2_with fail
        refine (take_ok (HP.out.alloc _) 110 HK.out).mono ?_; rintro e w1 ⟨rfl, ht1⟩
        have HP1 := Lib.hid ((HP.out.alloc _).to ht1.out HO1.out)
        have HB := Lib.hid (ht1.out.keep.block_of (block_alloc_new w _) (by omega))
        go_wp2_with (go_at_call 104; refine (is_any HP1.out.rd _).mono ?_; rintro e w' ⟨rfl, rfl⟩; rw [HB1.out])
        refine (args_any HP1.out).mono ?_; intro e w2 hp2; rw [HA.out] at hp2; obtain ⟨v, rfl, hown, ht2, ho2⟩ := hp2; obtain ⟨va, vn, vc, rfl⟩ := own_shape hown
        have HB2 := Lib.hid (ht2.keep.block_of HB.out (by omega))
        have HX := Lib.hid (And.intro hown (And.intro ht2 ho2))
        clear hown ht2 ho2
        obtain ⟨d0, d1, d2, d3, d4, d5, df⟩ := six HB2.out
        go_wp2
        refine bodyPost_form rfl rfl (set6 HB2.out) rfl ?_
        rw [HQ.out]
        obtain ⟨hown, ht2, ho2⟩ := HX.out
        have hz1 := ht1.out.keep.size
        simp only [World.size_alloc] at hz1
        exact ⟨_, rfl, (RForm.leaf 0 0 r.text (RStrs.nil w2 (fun b => w1.heap.size ≤ b)) (RStrs.of_own hown fun b hb _ => hb)).stay (by simp) (fun b hb _ => set6_other (by omega)) (fun b hb _ => by unfold New; omega), (ht1.out.new.trans ht2).set6 (Nat.le_refl _) hlt _ _ _ _ _ _, ho2⟩
    | false =>
      cases hb2 : isB (stepR s r.pos) ⟨#[61]⟩ with
      | true =>
        have hbx := And.intro hb2 (True.intro)
        by_cases hk2 : (stepR s (stepR s r.pos).pos).kind = 110
        case neg =>
          have HQ := Lib.hid (show atomP s r = .err (stepR s (stepR s r.pos).pos).at_ from by unfold atomP takeP; rw [if_pos hk]; simp only [Res.bind_ok]; rw [if_neg (by rw [hb1]; simp), if_pos hb2, if_neg hk2]; rfl)
          have HK2 := Lib.hid hk2
          clear hb2
          have HB1 := Lib.hid hb1
          have HBX := Lib.hid hbx
          clear hk hb1 hbx hk2
          go_enter Tryz.func79, Tryz.ntmps79
          go_wp2_with fail
          refine (take_ok (HP.out.alloc _) 110 HK.out).mono ?_; rintro e w1 ⟨rfl, ht1⟩
          have HP1 := Lib.hid ((HP.out.alloc _).to ht1.out HO1.out)
          have HB := Lib.hid (ht1.out.keep.block_of (block_alloc_new w _) (by omega))
          go_wp2_with fail
          refine (is_any HP1.out.rd _).mono ?_; rintro e w' ⟨rfl, rfl⟩; rw [HB1.out]
          go_wp2_with fail
          refine (is_any HP1.out.rd _).mono ?_; rintro e w' ⟨rfl, rfl⟩; rw [HBX.out.1]
          go_wp2_with fail
          refine (step_pre HP1.out).mono ?_; rintro e w2 ⟨rfl, ht2⟩
          have HP2 := Lib.hid (HP1.out.next ht2.out)
          go_wp2_with fail
          refine (take_no HP2.out 110 HK2.out).mono ?_; rintro e w3 ⟨rfl, hkp⟩
          go_wp2
          exact ⟨rfl, by rw [HQ.out]; exact ⟨rfl, (ht1.out.new.keep.trans ht2.out.keep).trans hkp.out⟩⟩
        case pos =>
          have HQ := Lib.hid (show atomP s r = .ok (.mk 1 0 eb [] [r.text, (stepR s (stepR s r.pos).pos).text] []) (stepR s (stepR s (stepR s r.pos).pos).pos) from by unfold atomP takeP; rw [if_pos hk]; simp only [Res.bind_ok]; rw [if_neg (by rw [hb1]; simp), if_pos hb2, if_pos hk2]; rfl)
          have HK2 := Lib.hid hk2
          clear hb2
          have HB1 := Lib.hid hb1
          have HBX := Lib.hid hbx
          clear hk hb1 hbx hk2
          go_enter Tryz.func79, Tryz.ntmps79
          go_wp2_with fail
          refine (take_ok (HP.out.alloc _) 110 HK.out).mono ?_; rintro e w1 ⟨rfl, ht1⟩
          have HP1 := Lib.hid ((HP.out.alloc _).to ht1.out HO1.out)
          have HB := Lib.hid (ht1.out.keep.block_of (block_alloc_new w _) (by omega))
          go_wp2_with fail
          refine (is_any HP1.out.rd _).mono ?_; rintro e w' ⟨rfl, rfl⟩; rw [HB1.out]
          go_wp2_with fail
          refine (is_any HP1.out.rd _).mono ?_; rintro e w' ⟨rfl, rfl⟩; rw [HBX.out.1]
          go_wp2_with fail
          refine (step_pre HP1.out).mono ?_; rintro e w2 ⟨rfl, ht2⟩
          have HP2 := Lib.hid (HP1.out.next ht2.out)
          have HB2 := Lib.hid (ht2.out.keep.block_of HB.out (by omega))
          go_wp2_with fail
          refine (take_ok HP2.out 110 HK2.out).mono ?_; rintro e w3 ⟨rfl, ht3⟩
          have HB3 := Lib.hid (ht3.out.keep.block_of HB2.out (by omega))
          obtain ⟨d0, d1, d2, d3, d4, d5, df⟩ := six HB3.out
          have hz : w.heap.size < w3.heap.size := block_lt HB3.out
          go_wp2
          refine bodyPost_form rfl rfl (block_alloc_old (set6 HB3.out) _) rfl ?_
          rw [HQ.out]
          have hz1 := ht1.out.keep.size
          simp only [World.size_alloc] at hz1
          exact ⟨_, rfl, RForm.leaf _ 0 eb (RStrs.nil _ _) (RStrs.of_own (two_strs _ w3.heap.size (by simp) r.text _) (fun b hb _ => by unfold New; omega)), (((ht1.out.new.trans ht2.out).trans ht3.out).set6 (Nat.le_refl _) hlt _ _ _ _ _ _).alloc _, (stepR_ok HP2.out.ok.pos).1⟩

      | false =>
        cases hb3 : isB (stepR s r.pos) ⟨#[60]⟩ with
        | true =>
          have hbx := And.intro hb2 hb3
          by_cases hk2 : (stepR s (stepR s r.pos).pos).kind = 110
          case neg =>
            have HQ := Lib.hid (show atomP s r = .err (stepR s (stepR s r.pos).pos).at_ from by unfold atomP takeP; rw [if_pos hk]; simp only [Res.bind_ok]; rw [if_neg (by rw [hb1]; simp), if_neg (by rw [hb2]; simp), if_pos hb3, if_neg hk2]; rfl)
            have HK2 := Lib.hid hk2
            clear hb2 hb3
            have HB1 := Lib.hid hb1
            have HBX := Lib.hid hbx
            clear hk hb1 hbx hk2
            go_enter Tryz.func79, Tryz.ntmps79
            go_wp2_with fail
            refine (take_ok (HP.out.alloc _) 110 HK.out).mono ?_; rintro e w1 ⟨rfl, ht1⟩
            have HP1 := Lib.hid ((HP.out.alloc _).to ht1.out HO1.out)
            have HB := Lib.hid (ht1.out.keep.block_of (block_alloc_new w _) (by omega))
            go_wp2_with fail
            refine (is_any HP1.out.rd _).mono ?_; rintro e w' ⟨rfl, rfl⟩; rw [HB1.out]
            go_wp2_with fail
            refine (is_any HP1.out.rd _).mono ?_; rintro e w' ⟨rfl, rfl⟩; rw [HBX.out.1]
            go_wp2_with fail
            refine (is_any HP1.out.rd _).mono ?_; rintro e w' ⟨rfl, rfl⟩; rw [HBX.out.2]
            go_wp2_with fail
            refine (step_pre HP1.out).mono ?_; rintro e w2 ⟨rfl, ht2⟩
            have HP2 := Lib.hid (HP1.out.next ht2.out)
            go_wp2_with fail
            refine (take_no HP2.out 110 HK2.out).mono ?_; rintro e w3 ⟨rfl, hkp⟩
            go_wp2
            exact ⟨rfl, by rw [HQ.out]; exact ⟨rfl, (ht1.out.new.keep.trans ht2.out.keep).trans hkp.out⟩⟩
          case pos =>
            have HQ := Lib.hid (show atomP s r = .ok (.mk 2 0 eb [] [r.text, (stepR s (stepR s r.pos).pos).text] []) (stepR s (stepR s (stepR s r.pos).pos).pos) from by unfold atomP takeP; rw [if_pos hk]; simp only [Res.bind_ok]; rw [if_neg (by rw [hb1]; simp), if_neg (by rw [hb2]; simp), if_pos hb3, if_pos hk2]; rfl)
            have HK2 := Lib.hid hk2
            clear hb2 hb3
            have HB1 := Lib.hid hb1
            have HBX := Lib.hid hbx
            clear hk hb1 hbx hk2
            go_enter Tryz.func79, Tryz.ntmps79
            go_wp2_with fail
            refine (take_ok (HP.out.alloc _) 110 HK.out).mono ?_; rintro e w1 ⟨rfl, ht1⟩
            have HP1 := Lib.hid ((HP.out.alloc _).to ht1.out HO1.out)
            have HB := Lib.hid (ht1.out.keep.block_of (block_alloc_new w _) (by omega))
            go_wp2_with fail
            refine (is_any HP1.out.rd _).mono ?_; rintro e w' ⟨rfl, rfl⟩; rw [HB1.out]
            go_wp2_with fail
            refine (is_any HP1.out.rd _).mono ?_; rintro e w' ⟨rfl, rfl⟩; rw [HBX.out.1]
            go_wp2_with fail
            refine (is_any HP1.out.rd _).mono ?_; rintro e w' ⟨rfl, rfl⟩; rw [HBX.out.2]
            go_wp2_with fail
            refine (step_pre HP1.out).mono ?_; rintro e w2 ⟨rfl, ht2⟩
            have HP2 := Lib.hid (HP1.out.next ht2.out)
            have HB2 := Lib.hid (ht2.out.keep.block_of HB.out (by omega))
            go_wp2_with fail
            refine (take_ok HP2.out 110 HK2.out).mono ?_; rintro e w3 ⟨rfl, ht3⟩
            have HB3 := Lib.hid (ht3.out.keep.block_of HB2.out (by omega))
            obtain ⟨d0, d1, d2, d3, d4, d5, df⟩ := six HB3.out
            have hz : w.heap.size < w3.heap.size := block_lt HB3.out
            go_wp2
            refine bodyPost_form rfl rfl (block_alloc_old (set6 HB3.out) _) rfl ?_
            rw [HQ.out]
            have hz1 := ht1.out.keep.size
            simp only [World.size_alloc] at hz1
            exact ⟨_, rfl, RForm.leaf _ 0 eb (RStrs.nil _ _) (RStrs.of_own (two_strs _ w3.heap.size (by simp) r.text _) (fun b hb _ => by unfold New; omega)), (((ht1.out.new.trans ht2.out).trans ht3.out).set6 (Nat.le_refl _) hlt _ _ _ _ _ _).alloc _, (stepR_ok HP2.out.ok.pos).1⟩

        | false =>
          have HQ := Lib.hid (show atomP s r = .err (stepR s r.pos).at_ from by unfold atomP takeP; rw [if_pos hk]; simp only [Res.bind_ok]; rw [if_neg (by rw [hb1]; simp), if_neg (by rw [hb2]; simp), if_neg (by rw [hb3]; simp)])
          have HB1 := Lib.hid hb1
          have HB2' := Lib.hid hb2
          have HB3' := Lib.hid hb3
          clear hk hb1 hb2 hb3
          go_enter Tryz.func79, Tryz.ntmps79
          go_wp2_with fail
          refine (take_ok (HP.out.alloc _) 110 HK.out).mono ?_; rintro e w1 ⟨rfl, ht1⟩
          have HP1 := Lib.hid ((HP.out.alloc _).to ht1.out HO1.out)
          go_wp2_with fail
          refine (is_any HP1.out.rd _).mono ?_; rintro e w' ⟨rfl, rfl⟩; rw [HB1.out]
          go_wp2_with fail
          refine (is_any HP1.out.rd _).mono ?_; rintro e w' ⟨rfl, rfl⟩; rw [HB2'.out]
          go_wp2_with fail
          refine (is_any HP1.out.rd _).mono ?_; rintro e w' ⟨rfl, rfl⟩; rw [HB3'.out]
          go_wp2_with fail
          refine (fail_any HP1.out.rd).mono ?_; rintro e w' ⟨rfl, rfl⟩
          go_wp2
          exact ⟨rfl, by rw [HQ.out]; exact ⟨rfl, ht1.out.new.keep⟩⟩
end Go.Proofs.YtadnnijdbcdkjaaGreatDoor
