/-
  Contract of the reader's method kids, from formula's. Conditions: as in the texts before.
-/
import Derived.Test.YtadnnijdbcdkjaaGreatDoorJOwn
namespace Go.Proofs.YtadnnijdbcdkjaaGreatDoor
open Go.RowKit

theorem Tryz.infoForm : (Tryz.prog.info? 31).map (fun i => (i.zero, i.size, i.bytes)) = some (some (.agg #[.int .i64 0, .int .i64 0, .string ⟨#[]⟩, .slice none 0 0, .slice none 0 0, .slice none 0 0]), 6, 104) := by kernel_rfl

/-- Where the loop of kids stands. -/
def MoreAt (w : World) (rb : Nat) (s : ByteArray) (res : Res (List Form)) (n k : Nat) (v : Value) (wr : World) : Prop :=
  ∃ rr acc, Okr s rr ∧ To w wr rb s rr ∧ OwnForms w.heap.size acc v wr ∧ moreP s k acc rr = res ∧ acc.length + k ≤ n + 1

theorem oneCell_form {k a : Int} {nm : ByteArray} {a1 a2 a3 : Option Addr} {n1 n2 n3 c1 c2 c3 : Nat} : ∀ u ∈ [Value.int .i64 k, .int .i64 a, .string nm, .slice a1 n1 c1, .slice a2 n2 c2, .slice a3 n3 c3], u.oneCell' = true := by
  intro u hu
  simp only [List.mem_cons, List.not_mem_nil, or_false] at hu
  rcases hu with rfl | rfl | rfl | rfl | rfl | rfl <;> rfl
theorem cells_new6 (w : World) (c0 c1 c2 c3 c4 c5 : Value) (t : TypeId) : ∀ j u, [c0, c1, c2, c3, c4, c5][j]? = some u → (w.alloc (.cells #[c0, c1, c2, c3, c4, c5] t)).cell? ((⟨w.heap.size, 0, none⟩ : Addr).add j) = some u := by
  intro j u h
  have hb := block_alloc_new w (.cells #[c0, c1, c2, c3, c4, c5] t)
  rw [show (⟨w.heap.size, 0, none⟩ : Addr).add j = ⟨w.heap.size, j, none⟩ by unfold Addr.add; split <;> simp_all]
  rw [cell_of_block hb]
  simpa using h


set_option maxHeartbeats 1600000 in
set_option maxRecDepth 100000 in
theorem kids_step (n : Nat) (hn : n ≤ 1000000000) (ih : ∀ m, m ≤ n → SF m) : SK (n + 1) := by
  obtain ⟨i0, hi, hz0, hz1, hz2⟩ := info_parts Tryz.infoForm
  intro w rb s r h hne
  have HP := Lib.hid h
  have hlt := h.rd.lt
  have IH := Lib.hid ih
  clear h ih
  unfold kidsP at hne ⊢
  cases hk1 : isB r ⟨#[41]⟩ with
  | true =>
    rw [if_pos rfl]
    have HK := Lib.hid hk1
    have HO1 := Lib.hid (stepR_ok HP.out.ok.pos).1
    clear hk1 hne
    go_enter Tryz.func82, Tryz.ntmps82
    go_wp2_with (first | (go_at_call 104; refine (is_any HP.out.rd _).mono ?_; rintro e w' ⟨rfl, rfl⟩; rw [HK.out]) | (go_at_call 46; refine (step_pre HP.out).mono ?_; rintro e w1 ⟨rfl, ht1⟩))
    go_ret
    exact ⟨_, rfl, RKids.nil _ _, ht1.out, HO1.out⟩
  | false =>
    rw [hk1] at hne
    simp only [Bool.false_eq_true, if_false] at hne ⊢
    have HK := Lib.hid hk1
    clear hk1
    cases hf : formulaP s n r with
    | out => rw [hf] at hne; exact absurd rfl hne
    | err i =>
      simp only [Res.bind_err]
      have HF := Lib.hid hf
      clear hf hne
      go_enter Tryz.func82, Tryz.ntmps82
      go_wp2_with (go_at_call 104; refine (is_any HP.out.rd _).mono ?_; rintro e w' ⟨rfl, rfl⟩; rw [HK.out])
      refine (IH.out n (Nat.le_refl _) w rb s _ HP.out (by rw [HF.out]; simp)).mono ?_; intro e w2 hp2; rw [HF.out] at hp2; obtain ⟨rfl, hkp⟩ := hp2
      have HKP := Lib.hid hkp
      clear hkp
      go_wp2
      exact ⟨rfl, rfl, HKP.out⟩
    | ok F r2 =>
      rw [hf] at hne
      simp only [Res.bind_ok] at hne ⊢
      have HF := Lib.hid hf
      clear hf
      generalize hres : moreP s n [F] r2 = res at *
      have HR := Lib.hid hres
      have HN := Lib.hid hne
      clear hres hne
      go_enter Tryz.func82, Tryz.ntmps82
      go_wp2_with (go_at_call 104; refine (is_any HP.out.rd _).mono ?_; rintro e w' ⟨rfl, rfl⟩; rw [HK.out])
      refine (IH.out n (Nat.le_refl _) w rb s _ HP.out (by rw [HF.out]; simp)).mono ?_; intro e w2 hp2; rw [HF.out] at hp2; obtain ⟨v, rfl, hform, ht2, ho2⟩ := hp2
      obtain ⟨k, a, nm, a1, n1, c1, a2, n2, c2, a3, n3, c3, rfl⟩ := form_shape hform
      have HX := Lib.hid (And.intro hform (And.intro ht2 ho2))
      have hz2' := ht2.keep.size
      clear hform ht2 ho2
      go_wp2_with (at_builtin; refine wpList_append_two rfl _ _ 29 rfl w.heap.size 31 i0 _ 6 104 Tryz.underlying29 hi hz0 hz1 hz2 rfl (by decide) _ _ _ rfl (World.ownsRow_nil _ _ _ _) ⟨w2.heap.size, 0, none⟩ 1 1 [.int .i64 k, .int .i64 a, .string nm, .slice a1 n1 c1, .slice a2 n2 c2, .slice a3 n3 c3] rfl rfl (cells_new6 _ _ _ _ _ _ _ _) oneCell_form (by omega) (by unfold maxLen; omega) (by omega) ?c5 ?_)
      case c5 => simp; omega
      intro v1 w3 hown3 hg3 hob3
      have HM : Hid (MoreAt w rb s res n n v1 w3) := by
        obtain ⟨hform, ht2, ho2⟩ := HX.out
        refine ⟨r2, [F], ho2, ?_, ?_, HR.out, by simp; omega⟩
        · exact ⟨(ht2.rd.below ((Below.refl _ _).alloc (Nat.le_refl _) _)).grown hg3 (fun k hk => by cases hk), (ht2.keep.alloc _).grown hg3 (fun k hk => by cases hk)⟩
        · refine OwnForms.push (l := []) (v := .slice none 0 0) (World.ownsRow_nil _ _ _ _) (fun i hi => by simp at hi) (hform.stay (by simp) (fun b _ hb => Below.heap_alloc _ _ _ hb) (fun b hb _ => hb)) (fun b hb => ⟨hb, by simp [Value.ownBlock]⟩) hown3 hg3 (by simpa using hob3)
      clear hown3 hg3 hob3 HX HF HR
      go_wp2
      go_loopg [3] n (fun k v wr => MoreAt w rb s res n k v wr)
      case atStart => exact HM.out
      case round =>
        obtain ⟨rr, acc, hok, ht, hown, hmore, hlen⟩ := hrel
        have hpr : Pre wr rb s rr := HP.out.to ht hok
        have hnr : moreP s gk acc rr ≠ .out := by rw [hmore]; exact HN.out
        obtain ⟨m, rfl⟩ : ∃ m, gk = m + 1 := by
          cases gk with
          | zero => exact absurd rfl hnr
          | succ m => exact ⟨m, rfl⟩
        unfold moreP at hmore
        cases hc : isB rr ⟨#[44]⟩ with
        | true =>
          rw [hc] at hmore
          simp only [if_true] at hmore
          have HC := Lib.hid hc
          have HPR := Lib.hid hpr
          have HO1 := Lib.hid (stepR_ok hok.pos).1
          cases hf : formulaP s m (stepR s rr.pos) with
          | out => rw [hf] at hmore; exact absurd hmore.symm HN.out
          | err i =>
            rw [hf] at hmore
            simp only [Res.bind_err] at hmore
            have HF := Lib.hid hf
            have HM2 := Lib.hid hmore
            have HT := Lib.hid ht
            have hm : m ≤ n := by omega
            clear hmore hf hpr hnr hok ht hown hc hlen
            go_wp2_with (first | (go_at_call 104; refine (is_any HPR.out.rd _).mono ?_; rintro e w' ⟨rfl, rfl⟩; rw [HC.out]) | (go_at_call 46; refine (step_pre HPR.out).mono ?_; rintro e w5 ⟨rfl, ht5⟩))
            refine (IH.out m hm w5 rb s _ (HPR.out.next ht5.out) (by rw [HF.out]; simp)).mono ?_; intro e w6 hp6; rw [HF.out] at hp6; obtain ⟨rfl, hkp⟩ := hp6
            have HKP := Lib.hid hkp
            clear hkp
            go_wp2
            refine ⟨rfl, ?_⟩
            rw [← HM2.out]
            exact ⟨rfl, (HT.out.keep.trans ht5.out.keep).trans HKP.out⟩
          | ok F2 r3 =>
            rw [hf] at hmore
            simp only [Res.bind_ok] at hmore
            have HF := Lib.hid hf
            have HM2 := Lib.hid hmore
            have HT := Lib.hid ht
            obtain ⟨xs, hox, hxf⟩ := hown
            have HOX := Lib.hid hox
            have HXF := Lib.hid hxf
            have hm : m ≤ n := by omega
            have hsz := ht.keep.size
            clear hmore hf hpr hnr hok ht hox hxf hc
            go_wp2_with (first | (go_at_call 104; refine (is_any HPR.out.rd _).mono ?_; rintro e w' ⟨rfl, rfl⟩; rw [HC.out]) | (go_at_call 46; refine (step_pre HPR.out).mono ?_; rintro e w5 ⟨rfl, ht5⟩))
            refine (IH.out m hm w5 rb s _ (HPR.out.next ht5.out) (by rw [HF.out]; simp)).mono ?_; intro e w6 hp6; rw [HF.out] at hp6; obtain ⟨v6, rfl, hform, ht6, ho6⟩ := hp6
            obtain ⟨k, a, nm, a1, n1, c1, a2, n2, c2, a3, n3, c3, rfl⟩ := form_shape hform
            have hz5 := ht5.out.keep.size
            have hz6 := ht6.keep.size
            have HX := Lib.hid (And.intro hform (And.intro ht6 ho6))
            have HK6 := Lib.hid (ht5.out.keep.trans ht6.keep)
            clear hform ht6 ho6
            go_wp2_with (at_builtin; refine wpList_append_two rfl _ _ 29 rfl w.heap.size 31 i0 _ 6 104 Tryz.underlying29 hi hz0 hz1 hz2 rfl (by decide) _ _ _ rfl ((ownsRow_keep HOX.out HK6.out hlt).alloc _) ⟨w6.heap.size, 0, none⟩ 1 1 [.int .i64 k, .int .i64 a, .string nm, .slice a1 n1 c1, .slice a2 n2 c2, .slice a3 n3 c3] rfl rfl (cells_new6 _ _ _ _ _ _ _ _) oneCell_form (by omega) (by unfold maxLen; omega) (by omega) ?c5 ?_)
            case c5 => simp; omega
            intro v7 w7 hown7 hg7 hob7
            have hlt' := HOX.out.lt
            have HM : Hid (MoreAt w rb s res n m v7 w7) := by
              obtain ⟨hform, ht6, ho6⟩ := HX.out
              refine ⟨r3, acc ++ [F2], ho6, ?_, ?_, HM2.out, by simp; omega⟩
              · refine ⟨(ht6.rd.below ((Below.refl _ _).alloc (Nat.le_refl _) _)).grown hg7 (fun k hk => by have := hlt' k hk; omega), (((HT.out.keep.trans ht5.out.keep).trans ht6.keep).alloc _).grown hg7 (fun k hk => (hlt' k hk).1)⟩
              · refine OwnForms.push ((ownsRow_keep HOX.out HK6.out hlt).alloc _) (fun i hi => ((OwnForms.keep HXF.out HK6.out hlt) i hi).stay (by simp) (fun b _ hb => Below.heap_alloc _ _ _ hb) (fun b hb _ => hb)) (hform.stay (by simp) (fun b _ hb => Below.heap_alloc _ _ _ hb) (fun b hb _ => hb)) (fun b hb => ?_) hown7 hg7 (by simpa using hob7)
                unfold New at hb
                refine ⟨by omega, fun e => ?_⟩
                have := hlt' b e
                omega
            clear hown7 hg7 hob7 HX hlt'
            go_wp2
            go_roundg m
            case measure => omega
            case rel => exact HM.out
        | false =>
          rw [hc] at hmore
          simp only [Bool.false_eq_true, if_false] at hmore
          have HC := Lib.hid hc
          have HPR := Lib.hid hpr
          cases hb2 : isB rr ⟨#[41]⟩ with
          | true =>
            have e2 : needP s ⟨#[41]⟩ rr = .ok () (stepR s rr.pos) := by unfold needP; rw [if_pos hb2]
            rw [e2] at hmore
            simp only [Res.bind_ok] at hmore
            have HK2 := Lib.hid hb2
            have HM2 := Lib.hid hmore
            have HT := Lib.hid ht
            have HOW := Lib.hid hown
            have hsz := ht.keep.size
            clear hmore hpr hnr hok ht hown hc hb2 e2
            go_wp2_with (first | (go_at_call 104; refine (is_any HPR.out.rd _).mono ?_; rintro e w' ⟨rfl, rfl⟩; rw [HC.out]) | (go_at_call 81; refine (need_ok (HPR.out.alloc _) ⟨#[41]⟩ _ (cell_one_new _ _ _ 0 _ rfl) HK2.out).mono ?_; rintro e w8 ⟨rfl, ht8⟩))
            go_ret
            rw [← HM2.out]
            refine ⟨_, rfl, HOW.out.kids.stay ht8.out.new.keep.size (fun b hb hlt2 => ht8.out.new.keep.block b hlt2 ?_) (fun b hb _ => hb), HT.out.trans ht8.out.new, (stepR_ok HPR.out.ok.pos).1⟩
            unfold New at hb; omega
          | false =>
            have e2 : needP s ⟨#[41]⟩ rr = .err rr.at_ := by unfold needP; rw [if_neg (by rw [hb2]; simp)]
            rw [e2] at hmore
            simp only [Res.bind_err] at hmore
            have HK2 := Lib.hid hb2
            have HM2 := Lib.hid hmore
            have HT := Lib.hid ht
            clear hmore hpr hnr hok ht hown hc hb2 e2
            go_wp2_with (first | (go_at_call 104; refine (is_any HPR.out.rd _).mono ?_; rintro e w' ⟨rfl, rfl⟩; rw [HC.out]) | (go_at_call 81; refine (need_no (HPR.out.alloc _) ⟨#[41]⟩ _ (cell_one_new _ _ _ 0 _ rfl) HK2.out).mono ?_; rintro e w8 ⟨rfl, hkp⟩))
            refine ⟨rfl, ?_⟩
            rw [← HM2.out]
            exact ⟨rfl, HT.out.keep.trans hkp.out.new⟩
end Go.Proofs.YtadnnijdbcdkjaaGreatDoor
