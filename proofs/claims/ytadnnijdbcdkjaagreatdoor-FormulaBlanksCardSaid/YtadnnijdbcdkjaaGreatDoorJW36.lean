/-
  The program's free: the free variables of a formula, collected in a map. Conditions: the value reads as a formula whose names' lengths are lengths.
-/
import Derived.Test.YtadnnijdbcdkjaaGreatDoorJW35
import Derived.Test.YtadnnijdbcdkjaaGreatDoorJA
namespace Go.Proofs.YtadnnijdbcdkjaaGreatDoor
open Go.RowKit Go.ChangeShapes Go.Maps Go.MapKept Go.WideShapes

theorem hBool : Tryz.prog.underlying 4 = some .bool := by kernel_rfl
theorem hMB : Tryz.prog.underlying 82 = some (.map 9 4) := by kernel_rfl
/-- All blocks but two. -/
def But2 (x y : Nat) (b : Nat) : Prop := b ≠ x ∧ b ≠ y
/-- Where free stands. -/
structure FreeAt (u w : World) (bb ob n m : Nat) (D O : DataW Unit) : Prop where
  bnd : w.ownsMap Tryz.prog 9 (plainElem Tryz.prog 3) bb n D
  out : w.ownsMap Tryz.prog 9 (plainElem Tryz.prog 4) ob m O
  fr : Fr (But2 bb ob) u w
  nb : NB D n
theorem owns_isMap {P : Program} {k : TypeId} {R : Value → Option (DataW Unit × List MemPlace)} {b n : Nat} {D : DataW Unit} {w : World} (h : w.ownsMap P k R b n D) : IsMap D := by
  obtain ⟨es, clock, hb, F, hs, rfl⟩ := h; exact ⟨_, rfl⟩
theorem FreeAt.look {u w : World} {bb ob n m : Nat} {D O : DataW Unit} (h : FreeAt u w bb ob n m D O) {x : ByteArray} (hx : x.size ≤ maxLen) : (Instr.lookup 77 (.map (some bb)) (.string x) false).run Tryz.prog w = .ok (.int .i64 (numAt D x)) w := by
  obtain ⟨c, hrun, hat, _⟩ := h.bnd.lookup_int law hMI hInt (zInt w) (key_of hx)
  rw [hrun]
  unfold numAt
  rw [hat]
  rfl
theorem FreeAt.putB {u w w' : World} {bb ob n m : Nat} {D O : DataW Unit} (h : FreeAt u w bb ob n m D O) (hne : bb ≠ ob) {v : ByteArray} {d : Int} (hd : -1 ≤ d ∧ d ≤ 1) (ho : w'.ownsMap Tryz.prog 9 (plainElem Tryz.prog 3) bb (n + 1) (D.put (keyL v) (.lit (.int .i64 (numAt D v + d))))) (hg : w.grownBy w' (some bb)) :
    FreeAt u w' bb ob (n + 1) m (D.put (keyL v) (.lit (.int .i64 (numAt D v + d)))) O :=
  ⟨ho, h.out.kept hg (fun e => hne (by simpa using e.symm)), h.fr.trans (Fr.grown hg (fun j hj => by cases hj; exact fun k => k.1 rfl)), h.nb.put (owns_isMap h.bnd) v hd⟩
theorem FreeAt.putO {u w w' : World} {bb ob n m : Nat} {D O O' : DataW Unit} (h : FreeAt u w bb ob n m D O) (hne : bb ≠ ob) (ho : w'.ownsMap Tryz.prog 9 (plainElem Tryz.prog 4) ob (m + 1) O') (hg : w.grownBy w' (some ob)) :
    FreeAt u w' bb ob n (m + 1) D O' :=
  ⟨h.bnd.kept hg (fun e => hne (by simpa using e)), ho, h.fr.trans (Fr.grown hg (fun j hj => by cases hj; exact fun k => k.2 rfl)), h.nb⟩
theorem FreeAt.monoO {u w : World} {bb ob n m m' : Nat} {D O : DataW Unit} (h : FreeAt u w bb ob n m D O) (hm : m ≤ m') : FreeAt u w bb ob n m' D O := ⟨h.bnd, h.out.mono hm, h.fr, h.nb⟩
theorem FreeAt.below {u w w' : World} {bb ob n m : Nat} {D O : DataW Unit} (h : FreeAt u w bb ob n m D O) (hb : Below w.heap.size w w') : FreeAt u w' bb ob n m D O :=
  ⟨h.bnd.kept (grown_below hb none) (by simp), h.out.kept (grown_below hb none) (by simp), h.fr.trans (Fr.of_below hb), h.nb⟩

/-- What free comes to at one formula. -/
def SFr (F : Form) : Prop := ∀ (w : World) (Q : Nat → Prop) (v : Value) (bb ob n m : Nat) (D O : DataW Unit), RForm w Q v F → okF F → (∀ b, Q b → But2 bb ob b) → bb ≠ ob → FreeAt w w bb ob n m D O → n + 2 * vtsB F ≤ 1000000000 → m + atsB F ≤ 1000000000 →
  Calls Tryz.prog 51 #[v, .map (some bb), .map (some ob)] w fun e w' => e = .returned (.tuple #[]) ∧ FreeAt w w' bb ob (n + 2 * vtsB F) (m + atsB F) (freeW F D O).1 (freeW F D O).2

theorem okF_args {F : Form} (h : okF F) : ∀ x ∈ F.args, x.size ≤ maxLen := by
  cases F with
  | mk k a n vars args kids => exact h.2.2.1
theorem okF_vars {F : Form} (h : okF F) : ∀ x ∈ F.vars, x.size ≤ maxLen := by
  cases F with
  | mk k a n vars args kids => exact h.2.1
theorem getD_mem' {l : List ByteArray} {j : Nat} (h : j < l.length) : l.getD j eb ∈ l := by
  rw [List.getD_eq_getElem?_getD, List.getElem?_eq_getElem h]; simp
/-- Where the loop over arguments stands. -/
def ArgsAt (u : World) (bb ob n m : Nat) (D O : DataW Unit) (l : List ByteArray) (k : Nat) (v : Value) (wr : World) : Prop :=
  ∃ j O', j ≤ l.length ∧ k = l.length - j ∧ v = .int .i64 (j : Nat) ∧ FreeAt u wr bb ob n (m + j) D O' ∧ argsW D (l.drop j) O' = argsW D l O
/-- Where a loop over variables stands. -/
def VarsAt (u : World) (bb ob n m : Nat) (D O : DataW Unit) (d : Int) (l : List ByteArray) (k : Nat) (v : Value) (wr : World) : Prop :=
  ∃ j D', j ≤ l.length ∧ k = l.length - j ∧ v = .int .i64 (j : Nat) ∧ FreeAt u wr bb ob (n + j) m D' O ∧ varsW d (l.drop j) D' = varsW d l D
/-- Where the loop over kids stands. -/
def KidsAt (u : World) (bb ob N M : Nat) (D O : DataW Unit) (l : List Form) (k : Nat) (v : Value) (wr : World) : Prop :=
  ∃ j n m D' O', j ≤ l.length ∧ k = l.length - j ∧ v = .int .i64 (j : Nat) ∧ FreeAt u wr bb ob n m D' O' ∧ freesW (l.drop j) D' O' = freesW l D O ∧ n + 2 * vtsL (l.drop j) = N ∧ m + atsL (l.drop j) = M

theorem FreeAt.monoB {u w : World} {bb ob n n' m : Nat} {D O : DataW Unit} (h : FreeAt u w bb ob n m D O) (hn : n ≤ n') : FreeAt u w bb ob n' m D O := ⟨h.bnd.mono hn, h.out, h.fr, h.nb.mono hn⟩
theorem wrap_small {z : Int} {n : Nat} (h : -(n : Int) ≤ z ∧ z ≤ n) (hn : n ≤ 1000000000) : wrap64 (z + 1) = z + 1 ∧ wrap64 (z - 1) = z - 1 ∧ (Lit.int .i64 (z + 1)).wf = true ∧ (Lit.int .i64 (z - 1)).wf = true := by
  refine ⟨by unfold wrap64; omega, by unfold wrap64; omega, WalkArith.wf_i64 (by omega), WalkArith.wf_i64 (by omega)⟩
theorem plain_wrap {z z' : Int} (h : wrap64 z = z) (hw : (Lit.int .i64 z).wf = true) (e : z' = z) : plainElem (H := Unit) Tryz.prog 3 (.int .i64 (wrap64 z)) = some (.lit (.int .i64 z'), []) := by
  rw [h, e]; exact plainElem_int hInt hw
set_option maxRecDepth 100000 in
set_option maxHeartbeats 2000000 in
theorem free_step {F : Form} (ih : ∀ G ∈ F.kids, SFr G) : SFr F := by
  intro w Q v bb ob n m D O h hok hQ hne hst hn hm
  obtain ⟨k, a, nm, a1, m1, c1, a2, m2, c2, a3, m3, c3, rfl⟩ := form_shape h
  have HF := Lib.hid h
  have HOK := Lib.hid hok
  have HQ := Lib.hid hQ
  have HS := Lib.hid hst
  have IH := Lib.hid ih
  clear h hok hQ hst ih
  go_enter Tryz.func51, Tryz.ntmps51
  go_upto_region 1 with (fail)
  have hb0 := below_one w (.cells #[.int .i64 k, .int .i64 a, .string nm, .slice a1 m1 c1, .slice a2 m2 c2, .slice a3 m3 c3] 31)
  have hbx := block_alloc_new w (.cells #[.int .i64 k, .int .i64 a, .string nm, .slice a1 m1 c1, .slice a2 m2 c2, .slice a3 m3 c3] 31)
  have HX := Lib.hid hbx
  have HB := Lib.hid hb0
  have HS1 := Lib.hid (FreeAt.mk (HS.out.below hb0).bnd (HS.out.below hb0).out (Fr.refl _ _) HS.out.nb)
  have HF1 := Lib.hid (HF.out.under hb0)
  have HXK := Lib.hid (show But2 bb ob w.heap.size from ⟨fun e => by have := HS.out.bnd.lt; omega, fun e => by have := HS.out.out.lt; omega⟩)
  clear hb0 hbx HF
  generalize w.alloc (.cells #[.int .i64 k, .int .i64 a, .string nm, .slice a1 m1 c1, .slice a2 m2 c2, .slice a3 m3 c3] 31) = u1 at *
  generalize hXe : w.heap.size = X at *
  have HXE := Lib.hid hXe
  clear hXe
  have HRF := Lib.hid (fun (wr : World) (h : Fr (But2 bb ob) u1 wr) => (HF1.out.stay h.size (fun b hb hl => h.block b (HQ.out b hb) hl) (fun _ hq _ => hq) : RForm wr Q _ F))
  have HRX := Lib.hid (fun (wr : World) (h : Fr (But2 bb ob) u1 wr) => (h.block X HXK.out (block_lt HX.out)).trans HX.out)
  obtain ⟨d0, d1, d2, d3, d4, d5, -⟩ := six HX.out
  have hm2 := (strs_len HF1.out.kids_of.2.2.1).1
  have hm1 := (strs_len HF1.out.kids_of.2.1).1
  have hm3 := (kids_len HF1.out.kids_of.1).1
  have hmax2 := (strs_len HF1.out.kids_of.2.2.1).2
  have hmax1 := (strs_len HF1.out.kids_of.2.1).2
  have hmax3 := (kids_len HF1.out.kids_of.1).2
  unfold maxLen at hmax1 hmax2 hmax3
  rw [vtsB_eq] at hn
  rw [atsB_eq] at hm
  subst hm2
  subst hm1
  subst hm3
  go_wp2
  go_loopg [17] F.args.length (fun k v wr => ArgsAt u1 bb ob n m D O F.args k v wr)
  case atStart => exact ⟨0, O, Nat.zero_le _, rfl, rfl, HS1.out, rfl⟩
  case round =>
    obtain ⟨j, O', hj, rfl, rfl, hfa, hw⟩ := hrel
    clear d0 d1 d2 d3 d4 d5
    have HFA := Lib.hid hfa
    have HW := Lib.hid hw
    clear hw
    by_cases hlt : j < F.args.length
    · have HR := Lib.hid (HRF.out wr hfa.fr).kids_of.2.2.1
      obtain ⟨b, o, rfl, _, hlc, hcm, hq, hbs, hcell⟩ := HR.out.cell (by omega)
      have hx := hcell j hlt
      have hji : (j : Int) < (F.args.length : Int) := by omega
      have hj0 : (0 : Int) ≤ (j : Int) := by omega
      have hlt2 := hlt
      have hxs := okF_args HOK.out (F.args.getD j eb) (getD_mem' hlt)
      have hlk := hfa.look hxs
      have HWS := Lib.hid (argsW_drop (D := D) (O := O') hlt)
      clear hcell hq hfa
      generalize F.args.getD j eb = x at *
      by_cases hz : numAt D x = 0
      · have hq0 : (numAt D x == 0) = true := by simp [hz]
        have HZ := Lib.hid hz
        clear hz
        go_wp2_with (at_mapUpdate; refine wpList_mapUpdate_own _ rfl _ _ _ 82 rfl 9 4 law hMB _ ob (m + j) _ rfl HFA.out.out (by unfold maxLen; omega) _ _ _ rfl rfl (key_of hxs) _ [] (plainElem_bool hBool true) ?_; intro w7 hown7 hg7; have HO7 := Lib.hid hown7; have HG7 := Lib.hid hg7; clear hown7 hg7)
        go_roundg (F.args.length - (j + 1))
        case measure => omega
        case rel =>
          refine ⟨j + 1, _, hlt2, rfl, by first | exact next_int (show j + 1 ≤ maxLen by unfold maxLen; omega) | go_num, HFA.out.putO hne HO7.out HG7.out, ?_⟩
          rw [← HW.out, HWS.out, if_pos HZ.out]
      · have hq0 : (numAt D x == 0) = false := by simp [hz]
        have HZ := Lib.hid hz
        clear hz
        go_wp2_with fail
        go_roundg (F.args.length - (j + 1))
        case measure => omega
        case rel =>
          refine ⟨j + 1, _, hlt2, rfl, by first | exact next_int (show j + 1 ≤ maxLen by unfold maxLen; omega) | go_num, HFA.out.monoO (by omega), ?_⟩
          rw [← HW.out, HWS.out, if_neg HZ.out]
    · have hji : ¬ (j : Int) < (F.args.length : Int) := by omega
      have hO1 : O' = argsW D F.args O := by rw [← HW.out, List.drop_eq_nil_of_le (by omega), argsW]
      have HO1 := Lib.hid hO1
      have hjl : m + j ≤ m + F.args.length := by omega
      have HA1 := Lib.hid (hfa.monoO hjl)
      clear hO1 hfa HFA HW hj hjl
      obtain ⟨wo, rfl⟩ : ∃ wo, wo = wr := ⟨_, rfl⟩
      obtain ⟨d0, d1, d2, d3, d4, d5, -⟩ := six (HRX.out wo HA1.out.fr)
      go_wp2
      go_loopg [31] F.vars.length (fun k v wr => VarsAt u1 bb ob n (m + F.args.length) D O' 1 F.vars k v wr)
      case atStart => exact ⟨0, D, Nat.zero_le _, rfl, rfl, HA1.out, rfl⟩
      case round =>
        obtain ⟨j, D', hj, rfl, rfl, hfa, hw⟩ := hrel
        clear d0 d1 d2 d3 d4 d5
        have HFA := Lib.hid hfa
        have HW := Lib.hid hw
        clear hw
        by_cases hlt : j < F.vars.length
        · have HR := Lib.hid (HRF.out wr hfa.fr).kids_of.2.1
          obtain ⟨b, o, rfl, _, hlc, hcm, hq, hbs, hcell⟩ := HR.out.cell (by omega)
          have hx := hcell j hlt
          have hji : (j : Int) < (F.vars.length : Int) := by omega
          have hj0 : (0 : Int) ≤ (j : Int) := by omega
          have hlt2 := hlt
          have hxs := okF_vars HOK.out (F.vars.getD j eb) (getD_mem' hlt)
          have hlk := hfa.look hxs
          have HWS := Lib.hid (varsW_drop (d := 1) (D := D') hlt)
          have hnb := hfa.nb (F.vars.getD j eb)
          clear hcell hq hfa
          generalize F.vars.getD j eb = x at *
          obtain ⟨hw1, hw2, hwf1, hwf2⟩ := wrap_small hnb (by omega)
          have HWF := Lib.hid (And.intro (plain_wrap (z' := numAt D' x + 1) hw1 hwf1 rfl) (plain_wrap (z' := numAt D' x + -1) hw2 hwf2 rfl))
          clear hwf1 hwf2 hnb
          go_wp2_with (at_mapUpdate; go_must (refine wpList_mapUpdate_own _ rfl _ _ _ 77 rfl 9 3 law hMI _ bb (n + j) _ rfl HFA.out.bnd (by unfold maxLen; omega) (.string x) (.int .i64 (wrap64 (numAt D' x + 1))) (keyL x) rfl rfl (key_of hxs) (.lit (.int .i64 (numAt D' x + 1))) [] HWF.out.1 ?_); intro w7 hown7 hg7; have HO7 := Lib.hid hown7; have HG7 := Lib.hid hg7; clear hown7 hg7)
          clear hw1 hw2
          go_roundg (F.vars.length - (j + 1))
          case measure => omega
          case rel =>
            refine ⟨j + 1, _, hlt2, rfl, by first | exact next_int (show j + 1 ≤ maxLen by unfold maxLen; omega) | go_num, HFA.out.putB hne (by decide) HO7.out HG7.out, ?_⟩
            rw [← HW.out, HWS.out]
        · have hji2 : ¬ (j : Int) < (F.vars.length : Int) := by omega
          have hD1 : D' = varsW 1 F.vars D := by rw [← HW.out, List.drop_eq_nil_of_le (by omega), varsW]
          have HD1 := Lib.hid hD1
          have HA2 := Lib.hid (hfa.monoB (show n + j ≤ n + F.vars.length by omega))
          clear hD1 hfa HFA HW hj
          obtain ⟨wo2, rfl⟩ : ∃ wo2, wo2 = wr := ⟨_, rfl⟩
          obtain ⟨d0, d1, d2, d3, d4, d5, -⟩ := six (HRX.out wo2 HA2.out.fr)
          go_wp2
          go_loopg [43] F.kids.length (fun k v wr => KidsAt u1 bb ob (n + F.vars.length + 2 * vtsL F.kids) (m + F.args.length + atsL F.kids) D' O' F.kids k v wr)
          case atStart => exact ⟨0, _, _, D', O', Nat.zero_le _, rfl, rfl, HA2.out, rfl, rfl, rfl⟩
          case round =>
            obtain ⟨j, nj, mj, Dj, Oj, hj, rfl, rfl, hfa, hw, hnn, hmm⟩ := hrel
            clear d0 d1 d2 d3 d4 d5
            have HFA := Lib.hid hfa
            have HW := Lib.hid hw
            clear hw
            by_cases hlt : j < F.kids.length
            · obtain ⟨b, o, k1, x1, nm1, y1, l1, z1, y2, l2, z2, y3, l3, z3, rfl, g0, g1, g2, g3, g4, g5, hf, hbl⟩ := kid_sh (HRF.out wr hfa.fr).kids_of.1 hlt
              have hji : (j : Int) < (F.kids.length : Int) := by omega
              have hj0 : (0 : Int) ≤ (j : Int) := by omega
              have hlt2 := hlt
              have HVD := Lib.hid (vtsL_drop hlt)
              have HAD := Lib.hid (atsL_drop hlt)
              have HFD := Lib.hid (freesW_drop (D := Dj) (O := Oj) hlt)
              have HIG := Lib.hid (IH.out _ (getD_mem hlt))
              have HOG := Lib.hid (okF_kids HOK.out _ (getD_mem hlt))
              have HKF := Lib.hid hf
              clear hf hfa
              generalize F.kids.getD j default = G at *
              have hv1 := HVD.out
              have hv2 := HAD.out
              have HSZ := Lib.hid (And.intro (show nj + 2 * vtsB G ≤ 1000000000 by omega) (show mj + atsB G ≤ 1000000000 by omega))
              have HNM := Lib.hid (And.intro (show nj + 2 * vtsB G + 2 * vtsL (F.kids.drop (j + 1)) = n + F.vars.length + 2 * vtsL F.kids by omega) (show mj + atsB G + atsL (F.kids.drop (j + 1)) = m + F.args.length + atsL F.kids by omega))
              clear hv1 hv2 hnn hmm
              go_wp2_with (go_at_call 51; refine (HIG.out _ Q _ bb ob nj mj Dj Oj (HKF.out.under (below_one wr _)) HOG.out HQ.out hne (FreeAt.mk (HFA.out.below (below_one wr _)).bnd (HFA.out.below (below_one wr _)).out (Fr.refl _ _) HFA.out.nb) HSZ.out.1 HSZ.out.2).mono ?_; rintro e w3 ⟨rfl, hfa3⟩; have HA3 := Lib.hid (FreeAt.mk hfa3.bnd hfa3.out ((HFA.out.below (below_one wr _)).fr.trans hfa3.fr) hfa3.nb); clear hfa3)
              go_roundg (F.kids.length - (j + 1))
              case measure => omega
              case rel =>
                refine ⟨j + 1, _, _, _, _, hlt2, rfl, by first | exact next_int (show j + 1 ≤ maxLen by unfold maxLen; omega) | go_num, HA3.out, ?_, HNM.out.1, HNM.out.2⟩
                rw [← HW.out, HFD.out]
            · have hji3 : ¬ (j : Int) < (F.kids.length : Int) := by omega
              have hkn : F.kids.drop j = [] := List.drop_eq_nil_of_le (by omega)
              rw [hkn, vtsL] at hnn
              rw [hkn, atsL] at hmm
              have HKD := Lib.hid (show freesW F.kids D' O' = (Dj, Oj) from by rw [← HW.out, hkn, freesW])
              have HA4 := Lib.hid hfa
              clear hkn hfa HFA HW hj
              obtain ⟨wo3, rfl⟩ : ∃ wo3, wo3 = wr := ⟨_, rfl⟩
              obtain ⟨d0, d1, d2, d3, d4, d5, -⟩ := six (HRX.out wo3 HA4.out.fr)
              go_wp2
              go_loopg [55] F.vars.length (fun k v wr => VarsAt u1 bb ob nj mj Dj Oj (-1) F.vars k v wr)
              case atStart => exact ⟨0, Dj, Nat.zero_le _, rfl, rfl, HA4.out, rfl⟩
              case round =>
                obtain ⟨j, D', hj, rfl, rfl, hfa, hw⟩ := hrel
                clear d0 d1 d2 d3 d4 d5
                have HFA := Lib.hid hfa
                have HW := Lib.hid hw
                clear hw
                by_cases hlt : j < F.vars.length
                · have HR := Lib.hid (HRF.out wr hfa.fr).kids_of.2.1
                  obtain ⟨b, o, rfl, _, hlc, hcm, hq, hbs, hcell⟩ := HR.out.cell (by omega)
                  have hx := hcell j hlt
                  have hji : (j : Int) < (F.vars.length : Int) := by omega
                  have hj0 : (0 : Int) ≤ (j : Int) := by omega
                  have hlt2 := hlt
                  have hxs := okF_vars HOK.out (F.vars.getD j eb) (getD_mem' hlt)
                  have hlk := hfa.look hxs
                  have HWS := Lib.hid (varsW_drop (d := -1) (D := D') hlt)
                  have hnb := hfa.nb (F.vars.getD j eb)
                  clear hcell hq hfa
                  generalize F.vars.getD j eb = x at *
                  obtain ⟨hw1, hw2, hwf1, hwf2⟩ := wrap_small hnb (by omega)
                  have HWF := Lib.hid (And.intro (plain_wrap (z' := numAt D' x + 1) hw1 hwf1 rfl) (plain_wrap (z' := numAt D' x + -1) hw2 hwf2 rfl))
                  clear hwf1 hwf2 hnb
                  go_wp2_with (at_mapUpdate; go_must (refine wpList_mapUpdate_own _ rfl _ _ _ 77 rfl 9 3 law hMI _ bb (nj + j) _ rfl HFA.out.bnd (by unfold maxLen; omega) (.string x) (.int .i64 (wrap64 (numAt D' x - 1))) (keyL x) rfl rfl (key_of hxs) (.lit (.int .i64 (numAt D' x + -1))) [] HWF.out.2 ?_); intro w7 hown7 hg7; have HO7 := Lib.hid hown7; have HG7 := Lib.hid hg7; clear hown7 hg7)
                  clear hw1 hw2
                  go_roundg (F.vars.length - (j + 1))
                  case measure => omega
                  case rel =>
                    refine ⟨j + 1, _, hlt2, rfl, by first | exact next_int (show j + 1 ≤ maxLen by unfold maxLen; omega) | go_num, HFA.out.putB hne (by decide) HO7.out HG7.out, ?_⟩
                    rw [← HW.out, HWS.out]
                · have hji4 : ¬ (j : Int) < (F.vars.length : Int) := by omega
                  have hj2 : j = F.vars.length := by omega
                  have HD4 := Lib.hid (show D' = varsW (-1) F.vars Dj from by rw [← HW.out, List.drop_eq_nil_of_le (by omega), varsW])
                  have HA5 := Lib.hid hfa
                  go_wp2
                  (first | go_end0 | refine bodyPost_ret (results_none rfl _ _ _) rfl ?_)
                  refine ⟨rfl, ?_⟩
                  have e1 : (freeW F D O).1 = D' := by rw [freeW_eq, ← HO1.out, ← HD1.out, HKD.out, HD4.out]
                  have e2 : (freeW F D O).2 = Oj := by rw [freeW_eq, ← HO1.out, ← HD1.out, HKD.out]
                  have e3 : n + 2 * vtsB F = nj + j := by rw [vtsB_eq]; omega
                  have e4 : m + atsB F = mj := by rw [atsB_eq]; omega
                  rw [e1, e2, e3, e4]
                  have hB := HB.out
                  rw [← HXE.out] at hB
                  exact ⟨HA5.out.bnd, HA5.out.out, (Fr.of_below hB).trans HA5.out.fr, HA5.out.nb⟩
theorem free_any (F : Form) : SFr F := form_ind (p := SFr) (fun _ ih => free_step ih) _ F (Nat.lt_succ_self _)
end Go.Proofs.YtadnnijdbcdkjaaGreatDoor
