/-
  The checker's look-ups, and the deferred closure that takes a relation off. Conditions: none.
-/
import Derived.Test.YtadnnijdbcdkjaaGreatDoorJW24
namespace Go.Proofs.YtadnnijdbcdkjaaGreatDoor
open Go.RowKit Go.ChangeShapes Go.Maps Go.MapKept Go.WideShapes

section
variable {w w' : World} {cb mb fb B n : Nat} {c : CK} {No : Nat → Prop}
theorem grown_drewN (w : World) (k : Nat) (r : Option Nat) : w.grownBy (w.drewN k) r := ⟨rfl, rfl, rfl, Nat.le_refl _, fun _ _ _ => rfl⟩
theorem numL_row {w : World} {B : Nat} {v : Value} {zs : List Int} (h : w.ownsInts B 3 .i64 v zs) : numL (rowDatum .i64 v zs) = zs := by
  have hl : (lits (H := Unit) .i64 zs).map (fun d => match d with | .lit (.int _ z) => z | _ => 0) = zs := by
    unfold lits
    rw [List.map_map]
    conv => rhs; rw [← List.map_id zs]
    exact List.map_congr_left fun x _ => rfl
  rcases h.datum (H := Unit) with ⟨e, rfl⟩ | e
  · rw [e]; rfl
  · rw [e]; exact hl

theorem CI.lookG (h : CI w cb mb fb B n c No) {nm : ByteArray} (hs : nm.size ≤ maxLen) : ∃ v zs, (∀ k, (Instr.lookup 76 (.map (some mb)) (.string nm) false).run Tryz.prog (w.drewN k) = .ok v (w.drewN k)) ∧ c.boundAt nm = zs ∧ w.ownsInts B 3 .i64 v zs ∧ zs.length ≤ n ∧
    w.groupBack Tryz.prog 76 9 B 3 .i64 mb n c.bound (.string nm) (keyL nm) v ∧ ∀ g, v.ownBlock = some g → ¬ No g := by
  have hn : n < maxLen := by have := h.cnt; unfold maxLen; omega
  obtain ⟨v, zs, hrun, hat, hoi, hzl, hback⟩ := h.grp.at law hMG (zInts w) hn (key_of hs)
  have hx := h.grp
  obtain ⟨es, clock, hb, F, _⟩ := hx
  obtain ⟨v', hv'⟩ := look_fixed (b := mb) false hString law hMG zInts F (key_of hs)
  have e := hv' w hb
  rw [hrun] at e
  cases e
  refine ⟨v, zs, fun k => hv' (w.drewN k) hb, ?_, hoi, hzl, hback, ?_⟩
  · unfold CK.boundAt
    rw [hat, numL_row hoi]
  · rcases Maps.fit_look false law hMG (zInts w) hb F (key_of hs) with ⟨hrun', _, _⟩ | ⟨e0, y, hm0, _, hrun', _, _, _⟩
    · rw [hrun] at hrun'
      obtain rfl : v = .slice none 0 0 := by simpa using hrun'
      intro g hg'
      cases hg'
    · rw [hrun] at hrun'
      obtain rfl : v = e0.val := by simpa using hrun'
      exact fun g hg' => h.shun es clock hb e0 hm0 g hg'

theorem CI.lookF (h : CI w cb mb fb B n c No) {nm : ByteArray} (hs : nm.size ≤ maxLen) : ∀ k, (Instr.lookup 77 (.map (some fb)) (.string nm) true).run Tryz.prog (w.drewN k) = .ok (.tuple #[.int .i64 (c.freeAt nm), .bool (Maps.has c.free (keyL nm))]) (w.drewN k) := by
  obtain ⟨v, ps, hrun, hv⟩ := h.fre.look_ok law hMI (zInt w) (plainElem_int hInt (by decide)) (key_of hs)
  obtain ⟨a, rfl, hd, _⟩ := plainElem_int_inv hInt hv
  have hx := h.fre
  obtain ⟨es, clock, hb, F, _⟩ := hx
  obtain ⟨v', hv'⟩ := look_fixed (b := fb) true hString law hMI zInt F (key_of hs)
  have e := hv' w hb
  rw [hrun] at e
  cases e
  intro k
  have := hv' (w.drewN k) hb
  rw [this]
  unfold CK.freeAt
  have hd' : c.free.atKey (keyL nm) (.lit (.int .i64 0)) = .lit (.int .i64 a) := by
    simp only [Prod.mk.injEq] at hd
    exact hd.1
  rw [hd']
  rfl

/-- A slice of numbers that is not empty. -/
theorem ints_cons {w : World} {B : Nat} {v : Value} {ys : List Int} {z : Int} (h : w.ownsInts B 3 .i64 v (ys ++ [z])) : ∃ g cap, v = .slice (some ⟨g, 0, none⟩) (ys.length + 1) cap ∧ ys.length + 1 ≤ cap ∧ cap ≤ maxLen ∧ w.cell? ⟨g, ys.length, none⟩ = some (.int .i64 z) ∧
    w.ownsInts B 3 .i64 (.slice (some ⟨g, 0, none⟩) ys.length cap) ys := by
  obtain ⟨⟨h1, h2⟩, h3⟩ := h
  rcases h2 with ⟨_, h0⟩ | ⟨g, cap, cur, rfl, hg, hh, hn, hm, hsz, htk⟩
  · simp at h0
  · have hlen : (ys ++ [z]).length = ys.length + 1 := by simp
    rw [hlen] at hn htk
    have hcl : ys.length < cur.toList.length := by simp; omega
    refine ⟨g, cap, by rw [hlen], hn, hm, ?_, ⟨by simp, .inr ⟨g, cap, cur, rfl, hg, hh, by omega, hm, hsz, ?_⟩⟩, fun x hx => h3 x (by simp [hx])⟩
    · rw [cell_of_block hh]
      have := congrArg (fun l => l[ys.length]?) htk
      simp only [List.getElem?_take, List.map_append] at this
      rw [if_pos (by omega)] at this
      simpa using this
    · have := congrArg (List.take ys.length) htk
      rw [List.take_take, List.map_append, List.take_append_of_le_length (by simp)] at this
      simp only [Nat.mul_one] at this ⊢
      rw [show min ys.length (ys.length + 1) = ys.length by omega] at this
      rw [this, List.take_of_length_le (by simp)]
end

/-- The two variables that the deferred closure captured. -/
structure Cap (w : World) (X1 X9 cb : Nat) (nm : ByteArray) : Prop where
  p : w.cell? ⟨X1, 0, none⟩ = some (.pointer (some ⟨cb, 0, none⟩))
  n : w.cell? ⟨X9, 0, none⟩ = some (.string nm)

set_option maxRecDepth 100000 in
set_option maxHeartbeats 2000000 in
theorem pop_any {w : World} {cb mb fb B n : Nat} {c : CK} {No : Nat → Prop} (h : CI w cb mb fb B n c No) {X1 X9 : Nat} {nm : ByteArray} (hs : nm.size ≤ maxLen) (hcap : Cap w X1 X9 cb nm) {ys : List Int} {z : Int} (hne : c.boundAt nm = ys ++ [z]) (hcnt : (n : Int) + 1 ≤ 2 * c.n) :
    CallsD Tryz.prog 108 #[.pointer (some ⟨X1, 0, none⟩), .pointer (some ⟨X9, 0, none⟩)] .returning w fun e u' w' => u' = .returning ∧ (e = .returned (.tuple #[]) ∧ CI w' cb mb fb B (n + 1) (c.pop nm) No ∧ Fr No w w') := by
  obtain ⟨v, zs, hl, hb, hoi, hzl, hback, hno⟩ := h.lookG hs
  have hzz : zs = ys ++ [z] := by rw [← hb, hne]
  subst hzz
  obtain ⟨g, cap, rfl, h1, h2, hcz, hoi'⟩ := ints_cons hoi
  obtain ⟨c0, c1, c2, c3, c4, cf⟩ := h.load
  have p1 := hcap.p
  have p2 := hcap.n
  have HH := Lib.hid (And.intro h (And.intro hoi (And.intro hoi' (And.intro hback (And.intro hno (And.intro hb hzl))))))
  clear h hoi hoi' hback hno hb hzl hcap hcz
  go_enter_d Tryz.func108, Tryz.ntmps108
  refine wp_region_qt_drew 20 (by kernel_rfl) (by kernel_rfl) ?_
  simp only [List.take_succ_cons, List.take_zero, List.drop_succ_cons, List.drop_zero]
  repeat (first | go_big_quiet_step (fail) | quiet_step (fail))
  have hw : wrap64 (ys.length : Int) = (ys.length : Int) := by unfold maxLen at h2; unfold wrap64; omega
  have hj0 : (0 : Int) ≤ (ys.length : Int) := by omega
  have hj1 : (ys.length : Int) ≤ (cap : Int) := by omega
  rw [hw]
  clear hw
  repeat (first | go_big_quiet_step (fail) | quiet_step (fail))
  refine wpQuiet_nil ?_
  intro w2 hw2
  obtain ⟨n2, rfl⟩ := hw2
  obtain ⟨h, hoi, hoi', hback, hno, hb, hzl⟩ := HH.out
  have hlen : (ys ++ [z]).length = ys.length + 1 := by simp
  refine wpList_mapUpdate_back_shuns (w0 := w) (No := No) (v' := .slice (some ⟨g, 0, none⟩) ys.length cap) (zs' := ys) (w := w.drewN n2) rfl _ _ _ 76 rfl law hMG (key_of hs) h.grp (by have := h.cnt; unfold maxLen; omega) hoi h.shun (fun k hk => hno k hk) hback rfl rfl rfl (grown_drewN w n2 _) hoi' (by omega) (.inl rfl) ?_
  intro w3 hg3 hgr3 hsh3
  have hC : CI w3 cb mb fb B (n + 1) (c.pop nm) No := by
    have hgr : w.grownBy w3 (some mb) := ⟨hgr3.os, hgr3.tape, hgr3.output, hgr3.size, hgr3.block⟩
    refine ⟨(hgr.block cb h.clt (by simpa using (Ne.symm h.mc))).trans h.cell, ?_, ?_, hsh3, h.off, ⟨h.low.1, h.low.2.1, Nat.le_trans h.low.2.2 hgr.size⟩, h.ne, ⟨h.cnt.1, by have := h.cnt; show ((n + 1 : Nat) : Int) ≤ 2 * c.n; omega, h.cnt.2.2⟩, fun b hN => Nat.lt_of_lt_of_le (h.nob b hN) hgr.size⟩
    · have e : rowDatum (H := Unit) .i64 (.slice (some ⟨g, 0, none⟩) ys.length cap) ys = .slice (lits .i64 (c.boundAt nm).dropLast) [] := by rw [hne]; simp [rowDatum]
      unfold CK.pop
      rw [← e]
      exact hg3
    · exact (h.fre.kept hgr (fun e => h.ne (by simpa using e.symm))).mono (Nat.le_succ n)
  have hF : Fr No w w3 := Fr.grown (r := some mb) ⟨hgr3.os, hgr3.tape, hgr3.output, hgr3.size, hgr3.block⟩ (fun j hj => by cases hj; exact h.off.2.1)
  go_wp2
  (first | go_end0 | refine bodyPost_ret (results_none rfl _ _ _) rfl ?_)
  exact ⟨rfl, hC, hF⟩
end Go.Proofs.YtadnnijdbcdkjaaGreatDoor
