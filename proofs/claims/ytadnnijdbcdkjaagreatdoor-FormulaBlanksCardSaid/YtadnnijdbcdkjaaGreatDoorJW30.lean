/-
  The checker's walk at formulas that bind a relation. Conditions: as in the text before.
-/
import Derived.Test.YtadnnijdbcdkjaaGreatDoorJW29
import Derived.Test.YtadnnijdbcdkjaaGreatDoorJC
import Derived.Maps.AppendAt
namespace Go.Proofs.YtadnnijdbcdkjaaGreatDoor
open Go.RowKit Go.ChangeShapes Go.Maps Go.MapKept Go.WideShapes

theorem CI.lookG2 {w : World} {cb mb fb B n : Nat} {c : CK} {No : Nat → Prop} (h : CI w cb mb fb B n c No) {nm : ByteArray} (hs : nm.size ≤ maxLen) : ∃ v zs, (∀ w' : World, w'.heap[mb]? = w.heap[mb]? → (Instr.lookup 76 (.map (some mb)) (.string nm) false).run Tryz.prog w' = .ok v w') ∧ c.boundAt nm = zs ∧ w.ownsInts B 3 .i64 v zs ∧ zs.length ≤ n ∧
    w.groupBack Tryz.prog 76 9 B 3 .i64 mb n c.bound (.string nm) (keyL nm) v ∧ ∀ g, v.ownBlock = some g → ¬ No g := by
  obtain ⟨v, zs, hl, r⟩ := h.lookG hs
  refine ⟨v, zs, fun w' hw' => ?_, r⟩
  obtain ⟨es, clock, hb, F, _⟩ := h.grp
  obtain ⟨v', hv'⟩ := look_fixed (b := mb) false hString law hMG zInts F (key_of hs)
  have e := hv' w hb
  have e0 := hl 0
  rw [show w.drewN 0 = w from rfl] at e0
  rw [e0] at e
  cases e
  exact hv' w' (hw'.trans hb)
theorem shaped_arity {F : Form} (h : shapedB F = true) : 0 ≤ F.arity ∧ F.arity ≤ 12 := by
  simp only [shapedB] at h
  split at h
  · cases h
  · split at h
    · cases h
    · omega
theorem binds_range {F : Form} (h : shapedB F = true) (hv : F.vars.length ≤ maxLen) (hb : (bindsB F).2.2 = true) : 0 ≤ (bindsB F).2.1 ∧ (bindsB F).2.1 ≤ 9223372036854775807 := by
  have ha := shaped_arity h
  unfold maxLen at hv
  unfold bindsB at hb ⊢
  split
  · simp only; omega
  · rename_i h1
    rw [if_neg h1] at hb
    split
    · simp only; omega
    · rename_i h2
      rw [if_neg h2] at hb
      cases hb
theorem binds_name {F : Form} (h : (bindsB F).2.2 = true) : (bindsB F).1 = F.name ∧ F.kind ≠ 0 := by
  unfold bindsB at h ⊢
  split
  · rename_i h1; exact ⟨rfl, by omega⟩
  · rename_i h1
    rw [if_neg h1] at h
    split
    · rename_i h2; exact ⟨rfl, by omega⟩
    · rename_i h2
      rw [if_neg h2] at h
      cases h
theorem vars_le {w : World} {Q : Nat → Prop} {v : Value} {F : Form} (h : RForm w Q v F) : F.vars.length ≤ maxLen := by
  cases h with
  | mk k a name vv va vars args ka kc b o C kids hv ha hl hm hk hex hc hr =>
    obtain ⟨_, c, _, h1, h2, _⟩ := hv
    exact Nat.le_trans h1 h2

/-- A world that keeps the blocks K. -/
structure Seen (K : Nat → Prop) (u : World) where
  w : World
  fr : Fr K u w
instance seen_nonempty (K : Nat → Prop) (u : World) : Nonempty (Seen K u) := ⟨⟨u, Fr.refl K u⟩⟩
/-- Blocks but a row's. -/
def ButRow (v : Value) (b : Nat) : Prop := v.ownBlock ≠ some b
def bindRel (v : Value) : Nat → World → World → Prop := fun i w w' => if i = 12 then Below w.heap.size w w' else w.grownBy w' v.ownBlock
def bindPs (u5 : World) (v : Value) (zs : List Int) (ba : Int) (B : Nat) : Nat → Value → World → Prop := fun i u w =>
  if i = 12 then ∃ q, u = .slice (some ⟨q, 0, none⟩) 1 1 ∧ w.cell? ⟨q, 0, none⟩ = some (.int .i64 ba) ∧ q < w.heap.size ∧ v.ownBlock ≠ some q
  else w.ownsInts B 3 .i64 u (zs ++ [ba]) ∧ u5.grownBy w v.ownBlock ∧ (u.ownBlock = v.ownBlock ∨ ∃ g, u.ownBlock = some g ∧ u5.heap.size ≤ g)
def bindNs (v : Value) (zs : List Int) (B : Nat) : Nat → World → Prop := fun i w => if i = 13 then w.ownsInts B 3 .i64 v zs else True
theorem fr_grown {v : Value} {a b : World} (h : Fr (ButRow v) a b) : a.grownBy b v.ownBlock := ⟨h.os, h.tape, h.output, h.size, fun k hk hn => h.block k (fun e => hn e.symm) hk⟩
theorem grown_fr {v : Value} {a b : World} (h : a.grownBy b v.ownBlock) : Fr (ButRow v) a b := ⟨h.os, h.tape, h.output, h.size, fun k hk hl => h.block k hl (fun e => hk e.symm)⟩
/-- Behind the store of a relation's arity. -/
theorem WlAt.pushed {w0 u w9 w3 : World} {X Y cb mb fb B n : Nat} {c : CK} {No : Nat → Prop} {fc : Array Value} {nm : ByteArray} {v5 u13 : Value} {zs : List Int} {ba : Int} (h : WlAt w0 u X Y cb mb fb B n c No fc nm)
    (hoi : u.ownsInts B 3 .i64 v5 zs) (hno : ∀ g, v5.ownBlock = some g → ¬ No3 No X Y g) (hb : c.boundAt nm = zs) (h13 : w9.ownsInts B 3 .i64 u13 (zs ++ [ba])) (hgr9 : u.grownBy w9 v5.ownBlock)
    (hg3 : w3.ownsGroups Tryz.prog 9 B 3 .i64 mb (n + 1) (c.bound.put (keyL nm) (rowDatum .i64 u13 (zs ++ [ba])))) (hgr3 : w9.grownBy w3 (some mb)) (hsh3 : w3.Shuns mb (No3 No X Y)) (hc : (n : Int) + 1 ≤ 2 * c.n) :
    WlAt w0 w3 X Y cb mb fb B (n + 1) (c.push nm ba) No fc nm := by
  have hlow : ∀ b, b < B → v5.ownBlock ≠ some b := fun b hb e => by have := (hoi.1.lt b e).1; omega
  have keep : ∀ b, b < u.heap.size → v5.ownBlock ≠ some b → b ≠ mb → w3.heap[b]? = u.heap[b]? := fun b hl h1 h2 =>
    (hgr3.block b (Nat.lt_of_lt_of_le hl hgr9.size) (fun e => h2 (by simpa using e))).trans (hgr9.block b hl (fun e => h1 e.symm))
  have hX : X ≠ mb := fun e => h.ci.off.2.1 (.inr (.inl e.symm))
  have hX1 : X + 1 ≠ mb := fun e => h.ci.off.2.1 (.inr (.inr (.inl e.symm)))
  have hY : Y ≠ mb := fun e => h.ci.off.2.1 (.inr (.inr (.inr e.symm)))
  have hsz : u.heap.size ≤ w3.heap.size := Nat.le_trans hgr9.size hgr3.size
  refine ⟨⟨(keep cb h.ci.clt (hlow cb h.ci.low.1) (Ne.symm h.ci.mc)).trans h.ci.cell, ?_, ?_, hsh3, h.ci.off, ⟨h.ci.low.1, h.ci.low.2.1, Nat.le_trans h.ci.low.2.2 hsz⟩, h.ci.ne, ⟨h.ci.cnt.1, by show ((n + 1 : Nat) : Int) ≤ 2 * c.n; omega, h.ci.cnt.2.2⟩, fun b hN => Nat.lt_of_lt_of_le (h.ci.nob b hN) hsz⟩,
    (keep X (block_lt h.p3) (fun e => hno X e (.inr (.inl rfl))) hX).trans h.p3, (keep (X + 1) (block_lt h.p4) (fun e => hno _ e (.inr (.inr (.inl rfl)))) hX1).trans h.p4, (keep Y (block_lt h.p9) (fun e => hno _ e (.inr (.inr (.inr rfl)))) hY).trans h.p9,
    (h.fr.trans (Fr.grown hgr9 fun j hj => fun k => hno j hj (.inl k))).trans (Fr.grown hgr3 fun j hj => by cases hj; exact fun k => h.ci.off.2.1 (.inl k))⟩
  · have e : rowDatum (H := Unit) .i64 u13 (zs ++ [ba]) = .slice (lits .i64 (c.boundAt nm ++ [ba])) [] := by rw [hb]; exact h13.datum_pos (by simp)
    unfold CK.push
    rw [← e]
    exact hg3
  · exact ((h.ci.fre.kept hgr9 (fun e => hlow fb h.ci.low.2.1 e.symm)).kept hgr3 (fun e => h.ci.ne (by simpa using e.symm))).mono (Nat.le_succ n)
theorem lfp_bad {k : Int} {n : ByteArray} {kids : List Form} {r : CK} (h : r.bad = true) : lfpB k n kids r = r := by
  rw [lfpB, if_neg (fun q => by rw [q.1] at h; cases h)]
theorem lfp_not {k : Int} {n : ByteArray} {kids : List Form} {r : CK} (h : k ≠ 8) : lfpB k n kids r = r := by
  rw [lfpB, if_neg (fun q => h q.2.1)]
theorem lfp_pos {k : Int} {n : ByteArray} {kids : List Form} {r : CK} (h : positiveB n true (kids.getD 0 default) = true) : lfpB k n kids r = r := by
  rw [lfpB, if_neg (fun q => by rw [q.2.2] at h; cases h)]
theorem lfp_neg {k : Int} {n : ByteArray} {kids : List Form} {r : CK} (hb : r.bad = false) (hk : k = 8) (h : positiveB n true (kids.getD 0 default) = false) : lfpB k n kids r = { r with bad := true } := by
  rw [lfpB, if_pos ⟨hb, hk, h⟩]
theorem shaped_lfp {F : Form} (h : shapedB F = true) (hk : F.kind = 8) : F.kids.length = 1 := by
  have hr : ruleB F.kind = ⟨1, 1, 1, 12, 1, 12, true, false, true⟩ := by rw [hk]; rfl
  simp only [shapedB, hr] at h
  split at h
  · cases h
  · omega
theorem WlAt.bad {w0 w : World} {X Y cb mb fb B n : Nat} {c : CK} {No : Nat → Prop} {fc : Array Value} {nm : ByteArray} (h : WlAt w0 w X Y cb mb fb B n c No fc nm) : WlAt w0 (w.setCell ⟨cb, 4, none⟩ (.bool true)) X Y cb mb fb B n { c with bad := true } No fc nm := by
  have hX : X ≠ cb := fun e => h.ci.off.1 (.inr (.inl e.symm))
  have hX1 : X + 1 ≠ cb := fun e => h.ci.off.1 (.inr (.inr (.inl e.symm)))
  have hY : Y ≠ cb := fun e => h.ci.off.1 (.inr (.inr (.inr e.symm)))
  exact ⟨h.ci.set (c' := { c with bad := true }) (block_setCell h.ci.cell 4 _) rfl rfl h.ci.cnt, (Below.heap_setCell _ _ _ _ hX).trans h.p3, (Below.heap_setCell _ _ _ _ hX1).trans h.p4, (Below.heap_setCell _ _ _ _ hY).trans h.p9,
    h.fr.trans (Fr.setCell _ (fun k => h.ci.off.1 (.inl k)) _)⟩
set_option maxRecDepth 100000 in
set_option maxHeartbeats 2000000 in
theorem walk_bind
  {F : Form} (ih : ∀ G ∈ F.kids, SW G) {w : World} {v : Value} {cb mb fb B n : Nat} {c : CK} {No : Nat → Prop} {level : Int} (h : CI w cb mb fb B n c No) (hbad : c.bad = false) (hcn4 : c.n ≤ 4000) (hF : RForm w No v F) (hok : okF F) (hl0 : 0 ≤ level) (hl1 : level ≤ 61) (hmap : IsMap c.bound)
    (hB : (decide (4000 < c.n + 1) || decide (60 < level) || !shapedB F) = false) (hbi : (bindsB F).2.2 = true) :
    Calls Tryz.prog 87 #[.pointer (some ⟨cb, 0, none⟩), v, .int .i64 level] w fun e w' => e = .returned (.tuple #[]) ∧ Walked w w' cb mb fb B n c (walkB F level c) No := by
  have HBA := Lib.hid (binds_range (F := F) (by simp only [Bool.or_eq_false_iff, Bool.not_eq_false'] at hB; exact hB.2) (vars_le hF) hbi)
  have HB := Lib.hid hB
  have HBI := Lib.hid hbi
  have HS8 := Lib.hid (shaped_lfp (F := F) (by simp only [Bool.or_eq_false_iff, Bool.not_eq_false'] at hB; exact hB.2))
  have H00 := Lib.hid (binds_name hbi)
  clear hB hbi
  have hmf : ∀ (fn : Fn) (first cap : Array Value) (w : World), (Instr.makeFunc fn first cap).run Tryz.prog w = .ok (.func fn first cap) w := fun _ _ _ _ => rfl
  obtain ⟨k, a, nm, a1, m1, c1, a2, m2, c2, a3, m3, c3, rfl⟩ := form_shape hF
  have HI := Lib.hid ih
  have HF := Lib.hid hF
  have HOK := Lib.hid hok
  have HM := Lib.hid hmap
  have H0 := Lib.hid h
  have HS := Lib.hid (WkAt.start h #[.int .i64 k, .int .i64 a, .string nm, .slice a1 m1 c1, .slice a2 m2 c2, .slice a3 m3 c3])
  clear ih hF hok hmap h
  go_enter_defers Tryz.func87, Tryz.ntmps87
  go_upto_region 1 with (fail)
  generalize ((w.alloc (Obj.cells #[Value.pointer (some { block := cb, off := 0 })] 80)).alloc (Obj.cells #[Value.int IntKind.i64 k, Value.int IntKind.i64 a, Value.string nm, Value.slice a1 m1 c1, Value.slice a2 m2 c2, Value.slice a3 m3 c3] 31)) = u1 at *
  generalize w.heap.size = X at *
  have hcn := HS.out.ci.cnt
  have hw1 : wrap64 (c.n + 1) = c.n + 1 := by unfold wrap64; omega
  have p3 := cell_of_block HS.out.p3 0
  obtain ⟨q0, q1, q2, q3, q4, qf⟩ := HS.out.ci.load
  simp only [List.getElem?_toArray, List.getElem?_cons_zero] at p3
  go_upto_region 2 with (fail)
  have HS1 := Lib.hid (HS.out.set (c' := { c with n := c.n + 1 }) (o := 0) (v := .int .i64 (c.n + 1)) (block_setCell HS.out.ci.cell 0 _) rfl rfl ⟨by simp only; omega, by simp only; omega, by simp only; omega⟩)
  generalize u1.setCell ⟨cb, 0, none⟩ (.int .i64 (c.n + 1)) = u2 at *
  clear q0 q1 q2 q3 q4 qf p3 HS hw1 u1
  have p3 := cell_of_block HS1.out.p3 0
  obtain ⟨q0, q1, q2, q3, q4, qf⟩ := HS1.out.ci.load
  simp only [List.getElem?_toArray, List.getElem?_cons_zero] at p3 q0 q1 q2 q3 q4
  refine wp_region_qt_drew 7 (by kernel_rfl) (by kernel_rfl) ?_
  simp only [List.take_succ_cons, List.take_zero, List.drop_succ_cons, List.drop_zero]
  repeat (first | go_big_quiet_step (fail) | quiet_step (fail))
  refine wpQuiet_nil ?_
  intro w2 hw2
  obtain ⟨n2, rfl⟩ := hw2
  go_upto_region 3 with (fail)
  have HS2 := Lib.hid ((HS1.out.drewN n2).set (c' := { c with n := c.n + 1, deep := max c.deep level }) (o := 1) (v := .int .i64 (max c.deep level)) (block_setCell (HS1.out.drewN n2).ci.cell 1 _) rfl rfl ⟨by simp only; omega, by simp only; omega, by simp only; omega⟩)
  generalize (u2.drewN n2).setCell ⟨cb, 1, none⟩ (.int .i64 (max c.deep level)) = u3 at *
  clear q0 q1 q2 q3 q4 qf p3 HS1 u2
  have p3 := cell_of_block HS2.out.p3 0
  obtain ⟨q0, q1, q2, q3, q4, qf⟩ := HS2.out.ci.load
  obtain ⟨d0, d1, d2, d3, d4, d5, -⟩ := six HS2.out.p4
  simp only [List.getElem?_toArray, List.getElem?_cons_zero] at p3 q0 q1 q2 q3 q4
  have HSH := Lib.hid (fun (w' : World) (h : Fr No w w') => shaped_any (HF.out.stay h.size (fun b hb hl => h.block b hb hl) (fun _ hq _ => hq)) HOK.out)
  obtain ⟨bad1, hbad1⟩ : ∃ b, b = (decide (4000 < c.n + 1) || decide (60 < level) || !shapedB F) := ⟨_, rfl⟩
  have HB1 := Lib.hid hbad1
  clear hbad1
  generalize hshp : shapedB F = shp at *
  go_cut [43] from 14 (fun s43 wx => s43 = .bool bad1 ∧ Hid (WkAt w wx X cb mb fb B n { c with n := c.n + 1, deep := max c.deep level } No #[.int .i64 k, .int .i64 a, .string nm, .slice a1 m1 c1, .slice a2 m2 c2, .slice a3 m3 c3]))
  case first =>
    go_wp2_with (go_at_call 107; refine (HSH.out _ HS2.out.fr).mono ?_; rintro e w2 ⟨rfl, hb2⟩)
    all_goals go_meet
    all_goals refine ⟨?_, by first | exact HS2 | exact Lib.hid (HS2.out.below hb2)⟩
    all_goals (rw [HB1.out]; try simp_all)
  obtain ⟨rfl, hwc⟩ := hcut
  clear q0 q1 q2 q3 q4 qf d0 d1 d2 d3 d4 d5 p3 HS2 HSH
  have hbad1 := HB1.out
  have HE := Lib.hid (enterB_eq (F := F) (level := level) (b := bad1) hbad (by rw [hshp]; exact hbad1))
  have p3 := cell_of_block hwc.out.p3 0
  obtain ⟨q0, q1, q2, q3, q4, qf⟩ := hwc.out.ci.load
  obtain ⟨d0, d1, d2, d3, d4, d5, -⟩ := six hwc.out.p4
  simp only [List.getElem?_toArray, List.getElem?_cons_zero] at p3 q0 q1 q2 q3 q4
  clear hbad1
  have hb1 : bad1 = false := by rw [HB1.out]; exact HB.out
  subst hb1
  have he : ({ c with n := c.n + 1, deep := max c.deep level } : CK) = enterB F level c := by rw [HE.out]; simp [hbad]
  have hwc2 := hwc
  rw [he] at hwc2
  have HC0 := Lib.hid (show (enterB F level c).bad = false ∧ (enterB F level c).n ≤ 4000 ∧ IsMap (enterB F level c).bound from ⟨by rw [HE.out], by rw [HE.out]; have := HB.out; simp only [Bool.or_eq_false_iff, decide_eq_false_iff_not] at this; simp only; omega, HM.out⟩)
  have HEN := Lib.hid (show (enterB F level c).n = c.n + 1 from rfl)
  have h0 : ¬ k = 0 := by have := HF.out.kids_of.2.2.2.1; have := H00.out.2; omega
  have hnm : F.name = nm := HF.out.kids_of.2.2.2.2.2
  have hs := okF_name HOK.out
  have hlv : ¬ 60 < level := by
    have := HB.out
    simp only [Bool.or_eq_false_iff, decide_eq_false_iff_not] at this
    exact this.1.2
  have HLV := Lib.hid hlv
  have HWB := Lib.hid (show walkB F level c = (lfpB F.kind F.name F.kids (walksB F.kids level ((enterB F level c).push F.name (bindsB F).2.1))).pop F.name from by rw [walkB_eq, if_neg (by rw [HC0.out.1]; simp), if_neg H00.out.2, if_pos HBI.out])
  have HBN := Lib.hid (fun (w' : World) (h : Fr No w w') => binds_any (HF.out.stay h.size (fun b hb hl => h.block b hb hl) (fun _ hq _ => hq)))
  rw [HBI.out, H00.out.1, hnm] at HBN
  rw [hnm] at HWB hs
  clear hlv hwc he HE hnm
  generalize enterB F level c = C0 at *
  generalize (bindsB F).2.1 = ba at *
  go_upto_region 16 with (go_at_call 92; refine (HBN.out _ hwc2.out.fr).mono ?_; rintro e w2 ⟨rfl, hb2⟩)
  have HL := Lib.hid ((hwc2.out.below hb2).name nm)
  generalize (w2.alloc (Obj.cells #[Value.string nm] 9)) = u5 at *
  generalize w2.heap.size = Y at *
  clear q0 q1 q2 q3 q4 qf d0 d1 d2 d3 d4 d5 p3 hb2 w2 hwc2
  obtain ⟨v5, zs, hlk, hzs, hoi, hzl, hback, hno⟩ := HL.out.ci.lookG2 hs
  have hltX := block_lt HL.out.p3
  have hltY := block_lt HL.out.p9
  have hKX : ButRow v5 X := fun e => hno X e (.inr (.inl rfl))
  have hKY : ButRow v5 Y := fun e => hno Y e (.inr (.inr (.inr rfl)))
  have hKc : ButRow v5 cb := fun e => by have := (hoi.1.lt cb e).1; have := HL.out.ci.low.1; omega
  have hKm : ButRow v5 mb := fun e => by have := (hoi.1.lt mb e).1; have := HL.out.ci.mbB; omega
  have HP3 : ∀ p : Seen (ButRow v5) u5, p.w.cell? ⟨X, 0, none⟩ = some (.pointer (some ⟨cb, 0, none⟩)) := fun p => (World.cell?_of_block (p.fr.block X hKX hltX)).trans (cell_of_block HL.out.p3 0)
  have HP9 : ∀ p : Seen (ButRow v5) u5, p.w.cell? ⟨Y, 0, none⟩ = some (.string nm) := fun p => (World.cell?_of_block (p.fr.block Y hKY hltY)).trans (cell_of_block HL.out.p9 0)
  have HQ2 : ∀ p : Seen (ButRow v5) u5, p.w.cell? ⟨cb, 2, none⟩ = some (.map (some mb)) := fun p => (World.cell?_of_block (p.fr.block cb hKc HL.out.ci.clt)).trans (cell_of_block HL.out.ci.cell 2)
  have HLK : ∀ p : Seen (ButRow v5) u5, (Instr.lookup 76 (.map (some mb)) (.string nm) false).run Tryz.prog p.w = .ok v5 p.w := fun p => hlk p.w (p.fr.block mb hKm HL.out.ci.mlt)
  have HH := Lib.hid (And.intro hoi (And.intro hback (And.intro hno (And.intro hzs hzl))))
  clear hlk hzs hoi hzl hback hno hltX hltY hKX hKY hKc hKm
  refine wp_region_mk (af := ?af) (M := [12, 13]) (C := fun w' => ∃ p : Seen (ButRow v5) u5, w' = p.w) 14 (bindRel v5) (bindPs u5 v5 zs ba B) (bindNs v5 zs B) (by kernel_rfl) (by kernel_rfl) ⟨⟨{ u5 with drawn := u5.drawn + 1 }, ⟨rfl, rfl, rfl, Nat.le_refl _, fun _ _ _ => rfl⟩⟩, rfl⟩ ?n1 ?n2 ?n3 ?n4 ?n5 ?n6
  case n1 =>
    intro j _
    unfold bindNs
    split
    · exact HH.out.1
    · trivial
  case n2 =>
    intro i j w1 w2 hi _ hij hN hR
    unfold bindNs at hN ⊢
    split
    · rename_i h13
      rw [if_pos h13] at hN
      have h12 : i = 12 := by
        simp only [List.mem_cons, List.not_mem_nil, or_false] at hi
        omega
      unfold bindRel at hR
      rw [if_pos h12] at hR
      exact hN.kept (grown_below hR none) (Classical.em _)
    · trivial
  case n3 =>
    intro i j u w1 w2 hi hj hij hw hP hR
    unfold bindPs at hP ⊢
    split
    · rename_i h12
      rw [if_pos h12] at hP
      obtain ⟨q, rfl, hc, hq, hn⟩ := hP
      have h13 : ¬ i = 12 := fun e => hij (e.trans h12.symm)
      unfold bindRel at hR
      rw [if_neg h13] at hR
      exact ⟨q, rfl, (World.cell?_of_block (hR.block q hq (fun e => hn e.symm))).trans hc, Nat.lt_of_lt_of_le hq hR.size, hn⟩
    · rename_i h12
      have h13 : j = 13 ∧ i = 12 := by
        simp only [List.mem_cons, List.not_mem_nil, or_false] at hi hj
        omega
      obtain ⟨rfl, rfl⟩ := h13
      exact absurd (hw _ rfl) (by decide +kernel)
  case n4 =>
    simp only [List.take_succ_cons, List.take_zero]
    repeat (first | (refine skip_made (by rfl) ?_) | (refine skip_one (by rfl) ?_; (first | go_big_quiet_step (fail) | quiet_step (fail)); refine wpQuiet_nil ?_))
    exact rfl
  case n5 =>
    intro i o hi ho us w1 hC1 hN1 hP1
    obtain ⟨⟨w1, hfr⟩, rfl⟩ := hC1
    simp only [List.mem_cons, List.not_mem_nil, or_false] at hi
    rcases hi with rfl | rfl
    · obtain rfl := (Option.some.inj ho)
      clear hP1 hN1 ho
      unfold makesAt
      simp only [overM]
      go_simp
      have hbl : Below w1.heap.size w1 (w1.alloc (.cells #[.int .i64 ba] 3)) := below_one _ _
      refine ⟨⟨⟨_, grown_fr ((fr_grown hfr).trans (grown_below hbl _))⟩, rfl⟩, ?_, ?_⟩
      · unfold bindRel; rw [if_pos rfl]; exact hbl
      · unfold bindPs
        rw [if_pos rfl]
        refine ⟨w1.heap.size, rfl, cell_of_block (block_alloc_new _ _) 0, by simp, fun e => ?_⟩
        have := (HH.out.1.1.lt _ e).2
        have := hfr.size
        omega
    · obtain rfl := (Option.some.inj ho)
      have h12 := hP1 12 (by simp) (by decide +kernel)
      unfold bindPs at h12
      rw [if_pos rfl] at h12
      obtain ⟨q, hq12, hcq, hql, hqn⟩ := h12
      unfold bindNs at hN1
      rw [if_pos rfl] at hN1
      clear hP1 ho
      obtain ⟨i0, hi0, hz0, hz1, hz2⟩ := info_parts Tryz.infoInt
      obtain ⟨v13, w13, hrun, hro, hgr, -, hloc⟩ := run_append_own_at (P := Tryz.prog) w1 B 126 126 3 i0 (.int .i64 0) 1 8 hInts hi0 hz0 hz1 hz2 rfl (by decide) v5 zs.length (zs.map (Value.int .i64)) hN1.1 ⟨q, 0, none⟩ 1 1 [.int .i64 ba] rfl (by
        intro j u hj
        cases j with
        | zero =>
          simp only [List.getElem?_cons_zero, Option.some.injEq] at hj
          subst hj
          exact hcq
        | succ j => simp at hj) (by
        intro u hu
        simp only [List.mem_singleton] at hu
        subst hu; rfl) (by have := HH.out.2.2.2.2; have := HL.out.ci.cnt; unfold maxLen; omega) (by have := HH.out.2.2.2.2; have := HL.out.ci.cnt; omega) (by have := HL.out.ci.low.2.2; have := hfr.size; omega)
      refine makes_append _ _ _ _ rfl (v := v5) (y := .slice (some ⟨q, 0, none⟩) 1 1) rfl hq12 hrun ⟨⟨⟨_, grown_fr ((fr_grown hfr).trans hgr)⟩, rfl⟩, ?_, ?_⟩
      · unfold bindRel; rw [if_neg (by decide)]; exact hgr
      · unfold bindPs
        rw [if_neg (by decide)]
        refine ⟨hN1.appended hro (WalkArith.wf_i64 (by have := HBA.out; omega)), (fr_grown hfr).trans hgr, ?_⟩
        rcases hloc with h | h
        · exact .inl h
        · exact .inr ⟨_, h, hfr.size⟩
  case n6 =>
    intro us w9 hw9 hP
    obtain ⟨⟨w9, hfr⟩, rfl⟩ := hw9
    obtain ⟨hoi, hback, hno, hzs, hzl⟩ := HH.out
    have h13 := hP 13 (by simp)
    unfold bindPs at h13
    rw [if_neg (by decide)] at h13
    simp only [overM]
    generalize us 12 = u12 at *
    generalize us 13 = u13 at *
    clear hP
    have hcc := HL.out.ci.cnt
    refine wpList_mapUpdate_back_shuns (w0 := u5) (No := No3 No X Y) (v' := u13) (zs' := zs ++ [ba]) (w := w9) rfl _ _ _ 76 rfl law hMG (key_of hs) HL.out.ci.grp (by unfold maxLen; omega) hoi HL.out.ci.shun (fun g hg => ?_) hback rfl rfl rfl h13.2.1 h13.1 (by simp; omega) h13.2.2 ?_
    · rcases h13.2.2 with h | ⟨g', h, hg'⟩
      · exact hno g (by rw [← h]; exact hg)
      · rw [h] at hg
        obtain rfl := Option.some.inj hg
        intro k
        have := HL.out.ci.nob _ k
        omega
    intro w3 hg3 hgr3 hsh3
    have HLP := Lib.hid (HL.out.pushed hoi hno hzs h13.1 h13.2.1 hg3 hgr3 hsh3 (by have := HEN.out; omega))
    have HC1 := Lib.hid (show (C0.push nm ba).bad = false ∧ (C0.push nm ba).n ≤ 4000 ∧ IsMap (C0.push nm ba).bound from ⟨HC0.out.1, HC0.out.2.1, IsMap.push HC0.out.2.2 nm ba⟩)
    have HEN1 := Lib.hid (show (C0.push nm ba).n = c.n + 1 from HEN.out)
    have HBT := Lib.hid (show (C0.push nm ba).boundAt nm = zs ++ [ba] from by rw [boundAt_push HC0.out.2.2, if_pos rfl, hzs])
    generalize C0.push nm ba = C1 at *
    clear hoi hback hno hzs hzl h13 hg3 hgr3 hsh3 HP3 HP9 HQ2 HLK HH HL HC0 HEN hcc
    have HL := HLP
    clear HLP
    have p3 := cell_of_block HL.out.p3 0
    have p9 := cell_of_block HL.out.p9 0
    simp only [List.getElem?_toArray, List.getElem?_cons_zero] at p3 p9
    go_upto_region 18 with (fail)
    have HKW := Lib.hid (walks_kept F.kids level C1 HC1.out.1 HC1.out.2.1 HC1.out.2.2)
    have HKL := Lib.hid (kids_len HF.out.kids_of.1)
    obtain ⟨hml, hlc, hcm⟩ := HKL.out
    subst hml
    obtain ⟨d0, d1, d2, d3, d4, d5, -⟩ := six HL.out.p4
    go_wp2
    go_loopg [132] F.kids.length (fun m v wr => LoopAt w X Y cb mb fb B No #[.int .i64 k, .int .i64 a, .string nm, .slice a1 m1 c1, .slice a2 m2 c2, .slice a3 F.kids.length c3] nm F.kids level C1 (n + 1) m v wr)
    case atStart => exact ⟨0, _, C1, Nat.zero_le _, rfl, rfl, HL.out, HC1.out.1, HC1.out.2.1, HC1.out.2.2, rfl, Int.le_refl _⟩
    case round =>
      obtain ⟨j, nj, cj, hj, rfl, rfl, hwl, hbj, hnj, hmj, hwj, hcj⟩ := hrel
      clear d0 d1 d2 d3 d4 d5
      by_cases hjl : j < F.kids.length
      · have hji : (j : Int) < (F.kids.length : Int) := by omega
        have hj0 : (0 : Int) ≤ (j : Int) := by omega
        obtain ⟨b, o, k', x', nm', y1, l1, z1, y2, l2, z2, y3, l3, z3, rfl, g0, g1, g2, g3, g4, g5, hf, hbl⟩ := kid_sh ((HF.out.stay hwl.fr.size (fun b hb hl => hwl.fr.block b hb hl) (fun _ hq _ => hq)).kids_of.1) hjl
        have HWL := Lib.hid hwl
        have HX := Lib.hid (And.intro hbj (And.intro hnj (And.intro hmj hwj)))
        have HFr := Lib.hid hf
        have HGM := Lib.hid (getD_mem hjl)
        have HDC := Lib.hid (show F.kids.drop j = F.kids.getD j default :: F.kids.drop (j + 1) from by rw [List.drop_eq_getElem_cons hjl, List.getD_eq_getElem?_getD, List.getElem?_eq_getElem hjl]; rfl)
        clear hf hwl hbj hnj hmj hwj
        generalize F.kids.getD j default = G at *
        obtain ⟨r, hr⟩ : ∃ r, walkB G (level + 1) cj = r := ⟨_, rfl⟩
        have HR := Lib.hid hr
        have HIG := Lib.hid (HI.out G HGM.out)
        have HOG := Lib.hid (okF_kids HOK.out G HGM.out)
        have HKP := Lib.hid (walk_kept G (level + 1) cj HX.out.1 HX.out.2.1 HX.out.2.2.1)
        rw [hr] at HKP
        clear hr
        have hw1 : wrap64 (level + 1) = level + 1 := by have := HLV.out; unfold wrap64; omega
        have p3 := cell_of_block HWL.out.p3 0
        simp only [List.getElem?_toArray, List.getElem?_cons_zero] at p3
        have hXl := block_lt HWL.out.p3
        have hjl' := hjl
        obtain ⟨rbad, hrb⟩ : ∃ b, r.bad = b := ⟨_, rfl⟩
        cases rbad with
        | true =>
          go_wp2_with (go_at_call 87; refine (HIG.out _ _ cb mb fb B nj cj (No3 No X Y) (level + 1) (HWL.out.below (below_one wr _)).ci HX.out.1 HX.out.2.1 ((HFr.out.alloc _).stay (Nat.le_refl _) (fun _ _ _ => rfl) (fun _ hq _ => .inl hq)) HOG.out (by omega) (by have := HLV.out; omega) HX.out.2.2.1).mono ?_; rintro e w3 ⟨rfl, n3, hci, hcn3, hfr⟩; rw [HR.out] at hci hcn3; have HN := Lib.hid ((HWL.out.below (below_one wr _)).next hci hfr); clear hci hfr p3; have p3 := cell_of_block HN.out.p3 0; obtain ⟨q0, q1, q2, q3, q4, qf⟩ := HN.out.ci.load; simp only [List.getElem?_toArray, List.getElem?_cons_zero] at p3 q0 q1 q2 q3 q4)
          have HBD := Lib.hid (show walksB F.kids level C1 = r from by rw [← HX.out.2.2.2, HDC.out, walksB, HR.out, if_pos hrb])
          refine leaves_cons (f := 108) (args := #[.pointer (some ⟨X, 0, none⟩), .pointer (some ⟨Y, 0, none⟩)]) (by simp) (by simp [go_sem]) ?_
          refine (pop_any HN.out.ci hs ⟨cell_of_block HN.out.p3 0, cell_of_block HN.out.p9 0⟩ (by rw [← HBD.out, HKW.out.1.at_, HBT.out]) (by have := HEN1.out; have := hcn; first | omega | (simp only; omega))).mono ?_
          rintro e5 u6 w5 ⟨rfl, rfl, hci5, hfr5⟩
          refine ⟨_, results_none rfl _ _ _, rfl, n3 + 1, ?_⟩
          rw [HWB.out, HBD.out, lfp_bad hrb]
          exact ⟨hci5.mono fun b hb => .inl hb, by have := HEN1.out; have := hcn; show ((n3 + 1 : Nat) : Int) + 2 * c.n ≤ n + 2 * (r).n; first | omega | (simp only; omega), HN.out.fr.trans (hfr5.mono fun b _ hb => .inl hb)⟩
        | false =>
          go_wp2_with (go_at_call 87; refine (HIG.out _ _ cb mb fb B nj cj (No3 No X Y) (level + 1) (HWL.out.below (below_one wr _)).ci HX.out.1 HX.out.2.1 ((HFr.out.alloc _).stay (Nat.le_refl _) (fun _ _ _ => rfl) (fun _ hq _ => .inl hq)) HOG.out (by omega) (by have := HLV.out; omega) HX.out.2.2.1).mono ?_; rintro e w3 ⟨rfl, n3, hci, hcn3, hfr⟩; rw [HR.out] at hci hcn3; have HN := Lib.hid ((HWL.out.below (below_one wr _)).next hci hfr); clear hci hfr p3; have p3 := cell_of_block HN.out.p3 0; obtain ⟨q0, q1, q2, q3, q4, qf⟩ := HN.out.ci.load; simp only [List.getElem?_toArray, List.getElem?_cons_zero] at p3 q0 q1 q2 q3 q4)
          go_roundg (F.kids.length - (j + 1))
          case measure => omega
          case rel =>
            refine ⟨j + 1, n3, r, hjl', rfl, next_int (show j + 1 ≤ maxLen by omega), HN.out, hrb, HKP.out.1.cnt hrb, HKP.out.1.map, ?_, by omega⟩
            rw [← HX.out.2.2.2, HDC.out, walksB, HR.out, if_neg (by rw [hrb]; simp)]
      · have hji : ¬ (j : Int) < (F.kids.length : Int) := by omega
        have HWL := Lib.hid hwl
        have hwe : cj = walksB F.kids level C1 := by rw [← hwj, List.drop_eq_nil_of_le (by omega), walksB]
        have HWE := Lib.hid hwe
        have HX := Lib.hid (And.intro hbj (And.intro hnj hmj))
        clear hwl hwj hwe hbj hnj hmj
        obtain ⟨d0, d1, d2, d3, d4, d5, -⟩ := six HWL.out.p4
        have HBQ := Lib.hid (show cj.boundAt nm = zs ++ [ba] from by rw [HWE.out, HKW.out.1.at_, HBT.out])
        by_cases h8 : k = 8
        · subst h8
          have hk8 : F.kind = 8 := HF.out.kids_of.2.2.2.1
          have hl1 := HS8.out hk8
          have h0l : 0 < F.kids.length := by omega
          obtain ⟨b, o, k', x', nm', y1, l1, z1, y2, l2, z2, y3, l3, z3, rfl, g0, g1, g2, g3, g4, g5, hf, hbl⟩ := kid_sh ((HF.out.stay HWL.out.fr.size (fun b hb hl => HWL.out.fr.block b hb hl) (fun _ hq _ => hq)).kids_of.1) h0l
          have hpf := pfpL_iff.1 (HKW.out.2 (by rw [← HWE.out]; exact HX.out.1)) _ (getD_mem h0l)
          have HKD := Lib.hid hk8
          clear hk8 hl1
          have hji0 : (0 : Int) < (F.kids.length : Int) := by omega
          have HLX := Lib.hid hlc
          go_upto_region 24 with (fail)
          generalize hG : F.kids.getD 0 default = G at *
          have HG := Lib.hid hG
          clear hG
          have HPS := Lib.hid (fun d os => positive_any nm G true (Go.Sort.grow (redrawn wr d) os) No _ (hf.under (below_regrown wr d os)) hpf)
          clear hf hpf hbl h0l
          simp only [Nat.zero_mul, Nat.add_zero] at g0 g1 g2 g3 g4 g5
          have b0 := fun d os => cell_regrown d0 d os
          have b2 := fun d os => cell_regrown d2 d os
          have b5 := fun d os => cell_regrown d5 d os
          have b6 := fun d os => cell_regrown g0 d os
          have b7 := fun d os => cell_regrown g1 d os
          have b8 := fun d os => cell_regrown g2 d os
          have b9 := fun d os => cell_regrown g3 d os
          have b10 := fun d os => cell_regrown g4 d os
          have b11 := fun d os => cell_regrown g5 d os
          clear d0 d1 d2 d3 d4 d5 g0 g1 g2 g3 g4 g5
          obtain ⟨pv, hpv⟩ : ∃ b, positiveB nm true G = b := ⟨_, rfl⟩
          rw [hpv] at HPS
          have HPV := Lib.hid hpv
          clear hpv
          refine wp_region_qt_below 13 (by kernel_rfl) (by kernel_rfl) ?_
          simp only [List.take_succ_cons, List.take_zero, List.drop_succ_cons, List.drop_zero]
          repeat (first | go_big_quiet_step (exact Calls.regrown_of (HPS.out _ _)) | quiet_step (exact Calls.regrown_of (HPS.out _ _)))
          refine wpQuiet_nil ?_
          intro w2 hw2
          obtain ⟨⟨d2, os2⟩, rfl⟩ := hw2
          have HLE := Lib.hid (HWL.out.below (below_regrown wr d2 os2))
          clear b0 b2 b5 b6 b7 b8 b9 b10 b11 HPS
          generalize Go.Sort.grow (redrawn wr d2) os2 = u9 at *
          have p3 := cell_of_block HLE.out.p3 0
          obtain ⟨q0, q1, q2, q3, q4, qf⟩ := HLE.out.ci.load
          simp only [List.getElem?_toArray, List.getElem?_cons_zero] at p3 q0 q1 q2 q3 q4
          have HPG := Lib.hid (show positiveB nm true (F.kids.getD 0 default) = pv from by rw [HG.out]; exact HPV.out)
          cases pv with
          | true =>
            go_wp2
            refine leaves_cons (f := 108) (args := #[.pointer (some ⟨X, 0, none⟩), .pointer (some ⟨Y, 0, none⟩)]) (by simp) (by simp [go_sem]) ?_
            refine (pop_any HLE.out.ci hs ⟨cell_of_block HLE.out.p3 0, cell_of_block HLE.out.p9 0⟩ HBQ.out (by have := HEN1.out; have := hcn; first | omega | (simp only; omega))).mono ?_
            rintro e5 u6 w5 ⟨rfl, rfl, hci5, hfr5⟩
            refine ⟨_, results_none rfl _ _ _, rfl, nj + 1, ?_⟩
            rw [HWB.out, ← HWE.out, lfp_pos HPG.out]
            exact ⟨hci5.mono fun b hb => .inl hb, by have := HEN1.out; have := hcn; show ((nj + 1 : Nat) : Int) + 2 * c.n ≤ n + 2 * (cj).n; first | omega | (simp only; omega), HLE.out.fr.trans (hfr5.mono fun b _ hb => .inl hb)⟩
          | false =>
            go_wp2
            have HLB := Lib.hid HLE.out.bad
            refine leaves_cons (f := 108) (args := #[.pointer (some ⟨X, 0, none⟩), .pointer (some ⟨Y, 0, none⟩)]) (by simp) (by simp [go_sem]) ?_
            refine (pop_any HLB.out.ci hs ⟨cell_of_block HLB.out.p3 0, cell_of_block HLB.out.p9 0⟩ HBQ.out (by have := HEN1.out; have := hcn; first | omega | (simp only; omega))).mono ?_
            rintro e5 u6 w5 ⟨rfl, rfl, hci5, hfr5⟩
            refine ⟨_, results_none rfl _ _ _, rfl, nj + 1, ?_⟩
            rw [HWB.out, ← HWE.out, lfp_neg HX.out.1 HKD.out HPG.out]
            exact ⟨hci5.mono fun b hb => .inl hb, by have := HEN1.out; have := hcn; show ((nj + 1 : Nat) : Int) + 2 * c.n ≤ n + 2 * (cj).n; first | omega | (simp only; omega), HLB.out.fr.trans (hfr5.mono fun b _ hb => .inl hb)⟩
        · have h8' : (k == 8) = false := by simp [h8]
          have H8 := Lib.hid h8
          clear h8
          go_upto_region 24 with (fail)
          go_quiet (fail)
          go_wp2
          have HLE := Lib.hid (HWL.out.below (below_drewN (Below.refl _ _) nq))
          refine leaves_cons (f := 108) (args := #[.pointer (some ⟨X, 0, none⟩), .pointer (some ⟨Y, 0, none⟩)]) (by simp) (by simp [go_sem]) ?_
          refine (pop_any HLE.out.ci hs ⟨cell_of_block HLE.out.p3 0, cell_of_block HLE.out.p9 0⟩ HBQ.out (by have := HEN1.out; have := hcn; first | omega | (simp only; omega))).mono ?_
          rintro e5 u6 w5 ⟨rfl, rfl, hci5, hfr5⟩
          refine ⟨_, results_none rfl _ _ _, rfl, nj + 1, ?_⟩
          rw [HWB.out, ← HWE.out, lfp_not (by have := HF.out.kids_of.2.2.2.1; have := H8.out; omega)]
          exact ⟨hci5.mono fun b hb => .inl hb, by have := HEN1.out; have := hcn; show ((nj + 1 : Nat) : Int) + 2 * c.n ≤ n + 2 * (cj).n; first | omega | (simp only; omega), HLE.out.fr.trans (hfr5.mono fun b _ hb => .inl hb)⟩
end Go.Proofs.YtadnnijdbcdkjaaGreatDoor
