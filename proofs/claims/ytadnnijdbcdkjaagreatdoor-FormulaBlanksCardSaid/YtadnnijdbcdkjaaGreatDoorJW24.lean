/-
  What the checker holds in memory, and what turns it. Conditions: none.
-/
import Derived.Test.YtadnnijdbcdkjaaGreatDoorJW23
import Derived.Maps.GroupsBeside
namespace Go.Proofs.YtadnnijdbcdkjaaGreatDoor
open Go.RowKit Go.ChangeShapes Go.Maps Go.MapKept Go.WideShapes

theorem law : Keyed Tryz.prog 9 := string_keyed (by kernel_rfl)
theorem hString : Tryz.prog.underlying 9 = some .string := by kernel_rfl
theorem hInt : Tryz.prog.underlying 3 = some (.int .i64) := by kernel_rfl
theorem hInts : Tryz.prog.underlying 126 = some (.slice 3) := by kernel_rfl
theorem hMI : Tryz.prog.underlying 77 = some (.map 9 3) := by kernel_rfl
theorem hMG : Tryz.prog.underlying 76 = some (.map 9 126) := by kernel_rfl
theorem zInt (w : World) : (zeroValue 3).run Tryz.prog w = .ok (.int .i64 0) w := by kernel_rfl
theorem zInts (w : World) : (zeroValue 126).run Tryz.prog w = .ok (.slice none 0 0) w := by kernel_rfl
theorem Tryz.infoInt : (Tryz.prog.info? 3).map (fun i => (i.zero, i.size, i.bytes)) = some (some (.int .i64 0), 1, 8) := by kernel_rfl

theorem key_of {s : ByteArray} (h : s.size ≤ maxLen) : keyOf Tryz.prog 9 (.string s) = some (keyL s) := WideMaps.keyOf_string_mk hString h

/-- A look-up's value hangs on the map's entries alone. -/
theorem find_fixed {P : Program} {k : TypeId} (hk : P.underlying k = some .string) {x : Value} {lx : Lit} (hx : keyOf P k x = some lx) (es : List MapEntry) (hes : ∀ e ∈ es, ∃ l, keyOf P k e.key = some l) :
    ∃ r, ∀ w, (Instr.findKey k x es).run P w = .ok r w := by
  have isK : ∀ {v : Value} {l : Lit}, keyOf P k v = some l → IsKey .string v := fun {v l} h => by
    have h' : mapKey P k v = some l := by simpa [keyOf, hk] using h
    obtain ⟨d', hd', h1, h2⟩ := mapKey_isKey h'
    rw [hk] at hd'
    cases hd'
    exact h1
  have hks : ∀ y ∈ es, IsKey .string y.key := fun y hy => by
    obtain ⟨l, hl⟩ := hes y hy
    exact isK hl
  rcases findNow_spec (isK hx) es 0 hks with ⟨h1, h2⟩ | ⟨j, e0, h1, h2, h3⟩
  · exact ⟨none, fun w => run_findKey hk h1⟩
  · exact ⟨some (j, e0.val), fun w => by simpa using run_findKey hk h1⟩
theorem look_fixed {H : Type} {P : Program} {k e t : TypeId} {b : Nat} {R : Value → Option (DataW H × List MemPlace)} {es : Array MapEntry} {clock : Nat} {key : Value} {kl : Lit} (c : Bool) (hk : P.underlying k = some .string) (K : Keyed P k)
    (ht : P.underlying t = some (.map k e)) {z : Value} (hz : ∀ w, (zeroValue e).run P w = .ok z w) (F : Go.WideElems.Fit P k R es clock) (hkey : keyOf P k key = some kl) :
    ∃ v, ∀ w : World, w.heap[b]? = some (.map es clock) → (Instr.lookup t (.map (some b)) key c).run P w = .ok v w := by
  obtain ⟨r, hr⟩ := find_fixed hk hkey es.toList F.keys
  cases r with
  | none => exact ⟨_, fun w hb => by simp [Instr.lookup, run_underlying ht, MapKept.run_getObj_map hb, K.check w _ hkey, hr, hz, Result.andThen]; rfl⟩
  | some p => exact ⟨_, fun w hb => by simp [Instr.lookup, run_underlying ht, MapKept.run_getObj_map hb, K.check w _ hkey, hr, Result.andThen]; rfl⟩

/-- The checker in memory: its block cb, the maps' blocks mb and fb; rows of the map of slices from B on; No: blocks that no row is. -/
structure CI (w : World) (cb mb fb B n : Nat) (c : CK) (No : Nat → Prop) : Prop where
  cell : w.heap[cb]? = some (.cells #[.int .i64 c.n, .int .i64 c.deep, .map (some mb), .map (some fb), .bool c.bad] 79 (0, 0))
  grp : w.ownsGroups Tryz.prog 9 B 3 .i64 mb n c.bound
  fre : w.ownsMap Tryz.prog 9 (plainElem Tryz.prog 3) fb n c.free
  shun : w.Shuns mb No
  off : ¬ No cb ∧ ¬ No mb ∧ ¬ No fb
  low : cb < B ∧ fb < B ∧ B ≤ w.heap.size
  ne : mb ≠ fb
  cnt : 0 ≤ c.n ∧ (n : Int) ≤ 2 * c.n ∧ c.n ≤ 4001
  nob : ∀ b, No b → b < w.heap.size

/-- All blocks of which No holds are as they were. -/
structure Fr (No : Nat → Prop) (w w' : World) : Prop where
  os : w'.os = w.os
  tape : w'.tape = w.tape
  output : w'.output = w.output
  size : w.heap.size ≤ w'.heap.size
  block : ∀ b, No b → b < w.heap.size → w'.heap[b]? = w.heap[b]?
theorem Fr.refl (No : Nat → Prop) (w : World) : Fr No w w := ⟨rfl, rfl, rfl, Nat.le_refl _, fun _ _ _ => rfl⟩
theorem Fr.trans {No : Nat → Prop} {a b c : World} (h : Fr No a b) (k : Fr No b c) : Fr No a c :=
  ⟨k.os.trans h.os, k.tape.trans h.tape, k.output.trans h.output, Nat.le_trans h.size k.size, fun i hi hl => (k.block i hi (Nat.lt_of_lt_of_le hl h.size)).trans (h.block i hi hl)⟩
theorem Fr.mono {No No' : Nat → Prop} {a b : World} (h : Fr No a b) (hn : ∀ i, i < a.heap.size → No' i → No i) : Fr No' a b :=
  ⟨h.os, h.tape, h.output, h.size, fun i hi hl => h.block i (hn i hl hi) hl⟩
theorem Fr.of_below {No : Nat → Prop} {a b : World} (h : Below a.heap.size a b) : Fr No a b := ⟨h.os, h.tape, h.output, h.size, fun i _ hl => h.block i hl⟩
theorem Fr.grown {No : Nat → Prop} {a b : World} {r : Option Nat} (h : a.grownBy b r) (hr : ∀ j, r = some j → ¬ No j) : Fr No a b :=
  ⟨h.os, h.tape, h.output, h.size, fun i hi hl => h.block i hl (fun e => hr i e.symm hi)⟩
theorem Fr.drewN {No : Nat → Prop} (w : World) (n : Nat) : Fr No w (w.drewN n) := ⟨rfl, rfl, rfl, Nat.le_refl _, fun _ _ _ => rfl⟩
theorem Fr.setCell {No : Nat → Prop} (w : World) {p : Addr} (hp : ¬ No p.block) (v : Value) : Fr No w (w.setCell p v) :=
  ⟨rfl, rfl, rfl, by simp [World.setCell], fun i hi _ => Below.heap_setCell _ _ _ _ (fun e => hp (e ▸ hi))⟩
theorem grown_below {a b : World} (h : Below a.heap.size a b) (r : Option Nat) : a.grownBy b r := ⟨h.os, h.tape, h.output, h.size, fun i hi _ => h.block i hi⟩
theorem grown_setCell (w : World) (p : Addr) (v : Value) : w.grownBy (w.setCell p v) (some p.block) :=
  ⟨rfl, rfl, rfl, by simp [World.setCell], fun i _ hi => Below.heap_setCell _ _ _ _ (fun e => hi (by rw [e]))⟩

section
variable {w w' : World} {cb mb fb B n : Nat} {c : CK} {No : Nat → Prop}
theorem CI.mbB (h : CI w cb mb fb B n c No) : mb < B := by obtain ⟨_, _, _, _, _, _, hbb, _⟩ := h.grp; exact hbb
theorem CI.mlt (h : CI w cb mb fb B n c No) : mb < w.heap.size := Nat.lt_of_lt_of_le h.mbB h.low.2.2
theorem CI.clt (h : CI w cb mb fb B n c No) : cb < w.heap.size := block_lt h.cell
theorem CI.flt (h : CI w cb mb fb B n c No) : fb < w.heap.size := h.fre.lt
theorem CI.mc (h : CI w cb mb fb B n c No) : mb ≠ cb := by
  obtain ⟨_, _, hb, _⟩ := h.grp
  intro e
  have := h.cell
  rw [← e, hb] at this
  cases this
theorem CI.fc (h : CI w cb mb fb B n c No) : fb ≠ cb := by
  obtain ⟨_, _, hb, _⟩ := h.fre
  intro e
  have := h.cell
  rw [← e, hb] at this
  cases this
/-- Over whatever leaves the old blocks alone. -/
theorem CI.below (h : CI w cb mb fb B n c No) (hb : Below w.heap.size w w') : CI w' cb mb fb B n c No :=
  ⟨(hb.block _ h.clt).trans h.cell, h.grp.kept (grown_below hb none) (by simp) (h.grp.rowsAbove (fun j hj => by cases hj)), h.fre.kept (grown_below hb none) (by simp), h.shun.kept (grown_below hb none) h.mlt (by simp), h.off,
    ⟨h.low.1, h.low.2.1, Nat.le_trans h.low.2.2 hb.size⟩, h.ne, h.cnt, fun b hN => Nat.lt_of_lt_of_le (h.nob b hN) hb.size⟩
theorem CI.drewN (h : CI w cb mb fb B n c No) (k : Nat) : CI (w.drewN k) cb mb fb B n c No := h.below ⟨rfl, rfl, rfl, Nat.le_refl _, fun _ _ => rfl⟩
/-- Other blocks that no row is: blocks that came since. -/
theorem CI.reno {No' : Nat → Prop} (h : CI w cb mb fb B n c No) (hb : Below w.heap.size w w') (hn : ∀ g, No' g → No g ∨ (w.heap.size ≤ g ∧ g < w'.heap.size)) : CI w' cb mb fb B n c No' :=
  have hq := h.below hb
  ⟨hq.cell, hq.grp, hq.fre, (h.shun.reno h.grp (fun g k => (hn g k).imp id (fun k => k.1))).kept (grown_below hb none) h.mlt (by simp),
    ⟨fun k => (hn _ k).elim h.off.1 (fun k => by have := h.clt; omega), fun k => (hn _ k).elim h.off.2.1 (fun k => by have := h.mlt; omega), fun k => (hn _ k).elim h.off.2.2 (fun k => by have := h.flt; omega)⟩, hq.low, h.ne, h.cnt,
    fun b k => (hn b k).elim (fun k => Nat.lt_of_lt_of_le (h.nob b k) hb.size) (fun k => k.2)⟩
/-- A store into the checker's own block. -/
theorem CI.set (h : CI w cb mb fb B n c No) {o : Nat} {v : Value} {c' : CK} (h' : (w.setCell ⟨cb, o, none⟩ v).heap[cb]? = some (.cells #[.int .i64 c'.n, .int .i64 c'.deep, .map (some mb), .map (some fb), .bool c'.bad] 79 (0, 0)))
    (eb : c'.bound = c.bound) (ef : c'.free = c.free) (hc : 0 ≤ c'.n ∧ (n : Int) ≤ 2 * c'.n ∧ c'.n ≤ 4001) : CI (w.setCell ⟨cb, o, none⟩ v) cb mb fb B n c' No := by
  have hg := grown_setCell w ⟨cb, o, none⟩ v
  refine ⟨h', ?_, ?_, h.shun.kept hg h.mlt (fun e => h.mc (by simpa using e)), h.off, ⟨h.low.1, h.low.2.1, Nat.le_trans h.low.2.2 hg.size⟩, h.ne, hc, fun b hN => Nat.lt_of_lt_of_le (h.nob b hN) hg.size⟩
  · rw [eb]
    exact h.grp.kept hg (fun e => h.mc (by simpa using e)) (h.grp.rowsAbove (fun j hj => by cases hj; exact h.low.1))
  · rw [ef]
    exact h.fre.kept hg (fun e => h.fc (by simpa using e))
theorem CI.load (h : CI w cb mb fb B n c No) : w.cell? ⟨cb, 0, none⟩ = some (.int .i64 c.n) ∧ w.cell? ⟨cb, 1, none⟩ = some (.int .i64 c.deep) ∧ w.cell? ⟨cb, 2, none⟩ = some (.map (some mb)) ∧ w.cell? ⟨cb, 3, none⟩ = some (.map (some fb)) ∧ w.cell? ⟨cb, 4, none⟩ = some (.bool c.bad) ∧ ∀ i, w.frozen? ⟨cb, i, none⟩ = false :=
  ⟨cell_of_block h.cell 0, cell_of_block h.cell 1, cell_of_block h.cell 2, cell_of_block h.cell 3, cell_of_block h.cell 4, free_of_block h.cell⟩
end
end Go.Proofs.YtadnnijdbcdkjaaGreatDoor
