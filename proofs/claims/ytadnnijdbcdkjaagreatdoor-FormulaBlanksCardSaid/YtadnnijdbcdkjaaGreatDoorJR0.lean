/-
  What the rows' condition on the listed variables gives the walks: the two error variables of strconv hold errors; and a world that meets the condition. Conditions: none.
-/
import Derived.Test.YtadnnijdbcdkjaaGreatDoorRows
import Derived.Test.YtadnnijdbcdkjaaGreatDoorJW40
import Derived.ProofKit
import Derived.LaidMore
import Derived.MakeChecks
import Derived.OpenShut
import Derived.ShutString
import Derived.ChangeOld
import Derived.Stop.Joined
namespace Go.Proofs.YtadnnijdbcdkjaaGreatDoor
open Go.ChangeShapes Go.WideShapes Go.ChangeAt Go.WideMaps Go.WideElems Go.RowKit
open Go.ChangeMaps (open_string shut_string)

def laidL : List (String × DataW Unit) := [("math/bits.deBruijn32tab", Rows.laid_math_bits_deBruijn32tab), ("math/bits.deBruijn64tab", Rows.laid_math_bits_deBruijn64tab), ("internal/strconv.uint64pow10", Rows.laid_internal_strconv_uint64pow10), ("strconv.ErrRange", Rows.laid_strconv_ErrRange), ("strconv.ErrSyntax", Rows.laid_strconv_ErrSyntax)]

theorem Tryz.own : ownKnob Tryz.prog.godebug = none := by kernel_rfl
theorem Tryz.laidOut : laidOutB Tryz.prog = true := by kernel_rfl
theorem Tryz.gEr : Tryz.prog.globalNamed "strconv.ErrRange" = some 1 := by kernel_rfl
theorem Tryz.gEs : Tryz.prog.globalNamed "strconv.ErrSyntax" = some 0 := by kernel_rfl
theorem Tryz.tEr : (Tryz.prog.globals[1]?).map (·.type) = some 110 := by kernel_rfl
theorem Tryz.tEs : (Tryz.prog.globals[0]?).map (·.type) = some 110 := by kernel_rfl

set_option maxRecDepth 100000 in
theorem Tryz.door_met (os : Os) (args : Array Value) : laidMetH Tryz.prog laidL ((World.doorLaid Tryz.prog 2000 os).forCall (fun _ _ => 0) ⟨#[], args, []⟩).memory :=
  laidMetH_of_parts3 (fuel := 16) (laidMet_of_run' 16 (by kernel_rfl) (by kernel_rfl)) (by kernel_rfl) (by kernel_rfl)

theorem iface_cell {W : World} {g u : TypeId} {name nm : String} {cs : Array Value} {f : Nat} {p : List MemPlace} {sp : Nat → Bool} {ms : Array (String × TypeId)} {d : DataW Unit} {enc : TypeId × Value → Unit} (hu : Tryz.prog.underlying u = some (.interface ms))
    (hg : Tryz.prog.globalNamed name = some g) (hv : W.var? Tryz.prog name = some cs) (hd : DataW.trod enc Tryz.prog W 0 sp false f u cs.toList = some (.iface nm d, p)) : ∃ te pe, W.cell? ⟨g, 0, none⟩ = some (.iface te pe) := by
  obtain ⟨f', te, pe, hcs, -, -⟩ := iface_of_trod hu hd
  refine ⟨te, pe, ?_⟩
  have := World.var?_cell hg hv 0
  rw [Array.eq_one_of_toList hcs] at this
  simpa using this
theorem glob_of_laid {W : World} (h : laidMetH Tryz.prog laidL W) : Glob W ∧ 1 < W.heap.size := by
  rw [MakeChecks.laidMetH_plain _ _ _ (by kernel_rfl)] at h
  obtain ⟨ps, ⟨g0, t0, cs0, f0, p0, q0, hg0, ht0, hv0, hd0, ⟨g1, t1, cs1, f1, p1, q1, hg1, ht1, hv1, hd1, ⟨g2, t2, cs2, f2, p2, q2, hg2, ht2, hv2, hd2, ⟨g3, t3, cs3, f3, p3, q3, hg3, ht3, hv3, hd3, ⟨g4, t4, cs4, f4, p4, q4, hg4, ht4, hv4, hd4, _, _⟩, _⟩, _⟩, _⟩, _⟩, _, _⟩ := h
  obtain rfl := Option.some.inj (Tryz.gEr.symm.trans hg3)
  obtain rfl := Option.some.inj (Tryz.gEs.symm.trans hg4)
  obtain rfl := Option.some.inj (Tryz.tEr.symm.trans ht3)
  obtain rfl := Option.some.inj (Tryz.tEs.symm.trans ht4)
  obtain ⟨te, pe, h1⟩ := iface_cell Tryz.underlying110 hg3 hv3 hd3
  obtain ⟨tf, pf, h2⟩ := iface_cell Tryz.underlying110 hg4 hv4 hd4
  refine ⟨⟨⟨tf, pf, h2⟩, ⟨te, pe, h1⟩⟩, ?_⟩
  unfold World.cell? at h1
  rcases Nat.lt_or_ge 1 W.heap.size with hlt | hge
  · exact hlt
  · rw [Array.getElem?_eq_none (by omega)] at h1
    cases h1
end Go.Proofs.YtadnnijdbcdkjaaGreatDoor
