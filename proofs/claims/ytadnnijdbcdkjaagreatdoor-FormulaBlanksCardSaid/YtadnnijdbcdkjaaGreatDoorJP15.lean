/-
  The three texts that alive reads. No program in sight.
-/
import Derived.Test.YtadnnijdbcdkjaaGreatDoorJW38
namespace Go.Proofs.YtadnnijdbcdkjaaGreatDoor
open Go.RowKit

def aliveA : ByteArray := ⟨#[108, 102, 112, 40, 82, 32, 120, 32, 121, 58, 32, 111, 114, 40, 69, 40, 120, 32, 121, 41, 44, 32, 115, 111, 109, 101, 40, 122, 58, 32, 97, 110, 100, 40, 69, 40, 120, 32, 122, 41, 44, 32, 82, 40, 122, 32, 121, 41, 41, 41, 41, 41, 40, 97, 32, 98, 41]⟩
def aliveB : ByteArray := ⟨#[108, 102, 112, 40, 82, 32, 120, 58, 32, 110, 111, 116, 40, 82, 40, 120, 41, 41, 41, 40, 97, 41]⟩
def aliveC : ByteArray := ⟨#[69, 40, 120]⟩
set_option maxRecDepth 100000
theorem aliveC_is : (parseP aliveC).2 = (3, 3) := by decide +kernel
theorem aliveB_is : (parseP aliveB).2 = (0, 1) := by decide +kernel
theorem aliveA_is : (parseP aliveA).2 = (0, 0) := by decide +kernel
theorem aliveA_keys : strKeys (freeW (parseP aliveA).1 (.map []) (.map [])).2 = [[97], [98]] := by decide +kernel
theorem aliveA_valid : validB (parseP aliveA).1 = true := by decide +kernel
theorem aliveA_syms : strKeys (checkedB (parseP aliveA).1).free = [[69]] := by decide +kernel
theorem aliveA_free : freeL (parseP aliveA).1 = [⟨#[97]⟩, ⟨#[98]⟩] := by
  unfold freeL keysB
  rw [if_pos aliveA_valid, aliveA_keys]
  have : ([[97], [98]] : List (List UInt8)).mergeSort leB = [[97], [98]] := List.mergeSort_of_pairwise (by decide)
  rw [this]; rfl
theorem aliveA_sym : (symL (parseP aliveA).1).length = 1 := by
  unfold symL
  rw [if_pos aliveA_valid, List.length_map]
  unfold keysB
  rw [List.length_map, List.length_mergeSort, aliveA_syms]; rfl
end Go.Proofs.YtadnnijdbcdkjaaGreatDoor
