/-
  FormulaBlanks at every text and every list of numbers. It answers true.
-/
import Derived.Test.YtadnnijdbcdkjaaGreatDoorJW39
import Derived.Test.YtadnnijdbcdkjaaGreatDoorJA
import Derived.Lib.AppendStr
import Derived.Lib.BufferRead
import Derived.Lib.SlBytesRow
namespace Go.Proofs.YtadnnijdbcdkjaaGreatDoor
open Go.RowKit Go.ChangeShapes Go.Maps Go.MapKept Go.WideShapes Go.Sort

/-- A value reads as a list of bytes. -/
def IsBy (w : World) (a : Option Addr) (c : Nat) (l : List UInt8) : Prop :=
  l = [] ∨ ∃ b o, a = some ⟨b, o, none⟩ ∧ l.length ≤ c ∧ c ≤ maxLen ∧ b < w.heap.size ∧ ∀ i, i < l.length → w.cell? ⟨b, o + i, none⟩ = some (.int .u8 (l.getD i 0).toNat)

theorem Tryz.infoU8 : (Tryz.prog.info? 5).map (fun i => (i.zero, i.size, i.bytes)) = some (some (.int .u8 0), 1, 1) := by kernel_rfl
def byCells (l : List UInt8) : List Value := l.map fun c => Value.int .u8 c.toNat
/-- What is still to come from token j on. -/
def restF (by_ : List UInt8) (ts : List ByteArray) (j : Nat) : List UInt8 := if j ≤ ts.length then outF by_ ts.length j (ts.drop j) else []
theorem rest_go {by_ : List UInt8} {ts : List ByteArray} {j : Nat} (h : j < ts.length) : restF by_ ts j = sepB by_ ts.length j ++ ((ts.getD j eb).data.toList ++ restF by_ ts (j + 1)) := by
  unfold restF
  rw [if_pos (by omega), if_pos (by omega), List.drop_eq_getElem_cons h, outF, List.getD_eq_getElem?_getD, List.getElem?_eq_getElem h]
  rfl
theorem rest_end {by_ : List UInt8} {ts : List ByteArray} : restF by_ ts ts.length = sepB by_ ts.length ts.length := by
  unfold restF
  rw [if_pos (Nat.le_refl _), List.drop_length, outF]
theorem rest_out {by_ : List UInt8} {ts : List ByteArray} {j : Nat} (h : ¬ j ≤ ts.length) : restF by_ ts j = [] := by unfold restF; rw [if_neg h]

theorem cells_one (W : World) (t : TypeId) (c0 : Value) : ∀ j u, [c0][j]? = some u → (W.alloc (.cells #[c0] t)).cell? ((⟨W.heap.size, 0, none⟩ : Addr).add j) = some u := by
  intro j u h
  rw [show (⟨W.heap.size, 0, none⟩ : Addr).add j = ⟨W.heap.size, j, none⟩ by unfold Addr.add; split <;> simp_all]
  rw [cell_of_block (block_alloc_new W _)]
  simpa using h
theorem one_u8 {z : Int} : ∀ u ∈ [Value.int .u8 z], u.oneCell' = true := by
  intro u hu
  simp only [List.mem_singleton] at hu
  subst hu; rfl
theorem below_grow {B : Nat} {a w w' : World} {row : Option Nat} (h : RowKit.Below B a w) (hg : w.grownBy w' row) (hr : ∀ k, row = some k → B ≤ k) (hs : B ≤ w.heap.size) : RowKit.Below B a w' :=
  ⟨hg.os.trans h.os, hg.tape.trans h.tape, hg.output.trans h.output, Nat.le_trans h.size hg.size, fun q hq => (hg.block q (Nat.lt_of_lt_of_le hq hs) (fun e => by have := hr q e.symm; omega)).trans (h.block q hq)⟩
theorem byCells_one {w : World} {base : Nat} {v : Value} {L : List UInt8} (c : UInt8) {z : Int} (hz : z = c.toNat) (h : w.ownsRow base 5 1 v (L.length + 1) (byCells L ++ [.int .u8 z])) : w.ownsRow base 5 1 v (L ++ [c]).length (byCells (L ++ [c])) := by
  subst hz
  rw [List.length_append]
  unfold byCells at h ⊢
  rw [List.map_append]
  exact h
theorem byCells_str {w : World} {base : Nat} {v : Value} {L : List UInt8} {t : ByteArray} (h : w.ownsRow base 5 1 v (L.length + t.size) (byCells L ++ Lib.strCells t)) : w.ownsRow base 5 1 v (L ++ t.data.toList).length (byCells (L ++ t.data.toList)) := by
  rw [List.length_append, Array.length_toList]
  unfold byCells at h ⊢
  rw [List.map_append]
  exact h

theorem bs_size (L : List UInt8) : (bs L).size = L.length := rfl
theorem conv_own {w : World} {base : Nat} {v : Value} {L : List UInt8} (h : w.ownsRow base 5 1 v L.length (byCells L)) {w' : World} (hb : RowKit.Below w.heap.size w w') : (convert 22 9 v).run Tryz.prog w' = .ok (.string (bs L)) w' := by
  obtain ⟨h1, h2⟩ := h
  rcases h2 with ⟨hv, hn⟩ | ⟨g, cap, cur, hv, hg, hbl, hn, hm, hsz, htk⟩
  · have : L = [] := List.eq_nil_of_length_eq_zero hn
    subst this; subst hv
    exact Lib.run_convert_nil_bytes w' _ _ _ 0 Tryz.underlying22 Tryz.underlying5 Tryz.underlying9
  · subst hv
    have hbl' := (hb.block g (block_lt hbl)).trans hbl
    have hB : Lib.Bytes w' g 0 (bs L) := by
      intro i hi
      rw [Nat.zero_add, cell_of_block hbl']
      have hi' : i < L.length := hi
      have h3 : (cur.toList.take (L.length * 1))[i]? = (byCells L)[i]? := by rw [htk]
      unfold byCells at h3
      rw [List.getElem?_take_of_lt (by omega), Array.getElem?_toList, List.getElem?_map, List.getElem?_eq_getElem hi'] at h3
      rw [h3]
      rfl
    have := Lib.run_convert_whole (P := Tryz.prog) w' 22 5 9 Tryz.underlying22 Tryz.underlying5 Tryz.underlying9 g 0 (bs L) hB cap
    rw [bs_size] at this
    exact this
theorem parse_same {s s' : ByteArray} (h1 : s.size ≤ 40000) (h2 : s'.size ≤ 40000) (h : (toks s 0).map (·.2) = (toks s' 0).map (·.2)) : (parseP s').1 = (parseP s).1 ∧ (parseP s').2.2 = (parseP s).2.2 := by
  unfold parseP
  rw [if_neg (by omega), if_neg (by omega)]
  rcases read_same h with ⟨F, e1, e2⟩ | ⟨i, j, e1, e2⟩
  · rw [e1, e2]; exact ⟨rfl, rfl⟩
  · rw [e1, e2]; exact ⟨rfl, rfl⟩



/-- Where the loop stands. -/
def BlAt (w2 : World) (by_ : List UInt8) (ts : List ByteArray) (k : Nat) (v6 v7 : Value) (wr : World) : Prop :=
  ∃ (j : Nat) (L : List UInt8), j ≤ ts.length + 1 ∧ k = ts.length + 1 - j ∧ v7 = .int .i64 j ∧ L ++ restF by_ ts j = outF by_ ts.length 0 ts ∧ wr.ownsRow w2.heap.size 5 1 v6 L.length (byCells L) ∧ RowKit.Below w2.heap.size w2 wr

theorem toks_shape {w : World} {base : Nat} {l : List (Nat × ByteArray)} {v : Value} (h : OwnToks base l v w) : ∃ a c, v = .slice a l.length c ∧ l.length ≤ c ∧ c ≤ maxLen ∧ (0 < l.length → ∃ b, a = some ⟨b, 0, none⟩ ∧ b < w.heap.size ∧ ∀ i, i < l.length → w.cell? ⟨b, i * 2 + 1, none⟩ = some (.string ((l.map (·.2)).getD i eb))) := by
  obtain ⟨h1, h2⟩ := h
  rcases h2 with ⟨hv, hn⟩ | ⟨g, cap, cur, hv, hg, hb, hn, hm, hsz, htk⟩
  · exact ⟨none, 0, by rw [hv, hn], by omega, Nat.zero_le _, fun h => by omega⟩
  · refine ⟨_, cap, hv, hn, hm, fun _ => ⟨g, rfl, block_lt hb, ?_⟩⟩
    intro i hi
    rw [cell_of_block hb]
    have h3 : (cur.toList.take (l.length * 2))[i * 2 + 1]? = (tokCells l)[i * 2 + 1]? := by rw [htk]
    rw [List.getElem?_take_of_lt (by omega), Array.getElem?_toList] at h3
    rw [h3]
    have : ∀ (l : List (Nat × ByteArray)) (i : Nat), i < l.length → (tokCells l)[i * 2 + 1]? = some (.string ((l.map (·.2)).getD i eb)) := by
      intro l
      induction l with
      | nil => intro i hi; cases hi
      | cons p r ih =>
        intro i hi
        cases i with
        | zero => rfl
        | succ i =>
          have := ih i (by simpa using hi)
          show (Value.int .i64 p.1 :: Value.string p.2 :: tokCells r)[(i + 1) * 2 + 1]? = _
          rw [show (i + 1) * 2 + 1 = (i * 2 + 1) + 2 by omega, List.getElem?_cons_succ, List.getElem?_cons_succ, this]
          rfl
    exact this l i hi

set_option maxRecDepth 100000 in
set_option maxHeartbeats 2000000 in
theorem blanks_walk {w : World} (g : Glob w) (hw : 1 < w.heap.size) (s : ByteArray) (hs : s.size ≤ maxLen) (a : Option Addr) (c : Nat) (bs : List UInt8) (hby : IsBy w a c bs) :
    Calls Tryz.prog 3 #[.string s, .slice a bs.length c] w fun e w' => e = .returned (.bool true) ∧ RowKit.Below w.heap.size w w' := by
  have G := Lib.hid g
  have HW := Lib.hid hw
  have HSM := Lib.hid hs
  clear g
  by_cases h8 : 8000 < s.size
  · have h1 : (8000 : Int) < (s.size : Int) := by omega
    go_enter Tryz.func3, Tryz.ntmps3
    go_wp2_with fail
    refine (alive_any G.out HW.out).mono ?_
    rintro e w1 ⟨rfl, hb⟩
    have HB := Lib.hid hb
    go_wp2
    go_ret
    exact ⟨rfl, HB.out⟩
  · have h1 : ¬ (8000 : Int) < (s.size : Int) := by omega
    rcases hby with rfl | ⟨b, o, rfl, hlc, hcm, hbs, hcell⟩
    · go_enter Tryz.func3, Tryz.ntmps3
      go_wp2_with fail
      refine (alive_any G.out HW.out).mono ?_
      rintro e w1 ⟨rfl, hb⟩
      have HB := Lib.hid hb
      go_wp2
      go_ret
      exact ⟨rfl, HB.out⟩
    · by_cases hn0 : bs.length = 0
      · have h2 : (bs.length : Int) = 0 := by omega
        go_enter Tryz.func3, Tryz.ntmps3
        go_wp2_with fail
        refine (alive_any G.out HW.out).mono ?_
        rintro e w1 ⟨rfl, hb⟩
        have HB := Lib.hid hb
        go_wp2
        go_ret
        exact ⟨rfl, HB.out⟩
      · have h2 : ((bs.length : Int) == 0) = false := by rw [beq_eq_false_iff_ne]; omega
        have h3 : ¬ (bs.length : Int) = 0 := by omega
        go_enter Tryz.func3, Tryz.ntmps3
        go_wp2_with fail
        refine (tokens_any s (by omega)).mono ?_
        rintro e w2 ⟨u, rfl, hou, hb⟩
        have HB2 := Lib.hid hb
        have HT2 := Lib.hid (toks_len (s := s) s.size 0 (by omega))
        have HTS := Lib.hid (outF_len bs (toks s 0).length 0 ((toks s 0).map (·.2)))
        have HBS := Lib.hid (blanks_same s bs)
        obtain ⟨ua, uc, rfl, hlu, hum, huc⟩ := toks_shape hou
        have hcell2 : ∀ i, i < bs.length → w2.cell? ⟨b, o + i, none⟩ = some (.int .u8 (bs.getD i 0).toNat) := fun i hi => (World.cell?_of_block (w := w) (hb.block b hbs)).trans (hcell i hi)
        have HC2 := Lib.hid hcell2
        have HBB := Lib.hid (show b < w2.heap.size from Nat.lt_of_lt_of_le hbs hb.size)
        have HUC := Lib.hid huc
        clear hou hb hcell hcell2 huc
        rw [Nat.sub_zero] at HT2
        generalize hts : (toks s 0).map (·.2) = ts at *
        have hnt : (toks s 0).length = ts.length := by rw [← hts, List.length_map]
        have hms : ((toks s 0).map (·.2.size)).sum = (ts.map (·.size)).sum := by rw [← hts, List.map_map]; rfl
        have HTX := Lib.hid hts
        rw [hms] at HT2
        clear hts hms
        rw [hnt] at HT2 HTS HBS HUC hlu
        rw [hnt]
        clear hnt
        have hout : (outF bs ts.length 0 ts).length ≤ 40000 := by have := HT2.out; have := HTS.out; omega
        have HOL := Lib.hid hout
        have htn : ts.length ≤ 16000 := by have := HT2.out; omega
        clear hout HT2 HTS
        obtain ⟨i0, hi, hz0, hz1, hz2⟩ := info_parts Tryz.infoU8
        unfold maxLen at hum hcm
        go_wp2_with fail
        go_loopg [6, 7, 8] (ts.length + 1) (fun k v6 v7 v8 wr => BlAt w2 bs ts k v6 v7 wr)
        case atStart => exact ⟨0, [], Nat.zero_le _, rfl, rfl, by rw [List.nil_append]; unfold restF; rw [if_pos (Nat.zero_le _), List.drop_zero], World.ownsRow_nil _ _ _ _, RowKit.Below.refl _ _⟩
        case round =>
          obtain ⟨j, L, hj, rfl, rfl, hL, hown, hbw⟩ := hrel
          have HO := Lib.hid hown
          have HBR := Lib.hid hbw
          have HL := Lib.hid hL
          clear hown hbw hL
          by_cases hle : j ≤ ts.length
          · have hji : (j : Int) ≤ (ts.length : Int) := by omega
            have hj0 : (0 : Int) ≤ (j : Int) := by omega
            have HJ := Lib.hid hle
            obtain ⟨x, hx⟩ : ∃ x, j % bs.length = x := ⟨_, rfl⟩
            have hxl : x < bs.length := by rw [← hx]; exact Nat.mod_lt _ (by omega)
            have hmod : Int.tmod (j : Int) (bs.length : Int) = (x : Int) := by rw [← hx]; rfl
            have hxi : (x : Int) < (bs.length : Int) := by omega
            have hx0 : (0 : Int) ≤ (x : Int) := by omega
            have HX := Lib.hid hx
            have hcx := (World.cell?_of_block (w := w2) (w' := wr) (a := ⟨b, o + x, none⟩) (HBR.out.block b HBB.out)).trans (HC2.out x hxl)
            have HCB := Lib.hid (show sepB bs ts.length j = _ from by unfold sepB; rw [hx])
            clear hx
            generalize bs.getD x 0 = cb at *
            have hcb : cb.toNat < 256 := cb.toNat_lt
            have hm4 : Int.tmod (cb.toNat : Int) 4 = ((cb.toNat % 4 : Nat) : Int) := rfl
            have hq4 : Int.tdiv (cb.toNat : Int) 4 = ((cb.toNat / 4 : Nat) : Int) := rfl
            have hm2 : Int.tmod ((cb.toNat / 4 : Nat) : Int) 2 = ((cb.toNat / 4 % 2 : Nat) : Int) := rfl
            have hr4 : cb.toNat % 4 < 4 := Nat.mod_lt _ (by decide)
            have hq64 : cb.toNat / 4 < 64 := by omega
            have hz2' : cb.toNat / 4 % 2 = 0 ∨ cb.toNat / 4 % 2 = 1 := by omega
            have HLL := Lib.hid (show L.length ≤ 40000 from by have := HOL.out; rw [← HL.out, List.length_append] at this; omega)
            generalize cb.toNat % 4 = r4 at *
            generalize cb.toNat / 4 = q4 at *
            generalize hzz : q4 % 2 = z2 at *
            clear hzz
            go_upto_region 9 with (fail)
            by_cases hr0 : 0 < r4
            · have hr0' : (0 : Int) < (r4 : Int) := by omega
              rcases hz2' with rfl | rfl
              · go_upto_region 10 with (fail)
                have hl9 : L.length ≤ 40100 := by have := HLL.out; (try simp only [List.length_append, List.length_cons, List.length_nil]); omega
                go_upto_region 11 with (at_builtin; refine wpList_append_own _ rfl _ _ 22 rfl w2.heap.size 5 i0 (.int .u8 0) 1 1 Tryz.underlying22 hi hz0 hz1 hz2 rfl (by decide) _ _ _ rfl (HO.out.alloc _) ⟨wr.heap.size, 0, none⟩ 1 1 [.int .u8 32] rfl rfl (cells_one _ _ _) one_u8 (by unfold maxLen; omega) (by omega) (by have := HBR.out.size; simp; omega) ?_; intro v9 w9 hown9 hg9 _; have HO9 := Lib.hid (byCells_one 32 rfl hown9); have HB9 := Lib.hid (below_grow (below_alloc HBR.out (.cells #[.int .u8 32] 5) (Nat.le_refl _)) hg9 (fun q hq => (HO.out.lt q hq).1) (by have := HBR.out.size; simp; omega)); clear hown9 hg9)
                clear hl9
                by_cases hr3 : 2 < r4
                · have hr3' : (2 : Int) < (r4 : Int) := by omega
                  have HS := Lib.hid (HCB.out.trans (by rw [if_pos (.inl hr0), if_pos rfl, if_pos hr3]))
                  go_upto_region 12 with (fail)
                  have hl8 : (L ++ [32]).length ≤ 40100 := by have := HLL.out; (try simp only [List.length_append, List.length_cons, List.length_nil]); omega
                  go_upto_region 13 with (at_builtin; refine wpList_append_own _ rfl _ _ 22 rfl w2.heap.size 5 i0 (.int .u8 0) 1 1 Tryz.underlying22 hi hz0 hz1 hz2 rfl (by decide) _ _ _ rfl (HO9.out.alloc _) ⟨w9.heap.size, 0, none⟩ 1 1 [.int .u8 32] rfl rfl (cells_one _ _ _) one_u8 (by unfold maxLen; omega) (by omega) (by have := HB9.out.size; simp; omega) ?_; intro v8 w8 hown8 hg8 _; have HO8 := Lib.hid (byCells_one 32 rfl hown8); have HB8 := Lib.hid (below_grow (below_alloc HB9.out (.cells #[.int .u8 32] 5) (Nat.le_refl _)) hg8 (fun q hq => (HO9.out.lt q hq).1) (by have := HB9.out.size; simp; omega)); clear hown8 hg8)
                  clear hl8
                  by_cases hjn : j < ts.length
                  · skip
                    have hul := HUC.out (by omega)
                    obtain ⟨ub, rfl, hub, huc⟩ := hul
                    have hui : (j : Int) < (ts.length : Int) := by omega
                    have htc := (World.cell?_of_block (w := w2) (w' := w8) (a := ⟨ub, j * 2 + 1, none⟩) (HB8.out.block ub hub)).trans (huc j hjn)
                    have HRG := Lib.hid (rest_go (by_ := bs) hjn)
                    have htl : (ts.getD j eb).size ≤ 40000 := by have := HOL.out; rw [← HL.out, HRG.out] at this; simp only [List.length_append, Array.length_toList] at this; have e : (ts.getD j eb).data.size = (ts.getD j eb).size := rfl; omega
                    have HJN := Lib.hid hjn
                    clear huc hub
                    generalize ts.getD j eb = tok at *
                    have hl7 : (L ++ [32] ++ [32]).length ≤ 40100 := by have := HLL.out; (try simp only [List.length_append, List.length_cons, List.length_nil]); omega
                    go_wp2_with (at_builtin; refine Lib.wpList_append_own_string _ rfl _ _ 22 9 rfl w2.heap.size 5 i0 Tryz.underlying22 Tryz.underlying9 hi hz0 hz1 hz2 _ _ _ rfl HO8.out tok rfl (by unfold maxLen; omega) (by omega) (by have := HB8.out.size; omega) ?_; intro v7 w7 hown7 hg7 _; have HO7 := Lib.hid (byCells_str hown7); have HB7 := Lib.hid (below_grow HB8.out hg7 (fun q hq => (HO8.out.lt q hq).1) HB8.out.size); clear hown7 hg7)
                    go_roundg (ts.length + 1 - (j + 1))
                    case measure => have := HJN.out; omega
                    case rel => exact ⟨j + 1, (L ++ [32] ++ [32]) ++ tok.data.toList, by have := HJN.out; omega, rfl, by first | exact next_int (show j + 1 ≤ maxLen by have := HJN.out; unfold maxLen; omega) | go_num, by rw [← HL.out, HRG.out, HS.out]; try simp only [List.append_assoc, List.nil_append, List.cons_append], HO7.out, HB7.out⟩
                  · skip
                    have hui : ¬ (j : Int) < (ts.length : Int) := by omega
                    have HJE := Lib.hid (show j = ts.length from by omega)
                    have HRE := Lib.hid (show restF bs ts j = sepB bs ts.length j from by have e : j = ts.length := by omega
                                                                                          rw [e]; exact rest_end)
                    go_wp2_with fail
                    go_roundg (ts.length + 1 - (j + 1))
                    case measure => have := HJE.out; omega
                    case rel => exact ⟨j + 1, (L ++ [32] ++ [32]), by have := HJE.out; omega, rfl, by first | exact next_int (show j + 1 ≤ maxLen by have := HJE.out; unfold maxLen; omega) | go_num, by rw [← HL.out, HRE.out, HS.out, rest_out (by_ := bs) (ts := ts) (j := j + 1) (by have := HJE.out; omega)]; simp only [List.append_assoc, List.nil_append, List.cons_append, List.append_nil], HO8.out, HB8.out⟩
                · have hr3' : ¬ (2 : Int) < (r4 : Int) := by omega
                  have HS := Lib.hid (HCB.out.trans (by rw [if_pos (.inl hr0), if_pos rfl, if_neg hr3]))
                  go_upto_region 13 with (fail)
                  by_cases hjn : j < ts.length
                  · skip
                    have hul := HUC.out (by omega)
                    obtain ⟨ub, rfl, hub, huc⟩ := hul
                    have hui : (j : Int) < (ts.length : Int) := by omega
                    have htc := (World.cell?_of_block (w := w2) (w' := w9) (a := ⟨ub, j * 2 + 1, none⟩) (HB9.out.block ub hub)).trans (huc j hjn)
                    have HRG := Lib.hid (rest_go (by_ := bs) hjn)
                    have htl : (ts.getD j eb).size ≤ 40000 := by have := HOL.out; rw [← HL.out, HRG.out] at this; simp only [List.length_append, Array.length_toList] at this; have e : (ts.getD j eb).data.size = (ts.getD j eb).size := rfl; omega
                    have HJN := Lib.hid hjn
                    clear huc hub
                    generalize ts.getD j eb = tok at *
                    have hl7 : (L ++ [32]).length ≤ 40100 := by have := HLL.out; (try simp only [List.length_append, List.length_cons, List.length_nil]); omega
                    go_wp2_with (at_builtin; refine Lib.wpList_append_own_string _ rfl _ _ 22 9 rfl w2.heap.size 5 i0 Tryz.underlying22 Tryz.underlying9 hi hz0 hz1 hz2 _ _ _ rfl HO9.out tok rfl (by unfold maxLen; omega) (by omega) (by have := HB9.out.size; omega) ?_; intro v7 w7 hown7 hg7 _; have HO7 := Lib.hid (byCells_str hown7); have HB7 := Lib.hid (below_grow HB9.out hg7 (fun q hq => (HO9.out.lt q hq).1) HB9.out.size); clear hown7 hg7)
                    go_roundg (ts.length + 1 - (j + 1))
                    case measure => have := HJN.out; omega
                    case rel => exact ⟨j + 1, (L ++ [32]) ++ tok.data.toList, by have := HJN.out; omega, rfl, by first | exact next_int (show j + 1 ≤ maxLen by have := HJN.out; unfold maxLen; omega) | go_num, by rw [← HL.out, HRG.out, HS.out]; try simp only [List.append_assoc, List.nil_append, List.cons_append], HO7.out, HB7.out⟩
                  · skip
                    have hui : ¬ (j : Int) < (ts.length : Int) := by omega
                    have HJE := Lib.hid (show j = ts.length from by omega)
                    have HRE := Lib.hid (show restF bs ts j = sepB bs ts.length j from by have e : j = ts.length := by omega
                                                                                          rw [e]; exact rest_end)
                    go_wp2_with fail
                    go_roundg (ts.length + 1 - (j + 1))
                    case measure => have := HJE.out; omega
                    case rel => exact ⟨j + 1, (L ++ [32]), by have := HJE.out; omega, rfl, by first | exact next_int (show j + 1 ≤ maxLen by have := HJE.out; unfold maxLen; omega) | go_num, by rw [← HL.out, HRE.out, HS.out, rest_out (by_ := bs) (ts := ts) (j := j + 1) (by have := HJE.out; omega)]; simp only [List.append_nil], HO9.out, HB9.out⟩
              · go_upto_region 10 with (fail)
                have hl9 : L.length ≤ 40100 := by have := HLL.out; (try simp only [List.length_append, List.length_cons, List.length_nil]); omega
                go_upto_region 11 with (at_builtin; refine wpList_append_own _ rfl _ _ 22 rfl w2.heap.size 5 i0 (.int .u8 0) 1 1 Tryz.underlying22 hi hz0 hz1 hz2 rfl (by decide) _ _ _ rfl (HO.out.alloc _) ⟨wr.heap.size, 0, none⟩ 1 1 [.int .u8 10] rfl rfl (cells_one _ _ _) one_u8 (by unfold maxLen; omega) (by omega) (by have := HBR.out.size; simp; omega) ?_; intro v9 w9 hown9 hg9 _; have HO9 := Lib.hid (byCells_one 10 rfl hown9); have HB9 := Lib.hid (below_grow (below_alloc HBR.out (.cells #[.int .u8 10] 5) (Nat.le_refl _)) hg9 (fun q hq => (HO.out.lt q hq).1) (by have := HBR.out.size; simp; omega)); clear hown9 hg9)
                clear hl9
                by_cases hr3 : 2 < r4
                · have hr3' : (2 : Int) < (r4 : Int) := by omega
                  have HS := Lib.hid (HCB.out.trans (by rw [if_pos (.inl hr0), if_neg (by decide), if_pos hr3]))
                  go_upto_region 12 with (fail)
                  have hl8 : (L ++ [10]).length ≤ 40100 := by have := HLL.out; (try simp only [List.length_append, List.length_cons, List.length_nil]); omega
                  go_upto_region 13 with (at_builtin; refine wpList_append_own _ rfl _ _ 22 rfl w2.heap.size 5 i0 (.int .u8 0) 1 1 Tryz.underlying22 hi hz0 hz1 hz2 rfl (by decide) _ _ _ rfl (HO9.out.alloc _) ⟨w9.heap.size, 0, none⟩ 1 1 [.int .u8 32] rfl rfl (cells_one _ _ _) one_u8 (by unfold maxLen; omega) (by omega) (by have := HB9.out.size; simp; omega) ?_; intro v8 w8 hown8 hg8 _; have HO8 := Lib.hid (byCells_one 32 rfl hown8); have HB8 := Lib.hid (below_grow (below_alloc HB9.out (.cells #[.int .u8 32] 5) (Nat.le_refl _)) hg8 (fun q hq => (HO9.out.lt q hq).1) (by have := HB9.out.size; simp; omega)); clear hown8 hg8)
                  clear hl8
                  by_cases hjn : j < ts.length
                  · skip
                    have hul := HUC.out (by omega)
                    obtain ⟨ub, rfl, hub, huc⟩ := hul
                    have hui : (j : Int) < (ts.length : Int) := by omega
                    have htc := (World.cell?_of_block (w := w2) (w' := w8) (a := ⟨ub, j * 2 + 1, none⟩) (HB8.out.block ub hub)).trans (huc j hjn)
                    have HRG := Lib.hid (rest_go (by_ := bs) hjn)
                    have htl : (ts.getD j eb).size ≤ 40000 := by have := HOL.out; rw [← HL.out, HRG.out] at this; simp only [List.length_append, Array.length_toList] at this; have e : (ts.getD j eb).data.size = (ts.getD j eb).size := rfl; omega
                    have HJN := Lib.hid hjn
                    clear huc hub
                    generalize ts.getD j eb = tok at *
                    have hl7 : (L ++ [10] ++ [32]).length ≤ 40100 := by have := HLL.out; (try simp only [List.length_append, List.length_cons, List.length_nil]); omega
                    go_wp2_with (at_builtin; refine Lib.wpList_append_own_string _ rfl _ _ 22 9 rfl w2.heap.size 5 i0 Tryz.underlying22 Tryz.underlying9 hi hz0 hz1 hz2 _ _ _ rfl HO8.out tok rfl (by unfold maxLen; omega) (by omega) (by have := HB8.out.size; omega) ?_; intro v7 w7 hown7 hg7 _; have HO7 := Lib.hid (byCells_str hown7); have HB7 := Lib.hid (below_grow HB8.out hg7 (fun q hq => (HO8.out.lt q hq).1) HB8.out.size); clear hown7 hg7)
                    go_roundg (ts.length + 1 - (j + 1))
                    case measure => have := HJN.out; omega
                    case rel => exact ⟨j + 1, (L ++ [10] ++ [32]) ++ tok.data.toList, by have := HJN.out; omega, rfl, by first | exact next_int (show j + 1 ≤ maxLen by have := HJN.out; unfold maxLen; omega) | go_num, by rw [← HL.out, HRG.out, HS.out]; try simp only [List.append_assoc, List.nil_append, List.cons_append], HO7.out, HB7.out⟩
                  · skip
                    have hui : ¬ (j : Int) < (ts.length : Int) := by omega
                    have HJE := Lib.hid (show j = ts.length from by omega)
                    have HRE := Lib.hid (show restF bs ts j = sepB bs ts.length j from by have e : j = ts.length := by omega
                                                                                          rw [e]; exact rest_end)
                    go_wp2_with fail
                    go_roundg (ts.length + 1 - (j + 1))
                    case measure => have := HJE.out; omega
                    case rel => exact ⟨j + 1, (L ++ [10] ++ [32]), by have := HJE.out; omega, rfl, by first | exact next_int (show j + 1 ≤ maxLen by have := HJE.out; unfold maxLen; omega) | go_num, by rw [← HL.out, HRE.out, HS.out, rest_out (by_ := bs) (ts := ts) (j := j + 1) (by have := HJE.out; omega)]; simp only [List.append_assoc, List.nil_append, List.cons_append, List.append_nil], HO8.out, HB8.out⟩
                · have hr3' : ¬ (2 : Int) < (r4 : Int) := by omega
                  have HS := Lib.hid (HCB.out.trans (by rw [if_pos (.inl hr0), if_neg (by decide), if_neg hr3]))
                  go_upto_region 13 with (fail)
                  by_cases hjn : j < ts.length
                  · skip
                    have hul := HUC.out (by omega)
                    obtain ⟨ub, rfl, hub, huc⟩ := hul
                    have hui : (j : Int) < (ts.length : Int) := by omega
                    have htc := (World.cell?_of_block (w := w2) (w' := w9) (a := ⟨ub, j * 2 + 1, none⟩) (HB9.out.block ub hub)).trans (huc j hjn)
                    have HRG := Lib.hid (rest_go (by_ := bs) hjn)
                    have htl : (ts.getD j eb).size ≤ 40000 := by have := HOL.out; rw [← HL.out, HRG.out] at this; simp only [List.length_append, Array.length_toList] at this; have e : (ts.getD j eb).data.size = (ts.getD j eb).size := rfl; omega
                    have HJN := Lib.hid hjn
                    clear huc hub
                    generalize ts.getD j eb = tok at *
                    have hl7 : (L ++ [10]).length ≤ 40100 := by have := HLL.out; (try simp only [List.length_append, List.length_cons, List.length_nil]); omega
                    go_wp2_with (at_builtin; refine Lib.wpList_append_own_string _ rfl _ _ 22 9 rfl w2.heap.size 5 i0 Tryz.underlying22 Tryz.underlying9 hi hz0 hz1 hz2 _ _ _ rfl HO9.out tok rfl (by unfold maxLen; omega) (by omega) (by have := HB9.out.size; omega) ?_; intro v7 w7 hown7 hg7 _; have HO7 := Lib.hid (byCells_str hown7); have HB7 := Lib.hid (below_grow HB9.out hg7 (fun q hq => (HO9.out.lt q hq).1) HB9.out.size); clear hown7 hg7)
                    go_roundg (ts.length + 1 - (j + 1))
                    case measure => have := HJN.out; omega
                    case rel => exact ⟨j + 1, (L ++ [10]) ++ tok.data.toList, by have := HJN.out; omega, rfl, by first | exact next_int (show j + 1 ≤ maxLen by have := HJN.out; unfold maxLen; omega) | go_num, by rw [← HL.out, HRG.out, HS.out]; try simp only [List.append_assoc, List.nil_append, List.cons_append], HO7.out, HB7.out⟩
                  · skip
                    have hui : ¬ (j : Int) < (ts.length : Int) := by omega
                    have HJE := Lib.hid (show j = ts.length from by omega)
                    have HRE := Lib.hid (show restF bs ts j = sepB bs ts.length j from by have e : j = ts.length := by omega
                                                                                          rw [e]; exact rest_end)
                    go_wp2_with fail
                    go_roundg (ts.length + 1 - (j + 1))
                    case measure => have := HJE.out; omega
                    case rel => exact ⟨j + 1, (L ++ [10]), by have := HJE.out; omega, rfl, by first | exact next_int (show j + 1 ≤ maxLen by have := HJE.out; unfold maxLen; omega) | go_num, by rw [← HL.out, HRE.out, HS.out, rest_out (by_ := bs) (ts := ts) (j := j + 1) (by have := HJE.out; omega)]; simp only [List.append_nil], HO9.out, HB9.out⟩
            · have hr0' : ¬ (0 : Int) < (r4 : Int) := by omega
              have hr3' : ¬ (2 : Int) < (r4 : Int) := by omega
              by_cases hj1 : 0 < j
              · have hj1' : (0 : Int) < (j : Int) := by omega
                by_cases hjn : j < ts.length
                · have hjn' : (j : Int) < (ts.length : Int) := by omega
                  rcases hz2' with rfl | rfl
                  · have HS := Lib.hid (HCB.out.trans (by rw [if_pos (.inr ⟨hj1, hjn⟩), if_pos rfl, if_neg (by omega)]))
                    go_upto_region 10 with (fail)
                    have hl9 : L.length ≤ 40100 := by have := HLL.out; (try simp only [List.length_append, List.length_cons, List.length_nil]); omega
                    go_upto_region 11 with (at_builtin; refine wpList_append_own _ rfl _ _ 22 rfl w2.heap.size 5 i0 (.int .u8 0) 1 1 Tryz.underlying22 hi hz0 hz1 hz2 rfl (by decide) _ _ _ rfl (HO.out.alloc _) ⟨wr.heap.size, 0, none⟩ 1 1 [.int .u8 32] rfl rfl (cells_one _ _ _) one_u8 (by unfold maxLen; omega) (by omega) (by have := HBR.out.size; simp; omega) ?_; intro v9 w9 hown9 hg9 _; have HO9 := Lib.hid (byCells_one 32 rfl hown9); have HB9 := Lib.hid (below_grow (below_alloc HBR.out (.cells #[.int .u8 32] 5) (Nat.le_refl _)) hg9 (fun q hq => (HO.out.lt q hq).1) (by have := HBR.out.size; simp; omega)); clear hown9 hg9)
                    clear hl9
                    go_upto_region 13 with (fail)
                    have hul := HUC.out (by omega)
                    obtain ⟨ub, rfl, hub, huc⟩ := hul
                    have hui : (j : Int) < (ts.length : Int) := by omega
                    have htc := (World.cell?_of_block (w := w2) (w' := w9) (a := ⟨ub, j * 2 + 1, none⟩) (HB9.out.block ub hub)).trans (huc j hjn)
                    have HRG := Lib.hid (rest_go (by_ := bs) hjn)
                    have htl : (ts.getD j eb).size ≤ 40000 := by have := HOL.out; rw [← HL.out, HRG.out] at this; simp only [List.length_append, Array.length_toList] at this; have e : (ts.getD j eb).data.size = (ts.getD j eb).size := rfl; omega
                    have HJN := Lib.hid hjn
                    clear huc hub
                    generalize ts.getD j eb = tok at *
                    have hl7 : (L ++ [32]).length ≤ 40100 := by have := HLL.out; (try simp only [List.length_append, List.length_cons, List.length_nil]); omega
                    go_wp2_with (at_builtin; refine Lib.wpList_append_own_string _ rfl _ _ 22 9 rfl w2.heap.size 5 i0 Tryz.underlying22 Tryz.underlying9 hi hz0 hz1 hz2 _ _ _ rfl HO9.out tok rfl (by unfold maxLen; omega) (by omega) (by have := HB9.out.size; omega) ?_; intro v7 w7 hown7 hg7 _; have HO7 := Lib.hid (byCells_str hown7); have HB7 := Lib.hid (below_grow HB9.out hg7 (fun q hq => (HO9.out.lt q hq).1) HB9.out.size); clear hown7 hg7)
                    go_roundg (ts.length + 1 - (j + 1))
                    case measure => have := HJN.out; omega
                    case rel => exact ⟨j + 1, (L ++ [32]) ++ tok.data.toList, by have := HJN.out; omega, rfl, by first | exact next_int (show j + 1 ≤ maxLen by have := HJN.out; unfold maxLen; omega) | go_num, by rw [← HL.out, HRG.out, HS.out]; try simp only [List.append_assoc, List.nil_append, List.cons_append], HO7.out, HB7.out⟩
                  · have HS := Lib.hid (HCB.out.trans (by rw [if_pos (.inr ⟨hj1, hjn⟩), if_neg (by decide), if_neg (by omega)]))
                    go_upto_region 10 with (fail)
                    have hl9 : L.length ≤ 40100 := by have := HLL.out; (try simp only [List.length_append, List.length_cons, List.length_nil]); omega
                    go_upto_region 11 with (at_builtin; refine wpList_append_own _ rfl _ _ 22 rfl w2.heap.size 5 i0 (.int .u8 0) 1 1 Tryz.underlying22 hi hz0 hz1 hz2 rfl (by decide) _ _ _ rfl (HO.out.alloc _) ⟨wr.heap.size, 0, none⟩ 1 1 [.int .u8 10] rfl rfl (cells_one _ _ _) one_u8 (by unfold maxLen; omega) (by omega) (by have := HBR.out.size; simp; omega) ?_; intro v9 w9 hown9 hg9 _; have HO9 := Lib.hid (byCells_one 10 rfl hown9); have HB9 := Lib.hid (below_grow (below_alloc HBR.out (.cells #[.int .u8 10] 5) (Nat.le_refl _)) hg9 (fun q hq => (HO.out.lt q hq).1) (by have := HBR.out.size; simp; omega)); clear hown9 hg9)
                    clear hl9
                    go_upto_region 13 with (fail)
                    have hul := HUC.out (by omega)
                    obtain ⟨ub, rfl, hub, huc⟩ := hul
                    have hui : (j : Int) < (ts.length : Int) := by omega
                    have htc := (World.cell?_of_block (w := w2) (w' := w9) (a := ⟨ub, j * 2 + 1, none⟩) (HB9.out.block ub hub)).trans (huc j hjn)
                    have HRG := Lib.hid (rest_go (by_ := bs) hjn)
                    have htl : (ts.getD j eb).size ≤ 40000 := by have := HOL.out; rw [← HL.out, HRG.out] at this; simp only [List.length_append, Array.length_toList] at this; have e : (ts.getD j eb).data.size = (ts.getD j eb).size := rfl; omega
                    have HJN := Lib.hid hjn
                    clear huc hub
                    generalize ts.getD j eb = tok at *
                    have hl7 : (L ++ [10]).length ≤ 40100 := by have := HLL.out; (try simp only [List.length_append, List.length_cons, List.length_nil]); omega
                    go_wp2_with (at_builtin; refine Lib.wpList_append_own_string _ rfl _ _ 22 9 rfl w2.heap.size 5 i0 Tryz.underlying22 Tryz.underlying9 hi hz0 hz1 hz2 _ _ _ rfl HO9.out tok rfl (by unfold maxLen; omega) (by omega) (by have := HB9.out.size; omega) ?_; intro v7 w7 hown7 hg7 _; have HO7 := Lib.hid (byCells_str hown7); have HB7 := Lib.hid (below_grow HB9.out hg7 (fun q hq => (HO9.out.lt q hq).1) HB9.out.size); clear hown7 hg7)
                    go_roundg (ts.length + 1 - (j + 1))
                    case measure => have := HJN.out; omega
                    case rel => exact ⟨j + 1, (L ++ [10]) ++ tok.data.toList, by have := HJN.out; omega, rfl, by first | exact next_int (show j + 1 ≤ maxLen by have := HJN.out; unfold maxLen; omega) | go_num, by rw [← HL.out, HRG.out, HS.out]; try simp only [List.append_assoc, List.nil_append, List.cons_append], HO7.out, HB7.out⟩
                · have hjn' : ¬ (j : Int) < (ts.length : Int) := by omega
                  have HS := Lib.hid (HCB.out.trans (by rw [if_neg (by omega), if_neg (by omega)]))
                  go_upto_region 13 with (fail)
                  have hui : ¬ (j : Int) < (ts.length : Int) := by omega
                  have HJE := Lib.hid (show j = ts.length from by omega)
                  have HRE := Lib.hid (show restF bs ts j = sepB bs ts.length j from by have e : j = ts.length := by omega
                                                                                        rw [e]; exact rest_end)
                  go_wp2_with fail
                  go_roundg (ts.length + 1 - (j + 1))
                  case measure => have := HJE.out; omega
                  case rel => exact ⟨j + 1, L, by have := HJE.out; omega, rfl, by first | exact next_int (show j + 1 ≤ maxLen by have := HJE.out; unfold maxLen; omega) | go_num, by rw [← HL.out, HRE.out, HS.out, rest_out (by_ := bs) (ts := ts) (j := j + 1) (by have := HJE.out; omega)]; simp only [List.append_nil], HO.out, HBR.out⟩
              · have hj1' : ¬ (0 : Int) < (j : Int) := by omega
                have HS := Lib.hid (HCB.out.trans (by rw [if_neg (by omega), if_neg (by omega)]))
                go_upto_region 13 with (fail)
                by_cases hjn : j < ts.length
                · skip
                  have hul := HUC.out (by omega)
                  obtain ⟨ub, rfl, hub, huc⟩ := hul
                  have hui : (j : Int) < (ts.length : Int) := by omega
                  have htc := (World.cell?_of_block (w := w2) (w' := wr) (a := ⟨ub, j * 2 + 1, none⟩) (HBR.out.block ub hub)).trans (huc j hjn)
                  have HRG := Lib.hid (rest_go (by_ := bs) hjn)
                  have htl : (ts.getD j eb).size ≤ 40000 := by have := HOL.out; rw [← HL.out, HRG.out] at this; simp only [List.length_append, Array.length_toList] at this; have e : (ts.getD j eb).data.size = (ts.getD j eb).size := rfl; omega
                  have HJN := Lib.hid hjn
                  clear huc hub
                  generalize ts.getD j eb = tok at *
                  have hl7 : L.length ≤ 40100 := by have := HLL.out; (try simp only [List.length_append, List.length_cons, List.length_nil]); omega
                  go_wp2_with (at_builtin; refine Lib.wpList_append_own_string _ rfl _ _ 22 9 rfl w2.heap.size 5 i0 Tryz.underlying22 Tryz.underlying9 hi hz0 hz1 hz2 _ _ _ rfl HO.out tok rfl (by unfold maxLen; omega) (by omega) (by have := HBR.out.size; omega) ?_; intro v7 w7 hown7 hg7 _; have HO7 := Lib.hid (byCells_str hown7); have HB7 := Lib.hid (below_grow HBR.out hg7 (fun q hq => (HO.out.lt q hq).1) HBR.out.size); clear hown7 hg7)
                  go_roundg (ts.length + 1 - (j + 1))
                  case measure => have := HJN.out; omega
                  case rel => exact ⟨j + 1, L ++ tok.data.toList, by have := HJN.out; omega, rfl, by first | exact next_int (show j + 1 ≤ maxLen by have := HJN.out; unfold maxLen; omega) | go_num, by rw [← HL.out, HRG.out, HS.out]; try simp only [List.append_assoc, List.nil_append], HO7.out, HB7.out⟩
                · skip
                  have hui : ¬ (j : Int) < (ts.length : Int) := by omega
                  have HJE := Lib.hid (show j = ts.length from by omega)
                  have HRE := Lib.hid (show restF bs ts j = sepB bs ts.length j from by have e : j = ts.length := by omega
                                                                                        rw [e]; exact rest_end)
                  go_wp2_with fail
                  go_roundg (ts.length + 1 - (j + 1))
                  case measure => have := HJE.out; omega
                  case rel => exact ⟨j + 1, L, by have := HJE.out; omega, rfl, by first | exact next_int (show j + 1 ≤ maxLen by have := HJE.out; unfold maxLen; omega) | go_num, by rw [← HL.out, HRE.out, HS.out, rest_out (by_ := bs) (ts := ts) (j := j + 1) (by have := HJE.out; omega)]; simp only [List.append_nil], HO.out, HBR.out⟩
          · have hji : ¬ (j : Int) ≤ (ts.length : Int) := by omega
            have HLE := Lib.hid (show L = outF bs ts.length 0 ts from by rw [← HL.out, rest_out (by_ := bs) (ts := ts) (j := j) hle, List.append_nil])
            have HPS := Lib.hid (parse_same (s := s) (s' := Go.Proofs.YtadnnijdbcdkjaaGreatDoor.bs L) (by omega) (by rw [bs_size, HLE.out]; exact HOL.out) (by rw [HTX.out, HLE.out]; exact HBS.out))
            have HLM := Lib.hid (show (Go.Proofs.YtadnnijdbcdkjaaGreatDoor.bs L).size ≤ maxLen from by rw [bs_size, HLE.out]; have := HOL.out; unfold maxLen; omega)
            have HB3 := Lib.hid (HB2.out.trans (HBR.out.mono HB2.out.size))
            have G3 := Lib.hid (G.out.below HB3.out)
            have HS3 := Lib.hid (show 1 < wr.heap.size from Nat.lt_of_lt_of_le HW.out HB3.out.size)
            have HCV := Lib.hid (fun (w' : World) (hb : RowKit.Below wr.heap.size wr w') => conv_own HO.out hb)
            clear HO HBR HL
            go_wp2_with fail
            refine (parse_any s HSM.out G3.out HS3.out).mono ?_
            rintro e w1 ⟨v, rfl, hF, hb⟩
            obtain ⟨k, a, nm, a1, m1, c1, a2, m2, c2, a3, m3, c3, rfl⟩ := form_shape hF
            have HF4 := Lib.hid (hF.under (below_one w1 (.cells #[.int .i64 k, .int .i64 a, .string nm, .slice a1 m1 c1, .slice a2 m2 c2, .slice a3 m3 c3] 31)))
            have HN4 := Lib.hid (block_alloc_new w1 (.cells #[.int .i64 k, .int .i64 a, .string nm, .slice a1 m1 c1, .slice a2 m2 c2, .slice a3 m3 c3] 31))
            have HR4 := Lib.hid (below_alloc hb (.cells #[.int .i64 k, .int .i64 a, .string nm, .slice a1 m1 c1, .slice a2 m2 c2, .slice a3 m3 c3] 31) (Nat.le_refl _))
            have HX4 := Lib.hid (show w1.heap.size < (w1.alloc (.cells #[.int .i64 k, .int .i64 a, .string nm, .slice a1 m1 c1, .slice a2 m2 c2, .slice a3 m3 c3] 31)).heap.size from by simp)
            clear hF hb
            go_upto_region 16 with (fail)
            generalize w1.alloc (.cells #[.int .i64 k, .int .i64 a, .string nm, .slice a1 m1 c1, .slice a2 m2 c2, .slice a3 m3 c3] 31) = w4 at *
            generalize w1.heap.size = X at *
            have HB4 := Lib.hid (HB3.out.trans (HR4.out.mono HB3.out.size))
            have G4 := Lib.hid (G.out.below HB4.out)
            have HS4 := Lib.hid (show 1 < w4.heap.size from Nat.lt_of_lt_of_le HW.out HB4.out.size)
            have hcv := HCV.out _ HR4.out
            go_wp2_with fail
            clear hcv
            refine (parse_any (Go.Proofs.YtadnnijdbcdkjaaGreatDoor.bs L) HLM.out G4.out HS4.out).mono ?_
            rintro e w5 ⟨v, rfl, hF, hb⟩
            rw [HPS.out.1] at hF
            rw [HPS.out.2]
            generalize (parseP (Go.Proofs.YtadnnijdbcdkjaaGreatDoor.bs L)).2.1 = at2 at *
            obtain ⟨k', a', nm', a1', m1', c1', a2', m2', c2', a3', m3', c3', rfl⟩ := form_shape hF
            have hb6 := below_one w5 (.cells #[.int .i64 k', .int .i64 a', .string nm', .slice a1' m1' c1', .slice a2' m2' c2', .slice a3' m3' c3'] 31)
            have HF6 := Lib.hid (hF.under hb6)
            have HM6 := Lib.hid (block_alloc_new w5 (.cells #[.int .i64 k', .int .i64 a', .string nm', .slice a1' m1' c1', .slice a2' m2' c2', .slice a3' m3' c3'] 31))
            have HN6 := Lib.hid (block_keep (block_keep HN4.out hb) hb6)
            have HE6 := Lib.hid ((HF4.out.under hb).under hb6)
            have HB6 := Lib.hid (below_alloc (HB4.out.trans (hb.mono HB4.out.size)) (.cells #[.int .i64 k', .int .i64 a', .string nm', .slice a1' m1' c1', .slice a2' m2' c2', .slice a3' m3' c3'] 31) (Nat.le_refl _))
            have G6 := Lib.hid (G.out.below HB6.out)
            have HS6 := Lib.hid (show 1 < (w5.alloc (.cells #[.int .i64 k', .int .i64 a', .string nm', .slice a1' m1' c1', .slice a2' m2' c2', .slice a3' m3' c3'] 31)).heap.size from Nat.lt_of_lt_of_le HW.out HB6.out.size)
            clear hF hb hb6 HN4 HF4 HB4 G4 HS4 HX4 HR4 HCV
            go_upto_region 17 with (fail)
            generalize w5.alloc (.cells #[.int .i64 k', .int .i64 a', .string nm', .slice a1' m1' c1', .slice a2' m2' c2', .slice a3' m3' c3'] 31) = w6 at *
            generalize w5.heap.size = Y at *
            generalize (parseP s).1 = F at *
            generalize (parseP s).2.1 = at1 at *
            generalize (parseP s).2.2 = er at *
            obtain ⟨d0, d1, d2, d3, d4, d5, -⟩ := six HN6.out
            obtain ⟨e0, e1, e2, e3, e4, e5, -⟩ := six HM6.out
            go_wp2_with fail
            clear d0 d1 d2 d3 d4 d5 e0 e1 e2 e3 e4 e5
            refine (same_any F F w6 (fun _ => True) (fun _ => True) _ _ (HE6.out.stay (Nat.le_refl _) (fun _ _ _ => rfl) (fun _ _ _ => trivial)) (HF6.out.stay (Nat.le_refl _) (fun _ _ _ => rfl) (fun _ _ _ => trivial))).mono ?_
            rintro e w7 ⟨rfl, hb⟩
            rw [eqF_true.2 rfl]
            have HB7 := Lib.hid (HB6.out.trans (hb.mono HB6.out.size))
            have G7 := Lib.hid (G6.out.below hb)
            have HS7 := Lib.hid (show 1 < w7.heap.size from Nat.lt_of_lt_of_le HS6.out hb.size)
            clear hb
            go_wp2_with fail
            refine (alive_any G7.out HS7.out).mono ?_
            rintro e w8 ⟨rfl, hb⟩
            have HB8 := Lib.hid (HB7.out.trans (hb.mono HB7.out.size))
            go_wp2
            go_ret
            exact ⟨rfl, HB8.out⟩
end Go.Proofs.YtadnnijdbcdkjaaGreatDoor
