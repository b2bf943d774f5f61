/-
  Joined texts of one proof: P1, P2, P3, P4, P5, P6, P12, P13, P11, P14, P7, P8. Conditions: none.
-/
import Derived.Shelf.GgClosure.StringsIndexFunc
import Derived.Lib.SlicesS
import Derived.Lib.AtoiAll
import Derived.Lib.TrimUEq
import Derived.Lib.ItoaNum
import Derived.Maps.GroupsBeside
import Derived.Maps.Views
/-
  Plain words on bytes: letters, digits, names, kinds of tokens. No program in sight.
-/
namespace Go.Proofs.YtadnnijdbcdkjaaGreatDoor
open Go.RowKit

/-- A letter of ASCII, as a number. -/
def letB (c : Int) : Bool := decide (97 ≤ c) && decide (c ≤ 122) || decide (65 ≤ c) && decide (c ≤ 90)
/-- A digit of ASCII, as a number. -/
def digB (c : Int) : Bool := decide (48 ≤ c) && decide (c ≤ 57)
/-- A letter or a digit of ASCII. -/
def alB (c : Int) : Bool := letB c || digB c

def bs (l : List UInt8) : ByteArray := ⟨l.toArray⟩
/-- The words of the language. -/
def wordsL : List ByteArray := [⟨#[97, 110, 100]⟩, ⟨#[111, 114]⟩, ⟨#[110, 111, 116]⟩, ⟨#[115, 111, 109, 101]⟩, ⟨#[97, 108, 108]⟩, ⟨#[108, 102, 112]⟩, ⟨#[112, 102, 112]⟩, ⟨#[116, 99]⟩, ⟨#[101, 120, 105, 115, 116, 115]⟩, ⟨#[116, 114, 117, 101]⟩, ⟨#[102, 97, 108, 115, 101]⟩]

/-- The byte at a place, as a number; 0 behind the end. -/
def byteAt (s : ByteArray) (i : Nat) : Int := ((s.data.toList.getD i 0).toNat : Int)

theorem byteAt_eq {s : ByteArray} {i : Nat} (h : i < s.size) : byteAt s i = (s[i].toNat : Int) := by
  unfold byteAt
  have h' : i < s.data.toList.length := by simpa using h
  rw [List.getD_eq_getElem?_getD, List.getElem?_eq_getElem h']
  rfl
theorem byteAt_range (s : ByteArray) (i : Nat) : 0 ≤ byteAt s i ∧ byteAt s i ≤ 255 := by
  unfold byteAt
  have := (s.data.toList.getD i 0).toNat_lt
  omega

theorem bytes_ext {a b : ByteArray} (h : a.data.toList = b.data.toList) : a = b := by
  cases a; cases b; simp only at h; rw [Array.toList_inj.1 h]

/-- All bytes are letters or digits. -/
def allAl (s : ByteArray) : Bool := s.data.toList.all fun c => alB (c.toNat : Int)
/-- Whether a text is a name. -/
def nameB (s : ByteArray) : Bool := decide (0 < s.size) && decide (s.size ≤ 12) && letB (byteAt s 0) && !Lib.containsS wordsL s && allAl s

def badRune (r : Nat) : Bool := decide ((127 : Int) < (r : Int)) || !alB (r : Int)

theorem decode_low {s : ByteArray} {i : Nat} (h : (s.data.toList.getD i 0).toNat < 128) : Utf8.decode s i = ((s.data.toList.getD i 0).toNat, 1) := by
  rw [Lib.decode_N, Lib.decodeN_ascii _ _ _ _ _ h]
theorem decode_high {s : ByteArray} {i : Nat} (h : ¬ (s.data.toList.getD i 0).toNat < 128) : 128 ≤ (Utf8.decode s i).1 := by
  rw [Lib.decode_N]
  unfold Lib.decodeN
  simp only [if_neg h]
  repeat' split
  all_goals simp_all
  all_goals omega

theorem idx_bad (s : ByteArray) : ∀ (f pos : Nat), s.size ≤ pos + f →
    (0 ≤ Lib.idxFuncFrom badRune true s f pos ↔ ∃ i, pos ≤ i ∧ i < s.size ∧ alB (byteAt s i) = false) := by
  intro f
  induction f with
  | zero =>
    intro pos h
    simp only [Lib.idxFuncFrom]
    constructor
    · intro h'; omega
    · rintro ⟨i, h1, h2, _⟩; omega
  | succ f ih =>
    intro pos h
    unfold Lib.idxFuncFrom
    by_cases hp : pos < s.size
    · rw [if_pos hp]
      by_cases hl : (s.data.toList.getD pos 0).toNat < 128
      · rw [decode_low hl]
        simp only
        have hb : badRune (s.data.toList.getD pos 0).toNat = !alB (byteAt s pos) := by
          unfold badRune byteAt
          rw [decide_eq_false (by omega)]; simp
        rw [hb]
        cases ha : alB (byteAt s pos) with
        | false =>
          simp only [Bool.not_false, if_true]
          exact ⟨fun _ => ⟨pos, Nat.le_refl _, hp, ha⟩, fun _ => by omega⟩
        | true =>
          simp only [Bool.not_true, Bool.false_eq_true, if_false]
          rw [ih (pos + 1) (by omega)]
          constructor
          · rintro ⟨i, h1, h2, h3⟩; exact ⟨i, by omega, h2, h3⟩
          · rintro ⟨i, h1, h2, h3⟩
            by_cases hi : i = pos
            · subst hi; rw [ha] at h3; cases h3
            · exact ⟨i, by omega, h2, h3⟩
      · have hh := decode_high hl
        have hb : badRune (Utf8.decode s pos).1 = true := by
          unfold badRune; rw [decide_eq_true (by omega)]; rfl
        rw [hb]
        simp only [if_true]
        refine ⟨fun _ => ⟨pos, Nat.le_refl _, hp, ?_⟩, fun _ => by omega⟩
        have hl' : 128 ≤ byteAt s pos := by unfold byteAt; omega
        generalize byteAt s pos = c at hl'
        unfold alB letB digB
        rw [Bool.eq_false_iff]; simp; omega
    · rw [if_neg hp]
      constructor
      · intro h'; omega
      · rintro ⟨i, h1, h2, _⟩; omega

theorem idx_all (s : ByteArray) : decide (0 ≤ Lib.idxFunc badRune true s) = !allAl s := by
  unfold Lib.idxFunc
  have h := idx_bad s s.size 0 (by omega)
  rw [Bool.eq_iff_iff]
  rw [decide_eq_true_eq, h]
  unfold allAl
  simp only [Bool.not_eq_true', List.all_eq_false]
  constructor
  · rintro ⟨i, _, h2, h3⟩
    have h' : i < s.data.toList.length := by simpa using h2
    refine ⟨s.data.toList[i], List.getElem_mem h', ?_⟩
    unfold byteAt at h3
    rw [List.getD_eq_getElem?_getD, List.getElem?_eq_getElem h'] at h3
    simp only [Option.getD_some] at h3
    rw [h3]; simp
  · rintro ⟨c, hc, h3⟩
    obtain ⟨i, hi, rfl⟩ := List.getElem_of_mem hc
    refine ⟨i, Nat.zero_le _, by simpa using hi, ?_⟩
    unfold byteAt
    rw [List.getD_eq_getElem?_getD, List.getElem?_eq_getElem hi]
    simpa using h3

/-- The kind of a run of letters and digits: a number, a word, a name, or nothing of these. -/
def kindB (s : ByteArray) : Int :=
  if digB (byteAt s 0) then
    match Lib.atoiAll s.data.toList with
    | .ok v => if 99 < v then 63 else if Lib.decDigits v.toNat = s.data.toList then 48 else 63
    | _ => 63
  else if Lib.containsS wordsL s then 119 else if nameB s then 110 else 63

theorem atoi_nonneg {s : ByteArray} {v : Int} (hd : digB (byteAt s 0) = true) (h : Lib.atoiAll s.data.toList = .ok v) : 0 ≤ v := by
  unfold Lib.atoiAll at h
  split at h
  · cases h
  · rename_i c r hl
    have hc : 48 ≤ c.toNat := by
      unfold digB byteAt at hd
      rw [hl] at hd
      simp at hd
      omega
    have hn : ¬ c.toNat = 45 := by omega
    simp only [hn, or_false, false_and, if_false, not_false_eq_true, true_and] at h
    split at h
    · cases h
    · cases h
    · split at h
      · cases h
      · simp only [Lib.NumEnd.ok.injEq] at h; omega
end Go.Proofs.YtadnnijdbcdkjaaGreatDoor
/-
  The plain lexer: what a reader's step does. No program in sight.
-/
namespace Go.Proofs.YtadnnijdbcdkjaaGreatDoor
open Go.RowKit

/-- What stands in a reader: the place behind the token; the token's kind, text and place. -/
structure RS where
  pos : Nat
  kind : Int
  text : ByteArray
  at_ : Nat

/-- The first place from i on that is no letter and no digit. -/
def runFrom (s : ByteArray) : Nat → Nat → Nat
  | 0, i => i
  | f + 1, i => if i < s.size then (if alB (byteAt s i) then runFrom s f (i + 1) else i) else i
def runTo (s : ByteArray) (i : Nat) : Nat := runFrom s (s.size - i) i
def blank (c : Int) : Bool := c == 32 || c == 10
/-- The first place from i on that is no blank. -/
def skipFrom (s : ByteArray) : Nat → Nat → Nat
  | 0, i => i
  | f + 1, i => if i < s.size then (if blank (byteAt s i) then skipFrom s f (i + 1) else i) else i
def skipTo (s : ByteArray) (i : Nat) : Nat := skipFrom s (s.size - i) i
def sign (c : Int) : Bool := c == 40 || c == 41 || c == 44 || c == 58 || c == 61 || c == 60

theorem runTo_end {s : ByteArray} {i : Nat} (h : ¬ i < s.size) : runTo s i = i := by
  unfold runTo; rw [show s.size - i = 0 by omega]; rfl
theorem runTo_stop {s : ByteArray} {i : Nat} (h : i < s.size) (ha : alB (byteAt s i) = false) : runTo s i = i := by
  unfold runTo; rw [show s.size - i = (s.size - i - 1) + 1 by omega, runFrom, if_pos h, ha]; rfl
theorem runTo_go {s : ByteArray} {i : Nat} (h : i < s.size) (ha : alB (byteAt s i) = true) : runTo s i = runTo s (i + 1) := by
  unfold runTo; rw [show s.size - i = (s.size - (i + 1)) + 1 by omega, runFrom, if_pos h, ha]; rfl
theorem skipTo_end {s : ByteArray} {i : Nat} (h : ¬ i < s.size) : skipTo s i = i := by
  unfold skipTo; rw [show s.size - i = 0 by omega]; rfl
theorem skipTo_stop {s : ByteArray} {i : Nat} (h : i < s.size) (ha : blank (byteAt s i) = false) : skipTo s i = i := by
  unfold skipTo; rw [show s.size - i = (s.size - i - 1) + 1 by omega, skipFrom, if_pos h, ha]; rfl
theorem skipTo_go {s : ByteArray} {i : Nat} (h : i < s.size) (ha : blank (byteAt s i) = true) : skipTo s i = skipTo s (i + 1) := by
  unfold skipTo; rw [show s.size - i = (s.size - (i + 1)) + 1 by omega, skipFrom, if_pos h, ha]; rfl
theorem runFrom_le (s : ByteArray) : ∀ f i, i ≤ runFrom s f i ∧ (i ≤ s.size → runFrom s f i ≤ s.size) := by
  intro f
  induction f with
  | zero => intro i; exact ⟨Nat.le_refl _, fun h => h⟩
  | succ f ih =>
    intro i
    unfold runFrom
    split
    · split
      · have := ih (i + 1); exact ⟨by omega, fun h => this.2 (by omega)⟩
      · exact ⟨Nat.le_refl _, fun h => h⟩
    · exact ⟨Nat.le_refl _, fun h => h⟩
theorem skipFrom_le (s : ByteArray) : ∀ f i, i ≤ skipFrom s f i ∧ (i ≤ s.size → skipFrom s f i ≤ s.size) := by
  intro f
  induction f with
  | zero => intro i; exact ⟨Nat.le_refl _, fun h => h⟩
  | succ f ih =>
    intro i
    unfold skipFrom
    split
    · split
      · have := ih (i + 1); exact ⟨by omega, fun h => this.2 (by omega)⟩
      · exact ⟨Nat.le_refl _, fun h => h⟩
    · exact ⟨Nat.le_refl _, fun h => h⟩
theorem runTo_le (s : ByteArray) (i : Nat) : i ≤ runTo s i ∧ (i ≤ s.size → runTo s i ≤ s.size) := runFrom_le s _ i
theorem skipTo_le (s : ByteArray) (i : Nat) : i ≤ skipTo s i ∧ (i ≤ s.size → skipTo s i ≤ s.size) := skipFrom_le s _ i
theorem runTo_lt {s : ByteArray} {i : Nat} (h : i < s.size) (ha : alB (byteAt s i) = true) : i < runTo s i := by
  rw [runTo_go h ha]; have := (runTo_le s (i + 1)).1; omega

/-- A reader's step. -/
def stepR (s : ByteArray) (pos : Nat) : RS :=
  let a := skipTo s pos
  if a = s.size then ⟨a, 0, ⟨#[]⟩, a⟩
  else if alB (byteAt s a) then ⟨runTo s a, kindB (s.extract a (runTo s a)), s.extract a (runTo s a), a⟩
  else if sign (byteAt s a) then ⟨a + 1, 115, s.extract a (a + 1), a⟩
  else ⟨a, 63, ⟨#[]⟩, a⟩

theorem stepR_pos (s : ByteArray) (pos : Nat) (h : pos ≤ s.size) : (stepR s pos).pos ≤ s.size := by
  have h1 := (skipTo_le s pos).2 h
  have h2 := (runTo_le s (skipTo s pos)).2 h1
  unfold stepR
  simp only
  split
  · exact h1
  · split
    · exact h2
    · split
      · show skipTo s pos + 1 ≤ s.size; omega
      · exact h1
end Go.Proofs.YtadnnijdbcdkjaaGreatDoor
/-
  The plain parser: what a text reads as, token by token. No program in sight.
-/
namespace Go.Proofs.YtadnnijdbcdkjaaGreatDoor
open Go.RowKit

/-- A formula. -/
inductive Form where
  | mk (kind arity : Int) (name : ByteArray) (vars args : List ByteArray) (kids : List Form)
  deriving Inhabited
namespace Form
def kind : Form → Int | .mk k _ _ _ _ _ => k
def arity : Form → Int | .mk _ a _ _ _ _ => a
def name : Form → ByteArray | .mk _ _ n _ _ _ => n
def vars : Form → List ByteArray | .mk _ _ _ v _ _ => v
def args : Form → List ByteArray | .mk _ _ _ _ a _ => a
def kids : Form → List Form | .mk _ _ _ _ _ k => k
end Form

/-- What a part of the parser comes to: a value and where the reader stands; an error at a place; the rounds are used up. -/
inductive Res (α : Type) where
  | ok (a : α) (r : RS)
  | err (i : Nat)
  | out
def Res.bind {α β : Type} (x : Res α) (f : α → RS → Res β) : Res β :=
  match x with
  | .ok a r => f a r
  | .err i => .err i
  | .out => .out
theorem Res.bind_ok {α β : Type} (a : α) (r : RS) (f : α → RS → Res β) : (Res.ok a r).bind f = f a r := rfl
theorem Res.bind_err {α β : Type} (i : Nat) (f : α → RS → Res β) : (Res.err i : Res α).bind f = .err i := rfl
theorem Res.bind_out {α β : Type} (f : α → RS → Res β) : (Res.out : Res α).bind f = .out := rfl

def eb : ByteArray := ⟨#[]⟩
/-- Whether a sign or a word is there. -/
def isB (r : RS) (t : ByteArray) : Bool := (r.kind == 115 || r.kind == 119) && decide (r.text = t)
def takeP (s : ByteArray) (k : Int) (r : RS) : Res ByteArray := if r.kind = k then .ok r.text (stepR s r.pos) else .err r.at_
def needP (s : ByteArray) (t : ByteArray) (r : RS) : Res Unit := if isB r t then .ok () (stepR s r.pos) else .err r.at_
/-- The names that stand there. -/
def listF (s : ByteArray) : Nat → RS → List ByteArray × RS
  | 0, r => ([], r)
  | n + 1, r => if r.kind = 110 then (r.text :: (listF s n (stepR s r.pos)).1, (listF s n (stepR s r.pos)).2) else ([], r)
def listP (s : ByteArray) (r : RS) : List ByteArray × RS := listF s (s.size + 1) r
def argsP (s : ByteArray) (r : RS) : Res (List ByteArray) :=
  (needP s ⟨#[40]⟩ r).bind fun _ r => (needP s ⟨#[41]⟩ (listP s r).2).bind fun _ r' => .ok (listP s r).1 r'
def atomP (s : ByteArray) (r : RS) : Res Form :=
  (takeP s 110 r).bind fun x r =>
    if isB r ⟨#[40]⟩ then (argsP s r).bind fun l r => .ok (.mk 0 0 x [] l []) r
    else if isB r ⟨#[61]⟩ then (takeP s 110 (stepR s r.pos)).bind fun y r => .ok (.mk 1 0 eb [] [x, y] []) r
    else if isB r ⟨#[60]⟩ then (takeP s 110 (stepR s r.pos)).bind fun y r => .ok (.mk 2 0 eb [] [x, y] []) r
    else .err r.at_
def numV (t : ByteArray) : Int := match Lib.atoiAll t.data.toList with | .ok v => v | _ => 0

mutual
def formulaP (s : ByteArray) : Nat → RS → Res Form
  | 0, _ => .out
  | n + 1, r =>
    if r.kind = 110 then atomP s r
    else (takeP s 119 r).bind fun w r =>
      if w = ⟨#[116, 114, 117, 101]⟩ then .ok (.mk 4 0 eb [] [] []) r
      else if w = ⟨#[102, 97, 108, 115, 101]⟩ then .ok (.mk 5 0 eb [] [] []) r
      else if w = ⟨#[97, 110, 100]⟩ ∨ w = ⟨#[111, 114]⟩ then
        (needP s ⟨#[40]⟩ r).bind fun _ r => (kidsP s n r).bind fun l r => .ok (.mk (if w = ⟨#[111, 114]⟩ then 5 else 4) 0 eb [] [] l) r
      else if w = ⟨#[110, 111, 116]⟩ then
        (needP s ⟨#[40]⟩ r).bind fun _ r => (formulaP s n r).bind fun f r => (needP s ⟨#[41]⟩ r).bind fun _ r => .ok (.mk 3 0 eb [] [] [f]) r
      else if w = ⟨#[115, 111, 109, 101]⟩ ∨ w = ⟨#[97, 108, 108]⟩ then
        (needP s ⟨#[40]⟩ r).bind fun _ r => (innerP s n (listP s r).2).bind fun l r' => .ok (.mk (if w = ⟨#[97, 108, 108]⟩ then 7 else 6) 0 eb (listP s r).1 [] l) r'
      else if w = ⟨#[116, 99]⟩ then
        (needP s ⟨#[40]⟩ r).bind fun _ r => (innerP s n (listP s r).2).bind fun l r' => (argsP s r').bind fun al r'' => .ok (.mk 10 0 eb (listP s r).1 al l) r''
      else if w = ⟨#[101, 120, 105, 115, 116, 115]⟩ then
        (needP s ⟨#[40]⟩ r).bind fun _ r => (takeP s 110 r).bind fun nm r => (takeP s 48 r).bind fun t r => (innerP s n r).bind fun l r => .ok (.mk 11 (numV t) nm [] [] l) r
      else
        (needP s ⟨#[40]⟩ r).bind fun _ r => (takeP s 110 r).bind fun nm r => (innerP s n (listP s r).2).bind fun l r' => (argsP s r').bind fun al r'' =>
          .ok (.mk (if w = ⟨#[112, 102, 112]⟩ then 9 else 8) 0 nm (listP s r).1 al l) r''
def innerP (s : ByteArray) : Nat → RS → Res (List Form)
  | 0, _ => .out
  | n + 1, r => (needP s ⟨#[58]⟩ r).bind fun _ r => (formulaP s n r).bind fun f r => (needP s ⟨#[41]⟩ r).bind fun _ r => .ok [f] r
def kidsP (s : ByteArray) : Nat → RS → Res (List Form)
  | 0, _ => .out
  | n + 1, r => if isB r ⟨#[41]⟩ then .ok [] (stepR s r.pos) else (formulaP s n r).bind fun f r => moreP s n [f] r
def moreP (s : ByteArray) : Nat → List Form → RS → Res (List Form)
  | 0, _, _ => .out
  | n + 1, acc, r => if isB r ⟨#[44]⟩ then (formulaP s n (stepR s r.pos)).bind fun f r => moreP s n (acc ++ [f]) r else (needP s ⟨#[41]⟩ r).bind fun _ r => .ok acc r
end

/-- What holds of a reader at every token. -/
structure Okr (s : ByteArray) (r : RS) : Prop where
  le : r.at_ ≤ r.pos
  pos : r.pos ≤ s.size
  lt : r.kind = 110 ∨ r.kind = 119 ∨ r.kind = 115 ∨ r.kind = 48 → r.at_ < r.pos
  txt : r.kind = 48 → 0 < r.text.size ∧ kindB r.text = 48
  wd : r.kind = 119 → Lib.containsS wordsL r.text = true
  nm : r.kind = 110 → nameB r.text = true

theorem kindB_word {t : ByteArray} (h : kindB t = 119) : Lib.containsS wordsL t = true := by
  unfold kindB at h
  split at h
  · split at h
    · split at h
      · cases h
      · split at h <;> cases h
    · cases h
  · split at h
    · assumption
    · split at h <;> cases h
theorem kindB_name {t : ByteArray} (h : kindB t = 110) : nameB t = true := by
  unfold kindB at h
  split at h
  · split at h
    · split at h
      · cases h
      · split at h <;> cases h
    · cases h
  · split at h
    · cases h
    · split at h
      · assumption
      · cases h

theorem stepR_ok {s : ByteArray} {p : Nat} (h : p ≤ s.size) : Okr s (stepR s p) ∧ p ≤ (stepR s p).at_ := by
  have h1 := skipTo_le s p
  have h2 := h1.2 h
  unfold stepR
  simp only
  split
  · exact ⟨⟨Nat.le_refl _, h2, fun h => by simp at h, fun h => by simp at h, fun h => by simp at h, fun h => by simp at h⟩, h1.1⟩
  · rename_i hne
    have hlt : skipTo s p < s.size := by omega
    split
    · rename_i ha
      have h3 := runTo_lt hlt ha
      have h4 := (runTo_le s (skipTo s p)).2 h2
      generalize hx : s.extract (skipTo s p) (runTo s (skipTo s p)) = t
      have ht : 0 < t.size := by rw [← hx]; simp; omega
      refine ⟨⟨Nat.le_of_lt h3, h4, fun _ => h3, ?_, ?_, ?_⟩, h1.1⟩
      · exact fun h => ⟨ht, h⟩
      · simp only; intro h; exact kindB_word h
      · simp only; intro h; exact kindB_name h
    · split
      · exact ⟨⟨Nat.le_succ _, hlt, fun _ => Nat.lt_succ_self _, fun h => by simp at h, fun h => by simp at h, fun h => by simp at h⟩, h1.1⟩
      · exact ⟨⟨Nat.le_refl _, h2, fun h => by simp at h, fun h => by simp at h, fun h => by simp at h, fun h => by simp at h⟩, h1.1⟩

theorem args_ne_out (s : ByteArray) (r : RS) : argsP s r ≠ .out := by
  unfold argsP needP
  split
  · simp only [Res.bind_ok]
    split
    · simp [Res.bind_ok]
    · simp [Res.bind_err]
  · simp [Res.bind_err]
theorem listF_more {s : ByteArray} : ∀ (n m : Nat) (r : RS), Okr s r → s.size - r.at_ < n → s.size - r.at_ < m → listF s n r = listF s m r
  | 0, _, _, _, h, _ => absurd h (Nat.not_lt_zero _)
  | _ + 1, 0, _, _, _, h => absurd h (Nat.not_lt_zero _)
  | n + 1, m + 1, r, ho, h1, h2 => by
    unfold listF
    by_cases hk : r.kind = 110
    · have hs := stepR_ok ho.pos
      have := ho.lt (.inl hk)
      have := ho.pos
      rw [if_pos hk, if_pos hk, listF_more n m _ hs.1 (by omega) (by omega)]
    · rw [if_neg hk, if_neg hk]
theorem listP_go {s : ByteArray} {r : RS} (ho : Okr s r) (hk : r.kind = 110) : listP s r = (r.text :: (listP s (stepR s r.pos)).1, (listP s (stepR s r.pos)).2) := by
  have hs := stepR_ok ho.pos
  have := ho.lt (.inl hk)
  have := ho.pos
  unfold listP
  rw [listF, if_pos hk, listF_more s.size (s.size + 1) _ hs.1 (by omega) (by omega)]
theorem listP_stop {s : ByteArray} {r : RS} (hk : ¬ r.kind = 110) : listP s r = ([], r) := by
  unfold listP
  rw [listF, if_neg hk]
theorem listP_ok {s : ByteArray} : ∀ (n : Nat) (r : RS), s.size - r.at_ < n → Okr s r → Okr s (listP s r).2 ∧ r.at_ ≤ (listP s r).2.at_
  | 0, _, h, _ => absurd h (Nat.not_lt_zero _)
  | n + 1, r, h, ho => by
    by_cases hk : r.kind = 110
    · have hs := stepR_ok ho.pos
      have h1 := ho.lt (.inl hk)
      have h2 := ho.pos
      rw [listP_go ho hk]
      have := listP_ok n (stepR s r.pos) (by omega) hs.1
      exact ⟨this.1, by have := this.2; have := hs.2; simp only; omega⟩
    · rw [listP_stop hk]; exact ⟨ho, Nat.le_refl _⟩
theorem listP_okr {s : ByteArray} {r : RS} (h : Okr s r) : Okr s (listP s r).2 := (listP_ok _ r (Nat.lt_succ_self _) h).1
theorem listP_len {s : ByteArray} : ∀ (n : Nat) (r : RS), s.size - r.at_ < n → Okr s r → (listP s r).1.length ≤ s.size - r.at_
  | 0, _, h, _ => absurd h (Nat.not_lt_zero _)
  | n + 1, r, h, ho => by
    by_cases hk : r.kind = 110
    · have hs := stepR_ok ho.pos
      have h1 := ho.lt (.inl hk)
      have h2 := ho.pos
      rw [listP_go ho hk]
      have := listP_len n (stepR s r.pos) (by omega) hs.1
      have := hs.2
      simp only [List.length_cons]; omega
    · rw [listP_stop hk]; simp
end Go.Proofs.YtadnnijdbcdkjaaGreatDoor
/-
  The plain parser: the place goes on, and enough rounds never run out. No program in sight.
-/
namespace Go.Proofs.YtadnnijdbcdkjaaGreatDoor
open Go.RowKit

theorem Res.bind_eq_ok {α β : Type} {x : Res α} {f : α → RS → Res β} {b : β} {r' : RS} (h : x.bind f = .ok b r') : ∃ a r, x = .ok a r ∧ f a r = .ok b r' := by
  cases x with
  | ok a r => exact ⟨a, r, rfl, h⟩
  | err i => cases h
  | out => cases h
theorem Res.bind_ne_out {α β : Type} {x : Res α} {f : α → RS → Res β} (h : x ≠ .out) (hf : ∀ a r, x = .ok a r → f a r ≠ .out) : x.bind f ≠ .out := by
  cases x with
  | ok a r => exact hf a r rfl
  | err i => intro h; cases h
  | out => exact absurd rfl h

/-- Where a part leaves the reader: further on. -/
def Fwd (s : ByteArray) (r r' : RS) : Prop := Okr s r' ∧ r.at_ < r'.at_
/-- The same, or not further. -/
def Fwe (s : ByteArray) (r r' : RS) : Prop := Okr s r' ∧ r.at_ ≤ r'.at_
theorem Fwd.le {s : ByteArray} {r r' : RS} (h : Fwd s r r') : Fwe s r r' := ⟨h.1, Nat.le_of_lt h.2⟩
theorem step_fwd {s : ByteArray} {r : RS} (ho : Okr s r) (hk : r.kind = 110 ∨ r.kind = 119 ∨ r.kind = 115 ∨ r.kind = 48) : Fwd s r (stepR s r.pos) := by
  have := stepR_ok ho.pos
  have := ho.lt hk
  exact ⟨(stepR_ok ho.pos).1, by omega⟩
theorem take_fwd {s : ByteArray} {r r' : RS} {k : Int} {t : ByteArray} (ho : Okr s r) (hk : k = 110 ∨ k = 119 ∨ k = 115 ∨ k = 48) (h : takeP s k r = .ok t r') : Fwd s r r' := by
  unfold takeP at h
  split at h
  · rename_i h1
    cases h
    exact step_fwd ho (by rw [h1]; exact hk)
  · cases h
theorem is_kind {r : RS} {t : ByteArray} (h : isB r t = true) : r.kind = 110 ∨ r.kind = 119 ∨ r.kind = 115 ∨ r.kind = 48 := by
  unfold isB at h
  simp only [Bool.and_eq_true, Bool.or_eq_true, beq_iff_eq] at h
  rcases h.1 with h | h
  · exact .inr (.inr (.inl h))
  · exact .inr (.inl h)
theorem need_fwd {s : ByteArray} {r r' : RS} {t : ByteArray} {u : Unit} (ho : Okr s r) (h : needP s t r = .ok u r') : Fwd s r r' := by
  unfold needP at h
  split at h
  · rename_i h1
    cases h
    exact step_fwd ho (is_kind h1)
  · cases h
theorem list_fwe {s : ByteArray} {r : RS} (ho : Okr s r) : Fwe s r (listP s r).2 := listP_ok _ r (Nat.lt_succ_self _) ho
theorem args_fwd {s : ByteArray} {r r' : RS} {l : List ByteArray} (ho : Okr s r) (h : argsP s r = .ok l r') : Fwd s r r' := by
  unfold argsP at h
  obtain ⟨_, r1, h1, h⟩ := Res.bind_eq_ok h
  obtain ⟨_, r2, h2, h⟩ := Res.bind_eq_ok h
  cases h
  have f1 := need_fwd ho h1
  have f2 := list_fwe f1.1
  have f3 := need_fwd f2.1 h2
  have := f1.2
  have := f2.2
  have := f3.2
  exact ⟨f3.1, by omega⟩
theorem atom_fwd {s : ByteArray} {r r' : RS} {F : Form} (ho : Okr s r) (h : atomP s r = .ok F r') : Fwd s r r' := by
  unfold atomP at h
  obtain ⟨_, r1, h1, h⟩ := Res.bind_eq_ok h
  have f1 := take_fwd ho (.inl rfl) h1
  have := f1.2
  split at h
  · obtain ⟨_, r2, h2, h⟩ := Res.bind_eq_ok h
    cases h
    have f2 := args_fwd f1.1 h2
    have := f2.2
    exact ⟨f2.1, by omega⟩
  · split at h
    · rename_i hk
      obtain ⟨_, r2, h2, h⟩ := Res.bind_eq_ok h
      cases h
      have f2 := step_fwd f1.1 (is_kind hk)
      have f3 := take_fwd f2.1 (.inl rfl) h2
      have := f2.2
      have := f3.2
      exact ⟨f3.1, by omega⟩
    · split at h
      · rename_i hk
        obtain ⟨_, r2, h2, h⟩ := Res.bind_eq_ok h
        cases h
        have f2 := step_fwd f1.1 (is_kind hk)
        have f3 := take_fwd f2.1 (.inl rfl) h2
        have := f2.2
        have := f3.2
        exact ⟨f3.1, by omega⟩
      · cases h
theorem atom_ne_out (s : ByteArray) (r : RS) : atomP s r ≠ .out := by
  have ht : ∀ k r, takeP s k r ≠ .out := fun k r => by unfold takeP; split <;> exact fun h => by cases h
  unfold atomP
  refine Res.bind_ne_out (ht _ _) fun x r1 _ => ?_
  split
  · exact Res.bind_ne_out (args_ne_out _ _) fun _ _ _ h => by cases h
  · split
    · exact Res.bind_ne_out (ht _ _) fun _ _ _ h => by cases h
    · split
      · exact Res.bind_ne_out (ht _ _) fun _ _ _ h => by cases h
      · exact fun h => by cases h

/-- All four parts go on. -/
theorem fwd_all (s : ByteArray) : ∀ n, (∀ r r' F, Okr s r → formulaP s n r = .ok F r' → Fwd s r r') ∧ (∀ r r' l, Okr s r → innerP s n r = .ok l r' → Fwd s r r') ∧
    (∀ r r' l, Okr s r → kidsP s n r = .ok l r' → Fwd s r r') ∧ (∀ acc r r' l, Okr s r → moreP s n acc r = .ok l r' → Fwd s r r')
  | 0 => ⟨fun _ _ _ _ h => (by unfold formulaP at h; cases h), fun _ _ _ _ h => (by unfold innerP at h; cases h), fun _ _ _ _ h => (by unfold kidsP at h; cases h), fun _ _ _ _ _ h => (by unfold moreP at h; cases h)⟩
  | n + 1 => by
    obtain ⟨iF, iI, iK, iM⟩ := fwd_all s n
    refine ⟨fun r r' F ho h => ?_, fun r r' l ho h => ?_, fun r r' l ho h => ?_, fun acc r r' l ho h => ?_⟩
    · unfold formulaP at h
      split at h
      · exact atom_fwd ho h
      · obtain ⟨w, r1, h1, h⟩ := Res.bind_eq_ok h
        have f1 := take_fwd ho (.inr (.inl rfl)) h1
        have g1 := f1.2
        split at h
        · cases h; exact f1
        split at h
        · cases h; exact f1
        split at h
        · obtain ⟨_, r2, h2, h⟩ := Res.bind_eq_ok h
          obtain ⟨_, r3, h3, h⟩ := Res.bind_eq_ok h
          cases h
          have f2 := need_fwd f1.1 h2
          have f3 := iK _ _ _ f2.1 h3
          have g2 := f2.2
          have g3 := f3.2
          exact ⟨f3.1, by omega⟩
        split at h
        · obtain ⟨_, r2, h2, h⟩ := Res.bind_eq_ok h
          obtain ⟨_, r3, h3, h⟩ := Res.bind_eq_ok h
          obtain ⟨_, r4, h4, h⟩ := Res.bind_eq_ok h
          cases h
          have f2 := need_fwd f1.1 h2
          have f3 := iF _ _ _ f2.1 h3
          have f4 := need_fwd f3.1 h4
          have g2 := f2.2
          have g3 := f3.2
          have g4 := f4.2
          exact ⟨f4.1, by omega⟩
        split at h
        · obtain ⟨_, r2, h2, h⟩ := Res.bind_eq_ok h
          obtain ⟨_, r3, h3, h⟩ := Res.bind_eq_ok h
          cases h
          have f2 := need_fwd f1.1 h2
          have f3 := list_fwe f2.1
          have f4 := iI _ _ _ f3.1 h3
          have g2 := f2.2
          have g3 := f3.2
          have g4 := f4.2
          exact ⟨f4.1, by omega⟩
        split at h
        · obtain ⟨_, r2, h2, h⟩ := Res.bind_eq_ok h
          obtain ⟨_, r3, h3, h⟩ := Res.bind_eq_ok h
          obtain ⟨_, r4, h4, h⟩ := Res.bind_eq_ok h
          cases h
          have f2 := need_fwd f1.1 h2
          have f3 := list_fwe f2.1
          have f4 := iI _ _ _ f3.1 h3
          have f5 := args_fwd f4.1 h4
          have g2 := f2.2
          have g3 := f3.2
          have g4 := f4.2
          have g5 := f5.2
          exact ⟨f5.1, by omega⟩
        split at h
        · obtain ⟨_, r2, h2, h⟩ := Res.bind_eq_ok h
          obtain ⟨_, r3, h3, h⟩ := Res.bind_eq_ok h
          obtain ⟨_, r4, h4, h⟩ := Res.bind_eq_ok h
          obtain ⟨_, r5, h5, h⟩ := Res.bind_eq_ok h
          cases h
          have f2 := need_fwd f1.1 h2
          have f3 := take_fwd f2.1 (.inl rfl) h3
          have f4 := take_fwd f3.1 (.inr (.inr (.inr rfl))) h4
          have f5 := iI _ _ _ f4.1 h5
          have g2 := f2.2
          have g3 := f3.2
          have g4 := f4.2
          have g5 := f5.2
          exact ⟨f5.1, by omega⟩
        · obtain ⟨_, r2, h2, h⟩ := Res.bind_eq_ok h
          obtain ⟨_, r3, h3, h⟩ := Res.bind_eq_ok h
          obtain ⟨_, r4, h4, h⟩ := Res.bind_eq_ok h
          obtain ⟨_, r5, h5, h⟩ := Res.bind_eq_ok h
          cases h
          have f2 := need_fwd f1.1 h2
          have f3 := take_fwd f2.1 (.inl rfl) h3
          have f4 := list_fwe f3.1
          have f5 := iI _ _ _ f4.1 h4
          have f6 := args_fwd f5.1 h5
          have g2 := f2.2
          have g3 := f3.2
          have g4 := f4.2
          have g5 := f5.2
          have g6 := f6.2
          exact ⟨f6.1, by omega⟩
    · unfold innerP at h
      obtain ⟨_, r2, h2, h⟩ := Res.bind_eq_ok h
      obtain ⟨_, r3, h3, h⟩ := Res.bind_eq_ok h
      obtain ⟨_, r4, h4, h⟩ := Res.bind_eq_ok h
      cases h
      have f2 := need_fwd ho h2
      have f3 := iF _ _ _ f2.1 h3
      have f4 := need_fwd f3.1 h4
      have g2 := f2.2
      have g3 := f3.2
      have g4 := f4.2
      exact ⟨f4.1, by omega⟩
    · unfold kidsP at h
      split at h
      · rename_i hk
        cases h
        exact step_fwd ho (is_kind hk)
      · obtain ⟨_, r2, h2, h⟩ := Res.bind_eq_ok h
        have f2 := iF _ _ _ ho h2
        have f3 := iM _ _ _ _ f2.1 h
        have g2 := f2.2
        have g3 := f3.2
        exact ⟨f3.1, by omega⟩
    · unfold moreP at h
      split at h
      · rename_i hk
        obtain ⟨_, r2, h2, h⟩ := Res.bind_eq_ok h
        have f1 := step_fwd ho (is_kind hk)
        have f2 := iF _ _ _ f1.1 h2
        have f3 := iM _ _ _ _ f2.1 h
        have g1 := f1.2
        have g2 := f2.2
        have g3 := f3.2
        exact ⟨f3.1, by omega⟩
      · obtain ⟨_, r2, h2, h⟩ := Res.bind_eq_ok h
        cases h
        exact need_fwd ho h2

theorem take_ne_out (s : ByteArray) (k : Int) (r : RS) : takeP s k r ≠ .out := by unfold takeP; split <;> exact fun h => by cases h
theorem need_ne_out (s t : ByteArray) (r : RS) : needP s t r ≠ .out := by unfold needP; split <;> exact fun h => by cases h

/-- Enough rounds: twice what is left of the text, and two. -/
theorem ne_out_all (s : ByteArray) : ∀ n, (∀ r, Okr s r → 2 * (s.size - r.at_) + 1 ≤ n → formulaP s n r ≠ .out) ∧ (∀ r, Okr s r → 2 * (s.size - r.at_) + 2 ≤ n → innerP s n r ≠ .out) ∧
    (∀ r, Okr s r → 2 * (s.size - r.at_) + 2 ≤ n → kidsP s n r ≠ .out) ∧ (∀ acc r, Okr s r → 2 * (s.size - r.at_) + 1 ≤ n → moreP s n acc r ≠ .out)
  | 0 => ⟨fun _ _ h => by omega, fun _ _ h => by omega, fun _ _ h => by omega, fun _ _ _ h => by omega⟩
  | n + 1 => by
    obtain ⟨iF, iI, iK, iM⟩ := ne_out_all s n
    have az : ∀ r, Okr s r → r.at_ ≤ s.size := fun r ho => Nat.le_trans ho.le ho.pos
    refine ⟨fun r ho hn => ?_, fun r ho hn => ?_, fun r ho hn => ?_, fun acc r ho hn => ?_⟩
    · unfold formulaP
      split
      · exact atom_ne_out s r
      · refine Res.bind_ne_out (take_ne_out s _ _) fun w r1 h1 => ?_
        have f1 := take_fwd ho (.inr (.inl rfl)) h1
        have g1 := f1.2
        have a1 := az _ f1.1
        split
        · exact fun h => by cases h
        split
        · exact fun h => by cases h
        split
        · refine Res.bind_ne_out (need_ne_out s _ _) fun _ r2 h2 => ?_
          have f2 := need_fwd f1.1 h2
          have g2 := f2.2
          have a2 := az _ f2.1
          exact Res.bind_ne_out (iK _ f2.1 (by omega)) fun _ _ _ h => by cases h
        split
        · refine Res.bind_ne_out (need_ne_out s _ _) fun _ r2 h2 => ?_
          have f2 := need_fwd f1.1 h2
          have g2 := f2.2
          have a2 := az _ f2.1
          refine Res.bind_ne_out (iF _ f2.1 (by omega)) fun _ r3 _ => ?_
          exact Res.bind_ne_out (need_ne_out s _ _) fun _ _ _ h => by cases h
        split
        · refine Res.bind_ne_out (need_ne_out s _ _) fun _ r2 h2 => ?_
          have f2 := need_fwd f1.1 h2
          have f3 := list_fwe f2.1
          have g2 := f2.2
          have g3 := f3.2
          have a3 := az _ f3.1
          exact Res.bind_ne_out (iI _ f3.1 (by omega)) fun _ _ _ h => by cases h
        split
        · refine Res.bind_ne_out (need_ne_out s _ _) fun _ r2 h2 => ?_
          have f2 := need_fwd f1.1 h2
          have f3 := list_fwe f2.1
          have g2 := f2.2
          have g3 := f3.2
          have a3 := az _ f3.1
          refine Res.bind_ne_out (iI _ f3.1 (by omega)) fun _ r4 _ => ?_
          exact Res.bind_ne_out (args_ne_out s _) fun _ _ _ h => by cases h
        split
        · refine Res.bind_ne_out (need_ne_out s _ _) fun _ r2 h2 => ?_
          have f2 := need_fwd f1.1 h2
          refine Res.bind_ne_out (take_ne_out s _ _) fun _ r3 h3 => ?_
          have f3 := take_fwd f2.1 (.inl rfl) h3
          refine Res.bind_ne_out (take_ne_out s _ _) fun _ r4 h4 => ?_
          have f4 := take_fwd f3.1 (.inr (.inr (.inr rfl))) h4
          have g2 := f2.2
          have g3 := f3.2
          have g4 := f4.2
          have a4 := az _ f4.1
          exact Res.bind_ne_out (iI _ f4.1 (by omega)) fun _ _ _ h => by cases h
        · refine Res.bind_ne_out (need_ne_out s _ _) fun _ r2 h2 => ?_
          have f2 := need_fwd f1.1 h2
          refine Res.bind_ne_out (take_ne_out s _ _) fun _ r3 h3 => ?_
          have f3 := take_fwd f2.1 (.inl rfl) h3
          have f4 := list_fwe f3.1
          have g2 := f2.2
          have g3 := f3.2
          have g4 := f4.2
          have a4 := az _ f4.1
          refine Res.bind_ne_out (iI _ f4.1 (by omega)) fun _ r5 _ => ?_
          exact Res.bind_ne_out (args_ne_out s _) fun _ _ _ h => by cases h
    · unfold innerP
      refine Res.bind_ne_out (need_ne_out s _ _) fun _ r2 h2 => ?_
      have f2 := need_fwd ho h2
      have g2 := f2.2
      have a2 := az _ f2.1
      refine Res.bind_ne_out (iF _ f2.1 (by omega)) fun _ r3 _ => ?_
      exact Res.bind_ne_out (need_ne_out s _ _) fun _ _ _ h => by cases h
    · unfold kidsP
      split
      · exact fun h => by cases h
      · refine Res.bind_ne_out (iF _ ho (by omega)) fun _ r2 h2 => ?_
        have f2 := (fwd_all s n).1 _ _ _ ho h2
        have g2 := f2.2
        have a2 := az _ f2.1
        exact iM _ _ f2.1 (by omega)
    · unfold moreP
      split
      · rename_i hk
        have f1 := step_fwd ho (is_kind hk)
        have g1 := f1.2
        have a1 := az _ f1.1
        refine Res.bind_ne_out (iF _ f1.1 (by omega)) fun _ r2 h2 => ?_
        have f2 := (fwd_all s n).1 _ _ _ f1.1 h2
        have g2 := f2.2
        have a2 := az _ f2.1
        exact iM _ _ f2.1 (by omega)
      · exact Res.bind_ne_out (need_ne_out s _ _) fun _ _ _ h => by cases h

/-- What a text reads as: a formula; or the place where it stops. -/
def readP (s : ByteArray) : Form ⊕ Nat :=
  match formulaP s (2 * s.size + 3) (stepR s 0) with
  | .ok F r => if r.kind = 0 then .inl F else .inr r.at_
  | .err i => .inr i
  | .out => .inr 0
end Go.Proofs.YtadnnijdbcdkjaaGreatDoor
/-
  The plain checker: what a formula's shape must be; where a name occurs; the walk over a formula. No program in sight.
-/
namespace Go.Proofs.YtadnnijdbcdkjaaGreatDoor
open Go.RowKit Go.ChangeShapes

/-- What a kind asks: how many kids, arguments, variables; named; sized; as many arguments as variables. -/
structure Rule where
  k0 : Int
  k1 : Int
  a0 : Int
  a1 : Int
  v0 : Int
  v1 : Int
  named : Bool
  sized : Bool
  fits : Bool
def ruleB (k : Int) : Rule :=
  if k = 0 then ⟨0, 0, 0, 12, 0, 0, true, false, false⟩
  else if k = 1 ∨ k = 2 then ⟨0, 0, 2, 2, 0, 0, false, false, false⟩
  else if k = 3 then ⟨1, 1, 0, 0, 0, 0, false, false, false⟩
  else if k = 4 ∨ k = 5 then ⟨0, 1073741824, 0, 0, 0, 0, false, false, false⟩
  else if k = 6 ∨ k = 7 then ⟨1, 1, 0, 0, 1, 12, false, false, false⟩
  else if k = 8 ∨ k = 9 then ⟨1, 1, 1, 12, 1, 12, true, false, true⟩
  else if k = 10 then ⟨1, 1, 2, 24, 2, 24, false, false, true⟩
  else if k = 11 then ⟨1, 1, 0, 0, 0, 0, true, true, false⟩
  else ⟨1, 0, 0, 0, 0, 0, false, false, false⟩

def namesF (apart : Bool) (pre : List ByteArray) : List ByteArray → Bool
  | [] => true
  | x :: t => if !nameB x || (apart && Lib.containsS pre x) then false else namesF apart (pre ++ [x]) t
def namesB (l : List ByteArray) (low high : Int) (apart : Bool) : Bool :=
  if (l.length : Int) < low ∨ high < (l.length : Int) then false else namesF apart [] l

def shapedB (F : Form) : Bool :=
  let r := ruleB F.kind
  if ((F.kids.length : Int) < r.k0 ∨ r.k1 < (F.kids.length : Int)) ∨ r.named ≠ decide (F.name ≠ eb) ∨ (r.named = true ∧ nameB F.name = false) then false
  else if (r.sized = false ∧ F.arity ≠ 0) ∨ F.arity < 0 ∨ 12 < F.arity ∨ (F.kind = 10 ∧ (F.vars.length : Int) % 2 ≠ 0) then false
  else namesB F.args r.a0 r.a1 false && namesB F.vars r.v0 r.v1 true && (!r.fits || decide (F.vars.length = F.args.length))

/-- The relation that a formula binds: its name, its arity; whether it binds one. -/
def bindsB (F : Form) : ByteArray × Int × Bool :=
  if F.kind = 8 ∨ F.kind = 9 then (F.name, F.vars.length, true)
  else if F.kind = 11 then (F.name, F.arity, true)
  else (eb, 0, false)

mutual
/-- Whether a relation's name occurs free. -/
def occursB (nm : ByteArray) : Form → Bool
  | .mk k a n vars args kids =>
    if k = 0 then decide (n = nm)
    else if (bindsB (.mk k a n vars args kids)).2.2 = true ∧ (bindsB (.mk k a n vars args kids)).1 = nm then false
    else occursL nm kids
def occursL (nm : ByteArray) : List Form → Bool
  | [] => false
  | f :: r => occursB nm f || occursL nm r
end
mutual
/-- Whether a relation's name occurs below an even number of negations alone. -/
def positiveB (nm : ByteArray) (even : Bool) : Form → Bool
  | .mk k a n vars args kids =>
    if k = 0 then decide (n ≠ nm) || even
    else if (bindsB (.mk k a n vars args kids)).2.2 = true ∧ (bindsB (.mk k a n vars args kids)).1 = nm then true
    else if k = 9 then !occursB nm (kids.getD 0 default)
    else positiveL nm (even != decide (k = 3)) kids
def positiveL (nm : ByteArray) (even : Bool) : List Form → Bool
  | [] => true
  | f :: r => positiveB nm even f && positiveL nm even r
end
mutual
/-- The names' lengths are lengths; whoever hands back a relation has a formula below it. -/
def okF : Form → Prop
  | .mk _ _ n vars args kids => n.size ≤ maxLen ∧ (∀ x ∈ vars, x.size ≤ maxLen) ∧ (∀ x ∈ args, x.size ≤ maxLen) ∧ okL kids
def okL : List Form → Prop
  | [] => True
  | f :: r => okF f ∧ okL r
end
mutual
/-- Wherever a formula of kind 9 stands there is one below it. -/
def pfpF : Form → Prop
  | .mk k _ _ _ _ kids => (k = 9 → kids ≠ []) ∧ pfpL kids
def pfpL : List Form → Prop
  | [] => True
  | f :: r => pfpF f ∧ pfpL r
end
theorem okL_iff : ∀ {l : List Form}, okL l ↔ ∀ f ∈ l, okF f
  | [] => by simp [okL]
  | f :: r => by simp [okL, okL_iff (l := r)]
theorem pfpL_iff : ∀ {l : List Form}, pfpL l ↔ ∀ f ∈ l, pfpF f
  | [] => by simp [pfpL]
  | f :: r => by simp [pfpL, pfpL_iff (l := r)]
theorem occursL_eq (nm : ByteArray) : ∀ l : List Form, occursL nm l = l.any (occursB nm)
  | [] => rfl
  | f :: r => by simp [occursL, occursL_eq nm r]
theorem positiveL_eq (nm : ByteArray) (even : Bool) : ∀ l : List Form, positiveL nm even l = l.all (positiveB nm even)
  | [] => rfl
  | f :: r => by simp [positiveL, positiveL_eq nm even r]

/-- What the checker holds. -/
structure CK where
  n : Int
  deep : Int
  bound : DataW Unit
  free : DataW Unit
  bad : Bool

def keyL (s : ByteArray) : Lit := .string s.data.toList
/-- The numbers that stand in a datum. -/
def numL : DataW Unit → List Int
  | .slice es _ => es.map fun d => match d with | .lit (.int _ z) => z | _ => 0
  | _ => []
def numD : DataW Unit → Int
  | .lit (.int _ z) => z
  | _ => 0
def CK.boundAt (c : CK) (nm : ByteArray) : List Int := numL (c.bound.atKey (keyL nm) .nil)
def CK.freeAt (c : CK) (nm : ByteArray) : Int := numD (c.free.atKey (keyL nm) (.lit (.int .i64 0)))
def CK.push (c : CK) (nm : ByteArray) (z : Int) : CK := { c with bound := c.bound.put (keyL nm) (.slice (lits .i64 (c.boundAt nm ++ [z])) []) }
def CK.pop (c : CK) (nm : ByteArray) : CK := { c with bound := c.bound.put (keyL nm) (.slice (lits .i64 (c.boundAt nm).dropLast) []) }

/-- The first part of a visit. -/
def enterB (F : Form) (level : Int) (c : CK) : CK :=
  { c with n := c.n + 1, deep := max c.deep level, bad := c.bad || decide (4000 < c.n + 1) || decide (60 < level) || !shapedB F }
/-- An atom whose relation is not bound. -/
def freeB (nm : ByteArray) (z : Int) (c : CK) : CK :=
  { c with free := c.free.put (keyL nm) (.lit (.int .i64 z)), bad := c.bad || (Go.Maps.has c.free (keyL nm) && decide (c.freeAt nm ≠ z)) }
mutual
def walkB : Form → Int → CK → CK
  | .mk k a n vars args kids, level, c =>
    if (enterB (.mk k a n vars args kids) level c).bad then enterB (.mk k a n vars args kids) level c
    else if k = 0 then
      if (enterB (.mk k a n vars args kids) level c).boundAt n ≠ [] then
        { enterB (.mk k a n vars args kids) level c with bad := decide (((enterB (.mk k a n vars args kids) level c).boundAt n).getLast? ≠ some (args.length : Int)) }
      else freeB n args.length (enterB (.mk k a n vars args kids) level c)
    else if (bindsB (.mk k a n vars args kids)).2.2 then
      (lfpB k n kids (walksB kids level ((enterB (.mk k a n vars args kids) level c).push n (bindsB (.mk k a n vars args kids)).2.1))).pop n
    else walksB kids level (enterB (.mk k a n vars args kids) level c)
def walksB : List Form → Int → CK → CK
  | [], _, c => c
  | f :: r, level, c => if (walkB f (level + 1) c).bad then walkB f (level + 1) c else walksB r level (walkB f (level + 1) c)
def lfpB : Int → ByteArray → List Form → CK → CK
  | k, n, kids, c => if c.bad = false ∧ k = 8 ∧ positiveB n true (kids.getD 0 default) = false then { c with bad := true } else c
end
def ck0 : CK := ⟨0, 0, .map [], .map [], false⟩
def checkedB (F : Form) : CK := walkB F 1 ck0
def validB (F : Form) : Bool := !(checkedB F).bad
end Go.Proofs.YtadnnijdbcdkjaaGreatDoor
/-
  What the plain walk keeps: the relations bound, the count, the shapes seen. No program in sight.
-/
namespace Go.Proofs.YtadnnijdbcdkjaaGreatDoor
open Go.RowKit Go.ChangeShapes Go.Maps

theorem numL_lits (zs : List Int) : numL (.slice (lits .i64 zs) []) = zs := by
  show ((lits (H := Unit) .i64 zs).map _) = zs
  unfold lits
  rw [List.map_map]
  conv => rhs; rw [← List.map_id zs]
  exact List.map_congr_left fun x _ => rfl
theorem keyL_inj {a b : ByteArray} (h : keyL a = keyL b) : a = b := by
  unfold keyL at h
  injection h with h
  exact bytes_ext h
theorem keyL_key (a : ByteArray) : WideAt.IsKeyLit (keyL a) := by unfold keyL; trivial
theorem IsMap.push {c : CK} (h : IsMap c.bound) (nm : ByteArray) (z : Int) : IsMap (c.push nm z).bound := h.put _ _
theorem IsMap.pop {c : CK} (h : IsMap c.bound) (nm : ByteArray) : IsMap (c.pop nm).bound := h.put _ _
theorem boundAt_push {c : CK} (h : IsMap c.bound) (nm nm' : ByteArray) (z : Int) : (c.push nm z).boundAt nm' = if nm' = nm then c.boundAt nm ++ [z] else c.boundAt nm' := by
  by_cases e : nm' = nm
  · subst e
    rw [if_pos rfl]
    show numL ((c.bound.put _ _).atKey _ _) = _
    rw [atKey_put_same h (keyL_key _), numL_lits]
  · rw [if_neg e]
    show numL ((c.bound.put _ _).atKey _ _) = _
    rw [atKey_put_other (fun h => e (keyL_inj h))]
    rfl
theorem boundAt_pop {c : CK} (h : IsMap c.bound) (nm nm' : ByteArray) : (c.pop nm).boundAt nm' = if nm' = nm then (c.boundAt nm).dropLast else c.boundAt nm' := by
  by_cases e : nm' = nm
  · subst e
    rw [if_pos rfl]
    show numL ((c.bound.put _ _).atKey _ _) = _
    rw [atKey_put_same h (keyL_key _), numL_lits]
  · rw [if_neg e]
    show numL ((c.bound.put _ _).atKey _ _) = _
    rw [atKey_put_other (fun h => e (keyL_inj h))]
    rfl

/-- What a visit keeps. -/
structure Kept (c r : CK) : Prop where
  cnt : r.bad = false → r.n ≤ 4000
  map : IsMap r.bound
  at_ : ∀ nm, r.boundAt nm = c.boundAt nm
theorem Kept.refl {c : CK} (h1 : c.n ≤ 4000) (h2 : IsMap c.bound) : Kept c c := ⟨fun _ => h1, h2, fun _ => rfl⟩

theorem lfpB_kept {k : Int} {n : ByteArray} {kids : List Form} {c r : CK} (h : Kept c r) : Kept c (lfpB k n kids r) := by
  by_cases hc : r.bad = false ∧ k = 8 ∧ positiveB n true (kids.getD 0 default) = false
  · rw [lfpB, if_pos hc]
    exact ⟨fun h => (by cases h), h.map, h.at_⟩
  · rw [lfpB, if_neg hc]
    exact h
theorem lfpB_bad {k : Int} {n : ByteArray} {kids : List Form} {r : CK} (h : (lfpB k n kids r).bad = false) : r.bad = false := by
  by_cases hc : r.bad = false ∧ k = 8 ∧ positiveB n true (kids.getD 0 default) = false
  · exact hc.1
  · rw [lfpB, if_neg hc] at h
    exact h

theorem shaped_kids {F : Form} (h : shapedB F = true) (hk : F.kind = 9) : F.kids ≠ [] := by
  intro e
  have hr : ruleB F.kind = ⟨1, 1, 1, 12, 1, 12, true, false, true⟩ := by rw [hk]; rfl
  simp only [shapedB, hr, e] at h
  simp at h

mutual
theorem walk_kept : ∀ (F : Form) (level : Int) (c : CK), c.bad = false → c.n ≤ 4000 → IsMap c.bound → Kept c (walkB F level c) ∧ ((walkB F level c).bad = false → pfpF F)
  | .mk k a n vars args kids, level, c, hb, hn, hm => by
    have he : (enterB (.mk k a n vars args kids) level c).bad = false → (enterB (.mk k a n vars args kids) level c).n ≤ 4000 ∧ shapedB (.mk k a n vars args kids) = true := fun h => by
      unfold enterB at h ⊢
      simp only [Bool.or_eq_false_iff, decide_eq_false_iff_not, Bool.not_eq_false'] at h
      exact ⟨by simp only; omega, h.2⟩
    have hK : Kept c (enterB (.mk k a n vars args kids) level c) := ⟨fun h => (he h).1, hm, fun _ => rfl⟩
    rw [walkB]
    split
    · rename_i h; exact ⟨hK, fun h' => by rw [h] at h'; cases h'⟩
    · rename_i h
      have h' : (enterB (.mk k a n vars args kids) level c).bad = false := by simpa using h
      obtain ⟨hn', hsh⟩ := he h'
      have h9 : k = 9 → kids ≠ [] := fun e => shaped_kids hsh e
      split
      · rename_i h0
        have hkids : kids = [] := by
          have hr : ruleB k = ⟨0, 0, 0, 12, 0, 0, true, false, false⟩ := by rw [h0]; rfl
          rcases hkk : kids with _ | ⟨x, y⟩
          · rfl
          · rw [hkk] at hsh
            simp only [shapedB, Form.kind, Form.kids, hr] at hsh
            have hlt : (0 : Int) < ((x :: y).length : Int) := by simp
            rw [if_pos (.inl (.inr hlt))] at hsh
            cases hsh
        have hp : pfpF (.mk k a n vars args kids) := ⟨h9, by rw [hkids]; trivial⟩
        split
        · exact ⟨⟨fun _ => hn', hm, fun _ => rfl⟩, fun _ => hp⟩
        · exact ⟨⟨fun _ => hn', hm, fun _ => rfl⟩, fun _ => hp⟩
      · split
        · have hw := walks_kept kids level ((enterB (.mk k a n vars args kids) level c).push n (bindsB (.mk k a n vars args kids)).2.1) h' hn' (IsMap.push (c := enterB (.mk k a n vars args kids) level c) hm n _)
          have hl := lfpB_kept (k := k) (n := n) (kids := kids) hw.1
          refine ⟨⟨fun h => hl.cnt h, IsMap.pop hl.map n, fun nm => ?_⟩, fun h => ⟨h9, hw.2 (lfpB_bad h)⟩⟩
          rw [boundAt_pop hl.map, hl.at_, boundAt_push (c := enterB (.mk k a n vars args kids) level c) hm, if_pos rfl]
          split
          · rename_i e; rw [e]; simp; rfl
          · rename_i e; rw [hl.at_, boundAt_push (c := enterB (.mk k a n vars args kids) level c) hm, if_neg e]; rfl
        · have hw := walks_kept kids level (enterB (.mk k a n vars args kids) level c) h' hn' hm
          exact ⟨⟨hw.1.cnt, hw.1.map, hw.1.at_⟩, fun h => ⟨h9, hw.2 h⟩⟩
theorem walks_kept : ∀ (l : List Form) (level : Int) (c : CK), c.bad = false → c.n ≤ 4000 → IsMap c.bound → Kept c (walksB l level c) ∧ ((walksB l level c).bad = false → pfpL l)
  | [], level, c, hb, hn, hm => by rw [walksB]; exact ⟨Kept.refl hn hm, fun _ => trivial⟩
  | f :: r, level, c, hb, hn, hm => by
    have h1 := walk_kept f (level + 1) c hb hn hm
    rw [walksB]
    split
    · rename_i h
      exact ⟨h1.1, fun h' => by rw [h] at h'; cases h'⟩
    · rename_i h
      have h' : (walkB f (level + 1) c).bad = false := by simpa using h
      have h2 := walks_kept r level (walkB f (level + 1) c) h' (h1.1.cnt h') h1.1.map
      exact ⟨⟨h2.1.cnt, h2.1.map, fun nm => (h2.1.at_ nm).trans (h1.1.at_ nm)⟩, fun h => ⟨h1.2 h', h2.2 h⟩⟩
end
end Go.Proofs.YtadnnijdbcdkjaaGreatDoor
/-
  The plain parser's formulas: their names are no longer than the text. No program in sight.
-/
namespace Go.Proofs.YtadnnijdbcdkjaaGreatDoor
open Go.RowKit

/-- A result of which PA holds; the token's text is no longer than the text. -/
def Gok {α : Type} (s : ByteArray) (PA : α → Prop) (x : Res α) : Prop := ∀ a r, x = .ok a r → PA a ∧ r.text.size ≤ s.size
theorem Gok.bind {α β : Type} {s : ByteArray} {PA : α → Prop} {PB : β → Prop} {x : Res α} {f : α → RS → Res β} (h : Gok s PA x) (hf : ∀ a r, PA a → r.text.size ≤ s.size → Gok s PB (f a r)) : Gok s PB (x.bind f) := by
  intro b r' hb
  cases x with
  | ok a r => exact hf a r (h a r rfl).1 (h a r rfl).2 b r' hb
  | err i => cases hb
  | out => cases hb
theorem Gok.ok {α : Type} {s : ByteArray} {PA : α → Prop} {a : α} {r : RS} (ha : PA a) (hr : r.text.size ≤ s.size) : Gok s PA (.ok a r) := by
  intro a' r' h; cases h; exact ⟨ha, hr⟩
theorem Gok.err {α : Type} {s : ByteArray} {PA : α → Prop} {i : Nat} : Gok s PA (.err i) := fun _ _ h => by cases h
theorem Gok.out {α : Type} {s : ByteArray} {PA : α → Prop} : Gok s PA .out := fun _ _ h => by cases h
theorem Gok.ite {α : Type} {s : ByteArray} {PA : α → Prop} {c : Prop} [Decidable c] {x y : Res α} (h1 : Gok s PA x) (h2 : Gok s PA y) : Gok s PA (if c then x else y) := by split <;> assumption
theorem step_text (s : ByteArray) (p : Nat) : (stepR s p).text.size ≤ s.size := by
  unfold stepR
  simp only
  split
  · exact Nat.zero_le _
  · split
    · simp only [ByteArray.size_extract]; omega
    · split
      · simp only [ByteArray.size_extract]; omega
      · exact Nat.zero_le _
def szS (s : ByteArray) (t : ByteArray) : Prop := t.size ≤ s.size
def szL (s : ByteArray) (l : List ByteArray) : Prop := ∀ t ∈ l, t.size ≤ s.size
section
variable {s : ByteArray} {r : RS}
theorem gok_take (h : r.text.size ≤ s.size) (k : Int) : Gok s (szS s) (takeP s k r) := .ite (.ok h (step_text _ _)) .err
theorem gok_need (t : ByteArray) : Gok s (fun _ : Unit => True) (needP s t r) := .ite (.ok trivial (step_text _ _)) .err
theorem gok_listF : ∀ (n : Nat) (r : RS), r.text.size ≤ s.size → szL s (listF s n r).1 ∧ (listF s n r).2.text.size ≤ s.size
  | 0, r, h => ⟨fun t ht => (by cases ht), h⟩
  | n + 1, r, h => by
    unfold listF
    split
    · have ih := gok_listF n _ (step_text s r.pos)
      refine ⟨fun t ht => ?_, ih.2⟩
      rcases List.mem_cons.1 ht with rfl | ht
      · exact h
      · exact ih.1 t ht
    · exact ⟨fun t ht => (by cases ht), h⟩
theorem gok_list (h : r.text.size ≤ s.size) : szL s (listP s r).1 ∧ (listP s r).2.text.size ≤ s.size := gok_listF _ r h
theorem gok_args : Gok s (szL s) (argsP s r) :=
  (gok_need _).bind fun _ _ _ h1 => (gok_need _).bind fun _ _ _ h2 => .ok (gok_list h1).1 h2
theorem okF_mk {k a : Int} {n : ByteArray} {vars args : List ByteArray} {kids : List Form} (hs : s.size ≤ maxLen) (hn : szS s n) (hv : szL s vars) (ha : szL s args) (hk : okL kids) : okF (.mk k a n vars args kids) :=
  ⟨Nat.le_trans hn hs, fun x hx => Nat.le_trans (hv x hx) hs, fun x hx => Nat.le_trans (ha x hx) hs, hk⟩
theorem szS_eb : szS s eb := Nat.zero_le _
theorem szL_nil : szL s [] := fun _ h => by cases h
theorem szL_two {x y : ByteArray} (hx : szS s x) (hy : szS s y) : szL s [x, y] := by
  intro t ht
  simp only [List.mem_cons, List.not_mem_nil, or_false] at ht
  rcases ht with rfl | rfl
  · exact hx
  · exact hy
theorem gok_atom (hs : s.size ≤ maxLen) (h : r.text.size ≤ s.size) : Gok s okF (atomP s r) :=
  (gok_take h _).bind fun _x _r1 hx _ => .ite (gok_args.bind fun _l _ hl h2 => .ok (okF_mk hs hx szL_nil hl trivial) h2)
    (.ite ((gok_take (step_text _ _) _).bind fun _y _ hy h2 => .ok (okF_mk hs szS_eb szL_nil (szL_two hx hy) trivial) h2)
      (.ite ((gok_take (step_text _ _) _).bind fun _y _ hy h2 => .ok (okF_mk hs szS_eb szL_nil (szL_two hx hy) trivial) h2) .err))
end
theorem okL_app {l : List Form} {F : Form} (h : okL l) (hF : okF F) : okL (l ++ [F]) := by
  rw [okL_iff] at h ⊢
  intro f hf
  rcases List.mem_append.1 hf with hf | hf
  · exact h f hf
  · simp only [List.mem_singleton] at hf; rw [hf]; exact hF
theorem okL_one {F : Form} (hF : okF F) : okL [F] := ⟨hF, trivial⟩
theorem gok_all (s : ByteArray) (hs : s.size ≤ maxLen) : ∀ n, (∀ r, r.text.size ≤ s.size → Gok s okF (formulaP s n r)) ∧ (∀ r, Gok s okL (innerP s n r)) ∧ (∀ r, r.text.size ≤ s.size → Gok s okL (kidsP s n r)) ∧ (∀ acc r, okL acc → Gok s okL (moreP s n acc r))
  | 0 => ⟨fun _ _ => (by unfold formulaP; exact .out), fun _ => (by unfold innerP; exact .out), fun _ _ => (by unfold kidsP; exact .out), fun _ _ _ => (by unfold moreP; exact .out)⟩
  | n + 1 => by
    obtain ⟨iF, iI, iK, iM⟩ := gok_all s hs n
    refine ⟨fun r h => ?_, fun r => ?_, fun r h => ?_, fun acc r ha => ?_⟩
    · rw [formulaP]
      refine .ite (gok_atom hs h) ((gok_take h _).bind fun w r1 _ h1 => ?_)
      refine .ite (.ok (okF_mk hs szS_eb szL_nil szL_nil trivial) h1) (.ite (.ok (okF_mk hs szS_eb szL_nil szL_nil trivial) h1) ?_)
      refine .ite ((gok_need _).bind fun _ _ _ h2 => (iK _ h2).bind fun _ _ hl h3 => .ok (okF_mk hs szS_eb szL_nil szL_nil hl) h3) ?_
      refine .ite ((gok_need _).bind fun _ _ _ h2 => (iF _ h2).bind fun _ _ hF _ => (gok_need _).bind fun _ _ _ h4 => .ok (okF_mk hs szS_eb szL_nil szL_nil (okL_one hF)) h4) ?_
      refine .ite ((gok_need _).bind fun _ _ _ h2 => (iI _).bind fun _ _ hl h3 => .ok (okF_mk hs szS_eb (gok_list h2).1 szL_nil hl) h3) ?_
      refine .ite ((gok_need _).bind fun _ _ _ h2 => (iI _).bind fun _ _ hl _ => gok_args.bind fun _ _ ha h4 => .ok (okF_mk hs szS_eb (gok_list h2).1 ha hl) h4) ?_
      refine .ite ((gok_need _).bind fun _ _ _ h2 => (gok_take h2 _).bind fun _ _ hn h3 => (gok_take h3 _).bind fun _ _ _ _ => (iI _).bind fun _ _ hl h5 => .ok (okF_mk hs hn szL_nil szL_nil hl) h5) ?_
      exact (gok_need _).bind fun _ _ _ h2 => (gok_take h2 _).bind fun _ _ hn h3 => (iI _).bind fun _ _ hl _ => gok_args.bind fun _ _ ha h5 => .ok (okF_mk hs hn (gok_list h3).1 ha hl) h5
    · rw [innerP]
      exact (gok_need _).bind fun _ _ _ h2 => (iF _ h2).bind fun _ _ hF _ => (gok_need _).bind fun _ _ _ h4 => .ok (okL_one hF) h4
    · rw [kidsP]
      exact .ite (.ok trivial (step_text _ _)) ((iF _ h).bind fun _ _ hF _ => iM _ _ (okL_one hF))
    · rw [moreP]
      exact .ite ((iF _ (step_text _ _)).bind fun _ _ hF _ => iM _ _ (okL_app ha hF)) ((gok_need _).bind fun _ _ _ h4 => .ok ha h4)
theorem read_ok {s : ByteArray} (hs : s.size ≤ maxLen) {n : Nat} {F : Form} {r : RS} (h : formulaP s n (stepR s 0) = .ok F r) : okF F := ((gok_all s hs n).1 _ (step_text s 0) F r h).1
end Go.Proofs.YtadnnijdbcdkjaaGreatDoor
/-
  The plain search for free variables. No program in sight.
-/
namespace Go.Proofs.YtadnnijdbcdkjaaGreatDoor
open Go.RowKit Go.ChangeShapes Go.Maps

/-- The number that a map holds for a name; 0 where it holds none. -/
def numAt (D : DataW Unit) (x : ByteArray) : Int := numD (D.atKey (keyL x) (.lit (.int .i64 0)))
def argsW (D : DataW Unit) : List ByteArray → DataW Unit → DataW Unit
  | [], O => O
  | a :: r, O => argsW D r (if numAt D a = 0 then O.put (keyL a) (.lit (.bool true)) else O)
def varsW (d : Int) : List ByteArray → DataW Unit → DataW Unit
  | [], D => D
  | v :: r, D => varsW d r (D.put (keyL v) (.lit (.int .i64 (numAt D v + d))))
mutual
/-- The walk for free variables: the numbers of binders, the names found. -/
def freeW : Form → DataW Unit → DataW Unit → DataW Unit × DataW Unit
  | .mk _ _ _ vars args kids, D, O => (varsW (-1) vars (freesW kids (varsW 1 vars D) (argsW D args O)).1, (freesW kids (varsW 1 vars D) (argsW D args O)).2)
def freesW : List Form → DataW Unit → DataW Unit → DataW Unit × DataW Unit
  | [], D, O => (D, O)
  | f :: r, D, O => freesW r (freeW f D O).1 (freeW f D O).2
end
mutual
/-- How many variables are bound in a formula. -/
def vtsB : Form → Nat
  | .mk _ _ _ vars _ kids => vars.length + vtsL kids
def vtsL : List Form → Nat
  | [] => 0
  | f :: r => vtsB f + vtsL r
end
mutual
/-- How many arguments are in a formula. -/
def atsB : Form → Nat
  | .mk _ _ _ _ args kids => args.length + atsL kids
def atsL : List Form → Nat
  | [] => 0
  | f :: r => atsB f + atsL r
end
/-- The numbers are small. -/
def NB (D : DataW Unit) (n : Nat) : Prop := ∀ x, -(n : Int) ≤ numAt D x ∧ numAt D x ≤ n
theorem numAt_put {D : DataW Unit} (h : IsMap D) (v x : ByteArray) (z : Int) : numAt (D.put (keyL v) (.lit (.int .i64 z))) x = if x = v then z else numAt D x := by
  unfold numAt
  by_cases e : x = v
  · subst e
    rw [if_pos rfl, atKey_put_same h (keyL_key _)]
    rfl
  · rw [if_neg e, atKey_put_other (fun h => e (keyL_inj h))]
theorem NB.put {D : DataW Unit} {n : Nat} (h : IsMap D) (hn : NB D n) (v : ByteArray) {d : Int} (hd : -1 ≤ d ∧ d ≤ 1) : NB (D.put (keyL v) (.lit (.int .i64 (numAt D v + d)))) (n + 1) := by
  intro x
  rw [numAt_put h]
  have h1 := hn x
  have h2 := hn v
  split
  · omega
  · omega
theorem NB.mono {D : DataW Unit} {n m : Nat} (h : NB D n) (hm : n ≤ m) : NB D m := fun x => by have := h x; omega
theorem varsW_drop {d : Int} {l : List ByteArray} {j : Nat} {D : DataW Unit} (h : j < l.length) : varsW d (l.drop j) D = varsW d (l.drop (j + 1)) (D.put (keyL (l.getD j eb)) (.lit (.int .i64 (numAt D (l.getD j eb) + d)))) := by
  rw [List.drop_eq_getElem_cons h, varsW, List.getD_eq_getElem?_getD, List.getElem?_eq_getElem h]; rfl
theorem argsW_drop {l : List ByteArray} {j : Nat} {D O : DataW Unit} (h : j < l.length) : argsW D (l.drop j) O = argsW D (l.drop (j + 1)) (if numAt D (l.getD j eb) = 0 then O.put (keyL (l.getD j eb)) (.lit (.bool true)) else O) := by
  rw [List.drop_eq_getElem_cons h, argsW, List.getD_eq_getElem?_getD, List.getElem?_eq_getElem h]; rfl
theorem freesW_drop {l : List Form} {j : Nat} {D O : DataW Unit} (h : j < l.length) : freesW (l.drop j) D O = freesW (l.drop (j + 1)) (freeW (l.getD j default) D O).1 (freeW (l.getD j default) D O).2 := by
  rw [List.drop_eq_getElem_cons h, freesW, List.getD_eq_getElem?_getD, List.getElem?_eq_getElem h]; rfl
theorem vtsL_drop {l : List Form} {j : Nat} (h : j < l.length) : vtsL (l.drop j) = vtsB (l.getD j default) + vtsL (l.drop (j + 1)) := by
  rw [List.drop_eq_getElem_cons h, vtsL, List.getD_eq_getElem?_getD, List.getElem?_eq_getElem h]; rfl
theorem atsL_drop {l : List Form} {j : Nat} (h : j < l.length) : atsL (l.drop j) = atsB (l.getD j default) + atsL (l.drop (j + 1)) := by
  rw [List.drop_eq_getElem_cons h, atsL, List.getD_eq_getElem?_getD, List.getElem?_eq_getElem h]; rfl
theorem freeW_eq (F : Form) (D O : DataW Unit) : freeW F D O = (varsW (-1) F.vars (freesW F.kids (varsW 1 F.vars D) (argsW D F.args O)).1, (freesW F.kids (varsW 1 F.vars D) (argsW D F.args O)).2) := by
  cases F; rw [freeW]; rfl
theorem vtsB_eq (F : Form) : vtsB F = F.vars.length + vtsL F.kids := by cases F; rw [vtsB]; rfl
theorem atsB_eq (F : Form) : atsB F = F.args.length + atsL F.kids := by cases F; rw [atsB]; rfl
end Go.Proofs.YtadnnijdbcdkjaaGreatDoor
/-
  What the plain walk finds, said without a state: sizes, depths, shapes, arities, growth, occurrences. No program in sight.
-/
namespace Go.Proofs.YtadnnijdbcdkjaaGreatDoor
open Go.RowKit Go.ChangeShapes Go.Maps

mutual
/-- How many formulas are in a formula. -/
def sizeB : Form → Int
  | .mk _ _ _ _ _ kids => 1 + sizesB kids
def sizesB : List Form → Int
  | [] => 0
  | f :: r => sizeB f + sizesB r
end
mutual
/-- How deep a formula is. -/
def deepB : Form → Int
  | .mk _ _ _ _ _ kids => 1 + deepsB kids
def deepsB : List Form → Int
  | [] => 0
  | f :: r => max (deepB f) (deepsB r)
end
mutual
/-- All subformulas have their kinds' shapes. -/
def shapesB : Form → Bool
  | .mk k a n vars args kids => shapedB (.mk k a n vars args kids) && shapesL kids
def shapesL : List Form → Bool
  | [] => true
  | f :: r => shapesB f && shapesL r
end
/-- The arities of a name in a list of bound names, in order. -/
def aritiesOf (env : List (ByteArray × Int)) (nm : ByteArray) : List Int := (env.filter fun e => decide (e.1 = nm)).map (·.2)
/-- What is bound below a formula. -/
def bindE (env : List (ByteArray × Int)) (F : Form) : List (ByteArray × Int) := if (bindsB F).2.2 then env ++ [(F.name, (bindsB F).2.1)] else env
mutual
/-- Bound relations have the arity that their binder says. -/
def arB (env : List (ByteArray × Int)) : Form → Bool
  | .mk k a n vars args kids =>
    if k = 0 then (match (aritiesOf env n).getLast? with | none => true | some z => decide (z = (args.length : Int)))
    else arL (bindE env (.mk k a n vars args kids)) kids
def arL (env : List (ByteArray × Int)) : List Form → Bool
  | [] => true
  | f :: r => arB env f && arL env r
end
mutual
/-- The relations that occur free, each with its arity. -/
def occB (env : List (ByteArray × Int)) : Form → List (ByteArray × Int)
  | .mk k a n vars args kids =>
    if k = 0 ∧ aritiesOf env n = [] then [(n, (args.length : Int))]
    else occL (bindE env (.mk k a n vars args kids)) kids
def occL (env : List (ByteArray × Int)) : List Form → List (ByteArray × Int)
  | [] => []
  | f :: r => occB env f ++ occL env r
end
mutual
/-- The kids of least fixed points are positive in the names that these bind. -/
def growB : Form → Bool
  | .mk k _ n _ _ kids => (decide (k ≠ 8) || positiveB n true (kids.getD 0 default)) && growL kids
def growL : List Form → Bool
  | [] => true
  | f :: r => growB f && growL r
end
/-- Occurrences agree with what has been found and with each other. -/
def consB (free : DataW Unit) : List (ByteArray × Int) → Bool
  | [] => true
  | (n, z) :: r => !(Maps.has free (keyL n) && decide (numD (free.atKey (keyL n) (.lit (.int .i64 0))) ≠ z)) && consB (free.put (keyL n) (.lit (.int .i64 z))) r
def putsB (free : DataW Unit) : List (ByteArray × Int) → DataW Unit
  | [] => free
  | (n, z) :: r => putsB (free.put (keyL n) (.lit (.int .i64 z))) r

theorem putsB_app (free : DataW Unit) (l m : List (ByteArray × Int)) : putsB free (l ++ m) = putsB (putsB free l) m := by
  induction l generalizing free with
  | nil => rfl
  | cons e r ih => obtain ⟨n, z⟩ := e; exact ih _
theorem consB_app (free : DataW Unit) (l m : List (ByteArray × Int)) : consB free (l ++ m) = (consB free l && consB (putsB free l) m) := by
  induction l generalizing free with
  | nil => rfl
  | cons e r ih =>
    obtain ⟨n, z⟩ := e
    rw [List.cons_append, consB, consB, ih, Bool.and_assoc]
    rfl

theorem arities_bind {env : List (ByteArray × Int)} {n nm : ByteArray} {z : Int} : aritiesOf (env ++ [(n, z)]) nm = if nm = n then aritiesOf env n ++ [z] else aritiesOf env nm := by
  unfold aritiesOf
  rw [List.filter_append, List.map_append]
  by_cases h : nm = n
  · subst h; simp
  · rw [if_neg h]
    have : ¬ n = nm := fun e => h e.symm
    simp [this]

theorem size_pos : ∀ F : Form, 1 ≤ sizeB F
  | .mk _ _ _ _ _ kids => by rw [sizeB]; have := sizes_nn kids; omega
where sizes_nn : ∀ l : List Form, 0 ≤ sizesB l
  | [] => by rw [sizesB]; omega
  | f :: r => by rw [sizesB]; have := size_pos f; have := sizes_nn r; omega
theorem deeps_nn : ∀ l : List Form, 0 ≤ deepsB l
  | [] => by rw [deepsB]; omega
  | f :: r => by rw [deepsB]; have := deeps_nn r; omega
theorem deep_pos (F : Form) : 1 ≤ deepB F := by
  cases F with
  | mk k a n vars args kids => rw [deepB]; have := deeps_nn kids; omega

/-- What the plain walk is asked, in a state that holds env. -/
structure Cond (F : Form) (level : Int) (c : CK) (env : List (ByteArray × Int)) : Prop where
  size : c.n + sizeB F ≤ 4000
  deep : level + deepB F ≤ 61
  shape : shapesB F = true
  ar : arB env F = true
  grow : growB F = true
  cons : consB c.free (occB env F) = true
structure Conds (l : List Form) (level : Int) (c : CK) (env : List (ByteArray × Int)) : Prop where
  size : c.n + sizesB l ≤ 4000
  deep : level + deepsB l ≤ 60
  shape : shapesL l = true
  ar : arL env l = true
  grow : growL l = true
  cons : consB c.free (occL env l) = true
structure Out (F : Form) (level : Int) (c : CK) (env : List (ByteArray × Int)) (r : CK) : Prop where
  n : r.n = c.n + sizeB F
  deep : r.deep = max c.deep (level + deepB F - 1)
  free : r.free = putsB c.free (occB env F)
structure Outs (l : List Form) (level : Int) (c : CK) (env : List (ByteArray × Int)) (r : CK) : Prop where
  n : r.n = c.n + sizesB l
  deep : r.deep = max c.deep (level + deepsB l)
  free : r.free = putsB c.free (occL env l)

theorem bindsB_name {F : Form} (h : (bindsB F).2.2 = true) : (bindsB F).1 = F.name := by
  unfold bindsB at h ⊢
  split
  · rfl
  · rename_i h1
    rw [if_neg h1] at h
    split
    · rfl
    · rename_i h2
      rw [if_neg h2] at h
      cases h
theorem shaped_rel {k a : Int} {n : ByteArray} {vars args : List ByteArray} {kids : List Form} (hsh : shapedB (.mk k a n vars args kids) = true) (h0 : k = 0) : kids = [] := by
  have hr : ruleB k = ⟨0, 0, 0, 12, 0, 0, true, false, false⟩ := by rw [h0]; rfl
  rcases hkk : kids with _ | ⟨x, y⟩
  · rfl
  · rw [hkk] at hsh
    simp only [shapedB, Form.kind, Form.kids, hr] at hsh
    have hlt : (0 : Int) < ((x :: y).length : Int) := by simp
    rw [if_pos (.inl (.inr hlt))] at hsh
    cases hsh
theorem binds_zero {a : Int} {n : ByteArray} {vars args : List ByteArray} {kids : List Form} : bindsB (.mk 0 a n vars args kids) = (eb, 0, false) := rfl

mutual
theorem walk_sem : ∀ (F : Form) (level : Int) (c : CK) (env : List (ByteArray × Int)), c.bad = false → c.n ≤ 4000 → IsMap c.bound → (∀ nm, c.boundAt nm = aritiesOf env nm) →
    ((walkB F level c).bad = false ↔ Cond F level c env) ∧ ((walkB F level c).bad = false → Out F level c env (walkB F level c))
  | .mk k a n vars args kids, level, c, env, hb, hn, hm, he => by
    have hs0 := size_pos.sizes_nn kids
    have hd0 := deeps_nn kids
    have hE : (enterB (.mk k a n vars args kids) level c).bad = false ↔ c.n + 1 ≤ 4000 ∧ level ≤ 60 ∧ shapedB (.mk k a n vars args kids) = true := by
      unfold enterB
      simp only [hb, Bool.false_or, Bool.or_eq_false_iff, decide_eq_false_iff_not, Bool.not_eq_false']
      constructor
      · rintro ⟨⟨h1, h2⟩, h3⟩; exact ⟨by omega, by omega, h3⟩
      · rintro ⟨h1, h2, h3⟩; exact ⟨⟨by omega, by omega⟩, h3⟩
    have hb1 : ∀ nm, (enterB (.mk k a n vars args kids) level c).boundAt nm = aritiesOf env nm := he
    have hn1 : (enterB (.mk k a n vars args kids) level c).n = c.n + 1 := rfl
    have hf1 : (enterB (.mk k a n vars args kids) level c).free = c.free := rfl
    have hd1 : (enterB (.mk k a n vars args kids) level c).deep = max c.deep level := rfl
    have hm1 : IsMap (enterB (.mk k a n vars args kids) level c).bound := hm
    rw [walkB]
    by_cases hbad : (enterB (.mk k a n vars args kids) level c).bad = true
    · rw [if_pos hbad]
      refine ⟨⟨fun h => absurd h (by rw [hbad]; simp), fun h => ?_⟩, fun h => absurd h (by rw [hbad]; simp)⟩
      have : (enterB (.mk k a n vars args kids) level c).bad = false := hE.2 ⟨by have := h.size; rw [sizeB] at this; omega, by have := h.deep; rw [deepB] at this; omega, by have := h.shape; rw [shapesB, Bool.and_eq_true] at this; exact this.1⟩
      rw [hbad] at this; cases this
    · have hgood : (enterB (.mk k a n vars args kids) level c).bad = false := by simpa using hbad
      obtain ⟨g1, g2, g3⟩ := hE.1 hgood
      rw [if_neg hbad]
      generalize enterB (.mk k a n vars args kids) level c = e at *
      by_cases h0 : k = 0
      · have hk := shaped_rel g3 h0
        subst hk
        subst h0
        rw [if_pos rfl, hb1]
        by_cases ha : aritiesOf env n = []
        · rw [if_neg (by rw [ha]; simp)]
          have hocc : occB env (.mk 0 a n vars args []) = [(n, (args.length : Int))] := by rw [occB, if_pos ⟨rfl, ha⟩]
          have har : arB env (.mk 0 a n vars args []) = true := by rw [arB, if_pos rfl, ha]; rfl
          have hbf : (freeB n (args.length : Int) e).bad = !(consB c.free (occB env (.mk 0 a n vars args []))) := by
            rw [hocc]
            unfold freeB consB consB
            simp only [hgood, Bool.false_or, CK.freeAt, hf1, Bool.and_true, Bool.not_not]
          refine ⟨⟨fun h => ?_, fun h => ?_⟩, fun h => ?_⟩
          · rw [hbf] at h
            exact ⟨by rw [sizeB, sizesB]; omega, by rw [deepB, deepsB]; omega, by rw [shapesB, g3]; rfl, har, rfl, by simpa using h⟩
          · rw [hbf, h.cons]; rfl
          · refine ⟨?_, ?_, ?_⟩
            · show e.n = _; rw [hn1, sizeB, sizesB]; omega
            · show e.deep = _; rw [hd1, deepB, deepsB]; omega
            · rw [hocc, putsB, putsB]; show e.free.put _ _ = _; rw [hf1]
        · rw [if_pos ha]
          have hocc : occB env (.mk 0 a n vars args []) = [] := by rw [occB, if_neg (fun h => ha h.2), occL]
          obtain ⟨z, hz⟩ : ∃ z, (aritiesOf env n).getLast? = some z := by
            cases hq : (aritiesOf env n).getLast? with
            | none => exact absurd (List.getLast?_eq_none_iff.1 hq) ha
            | some z => exact ⟨z, rfl⟩
          have har : arB env (.mk 0 a n vars args []) = decide (z = (args.length : Int)) := by rw [arB, if_pos rfl, hz]
          simp only
          rw [hz]
          refine ⟨⟨fun h => ?_, fun h => ?_⟩, fun h => ?_⟩
          · have hzz : z = (args.length : Int) := by simpa using h
            exact ⟨by rw [sizeB, sizesB]; omega, by rw [deepB, deepsB]; omega, by rw [shapesB, g3]; rfl, by rw [har]; simpa using hzz, rfl, by rw [hocc]; rfl⟩
          · have := h.ar; rw [har] at this; simpa using this
          · refine ⟨?_, ?_, ?_⟩
            · show e.n = _; rw [hn1, sizeB, sizesB]; omega
            · show e.deep = _; rw [hd1, deepB, deepsB]; omega
            · rw [hocc, putsB]; exact hf1
      · rw [if_neg h0]
        have hocc : occB env (.mk k a n vars args kids) = occL (bindE env (.mk k a n vars args kids)) kids := by rw [occB, if_neg (fun h => h0 h.1)]
        have har : arB env (.mk k a n vars args kids) = arL (bindE env (.mk k a n vars args kids)) kids := by rw [arB, if_neg h0]
        by_cases hbi : (bindsB (.mk k a n vars args kids)).2.2 = true
        · rw [if_pos hbi]
          have hE' : bindE env (.mk k a n vars args kids) = env ++ [(n, (bindsB (.mk k a n vars args kids)).2.1)] := by unfold bindE; rw [if_pos hbi]; rfl
          have hp : ∀ nm, (e.push n (bindsB (.mk k a n vars args kids)).2.1).boundAt nm = aritiesOf (bindE env (.mk k a n vars args kids)) nm := fun nm => by
            rw [hE', arities_bind, boundAt_push hm1]
            split
            · rename_i h; rw [hb1]
            · rw [hb1]
          have hw := walks_sem kids level (e.push n (bindsB (.mk k a n vars args kids)).2.1) (bindE env (.mk k a n vars args kids)) hgood (by show e.n ≤ 4000; omega) (IsMap.push hm1 n _) hp g2 (by show level ≤ e.deep; omega)
          have hpn : (e.push n (bindsB (.mk k a n vars args kids)).2.1).n = c.n + 1 := hn1
          have hpd : (e.push n (bindsB (.mk k a n vars args kids)).2.1).deep = max c.deep level := hd1
          have hpf : (e.push n (bindsB (.mk k a n vars args kids)).2.1).free = c.free := hf1
          generalize e.push n (bindsB (.mk k a n vars args kids)).2.1 = p at *
          generalize walksB kids level p = r at *
          show ((lfpB k n kids r).bad = false ↔ _) ∧ ((lfpB k n kids r).bad = false → _)
          have hl : (lfpB k n kids r).bad = false ↔ r.bad = false ∧ (decide (k ≠ 8) || positiveB n true (kids.getD 0 default)) = true := by
            by_cases hq : r.bad = false ∧ k = 8 ∧ positiveB n true (kids.getD 0 default) = false
            · rw [lfpB, if_pos hq]
              rw [hq.2.2, decide_eq_false (fun h => h hq.2.1)]
              simp
            · rw [lfpB, if_neg hq]
              constructor
              · intro h
                refine ⟨h, ?_⟩
                by_cases h8 : k = 8
                · cases hpos : positiveB n true (kids.getD 0 default) with
                  | true => simp
                  | false => exact absurd ⟨h, h8, hpos⟩ hq
                · simp [h8]
              · exact fun h => h.1
          refine ⟨hl.trans ⟨fun h => ?_, fun h => ?_⟩, fun h => ?_⟩
          · have hc := hw.1.1 h.1
            exact ⟨by rw [sizeB]; have := hc.size; omega, by rw [deepB]; have := hc.deep; omega, by rw [shapesB, g3, hc.shape]; rfl, by rw [har]; exact hc.ar, by rw [growB, h.2, hc.grow]; rfl, by rw [hocc, ← hpf]; exact hc.cons⟩
          · have hg := h.grow
            rw [growB, Bool.and_eq_true] at hg
            have hsh := h.shape
            rw [shapesB, Bool.and_eq_true] at hsh
            exact ⟨hw.1.2 ⟨by have := h.size; rw [sizeB] at this; omega, by have := h.deep; rw [deepB] at this; omega, hsh.2, by rw [← har]; exact h.ar, hg.2, by rw [hpf, ← hocc]; exact h.cons⟩, hg.1⟩
          · have ho := hw.2 (hl.1 h).1
            have hlr : ((lfpB k n kids r).pop n).n = r.n ∧ ((lfpB k n kids r).pop n).deep = r.deep ∧ ((lfpB k n kids r).pop n).free = r.free := by
              by_cases hq : r.bad = false ∧ k = 8 ∧ positiveB n true (kids.getD 0 default) = false
              · rw [lfpB, if_pos hq]; exact ⟨rfl, rfl, rfl⟩
              · rw [lfpB, if_neg hq]; exact ⟨rfl, rfl, rfl⟩
            refine ⟨?_, ?_, ?_⟩
            · rw [hlr.1, ho.n, hpn, sizeB]; omega
            · rw [hlr.2.1, ho.deep, hpd, deepB]; omega
            · rw [hlr.2.2, ho.free, hpf, hocc]
        · rw [if_neg hbi]
          have hE' : bindE env (.mk k a n vars args kids) = env := by unfold bindE; rw [if_neg hbi]
          have h8 : decide (k ≠ 8) = true := by
            rw [decide_eq_true_eq]
            intro e8
            apply hbi
            unfold bindsB
            rw [if_pos (.inl e8)]
          have hw := walks_sem kids level e (bindE env (.mk k a n vars args kids)) hgood (by omega) hm1 (by rw [hE']; exact hb1) g2 (by omega)
          refine ⟨⟨fun h => ?_, fun h => ?_⟩, fun h => ?_⟩
          · have hc := hw.1.1 h
            exact ⟨by rw [sizeB]; have := hc.size; omega, by rw [deepB]; have := hc.deep; omega, by rw [shapesB, g3, hc.shape]; rfl, by rw [har]; exact hc.ar, by rw [growB, h8, hc.grow]; rfl, by rw [hocc, ← hf1]; exact hc.cons⟩
          · have hg := h.grow
            rw [growB, Bool.and_eq_true] at hg
            have hsh := h.shape
            rw [shapesB, Bool.and_eq_true] at hsh
            exact hw.1.2 ⟨by have := h.size; rw [sizeB] at this; omega, by have := h.deep; rw [deepB] at this; omega, hsh.2, by rw [← har]; exact h.ar, hg.2, by rw [hf1, ← hocc]; exact h.cons⟩
          · have ho := hw.2 h
            refine ⟨?_, ?_, ?_⟩
            · rw [ho.n, hn1, sizeB]; omega
            · rw [ho.deep, hd1, deepB]; omega
            · rw [ho.free, hf1, hocc]
theorem walks_sem : ∀ (l : List Form) (level : Int) (c : CK) (env : List (ByteArray × Int)), c.bad = false → c.n ≤ 4000 → IsMap c.bound → (∀ nm, c.boundAt nm = aritiesOf env nm) → level ≤ 60 → level ≤ c.deep →
    ((walksB l level c).bad = false ↔ Conds l level c env) ∧ ((walksB l level c).bad = false → Outs l level c env (walksB l level c))
  | [], level, c, env, hb, hn, hm, he, hl, hd => by
    rw [walksB]
    exact ⟨⟨fun _ => ⟨by rw [sizesB]; omega, by rw [deepsB]; omega, rfl, rfl, rfl, rfl⟩, fun _ => hb⟩, fun _ => ⟨by rw [sizesB]; omega, by rw [deepsB]; omega, rfl⟩⟩
  | f :: r, level, c, env, hb, hn, hm, he, hl, hd => by
    have h1 := walk_sem f (level + 1) c env hb hn hm he
    have hk := walk_kept f (level + 1) c hb hn hm
    have hs0 := size_pos.sizes_nn r
    have hd0 := deeps_nn r
    have hp := deep_pos f
    rw [walksB]
    by_cases hbad : (walkB f (level + 1) c).bad = true
    · rw [if_pos hbad]
      refine ⟨⟨fun h => absurd h (by rw [hbad]; simp), fun h => ?_⟩, fun h => absurd h (by rw [hbad]; simp)⟩
      refine h1.1.2 ⟨?_, ?_, ?_, ?_, ?_, ?_⟩
      · have := h.size; rw [sizesB] at this; omega
      · have := h.deep; rw [deepsB] at this; omega
      · have := h.shape; rw [shapesL, Bool.and_eq_true] at this; exact this.1
      · have := h.ar; rw [arL, Bool.and_eq_true] at this; exact this.1
      · have := h.grow; rw [growL, Bool.and_eq_true] at this; exact this.1
      · have := h.cons; rw [occL, consB_app, Bool.and_eq_true] at this; exact this.1
    · have hgood : (walkB f (level + 1) c).bad = false := by simpa using hbad
      rw [if_neg hbad]
      have hc := h1.1.1 hgood
      have ho := h1.2 hgood
      have h2 := walks_sem r level (walkB f (level + 1) c) env hgood (hk.1.cnt hgood) hk.1.map (fun nm => (hk.1.at_ nm).trans (he nm)) hl (by rw [ho.deep]; omega)
      have hn1 := ho.n
      have hd1 := ho.deep
      have hf1 := ho.free
      generalize walkB f (level + 1) c = c1 at *
      refine ⟨⟨fun h => ?_, fun h => ?_⟩, fun h => ?_⟩
      · have q := h2.1.1 h
        refine ⟨?_, ?_, ?_, ?_, ?_, ?_⟩
        · have := q.size; rw [sizesB]; omega
        · have := q.deep; have := hc.deep; rw [deepsB]; omega
        · rw [shapesL, hc.shape, q.shape]; rfl
        · rw [arL, hc.ar, q.ar]; rfl
        · rw [growL, hc.grow, q.grow]; rfl
        · rw [occL, consB_app, hc.cons, ← hf1, q.cons]; rfl
      · refine h2.1.2 ⟨?_, ?_, ?_, ?_, ?_, ?_⟩
        · have := h.size; rw [sizesB] at this; omega
        · have := h.deep; rw [deepsB] at this; omega
        · have := h.shape; rw [shapesL, Bool.and_eq_true] at this; exact this.2
        · have := h.ar; rw [arL, Bool.and_eq_true] at this; exact this.2
        · have := h.grow; rw [growL, Bool.and_eq_true] at this; exact this.2
        · have := h.cons; rw [occL, consB_app, Bool.and_eq_true] at this; rw [hf1]; exact this.2
      · have q := h2.2 h
        refine ⟨?_, ?_, ?_⟩
        · rw [q.n, hn1, sizesB]; omega
        · rw [q.deep, hd1, deepsB]; omega
        · rw [q.free, hf1, occL, putsB_app]
end
end Go.Proofs.YtadnnijdbcdkjaaGreatDoor
/-
  Valid formulas: what the plain checker says of them; how many variables they bear. No program in sight.
-/
namespace Go.Proofs.YtadnnijdbcdkjaaGreatDoor
open Go.RowKit Go.ChangeShapes Go.Maps

theorem rule_le (k : Int) : (ruleB k).a1 ≤ 24 ∧ (ruleB k).v1 ≤ 24 := by
  unfold ruleB
  repeat' split
  all_goals exact ⟨by decide, by decide⟩
theorem namesB_le {l : List ByteArray} {lo hi : Int} {ap : Bool} (h : namesB l lo hi ap = true) : lo ≤ (l.length : Int) ∧ (l.length : Int) ≤ hi := by
  unfold namesB at h
  split at h
  · cases h
  · omega
theorem shaped_names {F : Form} (h : shapedB F = true) : namesB F.args (ruleB F.kind).a0 (ruleB F.kind).a1 false = true ∧ namesB F.vars (ruleB F.kind).v0 (ruleB F.kind).v1 true = true := by
  simp only [shapedB] at h
  split at h
  · cases h
  · split at h
    · cases h
    · simp only [Bool.and_eq_true] at h
      exact ⟨h.1.1, h.1.2⟩
theorem shaped_small {F : Form} (h : shapedB F = true) : F.vars.length ≤ 24 ∧ F.args.length ≤ 24 := by
  have h1 := shaped_names h
  have h2 := namesB_le h1.1
  have h3 := namesB_le h1.2
  have h4 := rule_le F.kind
  omega
mutual
theorem shapes_small : ∀ F : Form, shapesB F = true → (vtsB F : Int) ≤ 24 * sizeB F ∧ (atsB F : Int) ≤ 24 * sizeB F
  | .mk k a n vars args kids, h => by
    rw [shapesB, Bool.and_eq_true] at h
    have h1 := shaped_small h.1
    simp only [Form.vars, Form.args] at h1
    have h2 := shapes_small_l kids h.2
    rw [vtsB, atsB, sizeB]
    omega
theorem shapes_small_l : ∀ l : List Form, shapesL l = true → (vtsL l : Int) ≤ 24 * sizesB l ∧ (atsL l : Int) ≤ 24 * sizesB l
  | [], _ => by rw [vtsL, atsL, sizesB]; decide
  | f :: r, h => by
    rw [shapesL, Bool.and_eq_true] at h
    have h1 := shapes_small f h.1
    have h2 := shapes_small_l r h.2
    rw [vtsL, atsL, sizesB]
    omega
end
theorem ck0_env : ∀ nm, ck0.boundAt nm = aritiesOf [] nm := fun _ => rfl
/-- What a formula is that is valid. -/
theorem valid_iff (F : Form) : validB F = true ↔ Cond F 1 ck0 [] := by
  have h := (walk_sem F 1 ck0 [] rfl (by decide) isMap_empty ck0_env).1
  unfold validB checkedB
  rw [Bool.not_eq_true', h]
theorem valid_out {F : Form} (h : validB F = true) : Out F 1 ck0 [] (checkedB F) :=
  (walk_sem F 1 ck0 [] rfl (by decide) isMap_empty ck0_env).2 (by unfold validB checkedB at h; simpa using h)
theorem valid_small {F : Form} (h : validB F = true) : vtsB F ≤ 96000 ∧ atsB F ≤ 96000 := by
  have h1 := (valid_iff F).1 h
  have h2 := shapes_small F h1.shape
  have h3 := h1.size
  have h4 : ck0.n = 0 := rfl
  omega
end Go.Proofs.YtadnnijdbcdkjaaGreatDoor
/-
  The plain parser sees the tokens alone: texts with the same tokens read alike. No program in sight.
-/
namespace Go.Proofs.YtadnnijdbcdkjaaGreatDoor
open Go.RowKit

/-- The tokens of a text from a place on: where they begin, and their bytes. -/
def toksF (s : ByteArray) : Nat → Nat → List (Nat × ByteArray)
  | 0, _ => []
  | f + 1, i =>
    if i < s.size then
      if blank (byteAt s i) then toksF s f (i + 1)
      else if alB (byteAt s i) then (i, s.extract i (runTo s i)) :: toksF s f (runTo s i)
      else (i, s.extract i (i + 1)) :: toksF s f (i + 1)
    else []
def toks (s : ByteArray) (i : Nat) : List (Nat × ByteArray) := toksF s (s.size - i) i

theorem toksF_more {s : ByteArray} : ∀ (f g i : Nat), s.size - i ≤ f → s.size - i ≤ g → toksF s f i = toksF s g i
  | 0, 0, _, _, _ => rfl
  | 0, g + 1, i, h, _ => by rw [toksF, toksF, if_neg (by omega)]
  | f + 1, 0, i, _, h => by rw [toksF, toksF, if_neg (by omega)]
  | f + 1, g + 1, i, h1, h2 => by
    rw [toksF, toksF]
    by_cases hi : i < s.size
    · rw [if_pos hi, if_pos hi]
      split
      · exact toksF_more f g _ (by omega) (by omega)
      · split
        · rename_i ha
          have := runTo_lt hi ha
          rw [toksF_more f g _ (by omega) (by omega)]
        · rw [toksF_more f g _ (by omega) (by omega)]
    · rw [if_neg hi, if_neg hi]
theorem toks_end {s : ByteArray} {i : Nat} (h : ¬ i < s.size) : toks s i = [] := by
  unfold toks; rw [show s.size - i = 0 by omega]; rfl
theorem toks_blank {s : ByteArray} {i : Nat} (h : i < s.size) (hb : blank (byteAt s i) = true) : toks s i = toks s (i + 1) := by
  unfold toks
  rw [show s.size - i = (s.size - (i + 1)) + 1 by omega, toksF, if_pos h, if_pos hb]
theorem toks_run {s : ByteArray} {i : Nat} (h : i < s.size) (hb : blank (byteAt s i) = false) (ha : alB (byteAt s i) = true) : toks s i = (i, s.extract i (runTo s i)) :: toks s (runTo s i) := by
  have := runTo_lt h ha
  unfold toks
  rw [show s.size - i = (s.size - (i + 1)) + 1 by omega, toksF, if_pos h, if_neg (by rw [hb]; simp), if_pos ha, toksF_more _ _ _ (by omega) (Nat.le_refl _)]
theorem toks_one {s : ByteArray} {i : Nat} (h : i < s.size) (hb : blank (byteAt s i) = false) (ha : alB (byteAt s i) = false) : toks s i = (i, s.extract i (i + 1)) :: toks s (i + 1) := by
  unfold toks
  rw [show s.size - i = (s.size - (i + 1)) + 1 by omega, toksF, if_pos h, if_neg (by rw [hb]; simp), if_neg (by rw [ha]; simp)]

theorem toks_skip {s : ByteArray} : ∀ (n i : Nat), s.size - i ≤ n → toks s i = toks s (skipTo s i)
  | 0, i, h => by rw [skipTo_end (by omega)]
  | n + 1, i, h => by
    by_cases hi : i < s.size
    · cases hb : blank (byteAt s i) with
      | true => rw [toks_blank hi hb, skipTo_go hi hb]; exact toks_skip n (i + 1) (by omega)
      | false => rw [skipTo_stop hi hb]
    · rw [skipTo_end hi]
theorem skipTo_not {s : ByteArray} : ∀ (n i : Nat), s.size - i ≤ n → skipTo s i < s.size → blank (byteAt s (skipTo s i)) = false
  | 0, i, h, hl => by rw [skipTo_end (by omega)] at hl; omega
  | n + 1, i, h, hl => by
    by_cases hi : i < s.size
    · cases hb : blank (byteAt s i) with
      | true => rw [skipTo_go hi hb] at hl ⊢; exact skipTo_not n (i + 1) (by omega) hl
      | false => rw [skipTo_stop hi hb]; exact hb
    · rw [skipTo_end hi] at hl; omega

/-- What a token is to the reader. -/
def tokK : List ByteArray → Int × ByteArray
  | [] => (0, eb)
  | t :: _ => if alB (byteAt t 0) then (kindB t, t) else if sign (byteAt t 0) then (115, t) else (63, eb)

/-- A reader stands at the first of the tokens. -/
structure At (s : ByteArray) (r : RS) (L : List ByteArray) : Prop where
  kd : (r.kind, r.text) = tokK L
  tl : r.kind ≠ 0 → r.kind ≠ 63 → (toks s r.pos).map (·.2) = L.tail
  pl : r.pos ≤ s.size

theorem byteAt_extract {s : ByteArray} {a b : Nat} (h : a < b) (_hb : b ≤ s.size) : byteAt (s.extract a b) 0 = byteAt s a := by
  unfold byteAt
  rw [ByteArray.data_extract, Array.toList_extract, List.getD_eq_getElem?_getD, List.getD_eq_getElem?_getD]
  simp only [List.extract, List.getElem?_take, List.getElem?_drop]
  rw [if_pos (by omega), Nat.add_zero]

theorem at_step {s : ByteArray} {p : Nat} (h : p ≤ s.size) : At s (stepR s p) ((toks s p).map (·.2)) := by
  have h1 := (skipTo_le s p).2 h
  have hp := stepR_pos s p h
  rw [toks_skip _ p (Nat.le_refl _)]
  by_cases he : skipTo s p = s.size
  · have hr : stepR s p = ⟨skipTo s p, 0, ⟨#[]⟩, skipTo s p⟩ := by unfold stepR; simp only; rw [if_pos he]
    rw [hr]
    refine ⟨?_, fun h => absurd rfl h, h1⟩
    rw [toks_end (by omega)]
    rfl
  · have hlt : skipTo s p < s.size := by omega
    have hnb := skipTo_not _ p (Nat.le_refl _) hlt
    cases ha : alB (byteAt s (skipTo s p)) with
    | true =>
      have hr : stepR s p = ⟨runTo s (skipTo s p), kindB (s.extract (skipTo s p) (runTo s (skipTo s p))), s.extract (skipTo s p) (runTo s (skipTo s p)), skipTo s p⟩ := by
        unfold stepR; simp only; rw [if_neg he, if_pos ha]
      have h3 := runTo_lt hlt ha
      have h4 := (runTo_le s (skipTo s p)).2 h1
      rw [hr, toks_run hlt hnb ha]
      refine ⟨?_, fun _ _ => rfl, h4⟩
      simp only [List.map_cons, tokK]
      rw [byteAt_extract h3 h4, if_pos ha]
    | false =>
      cases hs : sign (byteAt s (skipTo s p)) with
      | true =>
        have hr : stepR s p = ⟨skipTo s p + 1, 115, s.extract (skipTo s p) (skipTo s p + 1), skipTo s p⟩ := by
          unfold stepR; simp only; rw [if_neg he, if_neg (by rw [ha]; simp), if_pos hs]
        rw [hr, toks_one hlt hnb ha]
        refine ⟨?_, fun _ _ => rfl, hlt⟩
        simp only [List.map_cons, tokK]
        rw [byteAt_extract (by omega) (by omega), if_neg (by rw [ha]; simp), if_pos hs]
      | false =>
        have hr : stepR s p = ⟨skipTo s p, 63, ⟨#[]⟩, skipTo s p⟩ := by
          unfold stepR; simp only; rw [if_neg he, if_neg (by rw [ha]; simp), if_neg (by rw [hs]; simp)]
        rw [hr, toks_one hlt hnb ha]
        refine ⟨?_, fun _ h => absurd rfl h, h1⟩
        simp only [List.map_cons, tokK]
        rw [byteAt_extract (by omega) (by omega), if_neg (by rw [ha]; simp), if_neg (by rw [hs]; simp)]
        rfl

/-- Two readers see the same tokens from here on. -/
def Sim (s s' : ByteArray) (r r' : RS) : Prop := ∃ L, At s r L ∧ At s' r' L
theorem Sim.kind {s s' : ByteArray} {r r' : RS} (h : Sim s s' r r') : r'.kind = r.kind ∧ r'.text = r.text := by
  obtain ⟨L, h1, h2⟩ := h
  have := h1.kd.trans h2.kd.symm
  simp only [Prod.mk.injEq] at this
  exact ⟨this.1.symm, this.2.symm⟩
theorem Sim.step {s s' : ByteArray} {r r' : RS} (h : Sim s s' r r') (hk : r.kind = 110 ∨ r.kind = 119 ∨ r.kind = 115 ∨ r.kind = 48) : Sim s s' (stepR s r.pos) (stepR s' r'.pos) := by
  have e := h.kind.1
  obtain ⟨L, h1, h2⟩ := h
  have a1 := at_step h1.pl
  have a2 := at_step h2.pl
  rw [h1.tl (by omega) (by omega)] at a1
  rw [h2.tl (by omega) (by omega)] at a2
  exact ⟨_, a1, a2⟩
theorem Sim.start {s s' : ByteArray} (h : (toks s 0).map (·.2) = (toks s' 0).map (·.2)) : Sim s s' (stepR s 0) (stepR s' 0) :=
  ⟨_, at_step (Nat.zero_le _), by rw [h]; exact at_step (Nat.zero_le _)⟩

/-- Two results are alike, or the rounds of one are used up. -/
inductive RSim {α : Type} (s s' : ByteArray) : Res α → Res α → Prop where
  | ok (a : α) {r r' : RS} (h : Sim s s' r r') : RSim s s' (.ok a r) (.ok a r')
  | err (i j : Nat) : RSim s s' (.err i) (.err j)
  | left (y : Res α) : RSim s s' .out y
  | right (x : Res α) : RSim s s' x .out
theorem RSim.bind {α β : Type} {s s' : ByteArray} {x y : Res α} {f g : α → RS → Res β} (h : RSim s s' x y) (hf : ∀ a r r', Sim s s' r r' → RSim s s' (f a r) (g a r')) : RSim s s' (x.bind f) (y.bind g) := by
  cases h with
  | ok a h => exact hf a _ _ h
  | err i j => exact .err i j
  | left y => exact .left _
  | right x => exact .right _

section
variable {s s' : ByteArray} {r r' : RS}
theorem sim_take (h : Sim s s' r r') {k : Int} (hk : k = 110 ∨ k = 119 ∨ k = 115 ∨ k = 48) : RSim s s' (takeP s k r) (takeP s' k r') := by
  unfold takeP
  have e := h.kind
  by_cases hc : r.kind = k
  · rw [if_pos hc, if_pos (by rw [e.1, hc]), e.2]
    exact .ok _ (h.step (by rw [hc]; exact hk))
  · rw [if_neg hc, if_neg (by rw [e.1]; exact hc)]
    exact .err _ _
theorem sim_is (h : Sim s s' r r') (t : ByteArray) : isB r' t = isB r t := by
  unfold isB; rw [h.kind.1, h.kind.2]
theorem sim_need (h : Sim s s' r r') (t : ByteArray) : RSim s s' (needP s t r) (needP s' t r') := by
  unfold needP
  rw [sim_is h]
  cases hc : isB r t with
  | true => exact .ok _ (h.step (is_kind hc))
  | false => exact .err _ _
theorem sim_list : ∀ (n : Nat) (r r' : RS), s.size - r.at_ < n → Okr s r → Okr s' r' → Sim s s' r r' → (listP s r).1 = (listP s' r').1 ∧ Sim s s' (listP s r).2 (listP s' r').2
  | 0, _, _, h, _, _, _ => absurd h (Nat.not_lt_zero _)
  | n + 1, r, r', h, ho, ho', hS => by
    have e := hS.kind
    by_cases hk : r.kind = 110
    · have h1 := stepR_ok ho.pos
      have h1' := stepR_ok ho'.pos
      have h2 := ho.lt (.inl hk)
      have h3 := ho.pos
      have ih := sim_list n _ _ (by omega) h1.1 h1'.1 (hS.step (.inl hk))
      rw [listP_go ho hk, listP_go ho' (by rw [e.1]; exact hk), e.2, ih.1]
      exact ⟨rfl, ih.2⟩
    · rw [listP_stop hk, listP_stop (by rw [e.1]; exact hk)]
      exact ⟨rfl, hS⟩
end

/-- Alike, and both readers stand well. -/
def Sim2 (s s' : ByteArray) (r r' : RS) : Prop := Sim s s' r r' ∧ Okr s r ∧ Okr s' r'
inductive RSim2 {α : Type} (s s' : ByteArray) : Res α → Res α → Prop where
  | ok (a : α) {r r' : RS} (h : Sim2 s s' r r') : RSim2 s s' (.ok a r) (.ok a r')
  | err (i j : Nat) : RSim2 s s' (.err i) (.err j)
  | left (y : Res α) : RSim2 s s' .out y
  | right (x : Res α) : RSim2 s s' x .out
theorem RSim2.bind {α β : Type} {s s' : ByteArray} {x y : Res α} {f g : α → RS → Res β} (h : RSim2 s s' x y) (hf : ∀ a r r', Sim2 s s' r r' → RSim2 s s' (f a r) (g a r')) : RSim2 s s' (x.bind f) (y.bind g) := by
  cases h with
  | ok a h => exact hf a _ _ h
  | err i j => exact .err i j
  | left y => exact .left _
  | right x => exact .right _
section
variable {s s' : ByteArray} {r r' : RS}
theorem Sim2.step (h : Sim2 s s' r r') (hk : r.kind = 110 ∨ r.kind = 119 ∨ r.kind = 115 ∨ r.kind = 48) : Sim2 s s' (stepR s r.pos) (stepR s' r'.pos) :=
  ⟨h.1.step hk, (stepR_ok h.2.1.pos).1, (stepR_ok h.2.2.pos).1⟩
theorem sim2_take (h : Sim2 s s' r r') {k : Int} (hk : k = 110 ∨ k = 119 ∨ k = 115 ∨ k = 48) : RSim2 s s' (takeP s k r) (takeP s' k r') := by
  unfold takeP
  have e := h.1.kind
  by_cases hc : r.kind = k
  · rw [if_pos hc, if_pos (by rw [e.1, hc]), e.2]
    exact .ok _ (h.step (by rw [hc]; exact hk))
  · rw [if_neg hc, if_neg (by rw [e.1]; exact hc)]
    exact .err _ _
theorem sim2_need (h : Sim2 s s' r r') (t : ByteArray) : RSim2 s s' (needP s t r) (needP s' t r') := by
  unfold needP
  rw [sim_is h.1]
  cases hc : isB r t with
  | true => exact .ok _ (h.step (is_kind hc))
  | false => exact .err _ _
theorem sim2_list (h : Sim2 s s' r r') : (listP s' r').1 = (listP s r).1 ∧ Sim2 s s' (listP s r).2 (listP s' r').2 := by
  have h1 := sim_list _ r r' (Nat.lt_succ_self _) h.2.1 h.2.2 h.1
  exact ⟨h1.1.symm, h1.2, listP_okr h.2.1, listP_okr h.2.2⟩
theorem sim2_args (h : Sim2 s s' r r') : RSim2 s s' (argsP s r) (argsP s' r') := by
  unfold argsP
  refine (sim2_need h _).bind fun _ r1 r1' h1 => ?_
  have h2 := sim2_list h1
  refine (sim2_need h2.2 _).bind fun _ r2 r2' h3 => ?_
  rw [h2.1]
  exact .ok _ h3
theorem sim2_atom (h : Sim2 s s' r r') : RSim2 s s' (atomP s r) (atomP s' r') := by
  unfold atomP
  refine (sim2_take h (.inl rfl)).bind fun x r1 r1' h1 => ?_
  rw [sim_is h1.1, sim_is h1.1, sim_is h1.1]
  split
  · exact (sim2_args h1).bind fun l r2 r2' h2 => .ok _ h2
  split
  · rename_i hk
    exact (sim2_take (h1.step (is_kind hk)) (.inl rfl)).bind fun y r2 r2' h2 => .ok _ h2
  split
  · rename_i hk
    exact (sim2_take (h1.step (is_kind hk)) (.inl rfl)).bind fun y r2 r2' h2 => .ok _ h2
  · exact .err _ _
end

theorem RSim2.ite {α : Type} {s s' : ByteArray} {c : Prop} [Decidable c] {x x' y y' : Res α} (h1 : c → RSim2 s s' x x') (h2 : ¬ c → RSim2 s s' y y') : RSim2 s s' (if c then x else y) (if c then x' else y') := by
  by_cases h : c
  · rw [if_pos h, if_pos h]; exact h1 h
  · rw [if_neg h, if_neg h]; exact h2 h

theorem sim_all (s s' : ByteArray) : ∀ n, (∀ n' r r', Sim2 s s' r r' → RSim2 s s' (formulaP s n r) (formulaP s' n' r')) ∧ (∀ n' r r', Sim2 s s' r r' → RSim2 s s' (innerP s n r) (innerP s' n' r')) ∧
    (∀ n' r r', Sim2 s s' r r' → RSim2 s s' (kidsP s n r) (kidsP s' n' r')) ∧ (∀ n' acc r r', Sim2 s s' r r' → RSim2 s s' (moreP s n acc r) (moreP s' n' acc r'))
  | 0 => ⟨fun _ _ _ _ => (by unfold formulaP; exact .left _), fun _ _ _ _ => (by unfold innerP; exact .left _), fun _ _ _ _ => (by unfold kidsP; exact .left _), fun _ _ _ _ _ => (by unfold moreP; exact .left _)⟩
  | n + 1 => by
    obtain ⟨iF, iI, iK, iM⟩ := sim_all s s' n
    refine ⟨fun n' r r' h => ?_, fun n' r r' h => ?_, fun n' r r' h => ?_, fun n' acc r r' h => ?_⟩
    · cases n' with
      | zero => rw [show formulaP s' 0 r' = .out from by unfold formulaP; rfl]; exact .right _
      | succ n' =>
        rw [formulaP, formulaP, h.1.kind.1]
        refine .ite (fun _ => sim2_atom h) fun _ => (sim2_take h (.inr (.inl rfl))).bind fun w r1 r1' h1 => ?_
        refine .ite (fun _ => .ok _ h1) fun _ => ?_
        refine .ite (fun _ => .ok _ h1) fun _ => ?_
        refine .ite (fun _ => (sim2_need h1 _).bind fun _ r2 r2' h2 => (iK n' _ _ h2).bind fun l r3 r3' h3 => .ok _ h3) fun _ => ?_
        refine .ite (fun _ => (sim2_need h1 _).bind fun _ r2 r2' h2 => (iF n' _ _ h2).bind fun F r3 r3' h3 => (sim2_need h3 _).bind fun _ r4 r4' h4 => .ok _ h4) fun _ => ?_
        refine .ite (fun _ => (sim2_need h1 _).bind fun _ r2 r2' h2 => ?_) fun _ => ?_
        · have h3 := sim2_list h2
          rw [h3.1]
          exact (iI n' _ _ h3.2).bind fun l r4 r4' h4 => .ok _ h4
        refine .ite (fun _ => (sim2_need h1 _).bind fun _ r2 r2' h2 => ?_) fun _ => ?_
        · have h3 := sim2_list h2
          rw [h3.1]
          exact (iI n' _ _ h3.2).bind fun l r4 r4' h4 => (sim2_args h4).bind fun al r5 r5' h5 => .ok _ h5
        refine .ite (fun _ => (sim2_need h1 _).bind fun _ r2 r2' h2 => (sim2_take h2 (.inl rfl)).bind fun nm r3 r3' h3 => (sim2_take h3 (.inr (.inr (.inr rfl)))).bind fun t r4 r4' h4 => (iI n' _ _ h4).bind fun l r5 r5' h5 => .ok _ h5) fun _ => ?_
        refine (sim2_need h1 _).bind fun _ r2 r2' h2 => (sim2_take h2 (.inl rfl)).bind fun nm r3 r3' h3 => ?_
        have h4 := sim2_list h3
        rw [h4.1]
        exact (iI n' _ _ h4.2).bind fun l r5 r5' h5 => (sim2_args h5).bind fun al r6 r6' h6 => .ok _ h6
    · cases n' with
      | zero => rw [show innerP s' 0 r' = .out from by unfold innerP; rfl]; exact .right _
      | succ n' =>
        rw [innerP, innerP]
        exact (sim2_need h _).bind fun _ r2 r2' h2 => (iF n' _ _ h2).bind fun F r3 r3' h3 => (sim2_need h3 _).bind fun _ r4 r4' h4 => .ok _ h4
    · cases n' with
      | zero => rw [show kidsP s' 0 r' = .out from by unfold kidsP; rfl]; exact .right _
      | succ n' =>
        rw [kidsP, kidsP, sim_is h.1]
        exact .ite (fun hk => .ok _ (h.step (is_kind hk))) fun _ => (iF n' _ _ h).bind fun F r3 r3' h3 => iM n' _ _ _ h3
    · cases n' with
      | zero => rw [show moreP s' 0 acc r' = .out from by unfold moreP; rfl]; exact .right _
      | succ n' =>
        rw [moreP, moreP, sim_is h.1]
        exact .ite (fun hk => (iF n' _ _ (h.step (is_kind hk))).bind fun F r3 r3' h3 => iM n' _ _ _ h3) fun _ => (sim2_need h _).bind fun _ r4 r4' h4 => .ok _ h4

/-- Texts with the same tokens read alike. -/
theorem read_same {s s' : ByteArray} (h : (toks s 0).map (·.2) = (toks s' 0).map (·.2)) : (∃ F, readP s = .inl F ∧ readP s' = .inl F) ∨ ∃ i j, readP s = .inr i ∧ readP s' = .inr j := by
  have hs := stepR_ok (Nat.zero_le s.size)
  have hs' := stepR_ok (Nat.zero_le s'.size)
  have h1 := (sim_all s s' (2 * s.size + 3)).1 (2 * s'.size + 3) _ _ ⟨Sim.start h, hs.1, hs'.1⟩
  have n1 := (ne_out_all s (2 * s.size + 3)).1 _ hs.1 (by omega)
  have n2 := (ne_out_all s' (2 * s'.size + 3)).1 _ hs'.1 (by omega)
  unfold readP
  generalize formulaP s (2 * s.size + 3) (stepR s 0) = x at *
  generalize formulaP s' (2 * s'.size + 3) (stepR s' 0) = y at *
  cases h1 with
  | left y => exact absurd rfl n1
  | right x => exact absurd rfl n2
  | err i j => exact .inr ⟨i, j, rfl, rfl⟩
  | ok F hr =>
    rename_i r r'
    have e := hr.1.kind.1
    by_cases hk : r.kind = 0
    · exact .inl ⟨F, if_pos hk, if_pos (by rw [e]; exact hk)⟩
    · exact .inr ⟨_, _, if_neg hk, if_neg (by rw [e]; exact hk)⟩
end Go.Proofs.YtadnnijdbcdkjaaGreatDoor
/-
  The tokens of a text that is put together of tokens and blanks. No program in sight.
-/
namespace Go.Proofs.YtadnnijdbcdkjaaGreatDoor
open Go.RowKit

def blB (c : UInt8) : Bool := blank (c.toNat : Int)
def alC (c : UInt8) : Bool := alB (c.toNat : Int)
/-- Bytes that read as these tokens. -/
inductive Reads : List UInt8 → List (List UInt8) → Prop where
  | nil : Reads [] []
  | blank (c : UInt8) {r : List UInt8} {ts : List (List UInt8)} (hc : blB c = true) (h : Reads r ts) : Reads (c :: r) ts
  | one (c : UInt8) {r : List UInt8} {ts : List (List UInt8)} (hb : blB c = false) (ha : alC c = false) (h : Reads r ts) : Reads (c :: r) ([c] :: ts)
  | run (t : List UInt8) {r : List UInt8} {ts : List (List UInt8)} (hn : t ≠ []) (ha : t.all alC = true) (hr : ∀ c x, r = c :: x → alC c = false) (h : Reads r ts) : Reads (t ++ r) (t :: ts)

theorem byteAt_drop {s : ByteArray} {i : Nat} {c : UInt8} {x : List UInt8} (h : s.data.toList.drop i = c :: x) : i < s.size ∧ byteAt s i = (c.toNat : Int) ∧ s.data.toList.drop (i + 1) = x := by
  have hl : i < s.data.toList.length := by
    rcases Nat.lt_or_ge i s.data.toList.length with h1 | h1
    · exact h1
    · rw [List.drop_eq_nil_of_le h1] at h; cases h
  rw [List.drop_eq_getElem_cons hl] at h
  injection h with h1 h2
  refine ⟨by simpa using hl, ?_, h2⟩
  unfold byteAt
  rw [List.getD_eq_getElem?_getD, List.getElem?_eq_getElem hl]
  simp only [Option.getD_some]
  rw [h1]
theorem al_not_blank {c : UInt8} (h : alC c = true) : blB c = false := by
  unfold alC alB letB digB at h
  unfold blB blank
  simp only [Bool.or_eq_true, Bool.and_eq_true, decide_eq_true_eq] at h
  simp only [Bool.or_eq_false_iff, beq_eq_false_iff_ne]
  omega
theorem runTo_all {s : ByteArray} : ∀ (t : List UInt8) (r : List UInt8) (i : Nat), s.data.toList.drop i = t ++ r → t.all alC = true → (∀ c x, r = c :: x → alC c = false) → runTo s i = i + t.length
  | [], r, i, h, _, hr => by
    cases r with
    | nil =>
      have : ¬ i < s.size := by
        intro hl
        have hl' : i < s.data.toList.length := by simpa using hl
        rw [List.drop_eq_getElem_cons hl'] at h
        cases h
      rw [runTo_end this]; rfl
    | cons c x =>
      have := byteAt_drop h
      rw [runTo_stop this.1 (by rw [this.2.1]; exact hr c x rfl)]; rfl
  | c :: t, r, i, h, ha, hr => by
    have hd := byteAt_drop (c := c) (x := t ++ r) h
    simp only [List.all_cons, Bool.and_eq_true] at ha
    rw [runTo_go hd.1 (by rw [hd.2.1]; exact ha.1), runTo_all t r (i + 1) hd.2.2 ha.2 hr]
    simp only [List.length_cons]; omega

theorem extract_list {s : ByteArray} {i n : Nat} : (s.extract i (i + n)).data.toList = (s.data.toList.drop i).take n := by
  rw [ByteArray.data_extract, Array.toList_extract]
  simp only [List.extract]
  congr 1
  omega

theorem reads_toks {s : ByteArray} {l : List UInt8} {ts : List (List UInt8)} (h : Reads l ts) : ∀ i, s.data.toList.drop i = l → (toks s i).map (·.2.data.toList) = ts := by
  induction h with
  | nil =>
    intro i hi
    have : ¬ i < s.size := by
      intro hl
      have hl' : i < s.data.toList.length := by simpa using hl
      rw [List.drop_eq_getElem_cons hl'] at hi
      cases hi
    rw [toks_end this]; rfl
  | blank c hc h ih =>
    intro i hi
    have hd := byteAt_drop hi
    rw [toks_blank hd.1 (by rw [hd.2.1]; exact hc)]
    exact ih _ hd.2.2
  | one c hb ha h ih =>
    intro i hi
    have hd := byteAt_drop hi
    rw [toks_one hd.1 (by rw [hd.2.1]; exact hb) (by rw [hd.2.1]; exact ha), List.map_cons, ih _ hd.2.2, extract_list, hi]
    rfl
  | run t hn ha hr h ih =>
    intro i hi
    cases t with
    | nil => exact absurd rfl hn
    | cons c x =>
      have hd := byteAt_drop (c := c) hi
      have ha' := ha
      simp only [List.all_cons, Bool.and_eq_true] at ha'
      have hrun := runTo_all (c :: x) _ i hi ha hr
      rw [toks_run hd.1 (by rw [hd.2.1]; exact al_not_blank ha'.1) (by rw [hd.2.1]; exact ha'.1), List.map_cons, hrun, ih]
      · rw [extract_list, hi, List.take_left']
        rfl
      · rw [← List.drop_drop, hi, List.drop_left']
        rfl

/-- A token: a run of letters and digits, or another sign that is no blank. -/
def TokOK (t : ByteArray) : Prop := (t.data.toList ≠ [] ∧ t.data.toList.all alC = true) ∨ ∃ c, t.data.toList = [c] ∧ alC c = false ∧ blB c = false
theorem drop_cons_of {s : ByteArray} {i : Nat} (h : i < s.size) : ∃ c x, s.data.toList.drop i = c :: x := by
  have hl' : i < s.data.toList.length := by simpa using h
  exact ⟨_, _, List.drop_eq_getElem_cons hl'⟩
theorem run_all {s : ByteArray} : ∀ (n i : Nat), s.size - i ≤ n → ((s.data.toList.drop i).take (runTo s i - i)).all alC = true
  | 0, i, h => by rw [runTo_end (by omega), Nat.sub_self]; simp
  | n + 1, i, h => by
    by_cases hi : i < s.size
    · obtain ⟨c, x, hx⟩ := drop_cons_of hi
      have hd := byteAt_drop hx
      cases ha : alB (byteAt s i) with
      | false => rw [runTo_stop hi ha, Nat.sub_self]; simp
      | true =>
        rw [runTo_go hi ha]
        have hle := (runTo_le s (i + 1)).1
        have ih := run_all (s := s) n (i + 1) (by omega)
        rw [hd.2.2] at ih
        rw [hx, show runTo s (i + 1) - i = (runTo s (i + 1) - (i + 1)) + 1 by omega, List.take_succ_cons, List.all_cons, ih, Bool.and_true]
        unfold alC
        rw [← hd.2.1]; exact ha
    · rw [runTo_end hi, Nat.sub_self]; simp
theorem toks_ok {s : ByteArray} : ∀ (n i : Nat), s.size - i ≤ n → ∀ x ∈ toks s i, TokOK x.2 ∧ x.1 < s.size
  | 0, i, h => by rw [toks_end (by omega)]; intro x hx; cases hx
  | n + 1, i, h => by
    by_cases hi : i < s.size
    · obtain ⟨c, y, hy⟩ := drop_cons_of hi
      have hd := byteAt_drop hy
      cases hb : blank (byteAt s i) with
      | true => rw [toks_blank hi hb]; exact toks_ok n (i + 1) (by omega)
      | false =>
        cases ha : alB (byteAt s i) with
        | true =>
          have hlt := runTo_lt hi ha
          have hle := (runTo_le s i).2 (by omega)
          rw [toks_run hi hb ha]
          intro x hx
          simp only [List.mem_cons] at hx
          rcases hx with rfl | hx
          · refine ⟨.inl ?_, hi⟩
            have e : (s.extract i (runTo s i)).data.toList = (s.data.toList.drop i).take (runTo s i - i) := by
              conv => lhs; rw [show runTo s i = i + (runTo s i - i) by omega]
              exact extract_list
            simp only
            rw [e]
            refine ⟨?_, run_all _ i (Nat.le_refl _)⟩
            rw [hy, show runTo s i - i = (runTo s i - i - 1) + 1 by omega, List.take_succ_cons]
            exact List.cons_ne_nil _ _
          · exact toks_ok n _ (by omega) x hx
        | false =>
          rw [toks_one hi hb ha]
          intro x hx
          simp only [List.mem_cons] at hx
          rcases hx with rfl | hx
          · refine ⟨.inr ⟨c, ?_, ?_, ?_⟩, hi⟩
            · rw [extract_list, hy]; rfl
            · unfold alC; rw [← hd.2.1]; exact ha
            · unfold blB; rw [← hd.2.1]; exact hb
          · exact toks_ok n _ (by omega) x hx
    · rw [toks_end hi]; intro x hx; cases hx
theorem toks_len {s : ByteArray} : ∀ (n i : Nat), s.size - i ≤ n → (toks s i).length + ((toks s i).map (·.2.size)).sum ≤ 2 * (s.size - i)
  | 0, i, h => by rw [toks_end (by omega)]; simp
  | n + 1, i, h => by
    by_cases hi : i < s.size
    · cases hb : blank (byteAt s i) with
      | true => rw [toks_blank hi hb]; have := toks_len (s := s) n (i + 1) (by omega); omega
      | false =>
        cases ha : alB (byteAt s i) with
        | true =>
          have hlt := runTo_lt hi ha
          have hle := (runTo_le s i).2 (by omega)
          rw [toks_run hi hb ha]
          have := toks_len (s := s) n (runTo s i) (by omega)
          simp only [List.length_cons, List.map_cons, List.sum_cons, ByteArray.size_extract]
          omega
        | false =>
          rw [toks_one hi hb ha]
          have := toks_len (s := s) n (i + 1) (by omega)
          simp only [List.length_cons, List.map_cons, List.sum_cons, ByteArray.size_extract]
          omega
    · rw [toks_end hi]; simp

/-- The blanks ahead of token i of n, drawn from a list of numbers. -/
def sepB (by_ : List UInt8) (n i : Nat) : List UInt8 :=
  (if 0 < (by_.getD (i % by_.length) 0).toNat % 4 ∨ (0 < i ∧ i < n) then [if (by_.getD (i % by_.length) 0).toNat / 4 % 2 = 0 then 32 else 10] else []) ++
  (if 2 < (by_.getD (i % by_.length) 0).toNat % 4 then [32] else [])
/-- The text from token i on. -/
def outF (by_ : List UInt8) (n : Nat) : Nat → List ByteArray → List UInt8
  | i, [] => sepB by_ n i
  | i, t :: r => sepB by_ n i ++ (t.data.toList ++ outF by_ n (i + 1) r)

theorem sep_blank (by_ : List UInt8) (n i : Nat) : ∀ c ∈ sepB by_ n i, blB c = true := by
  intro c hc
  unfold sepB at hc
  rw [List.mem_append] at hc
  rcases hc with hc | hc
  · split at hc
    · simp only [List.mem_singleton] at hc
      subst hc
      split <;> rfl
    · cases hc
  · split at hc
    · simp only [List.mem_singleton] at hc
      subst hc; rfl
    · cases hc
theorem reads_blanks {l r : List UInt8} {ts : List (List UInt8)} (hl : ∀ c ∈ l, blB c = true) (h : Reads r ts) : Reads (l ++ r) ts := by
  induction l with
  | nil => exact h
  | cons c x ih => exact .blank c (hl c (by simp)) (ih fun d hd => hl d (by simp [hd]))
theorem bl_not_al {c : UInt8} (h : blB c = true) : alC c = false := by
  cases ha : alC c with
  | false => rfl
  | true => rw [al_not_blank ha] at h; cases h
theorem outF_head (by_ : List UInt8) (n : Nat) : ∀ (i : Nat) (ts : List ByteArray), 0 < i → i + ts.length = n → ∀ c x, outF by_ n i ts = c :: x → alC c = false
  | i, [], h0, hn, c, x, h => by
    have : c ∈ sepB by_ n i := by
      rw [outF] at h; rw [h]; simp
    exact bl_not_al (sep_blank _ _ _ c this)
  | i, t :: r, h0, hn, c, x, h => by
    have hne : sepB by_ n i ≠ [] := by
      unfold sepB
      rw [if_pos (.inr ⟨h0, by simp only [List.length_cons] at hn; omega⟩)]
      simp
    rw [outF] at h
    cases hs : sepB by_ n i with
    | nil => exact absurd hs hne
    | cons d y =>
      rw [hs] at h
      injection h with h1 h2
      subst h1
      exact bl_not_al (sep_blank by_ n i d (by rw [hs]; simp))
theorem outF_reads (by_ : List UInt8) (n : Nat) : ∀ (i : Nat) (ts : List ByteArray), i + ts.length = n → (∀ t ∈ ts, TokOK t) → Reads (outF by_ n i ts) (ts.map (·.data.toList))
  | i, [], _, _ => by
    rw [outF]
    have := reads_blanks (sep_blank by_ n i) Reads.nil
    rwa [List.append_nil] at this
  | i, t :: r, hn, hok => by
    have hn' : i + 1 + r.length = n := by simp only [List.length_cons] at hn; omega
    have ih := outF_reads by_ n (i + 1) r hn' fun x hx => hok x (by simp [hx])
    rw [outF, List.map_cons]
    refine reads_blanks (sep_blank by_ n i) ?_
    rcases hok t (by simp) with ⟨h1, h2⟩ | ⟨c, h1, h2, h3⟩
    · exact .run _ h1 h2 (fun c x hx => outF_head by_ n (i + 1) r (by omega) hn' c x hx) ih
    · rw [h1]
      exact .one c h3 h2 ih
theorem opt_len {c : Prop} [Decidable c] (x : UInt8) : (if c then [x] else []).length ≤ 1 := by split <;> simp
theorem sep_len (by_ : List UInt8) (n i : Nat) : (sepB by_ n i).length ≤ 2 := by
  unfold sepB
  rw [List.length_append]
  exact Nat.add_le_add (opt_len _) (opt_len _)
theorem outF_len (by_ : List UInt8) (n : Nat) : ∀ (i : Nat) (ts : List ByteArray), (outF by_ n i ts).length ≤ 2 * (ts.length + 1) + (ts.map (·.size)).sum
  | i, [] => by rw [outF]; have := sep_len by_ n i; simpa using this
  | i, t :: r => by
    rw [outF]
    have := sep_len by_ n i
    have := outF_len by_ n (i + 1) r
    have e : t.data.toList.length = t.size := by simp
    simp only [List.length_append, List.length_cons, List.map_cons, List.sum_cons, e]
    omega

/-- A text's tokens with other blanks read alike. -/
theorem blanks_same (s : ByteArray) (by_ : List UInt8) : (toks s 0).map (·.2) = (toks (bs (outF by_ (toks s 0).length 0 ((toks s 0).map (·.2)))) 0).map (·.2) := by
  have hr := outF_reads by_ (toks s 0).length 0 ((toks s 0).map (·.2)) (by simp) (by
    intro t ht
    obtain ⟨x, hx, rfl⟩ := List.mem_map.1 ht
    exact (toks_ok _ 0 (Nat.le_refl _) x hx).1)
  have h := reads_toks (s := bs (outF by_ (toks s 0).length 0 ((toks s 0).map (·.2)))) hr 0 (by simp [bs])
  have inj : ∀ (a b : List ByteArray), a.map (·.data.toList) = b.map (·.data.toList) → a = b := by
    intro a
    induction a with
    | nil => intro b hb; cases b with
      | nil => rfl
      | cons y z => cases hb
    | cons x z ih =>
      intro b hb
      cases b with
      | nil => cases hb
      | cons y t =>
        simp only [List.map_cons, List.cons.injEq] at hb
        rw [bytes_ext hb.1, ih t hb.2]
  apply inj
  rw [← h, List.map_map]
  rfl
end Go.Proofs.YtadnnijdbcdkjaaGreatDoor
