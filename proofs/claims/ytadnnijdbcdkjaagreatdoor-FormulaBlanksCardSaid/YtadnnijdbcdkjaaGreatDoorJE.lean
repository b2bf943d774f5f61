/-
  Joined texts of one proof: W5, W6, Rep. Conditions: none.
-/
import Derived.Test.YtadnnijdbcdkjaaGreatDoorJW4
import Derived.Laws.AppendOwn
import Derived.OwnWalk
/-
  Contracts of the reader's methods take, need, list, args. Conditions: the reader's block lies as Rd says; the text has at most 40000 bytes; the two error variables of strconv hold errors.
-/
namespace Go.Proofs.YtadnnijdbcdkjaaGreatDoor
open Go.RowKit

/-- What a method of the reader is handed. -/
structure Pre (w : World) (rb : Nat) (s : ByteArray) (r : RS) : Prop where
  rd : Rd w rb s r
  g : Glob w
  rb : 1 < rb
  hs : s.size ≤ 40000
  ok : Okr s r

theorem Pre.to {w w' : World} {rb : Nat} {s : ByteArray} {r r' : RS} (h : Pre w rb s r) (t : To w w' rb s r') (ho : Okr s r') : Pre w' rb s r' :=
  ⟨t.rd, h.g.keep t.keep h.rb, h.rb, h.hs, ho⟩
theorem Pre.next {w w' : World} {rb : Nat} {s : ByteArray} {r : RS} (h : Pre w rb s r) (t : To w w' rb s (stepR s r.pos)) : Pre w' rb s (stepR s r.pos) :=
  h.to t (stepR_ok h.ok.pos).1
theorem Pre.below {w w' : World} {rb : Nat} {s : ByteArray} {r : RS} (h : Pre w rb s r) (hb : Below w.heap.size w w') : Pre w' rb s r :=
  ⟨h.rd.below hb, h.g.below hb, h.rb, h.hs, h.ok⟩
theorem To.trans {a b c : World} {rb : Nat} {s : ByteArray} {r r' : RS} (h : To a b rb s r) (k : To b c rb s r') : To a c rb s r' := ⟨k.rd, h.keep.trans k.keep⟩
theorem To.after {a b c : World} {rb : Nat} {s : ByteArray} {r : RS} (h : Below a.heap.size a b) (k : To b c rb s r) : To a c rb s r := ⟨k.rd, (Keep.of_below h).trans k.keep⟩

/-- How a method of the reader ends. -/
def PostR {α : Type} (res : Res α) (w : World) (rb : Nat) (s : ByteArray) (R : α → Value → World → Prop) (e : Ending) (w' : World) : Prop :=
  match res with
  | .ok a r' => ∃ v, e = .returned v ∧ R a v w' ∧ To w w' rb s r' ∧ Okr s r'
  | .err i => e = .panicked [stopAt i] ∧ Keep rb w w'
  | .out => False

theorem step_pre {w : World} {rb : Nat} {s : ByteArray} {r : RS} (h : Pre w rb s r) :
    Calls Tryz.prog 46 #[.pointer (some ⟨rb, 0, none⟩)] w fun e w' => e = .returned (.tuple #[]) ∧ Hid (To w w' rb s (stepR s r.pos)) :=
  step_any h.rd h.g h.rb (by have := h.hs; omega) h.ok.pos

def IsStr (t : ByteArray) (v : Value) (_ : World) : Prop := v = .string t
def IsUnit (_ : Unit) (v : Value) (_ : World) : Prop := v = .tuple #[]

set_option maxHeartbeats 400000 in
theorem take_any {w : World} {rb : Nat} {s : ByteArray} {r : RS} (h : Pre w rb s r) (k : Int) :
    Calls Tryz.prog 80 #[.pointer (some ⟨rb, 0, none⟩), .int .u8 k] w (PostR (takeP s k r) w rb s IsStr) := by
  have c2 := h.rd.c2
  have c3 := h.rd.c3
  have HP := Lib.hid h
  clear h
  by_cases hk : r.kind = k
  · have HQ := Lib.hid (show takeP s k r = .ok r.text (stepR s r.pos) from by unfold takeP; rw [if_pos hk])
    have hk' : (r.kind != k) = false := by simp [hk]
    have HO := Lib.hid (stepR_ok HP.out.ok.pos).1
    clear hk
    go_enter Tryz.func80, Tryz.ntmps80
    go_wp2_with (go_at_call 46; refine (step_pre HP.out).mono ?_; rintro e w' ⟨rfl, ht⟩)
    go_ret
    rw [HQ.out]
    exact ⟨_, rfl, rfl, ht.out, HO.out⟩
  · have HQ := Lib.hid (show takeP s k r = .err r.at_ from by unfold takeP; rw [if_neg hk])
    have hk' : (r.kind != k) = true := by simp [hk]
    clear hk
    go_enter Tryz.func80, Tryz.ntmps80
    go_wp2_with (go_at_call 48; refine (fail_any HP.out.rd).mono ?_; rintro e w' ⟨rfl, rfl⟩)
    exact ⟨rfl, by rw [HQ.out]; exact ⟨rfl, Keep.refl _ _⟩⟩

/-- Where need's loop stands. -/
def NeedAt (w : World) (rb : Nat) (s : ByteArray) (r : RS) (k : Nat) (i : Value) (wr : World) : Prop :=
  (k = 1 ∧ i = .int .i64 0 ∧ wr = w) ∨ (k = 0 ∧ i = .int .i64 1 ∧ To w wr rb s (stepR s r.pos))

set_option maxHeartbeats 400000 in
theorem need_any {w : World} {rb : Nat} {s : ByteArray} {r : RS} (h : Pre w rb s r) (t : ByteArray) (lb : Nat) (hl : w.cell? ⟨lb, 0, none⟩ = some (.string t)) :
    Calls Tryz.prog 81 #[.pointer (some ⟨rb, 0, none⟩), .slice (some ⟨lb, 0, none⟩) 1 1] w (PostR (needP s t r) w rb s IsUnit) := by
  have HP := Lib.hid h
  clear h
  cases hk : isB r t with
  | true =>
    have HQ := Lib.hid (show needP s t r = .ok () (stepR s r.pos) from by unfold needP; rw [if_pos hk])
    have HO := Lib.hid (stepR_ok HP.out.ok.pos).1
    have HI := Lib.hid hk
    clear hk
    go_enter Tryz.func81, Tryz.ntmps81
    go_wp2
    go_loopg [8] 1 (fun k i wr => NeedAt w rb s r k i wr)
    case atStart => exact .inl ⟨rfl, rfl, rfl⟩
    case round =>
      rcases hrel with ⟨rfl, rfl, rfl⟩ | ⟨rfl, rfl, ht⟩
      · go_wp2_with (first | (go_at_call 104; refine (is_any HP.out.rd t).mono ?_; rintro e w' ⟨rfl, rfl⟩; rw [HI.out]) | (go_at_call 46; refine (step_pre HP.out).mono ?_; rintro e w' ⟨rfl, ht⟩))
        go_roundg 0
        case measure => omega
        case rel => exact .inr ⟨rfl, rfl, ht.out⟩
      · have HT := Lib.hid ht
        clear ht
        go_wp2
        (first | go_end0 | refine bodyPost_ret (results_none rfl _ _ _) rfl ?_)
        rw [HQ.out]
        exact ⟨_, rfl, rfl, HT.out, HO.out⟩
  | false =>
    have HQ := Lib.hid (show needP s t r = .err r.at_ from by unfold needP; rw [hk]; rfl)
    have HI := Lib.hid hk
    clear hk
    go_enter Tryz.func81, Tryz.ntmps81
    go_wp2
    go_loopg [8] 1 (fun k i wr => i = .int .i64 0 ∧ wr = w)
    case atStart => exact ⟨rfl, rfl⟩
    case round =>
      obtain ⟨rfl, rfl⟩ := hrel
      go_wp2_with (first | (go_at_call 104; refine (is_any HP.out.rd t).mono ?_; rintro e w' ⟨rfl, rfl⟩; rw [HI.out]) | (go_at_call 48; refine (fail_any HP.out.rd).mono ?_; rintro e w' ⟨rfl, rfl⟩))
      exact ⟨rfl, by rw [HQ.out]; exact ⟨rfl, Keep.refl _ _⟩⟩

theorem take_ok {w : World} {rb : Nat} {s : ByteArray} {r : RS} (h : Pre w rb s r) (k : Int) (hk : r.kind = k) :
    Calls Tryz.prog 80 #[.pointer (some ⟨rb, 0, none⟩), .int .u8 k] w fun e w' => e = .returned (.string r.text) ∧ Hid (To w w' rb s (stepR s r.pos)) :=
  (take_any h k).mono fun e w' hp => by
    unfold takeP at hp
    rw [if_pos hk] at hp
    obtain ⟨v, he, hv, ht, _⟩ := hp
    unfold IsStr at hv
    subst hv
    exact ⟨he, ht⟩

theorem Keep.grownBy {x : Nat} {w w' : World} (h : Keep x w w') : w.grownBy w' (some x) :=
  ⟨h.os, h.tape, h.output, h.size, fun k hk hne => h.block k hk (fun e => hne (by rw [e]))⟩
theorem ownsRow_keep {x base : Nat} {e : TypeId} {size : Nat} {v : Value} {n : Nat} {xs : List Value} {w w' : World} (h : w.ownsRow base e size v n xs) (hk : Keep x w w') (hx : x < base) : w'.ownsRow base e size v n xs := by
  refine h.kept hk.grownBy ?_
  rcases hv : v.ownBlock with _ | k
  · exact .inl rfl
  · right
    have := (h.lt k hv).1
    intro e
    have : k = x := by injection e
    omega
theorem ownsRow_base {base base' : Nat} {e : TypeId} {size : Nat} {v : Value} {n : Nat} {xs : List Value} {w : World} (h : w.ownsRow base e size v n xs) (hb : base' ≤ base) : w.ownsRow base' e size v n xs := by
  obtain ⟨h1, h2⟩ := h
  refine ⟨h1, ?_⟩
  rcases h2 with h2 | ⟨g, cap, cur, hv, hg, r⟩
  · exact .inl h2
  · exact .inr ⟨g, cap, cur, hv, by omega, r⟩
theorem Keep.grown {x : Nat} {a w w' : World} {row : Option Nat} (h : Keep x a w) (hg : w.grownBy w' row) (hr : ∀ k, row = some k → a.heap.size ≤ k) : Keep x a w' :=
  ⟨hg.os.trans h.os, hg.tape.trans h.tape, hg.output.trans h.output, Nat.le_trans h.size hg.size, fun i hi hx => (hg.block i (Nat.lt_of_lt_of_le hi h.size) (fun e => by have := hr i e.symm; omega)).trans (h.block i hi hx)⟩
theorem Rd.grown {rb : Nat} {s : ByteArray} {r : RS} {w w' : World} {row : Option Nat} (h : Rd w rb s r) (hg : w.grownBy w' row) (hr : ∀ k, row = some k → rb < k) : Rd w' rb s r :=
  (hg.block rb h.lt (fun e => by have := hr rb e.symm; omega)).trans h

/-- A slice of strings in memory of the call's own. -/
def OwnStrs (base : Nat) (l : List ByteArray) (v : Value) (w : World) : Prop := w.ownsRow base 9 1 v l.length (l.map Value.string)

theorem Tryz.infoString : (Tryz.prog.info? 9).map (fun i => (i.zero, i.size, i.bytes)) = some (some (.string ⟨#[]⟩), 1, 16) := by kernel_rfl

/-- Where list's loop stands. -/
def ListAt (w : World) (rb : Nat) (s : ByteArray) (r : RS) (k : Nat) (v : Value) (wr : World) : Prop :=
  ∃ rr l, Okr s rr ∧ s.size - rr.at_ < k ∧ To w wr rb s rr ∧ OwnStrs w.heap.size l v wr ∧ l ++ (listP s rr).1 = (listP s r).1 ∧ (listP s rr).2 = (listP s r).2 ∧ l.length + (s.size - rr.at_) ≤ s.size

set_option maxHeartbeats 800000 in
set_option maxRecDepth 100000 in
theorem list_any {w : World} {rb : Nat} {s : ByteArray} {r : RS} (h : Pre w rb s r) :
    Calls Tryz.prog 83 #[.pointer (some ⟨rb, 0, none⟩)] w fun e w' => ∃ v, e = .returned v ∧ OwnStrs w.heap.size (listP s r).1 v w' ∧ To w w' rb s (listP s r).2 := by
  obtain ⟨i0, hi, hz0, hz1, hz2⟩ := info_parts Tryz.infoString
  have HP := Lib.hid h
  have hlt := h.rd.lt
  clear h
  go_enter Tryz.func83, Tryz.ntmps83
  go_wp2
  go_loopg [3] (s.size + 1) (fun k v wr => ListAt w rb s r k v wr)
  case atStart => exact ⟨r, [], HP.out.ok, by omega, ⟨HP.out.rd, Keep.refl _ _⟩, World.ownsRow_nil _ _ _ _, rfl, rfl, by simp⟩
  case round =>
    obtain ⟨rr, l, hok, hm, ht, hown, h1, h2, h3⟩ := hrel
    have hp : Pre wr rb s rr := HP.out.to ht hok
    have c2 := ht.rd.c2
    by_cases hk : rr.kind = 110
    · have hk' : (rr.kind == 110) = true := by simp [hk]
      have HK := Lib.hid hk
      have HH := Lib.hid (And.intro hok (And.intro hm (And.intro ht (And.intro hown (And.intro h1 (And.intro h2 (And.intro h3 hp)))))))
      clear hok hm ht hown h1 h2 h3 hp hk
      go_wp2_with (first | (go_at_call 80; refine (take_ok HH.out.2.2.2.2.2.2.2 110 HK.out).mono ?_; rintro e w1 ⟨rfl, ht1⟩) | (at_builtin; refine wpList_append_own _ rfl _ _ 28 rfl w.heap.size 9 i0 (.string ⟨#[]⟩) 1 16 Tryz.underlying28 hi hz0 hz1 hz2 rfl (by decide) _ _ _ rfl ((ownsRow_keep HH.out.2.2.2.1 ht1.out.keep hlt).alloc _) ⟨w1.heap.size, 0, none⟩ 1 1 [.string rr.text] rfl rfl ?c1 ?c2 ?c3 ?c4 ?c5 ?_))
      case c1 => exact cell_one_new w1 _ _
      case c2 => intro u hu; simp at hu; subst hu; rfl
      case c3 =>
        obtain ⟨hok, hm, ht, hown, h1, h2, h3, hp⟩ := HH.out
        have := HP.out.hs
        unfold maxLen; omega
      case c4 =>
        obtain ⟨hok, hm, ht, hown, h1, h2, h3, hp⟩ := HH.out
        have := HP.out.hs
        omega
      case c5 => 
        obtain ⟨hok, hm, ht, hown, h1, h2, h3, hp⟩ := HH.out
        have := ht.keep.size
        have := ht1.out.keep.size
        simp; omega
      intro v' w2 hown2 hg2 _
      have HO2 := Lib.hid hown2
      have HG2 := Lib.hid hg2
      clear hown2 hg2
      go_wp2
      go_roundg (gk - 1)
      case measure => have := HH.out.2.1; omega
      case rel =>
        obtain ⟨hok, hm, ht, hown, h1, h2, h3, hp⟩ := HH.out
        have hs := stepR_ok hok.pos
        have hl1 := hok.lt (.inl HK.out)
        have hl2 := hok.pos
        have hgo := listP_go hok HK.out
        have hsz1 := ht.keep.size
        have hsz2 := ht1.out.keep.size
        have hrow := fun k hk => (hown.lt k hk).1
        refine ⟨stepR s rr.pos, l ++ [rr.text], hs.1, by omega, ⟨(ht1.out.rd.below ((Below.refl _ _).alloc (Nat.le_refl _) _)).grown HG2.out (fun k hk => by have := hrow k hk; omega), ?_⟩, ?_, ?_, ?_, ?_⟩
        · exact ((ht.keep.trans ht1.out.keep).alloc _).grown HG2.out hrow
        · unfold OwnStrs
          have := HO2.out
          simpa using this
        · rw [← h1, hgo]; simp
        · rw [← h2, hgo]
        · have := hs.2
          simp only [List.length_append, List.length_cons, List.length_nil]; omega
    · have hk' : (rr.kind == 110) = false := by simp [hk]
      have HK := Lib.hid hk
      have HH := Lib.hid (And.intro hok (And.intro hm (And.intro ht (And.intro hown (And.intro h1 (And.intro h2 (And.intro h3 hp)))))))
      clear hok hm ht hown h1 h2 h3 hp hk
      go_wp2
      go_ret
      obtain ⟨hok, hm, ht, hown, h1, h2, h3, hp⟩ := HH.out
      rw [listP_stop HK.out] at h1 h2
      simp only [List.append_nil] at h1
      exact ⟨_, rfl, by rw [← h1]; exact hown, by rw [← h2]; exact ht⟩
end Go.Proofs.YtadnnijdbcdkjaaGreatDoor
/-
  Contracts of the reader's methods args, atom. Conditions: as in the text before.
-/
namespace Go.Proofs.YtadnnijdbcdkjaaGreatDoor
open Go.RowKit

theorem need_ok {w : World} {rb : Nat} {s : ByteArray} {r : RS} (h : Pre w rb s r) (t : ByteArray) (lb : Nat) (hl : w.cell? ⟨lb, 0, none⟩ = some (.string t)) (hk : isB r t = true) :
    Calls Tryz.prog 81 #[.pointer (some ⟨rb, 0, none⟩), .slice (some ⟨lb, 0, none⟩) 1 1] w fun e w' => e = .returned (.tuple #[]) ∧ Hid (To w w' rb s (stepR s r.pos)) :=
  (need_any h t lb hl).mono fun e w' hp => by
    unfold needP at hp
    rw [if_pos hk] at hp
    obtain ⟨v, he, hv, ht, _⟩ := hp
    unfold IsUnit at hv
    subst hv
    exact ⟨he, ht⟩
theorem need_no {w : World} {rb : Nat} {s : ByteArray} {r : RS} (h : Pre w rb s r) (t : ByteArray) (lb : Nat) (hl : w.cell? ⟨lb, 0, none⟩ = some (.string t)) (hk : isB r t = false) :
    Calls Tryz.prog 81 #[.pointer (some ⟨rb, 0, none⟩), .slice (some ⟨lb, 0, none⟩) 1 1] w fun e w' => e = .panicked [stopAt r.at_] ∧ Hid (Keep rb w w') :=
  (need_any h t lb hl).mono fun e w' hp => by
    unfold needP at hp
    rw [if_neg (by rw [hk]; simp)] at hp
    exact hp
theorem take_no {w : World} {rb : Nat} {s : ByteArray} {r : RS} (h : Pre w rb s r) (k : Int) (hk : ¬ r.kind = k) :
    Calls Tryz.prog 80 #[.pointer (some ⟨rb, 0, none⟩), .int .u8 k] w fun e w' => e = .panicked [stopAt r.at_] ∧ Hid (Keep rb w w') :=
  (take_any h k).mono fun e w' hp => by
    unfold takeP at hp
    rw [if_neg hk] at hp
    exact hp
theorem list_pre {w : World} {rb : Nat} {s : ByteArray} {r : RS} (h : Pre w rb s r) :
    Calls Tryz.prog 83 #[.pointer (some ⟨rb, 0, none⟩)] w fun e w' => ∃ v, e = .returned v ∧ Hid (OwnStrs w.heap.size (listP s r).1 v w') ∧ Hid (To w w' rb s (listP s r).2) := list_any h

theorem Pre.alloc {w : World} {rb : Nat} {s : ByteArray} {r : RS} (h : Pre w rb s r) (o : Obj) : Pre (w.alloc o) rb s r := h.below ((Below.refl _ _).alloc (Nat.le_refl _) _)
theorem To.new {a b : World} {rb : Nat} {s : ByteArray} {r : RS} {o : Obj} (k : To (a.alloc o) b rb s r) : To a b rb s r := To.after ((Below.refl _ _).alloc (Nat.le_refl _) _) k
theorem Keep.new {a b : World} {rb : Nat} {o : Obj} (k : Keep rb (a.alloc o) b) : Keep rb a b := (Keep.of_below ((Below.refl _ _).alloc (Nat.le_refl _) _)).trans k

set_option maxHeartbeats 800000 in
theorem args_any {w : World} {rb : Nat} {s : ByteArray} {r : RS} (h : Pre w rb s r) :
    Calls Tryz.prog 85 #[.pointer (some ⟨rb, 0, none⟩)] w (PostR (argsP s r) w rb s (OwnStrs w.heap.size)) := by
  have HP := Lib.hid h
  have hlt := h.rd.lt
  clear h
  cases hk1 : isB r ⟨#[40]⟩ with
  | false =>
    have HQ := Lib.hid (show argsP s r = .err r.at_ from by unfold argsP needP; rw [if_neg (by rw [hk1]; simp)]; rfl)
    have HK := Lib.hid hk1
    clear hk1
    go_enter Tryz.func85, Tryz.ntmps85
    go_wp2_with (go_at_call 81; refine (need_no (HP.out.alloc _) ⟨#[40]⟩ _ (cell_one_new _ _ _ 0 _ rfl) HK.out).mono ?_; rintro e w1 ⟨rfl, hkp⟩)
    exact ⟨rfl, by rw [HQ.out]; exact ⟨rfl, hkp.out.new⟩⟩
  | true =>
    have ho1 := (stepR_ok HP.out.ok.pos).1
    have ho2 := listP_okr ho1
    have HO := Lib.hid (And.intro ho1 ho2)
    clear ho1 ho2
    cases hk2 : isB (listP s (stepR s r.pos)).2 ⟨#[41]⟩ with
    | false =>
      have HQ := Lib.hid (show argsP s r = .err (listP s (stepR s r.pos)).2.at_ from by unfold argsP needP; rw [if_pos hk1]; simp only [Res.bind_ok]; rw [if_neg (by rw [hk2]; simp)]; rfl)
      have HK1 := Lib.hid hk1
      have HK2 := Lib.hid hk2
      clear hk1 hk2
      go_enter Tryz.func85, Tryz.ntmps85
      go_wp2_with fail
      refine (need_ok (HP.out.alloc _) ⟨#[40]⟩ _ (cell_one_new _ _ _ 0 _ rfl) HK1.out).mono ?_; rintro e w1 ⟨rfl, ht1⟩
      have HP1 := Lib.hid ((HP.out.alloc _).to ht1.out HO.out.1)
      go_wp2_with fail
      refine (list_pre HP1.out).mono ?_; rintro e w2 ⟨v2, rfl, hown, ht2⟩
      have HP2 := Lib.hid (HP1.out.to ht2.out HO.out.2)
      go_wp2_with fail
      refine (need_no (HP2.out.alloc _) ⟨#[41]⟩ _ (cell_one_new _ _ _ 0 _ rfl) HK2.out).mono ?_; rintro e w3 ⟨rfl, hkp⟩
      go_wp2
      exact ⟨rfl, by rw [HQ.out]; exact ⟨rfl, (ht1.out.new.keep.trans ht2.out.keep).trans hkp.out.new⟩⟩
    | true =>
      have HQ := Lib.hid (show argsP s r = .ok (listP s (stepR s r.pos)).1 (stepR s (listP s (stepR s r.pos)).2.pos) from by unfold argsP needP; rw [if_pos hk1]; simp only [Res.bind_ok]; rw [if_pos hk2]; rfl)
      have HK1 := Lib.hid hk1
      have HK2 := Lib.hid hk2
      clear hk1 hk2
      go_enter Tryz.func85, Tryz.ntmps85
      go_wp2_with fail
      refine (need_ok (HP.out.alloc _) ⟨#[40]⟩ _ (cell_one_new _ _ _ 0 _ rfl) HK1.out).mono ?_; rintro e w1 ⟨rfl, ht1⟩
      have HP1 := Lib.hid ((HP.out.alloc _).to ht1.out HO.out.1)
      go_wp2_with fail
      refine (list_pre HP1.out).mono ?_; rintro e w2 ⟨v2, rfl, hown, ht2⟩
      have HP2 := Lib.hid (HP1.out.to ht2.out HO.out.2)
      go_wp2_with fail
      refine (need_ok (HP2.out.alloc _) ⟨#[41]⟩ _ (cell_one_new _ _ _ 0 _ rfl) HK2.out).mono ?_; rintro e w3 ⟨rfl, ht3⟩
      go_wp2
      go_ret
      rw [HQ.out]
      refine ⟨v2, rfl, ?_, (ht1.out.new.trans ht2.out).trans ht3.out.new, (stepR_ok HO.out.2.pos).1⟩
      have hz1 := ht1.out.new.keep.size
      exact ownsRow_base (ownsRow_keep (hown.out) ht3.out.new.keep (by omega)) hz1
end Go.Proofs.YtadnnijdbcdkjaaGreatDoor
/-
  How lists of strings and formulas read in memory. Conditions: none.
-/
namespace Go.Proofs.YtadnnijdbcdkjaaGreatDoor
open Go.RowKit

/-- A value reads as a list of strings; its block has the property Q; all cells up to its capacity are there. -/
def RStrs (w : World) (Q : Nat → Prop) (v : Value) (l : List ByteArray) : Prop :=
  ∃ a c, v = .slice a l.length c ∧ l.length ≤ c ∧ c ≤ maxLen ∧ ((a = none ∧ c = 0) ∨ ∃ b o, a = some ⟨b, o, none⟩ ∧ Q b ∧ b < w.heap.size ∧
    (∀ i, i < l.length → w.cell? ⟨b, o + i, none⟩ = some (.string (l.getD i eb))) ∧ ∀ i, i < c → ∃ u, w.cell? ⟨b, o + i, none⟩ = some u)

/-- A value reads as a formula; its blocks have the property Q. -/
inductive RForm (w : World) (Q : Nat → Prop) : Value → Form → Prop where
  | mk (k a : Int) (name : ByteArray) (vv va : Value) (vars args : List ByteArray) (ka : Option Addr) (kc b o : Nat) (C : Nat → Nat → Value) (kids : List Form)
    (hv : RStrs w Q vv vars) (ha : RStrs w Q va args) (hl : kids.length ≤ kc) (hm : kc ≤ maxLen)
    (hk : (ka = none ∧ kc = 0) ∨ (ka = some ⟨b, o, none⟩ ∧ Q b ∧ b < w.heap.size))
    (hex : ∀ i, i < 6 * kc → ∃ u, w.cell? ⟨b, o + i, none⟩ = some u)
    (hc : ∀ i j, i < kids.length → j < 6 → w.cell? ⟨b, o + (6 * i + j), none⟩ = some (C i j))
    (hr : ∀ i, i < kids.length → RForm w Q (.agg #[C i 0, C i 1, C i 2, C i 3, C i 4, C i 5]) (kids.getD i default)) :
    RForm w Q (.agg #[.int .i64 k, .int .i64 a, .string name, vv, va, .slice ka kids.length kc]) (.mk k a name vars args kids)

theorem RStrs.stay {w w' : World} {Q Q' : Nat → Prop} {v : Value} {l : List ByteArray} (h : RStrs w Q v l) (hs : w.heap.size ≤ w'.heap.size)
    (hb : ∀ b, Q b → b < w.heap.size → w'.heap[b]? = w.heap[b]?) (hq : ∀ b, Q b → b < w.heap.size → Q' b) : RStrs w' Q' v l := by
  obtain ⟨a, c, hv, h1, h2, h3⟩ := h
  refine ⟨a, c, hv, h1, h2, ?_⟩
  rcases h3 with h3 | ⟨b, o, ha, hQ, hlt, hc, hx⟩
  · exact .inl h3
  · have e : ∀ o, w'.cell? ⟨b, o, none⟩ = w.cell? ⟨b, o, none⟩ := fun o => World.cell?_of_block (w := w) (hb b hQ hlt)
    exact .inr ⟨b, o, ha, hq b hQ hlt, by omega, fun i hi => (e _).trans (hc i hi), fun i hi => by rw [e]; exact hx i hi⟩
theorem RForm.stay {w w' : World} {Q Q' : Nat → Prop} {v : Value} {F : Form} (h : RForm w Q v F) (hs : w.heap.size ≤ w'.heap.size)
    (hb : ∀ b, Q b → b < w.heap.size → w'.heap[b]? = w.heap[b]?) (hq : ∀ b, Q b → b < w.heap.size → Q' b) : RForm w' Q' v F := by
  induction h with
  | mk k a name vv va vars args ka kc b o C kids hv ha hl hm hk hex hc hr ih =>
    rcases hk with ⟨h1, h2⟩ | ⟨h1, hQ, hlt⟩
    · refine .mk k a name vv va vars args ka kc b o C kids (hv.stay hs hb hq) (ha.stay hs hb hq) hl hm (.inl ⟨h1, h2⟩) (fun i hi => by omega) (fun i j hi => by omega) (fun i hi => by omega)
    · have e : ∀ o, w'.cell? ⟨b, o, none⟩ = w.cell? ⟨b, o, none⟩ := fun o => World.cell?_of_block (w := w) (hb b hQ hlt)
      exact .mk k a name vv va vars args ka kc b o C kids (hv.stay hs hb hq) (ha.stay hs hb hq) hl hm (.inr ⟨h1, hq b hQ hlt, by omega⟩)
        (fun i hi => by rw [e]; exact hex i hi) (fun i j hi hj => (e _).trans (hc i j hi hj)) ih

/-- New memory of a call that began at base. -/
def New (base : Nat) (b : Nat) : Prop := base ≤ b
def NewForm (base : Nat) (F : Form) (v : Value) (w : World) : Prop := RForm w (New base) v F

theorem RStrs.of_own {w : World} {base : Nat} {l : List ByteArray} {v : Value} {Q : Nat → Prop} (h : OwnStrs base l v w) (hq : ∀ b, base ≤ b → v.ownBlock = some b → Q b) : RStrs w Q v l := by
  obtain ⟨h1, h2⟩ := h
  rcases h2 with ⟨hv, hn⟩ | ⟨g, cap, cur, hv, hg, hb, hn, hm, hsz, htk⟩
  · exact ⟨none, 0, by rw [hv, hn], by omega, Nat.zero_le _, .inl ⟨rfl, rfl⟩⟩
  · refine ⟨some ⟨g, 0, none⟩, cap, hv, hn, hm, .inr ⟨g, 0, rfl, hq g hg (by rw [hv]; rfl), block_lt hb, ?_, ?_⟩⟩
    · intro i hi
      rw [Nat.zero_add, cell_of_block hb]
      have h3 : (cur.toList.take (l.length * 1))[i]? = (l.map Value.string)[i]? := by rw [htk]
      rw [List.getElem?_take_of_lt (by omega), List.getElem?_map, List.getElem?_eq_getElem hi] at h3
      rw [← Array.getElem?_toList, h3, List.getD_eq_getElem?_getD, List.getElem?_eq_getElem hi]
      rfl
    · intro i hi
      rw [Nat.zero_add, cell_of_block hb]
      exact ⟨cur[i]'(by omega), Array.getElem?_eq_getElem (by omega)⟩

theorem own_shape {base : Nat} {l : List ByteArray} {v : Value} {w : World} (h : OwnStrs base l v w) : ∃ a n c, v = .slice a n c := by
  obtain ⟨_, h2⟩ := h
  rcases h2 with ⟨hv, _⟩ | ⟨g, cap, cur, hv, _⟩
  · exact ⟨_, _, _, hv⟩
  · exact ⟨_, _, _, hv⟩
theorem two_strs (W : World) (n : Nat) (hn : W.heap.size = n) (x y : ByteArray) : OwnStrs n [x, y] (.slice (some ⟨n, 0, none⟩) 2 2) (W.alloc (.cells #[.string x, .string y] 9)) := by
  subst hn
  exact World.ownsRow_lit W _ 2 (Nat.le_refl _) (by unfold maxLen; omega) rfl
theorem To.alloc {a b : World} {rb : Nat} {s : ByteArray} {r : RS} (h : To a b rb s r) (o : Obj) : To a (b.alloc o) rb s r :=
  ⟨h.rd.below ((Below.refl _ _).alloc (Nat.le_refl _) _), h.keep.alloc o⟩
theorem RStrs.nil (w : World) (Q : Nat → Prop) : RStrs w Q (.slice none 0 0) [] := ⟨none, 0, rfl, Nat.le_refl _, Nat.zero_le _, .inl ⟨rfl, rfl⟩⟩

/-- A formula without kids. -/
theorem RForm.leaf {w : World} {Q : Nat → Prop} (k a : Int) (name : ByteArray) {vv va : Value} {vars args : List ByteArray} (hv : RStrs w Q vv vars) (ha : RStrs w Q va args) :
    RForm w Q (.agg #[.int .i64 k, .int .i64 a, .string name, vv, va, .slice none 0 0]) (.mk k a name vars args []) :=
  .mk k a name vv va vars args none 0 0 0 (fun _ _ => undef) [] hv ha (Nat.le_refl _) (Nat.zero_le _) (.inl ⟨rfl, rfl⟩) (fun i hi => by omega) (fun i j hi => by simp at hi) (fun i hi => by simp at hi)

/-- The six cells of a formula's block. -/
theorem six {w : World} {b : Nat} {c0 c1 c2 c3 c4 c5 : Value} {t : TypeId} (h : w.heap[b]? = some (.cells #[c0, c1, c2, c3, c4, c5] t (0, 0))) :
    w.cell? ⟨b, 0, none⟩ = some c0 ∧ w.cell? ⟨b, 1, none⟩ = some c1 ∧ w.cell? ⟨b, 2, none⟩ = some c2 ∧ w.cell? ⟨b, 3, none⟩ = some c3 ∧ w.cell? ⟨b, 4, none⟩ = some c4 ∧ w.cell? ⟨b, 5, none⟩ = some c5 ∧ ∀ i, w.frozen? ⟨b, i, none⟩ = false :=
  ⟨cell_of_block h 0, cell_of_block h 1, cell_of_block h 2, cell_of_block h 3, cell_of_block h 4, cell_of_block h 5, free_of_block h⟩
theorem set6 {w : World} {b : Nat} {a0 a1 a2 a3 a4 a5 c0 c1 c2 c3 c4 c5 : Value} {t : TypeId} (h : w.heap[b]? = some (.cells #[a0, a1, a2, a3, a4, a5] t (0, 0))) :
    ((((((w.setCell ⟨b, 0, none⟩ c0).setCell ⟨b, 1, none⟩ c1).setCell ⟨b, 2, none⟩ c2).setCell ⟨b, 3, none⟩ c3).setCell ⟨b, 4, none⟩ c4).setCell ⟨b, 5, none⟩ c5).heap[b]? = some (.cells #[c0, c1, c2, c3, c4, c5] t (0, 0)) :=
  block_setCell (block_setCell (block_setCell (block_setCell (block_setCell (block_setCell h 0 c0) 1 c1) 2 c2) 3 c3) 4 c4) 5 c5
theorem set6_other {w : World} {b : Nat} {c0 c1 c2 c3 c4 c5 : Value} {k : Nat} (hk : k ≠ b) :
    ((((((w.setCell ⟨b, 0, none⟩ c0).setCell ⟨b, 1, none⟩ c1).setCell ⟨b, 2, none⟩ c2).setCell ⟨b, 3, none⟩ c3).setCell ⟨b, 4, none⟩ c4).setCell ⟨b, 5, none⟩ c5).heap[k]? = w.heap[k]? := by
  rw [Below.heap_setCell _ _ _ _ hk, Below.heap_setCell _ _ _ _ hk, Below.heap_setCell _ _ _ _ hk, Below.heap_setCell _ _ _ _ hk, Below.heap_setCell _ _ _ _ hk, Below.heap_setCell _ _ _ _ hk]
theorem To.set {a b : World} {rb : Nat} {s : ByteArray} {r : RS} (h : To a b rb s r) {x : Nat} (hx : a.heap.size ≤ x) (hrb : rb < a.heap.size) (o : Nat) (v : Value) : To a (b.setCell ⟨x, o, none⟩ v) rb s r :=
  ⟨(Below.heap_setCell _ _ _ _ (by show rb ≠ x; omega)).trans h.rd, h.keep.setNew hx v⟩
theorem To.set6 {a b : World} {rb : Nat} {s : ByteArray} {r : RS} (h : To a b rb s r) {x : Nat} (hx : a.heap.size ≤ x) (hrb : rb < a.heap.size) (c0 c1 c2 c3 c4 c5 : Value) :
    To a ((((((b.setCell ⟨x, 0, none⟩ c0).setCell ⟨x, 1, none⟩ c1).setCell ⟨x, 2, none⟩ c2).setCell ⟨x, 3, none⟩ c3).setCell ⟨x, 4, none⟩ c4).setCell ⟨x, 5, none⟩ c5) rb s r :=
  (((((h.set hx hrb 0 c0).set hx hrb 1 c1).set hx hrb 2 c2).set hx hrb 3 c3).set hx hrb 4 c4).set hx hrb 5 c5
theorem Keep.block_of {x : Nat} {a b : World} (h : Keep x a b) {k : Nat} {o : Obj} (hk : a.heap[k]? = some o) (hx : k ≠ x) : b.heap[k]? = some o := (h.block k (block_lt hk) hx).trans hk
theorem block_alloc_new (w : World) (o : Obj) : (w.alloc o).heap[w.heap.size]? = some o := by
  show (w.heap.push o)[w.heap.size]? = _
  simp
theorem block_alloc_old {w : World} {k : Nat} {o : Obj} (h : w.heap[k]? = some o) (o' : Obj) : (w.alloc o').heap[k]? = some o := (Below.heap_alloc _ _ _ (block_lt h)).trans h

theorem load_form {w : World} {b : Nat} {c0 c1 c2 c3 c4 c5 : Value} {t : TypeId} (h : w.heap[b]? = some (.cells #[c0, c1, c2, c3, c4, c5] t (0, 0))) :
    (loadVar 31 ⟨b, 0, none⟩).run Tryz.prog w = .ok (.agg #[c0, c1, c2, c3, c4, c5]) w := by
  obtain ⟨h0, h1, h2, h3, h4, h5, _⟩ := six h
  simp [go_sem, h0, h1, h2, h3, h4, h5]
end Go.Proofs.YtadnnijdbcdkjaaGreatDoor
