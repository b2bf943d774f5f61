/-
  Joined texts of one proof: Reg, RegM, App. Conditions: none.
-/
import Derived.Deep.QuietTactic
import Derived.StillTail
import Derived.Lib.QuietBelow
import Derived.ArgAppend
import Derived.Laws.OwnMore
/-
  A region that draws its order: all but its last operations are quiet in a class of worlds, the last ones wait for all before them. One walk in the text's order serves every order. No program in sight.
-/
namespace Go.Proofs.YtadnnijdbcdkjaaGreatDoor
open Go.RowKit

/-- Two states agree on the temporaries of a list. -/
def Agree (ts : List Tmp) (a b : Act) : Prop := a.tmps.size = b.tmps.size ∧ ∀ t, t ∈ ts → a.tmps[t]? = b.tmps[t]?

theorem put_get (a : Act) (d : Option Tmp) (v : Value) (t : Tmp) : (a.put d v).tmps[t]? = if d = some t then (if t < a.tmps.size then some v else none) else a.tmps[t]? := by
  cases d with
  | none => simp [Act.put]
  | some d =>
    simp only [Act.put, Option.some.injEq]
    rw [Array.getElem?_setIfInBounds]
    split
    · rename_i h; subst h; rfl
    · rfl
theorem put_size (a : Act) (d : Option Tmp) (v : Value) : (a.put d v).tmps.size = a.tmps.size := by cases d <;> simp [Act.put]

theorem Agree.put {ts : List Tmp} {a b : Act} (h : Agree ts a b) (d : Option Tmp) (v : Value) : Agree ts (a.put d v) (b.put d v) :=
  ⟨by rw [put_size, put_size, h.1], fun t ht => by rw [put_get, put_get, h.1, h.2 t ht]⟩
theorem Agree.left {ts : List Tmp} {a b : Act} (h : Agree ts a b) {d : Option Tmp} (hd : ∀ t, d = some t → t ∉ ts) (v : Value) : Agree ts (a.put d v) b :=
  ⟨by rw [put_size, h.1], fun t ht => by rw [put_get, if_neg (fun e => hd t e ht), h.2 t ht]⟩
theorem Agree.right {ts : List Tmp} {a b : Act} (h : Agree ts a b) {d : Option Tmp} (hd : ∀ t, d = some t → t ∉ ts) (v : Value) : Agree ts a (b.put d v) :=
  ⟨by rw [put_size, h.1], fun t ht => by rw [put_get, if_neg (fun e => hd t e ht), h.2 t ht]⟩

theorem agree_exec {ops : Array Oper} {o : Oper} (hs : ∀ cs b, o.op ≠ .select cs b) {a b : Act} (h : Agree (o.looksAt ops) a b) : execOp a.eval o = execOp b.eval o := by
  refine execOp_congr o hs fun x hx => ?_
  cases x with
  | tmp t =>
    have : t ∈ o.looksAt ops := List.mem_append_left _ (List.mem_filterMap.2 ⟨.tmp t, by simpa using hx, rfl⟩)
    have := h.2 t this
    simp only [Act.eval, Array.getD_eq_getD_getElem?, this]
  | const v => rfl
  | global g => rfl
  | func f => rfl
theorem agree_wanted {ops : Array Oper} {o : Oper} {a b : Act} (h : Agree (o.looksAt ops) a b) : Region.wanted o (yielded ops a.tmps) = Region.wanted o (yielded ops b.tmps) := by
  unfold Region.wanted
  cases hg : o.guard with
  | none => rfl
  | some gw =>
    obtain ⟨g, want⟩ := gw
    have hy : yielded ops a.tmps g = yielded ops b.tmps g := by
      unfold yielded
      cases ht : (ops[g]?).bind (·.dst) with
      | none => rfl
      | some t =>
        have : t ∈ o.looksAt ops := List.mem_append_right _ (by simp [hg, ht])
        simp only [Option.bind_some]
        rw [h.2 t this]
    simp only [hy]

/-- The values of those operations that have come up, laid into the temporaries. -/
def fill (S : Nat → Bool) : List (Oper × Value) → Nat → Act → Act
  | [], _, a => a
  | (o, v) :: l, i, a => fill S l (i + 1) (if S i then a.put o.dst v else a)

theorem fill_agree {ts : List Tmp} {S T : Nat → Bool} : ∀ (l : List (Oper × Value)) (i : Nat) (a b : Act), Agree ts a b →
    (∀ k x d, l[k]? = some x → x.1.dst = some d → d ∈ ts → S (i + k) = T (i + k)) → Agree ts (fill S l i a) (fill T l i b)
  | [], _, _, _, h, _ => h
  | (o, v) :: l, i, a, b, h, hst => by
    unfold fill
    refine fill_agree l (i + 1) _ _ ?_ fun k x d hk hx hd => by have := hst (k + 1) x d (by simpa using hk) hx hd; rwa [show i + (k + 1) = i + 1 + k by omega] at this
    have h0 : ∀ d, o.dst = some d → d ∈ ts → S i = T i := fun d h1 h2 => by have := hst 0 (o, v) d (by simp) h1 h2; simpa using this
    by_cases hd : ∃ d, o.dst = some d ∧ d ∈ ts
    · obtain ⟨d, hd1, hd2⟩ := hd
      rw [h0 d hd1 hd2]
      cases T i
      · exact h
      · exact h.put _ _
    · have hn : ∀ t, o.dst = some t → t ∉ ts := fun t e hm => hd ⟨t, e, hm⟩
      cases S i <;> cases T i
      · exact h
      · exact h.right hn _
      · exact h.left hn _
      · exact h.put _ _

theorem fill_congr {S T : Nat → Bool} : ∀ (l : List (Oper × Value)) (i : Nat) (a : Act), (∀ k, k < l.length → S (i + k) = T (i + k)) → fill S l i a = fill T l i a
  | [], _, _, _ => rfl
  | (o, v) :: l, i, a, h => by
    unfold fill
    have h0 := h 0 (by simp)
    rw [Nat.add_zero] at h0
    rw [h0]
    exact fill_congr l (i + 1) _ fun k hk => by have := h (k + 1) (by simp; omega); rwa [show i + (k + 1) = i + 1 + k by omega] at this
theorem fill_none {S : Nat → Bool} : ∀ (l : List (Oper × Value)) (i : Nat) (a : Act), (∀ k, k < l.length → S (i + k) = false) → fill S l i a = a
  | [], _, _, _ => rfl
  | (o, v) :: l, i, a, h => by
    unfold fill
    have h0 := h 0 (by simp)
    rw [Nat.add_zero] at h0
    rw [h0]
    exact fill_none l (i + 1) _ fun k hk => by have := h (k + 1) (by simp; omega); rwa [show i + (k + 1) = i + 1 + k by omega] at this
theorem fill_put {S : Nat → Bool} {d : Option Tmp} {u : Value} : ∀ (l : List (Oper × Value)) (i : Nat) (a : Act), (∀ (k : Nat) (x : Oper × Value) (t : Tmp), l[k]? = some x → d = some t → x.1.dst ≠ some t) →
    fill S l i (a.put d u) = (fill S l i a).put d u
  | [], _, _, _ => rfl
  | (o, v) :: l, i, a, h => by
    unfold fill
    rw [← fill_put l (i + 1) _ fun k x t hk => h (k + 1) x t (by simpa using hk)]
    congr 1
    cases S i
    · rfl
    · exact Act.put_comm a u v fun t ht => h 0 (o, v) t (by simp) ht
theorem fill_set {S : Nat → Bool} : ∀ (l : List (Oper × Value)) (i k : Nat) (x : Oper × Value) (a : Act), l[k]? = some x → S (i + k) = false →
    (∀ j y t, j ≠ k → l[j]? = some y → x.1.dst = some t → y.1.dst ≠ some t) →
    fill (fun m => if m = i + k then true else S m) l i a = (fill S l i a).put x.1.dst x.2
  | [], _, _, _, _, h, _, _ => by simp at h
  | (o, v) :: l, i, 0, x, a, h, hS, hd => by
    simp only [List.getElem?_cons_zero, Option.some.injEq] at h
    subst h
    rw [Nat.add_zero] at hS
    unfold fill
    simp only [Nat.add_zero, if_true]
    rw [hS]
    simp only [Bool.false_eq_true, if_false]
    rw [← fill_put l (i + 1) a fun k x t hk ht => hd (k + 1) x t (by omega) (by simpa using hk) ht]
    exact fill_congr l (i + 1) _ fun k _ => if_neg (by omega)
  | (o, v) :: l, i, k + 1, x, a, h, hS, hd => by
    unfold fill
    have hne : ¬ i = i + (k + 1) := by omega
    simp only [hne, if_false]
    rw [show i + (k + 1) = i + 1 + k by omega] at hS ⊢
    exact fill_set l (i + 1) k x _ (by simpa using h) hS fun j y t hj hy ht => hd (j + 1) y t (by omega) (by simpa using hy) ht

section
variable {P : Program} {ops : Array Oper} {C : World → Prop}

theorem quiet_vals {Q : Act → Prop} : ∀ (l : List Oper) (i : Nat) (a : Act), wpQuiet P ops C Q l a → ∃ vs : List Value, vs.length = l.length ∧
    (∀ j x, (l.zip vs)[j]? = some x → YieldsIn P ops C x.1 x.2 (fill (fun m => decide (m < i + j)) (l.zip vs) i a)) ∧ Q (fill (fun _ => true) (l.zip vs) i a)
  | [], _, a, h => ⟨[], rfl, fun j x hx => by simp at hx, h⟩
  | o :: l, i, a, h => by
    have hy : ∃ v, YieldsIn P ops C o v a ∧ wpQuiet P ops C Q l (a.put o.dst v) := by
      unfold wpQuiet at h
      by_cases hw : Region.wanted o (yielded ops a.tmps) = true
      · rw [if_pos hw] at h
        obtain ⟨v, h1, h2⟩ := h
        exact ⟨v, .inl ⟨hw, h1⟩, h2⟩
      · rw [if_neg hw] at h
        exact ⟨undef, .inr ⟨by simpa using hw, rfl⟩, h⟩
    obtain ⟨v, hv, hr⟩ := hy
    obtain ⟨vs, hl, hys, hQ⟩ := quiet_vals l (i + 1) _ hr
    refine ⟨v :: vs, by simp [hl], ?_, ?_⟩
    · intro j x hx
      cases j with
      | zero =>
        simp only [List.zip_cons_cons, List.getElem?_cons_zero, Option.some.injEq] at hx
        subst hx
        rw [fill_none _ i a (fun k _ => by simp)]
        exact hv
      | succ j =>
        simp only [List.zip_cons_cons, List.getElem?_cons_succ] at hx
        have := hys j x hx
        simp only [List.zip_cons_cons]
        unfold fill
        rw [decide_eq_true (by omega)]
        simp only [if_true]
        rw [show i + (j + 1) = i + 1 + j by omega]
        exact this
    · simp only [List.zip_cons_cons]
      unfold fill
      simpa using hQ

def waitsB (o : Oper) (k : Nat) : Bool := o.after.any fun e => Region.binds .any e && e.on == k
theorem waitsB_spec {o : Oper} {k : Nat} (h : waitsB o k = true) : ∃ e ∈ o.after, Region.binds .any e = true ∧ e.on = k := by
  obtain ⟨e, he, hb⟩ := Array.any_eq_true'.1 h
  simp only [Bool.and_eq_true, beq_iff_eq] at hb
  exact ⟨e, he, hb.1, hb.2⟩

def pairB (ops : Array Oper) (oj ok : Oper) (k : Nat) : Bool :=
  match ok.dst with
  | none => true
  | some d => oj.dst != some d && (!(oj.looksAt ops).contains d || waitsB oj k)
/-- What is asked of a region: its first n operations have temporaries of their own and wait for what they read; the others come one behind the other, behind all those. -/
def qtB (ops : Array Oper) (n : Nat) : Bool :=
  Region.noSelect ops && decide (n ≤ ops.size) &&
  (List.range n).all (fun j => (ops[j]?).all fun oj => (oj.after.all fun e => decide (e.on < j)) && (List.range n).all fun k => j == k || (ops[k]?).all fun ok => pairB ops oj ok k) &&
  (List.range ops.size).all (fun t => decide (t < n) || (ops[t]?).all fun ot => if t = n then (List.range n).all (waitsB ot) else waitsB ot (t - 1)) &&
  Region.seqB .any ops (ops.size - n) n (Array.replicate n true ++ Array.replicate (ops.size - n) false)

theorem opt_all {α : Type} {x : Option α} {p : α → Bool} {y : α} (h : x.all p = true) (hx : x = some y) : p y = true := by subst hx; exact h

theorem getD_tf {l : Array Bool} {i : Nat} (hi : i < l.size) : l.getD i true = l.getD i false := by simp [hi]

theorem wpAny_qt {Q : Exit → Act → World → Prop} {n : Nat} (hB : qtB ops n = true) {a₀ : Act} {vs : List Value} (hvl : vs.length = n)
    (hys : ∀ j x, ((ops.toList.take n).zip vs)[j]? = some x → YieldsIn P ops C x.1 x.2 (fill (fun m => decide (m < j)) ((ops.toList.take n).zip vs) 0 a₀))
    (hQ : ∀ w, C w → wpList P ops Q (ops.toList.drop n) (fill (fun _ => true) ((ops.toList.take n).zip vs) 0 a₀) w) :
    ∀ (c : Nat) (listed : Array Bool) (w : World), C w → listed.size = ops.size → (∀ t, n ≤ t → t < ops.size → listed.getD t false = false) →
      ((List.range n).filter fun k => !listed.getD k false).length = c →
      wpAny P .any ops Q (c + (ops.size - n)) listed (fill (fun k => listed.getD k false) ((ops.toList.take n).zip vs) 0 a₀) w := by
  simp only [qtB, Bool.and_eq_true, decide_eq_true_eq] at hB
  obtain ⟨⟨⟨⟨hsel, hn⟩, hbody⟩, htail⟩, hseq⟩ := hB
  have hlen : ((ops.toList.take n).zip vs).length = n := by simp [hvl]; omega
  have hop : ∀ k, k < n → ∃ o v, ops[k]? = some o ∧ ((ops.toList.take n).zip vs)[k]? = some (o, v) := by
    intro k hk
    have h1 : k < ops.toList.length := by simp; omega
    refine ⟨ops[k]'(by simpa using h1), vs[k]'(by omega), by rw [Array.getElem?_eq_getElem (by simpa using h1)], ?_⟩
    rw [List.getElem?_eq_getElem (by omega)]
    simp
  have hop' : ∀ k x, ((ops.toList.take n).zip vs)[k]? = some x → k < n ∧ ops[k]? = some x.1 := by
    intro k x hx
    have hk : k < n := by
      rcases Nat.lt_or_ge k n with h | h
      · exact h
      · rw [List.getElem?_eq_none (by omega)] at hx; cases hx
    obtain ⟨o, v, h1, h2⟩ := hop k hk
    rw [h2] at hx; cases hx
    exact ⟨hk, h1⟩
  have hb1 : ∀ j oj, j < n → ops[j]? = some oj → (∀ e ∈ oj.after, e.on < j) ∧ ∀ k ok, k < n → k ≠ j → ops[k]? = some ok → pairB ops oj ok k = true := by
    intro j oj hj hoj
    have h1 := opt_all (List.all_eq_true.1 hbody j (List.mem_range.2 hj)) hoj
    simp only [Bool.and_eq_true] at h1
    refine ⟨fun e he => by simpa using Array.all_eq_true_iff_forall_mem.1 h1.1 e he, fun k ok hk hkj hok => ?_⟩
    have h2 := List.all_eq_true.1 h1.2 k (List.mem_range.2 hk)
    simp only [Bool.or_eq_true, beq_iff_eq] at h2
    rcases h2 with h2 | h2
    · exact absurd h2.symm hkj
    · exact opt_all (p := fun ok => pairB ops oj ok k) h2 hok
  intro c
  induction c with
  | zero =>
    intro listed w hC hsz ht hc
    have hall : ∀ k, k < n → listed.getD k false = true := by
      intro k hk
      have := List.filter_eq_nil_iff.1 (List.length_eq_zero_iff.1 hc) k (List.mem_range.2 hk)
      simpa using this
    have he : listed = Array.replicate n true ++ Array.replicate (ops.size - n) false := by
      apply Array.ext
      · simp [hsz]; omega
      · intro i h1 h2
        by_cases hi : i < n
        · have := hall i hi
          rw [Array.getD_eq_getD_getElem?, Array.getElem?_eq_getElem h1] at this
          rw [Array.getElem_append_left (by simpa using hi)]
          simpa using this
        · have := ht i (by omega) (by omega)
          rw [Array.getD_eq_getD_getElem?, Array.getElem?_eq_getElem h1] at this
          rw [Array.getElem_append_right (by simpa using hi)]
          simpa using this
    rw [fill_congr (T := fun _ => true) _ 0 a₀ (fun k hk => by simp only [Nat.zero_add]; exact hall k (by omega))]
    rw [Nat.zero_add]
    have hl2 : (ops.toList.drop n).length = ops.size - n := by simp
    rw [← hl2]
    exact wpAny_of_seq (ops.toList.drop n) n listed _ w (fun j => by simp) (by rw [hl2, he]; exact hseq) (hQ w hC)
  | succ c ih =>
    intro listed w hC hsz ht hc
    have hex : ∃ k, k < n ∧ listed.getD k false = false ∧ ∀ m, m < k → listed.getD m false = true := by
      have hne : ∃ k, k < n ∧ listed.getD k false = false := by
        have : ((List.range n).filter fun k => !listed.getD k false) ≠ [] := by intro e; rw [e] at hc; cases hc
        obtain ⟨k, hk⟩ := List.exists_mem_of_ne_nil _ this
        rw [List.mem_filter, List.mem_range] at hk
        exact ⟨k, hk.1, by simpa using hk.2⟩
      obtain ⟨k, hk, hkf⟩ := hne
      induction k using Nat.strongRecOn with
      | _ k ihk =>
        by_cases h : ∃ m, m < k ∧ listed.getD m false = false
        · obtain ⟨m, hm, hmf⟩ := h; exact ihk m hm (by omega) hmf
        · refine ⟨k, hk, hkf, fun m hm => ?_⟩
          cases hmt : listed.getD m false with
          | true => rfl
          | false => exact absurd ⟨m, hm, hmt⟩ h
    obtain ⟨k0, hk0, hk0f, hk0m⟩ := hex
    have hready : k0 ∈ Region.ready .any ops listed := by
      obtain ⟨o, v, ho, _⟩ := hop k0 hk0
      refine mem_ready.2 ⟨by rw [getD_tf (by omega)]; exact hk0f, o, ho, fun e he _ => ?_⟩
      exact hk0m _ ((hb1 k0 o hk0 ho).1 e he)
    rw [show c + 1 + (ops.size - n) = (c + (ops.size - n)) + 1 by omega]
    refine ⟨fun h => (by rw [h] at hready; cases hready), fun i hi => ?_⟩
    obtain ⟨hiu, oi, hoi, hall⟩ := mem_ready.1 hi
    have hilt : i < ops.size := (Array.getElem?_eq_some_iff.1 hoi).1
    have hin : i < n := by
      rcases Nat.lt_or_ge i n with h | h
      · exact h
      · exfalso
        have h1 := List.all_eq_true.1 htail i (List.mem_range.2 hilt)
        simp only [Bool.or_eq_true, decide_eq_true_eq] at h1
        rcases h1 with h1 | h1
        · omega
        · have h2 := opt_all h1 hoi
          by_cases hin : i = n
          · rw [if_pos hin] at h2
            obtain ⟨e, he, hb, hon⟩ := waitsB_spec (List.all_eq_true.1 h2 k0 (List.mem_range.2 hk0))
            have := hall e he hb
            rw [hon, hk0f] at this; cases this
          · rw [if_neg hin] at h2
            obtain ⟨e, he, hb, hon⟩ := waitsB_spec h2
            have := hall e he hb
            rw [hon, ht (i - 1) (by omega) (by omega)] at this; cases this
    obtain ⟨o', v, ho', hz⟩ := hop i hin
    obtain rfl : o' = oi := Option.some.inj (ho'.symm.trans hoi)
    rw [getD_tf (by omega)] at hiu
    have hsel' := Region.noSelect_spec hsel
    have hag : Agree (o'.looksAt ops) (fill (fun k => listed.getD k false) ((ops.toList.take n).zip vs) 0 a₀) (fill (fun m => decide (m < i)) ((ops.toList.take n).zip vs) 0 a₀) := by
      refine fill_agree _ 0 _ _ ⟨rfl, fun _ _ => rfl⟩ fun k x d hk hx hd => ?_
      rw [Nat.zero_add]
      obtain ⟨hkn, hok⟩ := hop' k x hk
      by_cases hki : k = i
      · subst hki; rw [hiu]; simp
      · have hp := (hb1 i o' hin ho').2 k x.1 hkn hki hok
        unfold pairB at hp
        simp only [hx, Bool.and_eq_true, Bool.or_eq_true, Bool.not_eq_true'] at hp
        rcases hp.2 with hp2 | hp2
        · have : (o'.looksAt ops).contains d = true := by simpa using hd
          rw [hp2] at this; cases this
        · obtain ⟨e, he, hb, hon⟩ := waitsB_spec hp2
          have h1 := hall e he hb
          have h2 := (hb1 i o' hin ho').1 e he
          rw [hon] at h1 h2
          rw [h1]; simp [h2]
    have hy := hys i _ hz
    have hy' : YieldsIn P ops C o' v (fill (fun k => listed.getD k false) ((ops.toList.take n).zip vs) 0 a₀) :=
      YieldsIn.of_same hy (agree_exec (fun cs b => hsel' i o' cs b ho') hag) (agree_wanted hag)
    refine wpOp_of_qOp (K := fun a' => a' = (fill (fun k => listed.getD k false) ((ops.toList.take n).zip vs) 0 a₀).put o'.dst v) hC (fun a' w' hC' ha' => ?_) (hy'.qOp ho' rfl)
    subst ha'
    have hset := fill_set (S := fun k => listed.getD k false) ((ops.toList.take n).zip vs) 0 i (o', v) a₀ hz (by rw [Nat.zero_add]; exact hiu) (fun j y t hj hy' ht' => by
      obtain ⟨hjn, hoj⟩ := hop' j y hy'
      have hp := (hb1 j y.1 hjn hoj).2 i o' hin (by omega) ho'
      unfold pairB at hp
      have ht2 : o'.dst = some t := ht'
      simp only [ht2, Bool.and_eq_true, bne_iff_ne, ne_eq] at hp
      exact hp.1)
    rw [← hset, Nat.zero_add]
    rw [fill_congr (T := fun k => (listed.setIfInBounds i true).getD k false) _ 0 a₀ (fun k hk => by
      try simp only [Nat.zero_add]
      by_cases hki : k = i
      · subst hki; rw [if_pos rfl]; simp [show k < listed.size by omega]
      · rw [if_neg hki, getD_set_ne false (Ne.symm hki)])]
    refine ih _ w' hC' (by simp [hsz]) (fun t h1 h2 => by rw [getD_set_ne false (by omega)]; exact ht t h1 h2) ?_
    have hcount : ((List.range n).filter fun k => !listed.getD k false).length = ((List.range n).filter fun k => !(listed.setIfInBounds i true).getD k false).length + 1 := by
      have hp : ((List.range n).filter fun k => !(listed.setIfInBounds i true).getD k false) = ((List.range n).filter fun k => !listed.getD k false).filter (fun k => k != i) := by
        rw [List.filter_filter]
        apply List.filter_congr
        intro k _
        by_cases hki : k = i
        · subst hki; simp [show k < listed.size by omega]
        · rw [getD_set_ne false (Ne.symm hki)]; simp [hki]
      rw [hp]
      have hmem : i ∈ (List.range n).filter fun k => !listed.getD k false := List.mem_filter.2 ⟨List.mem_range.2 hin, by simp [hiu]⟩
      have hnd : ((List.range n).filter fun k => !listed.getD k false).Nodup := List.Pairwise.filter _ List.nodup_range
      have he := hnd.erase_eq_filter i
      rw [← he]
      have := List.length_erase_of_mem hmem
      have hpos := List.length_pos_of_mem hmem
      omega
    omega

/-- **ONE WALK OF THE TEXT'S ORDER SERVES EVERY ORDER**: the first n operations quiet in the class, the others as they come. -/
theorem wp_region_qt {id : Nat} {Q : Exit → Act → World → Prop} {a : Act} {w : World} {l : List Oper} (n : Nat) (hm : P.follows .mixedOrders = true) (hB : qtB l.toArray n = true) (hC : C { w with drawn := w.drawn + 1 })
    (h : wpQuiet P l.toArray C (fun a' => ∀ w', C w' → wpList P l.toArray Q (l.drop n) a' w') (l.take n) a) : (Code.region id l.toArray true).wp P Q a w := by
  refine wp_region_any hm ?_
  obtain ⟨vs, hvl, hys, hQ⟩ := quiet_vals (l.take n) 0 a h
  have hn : n ≤ l.length := by
    simp only [qtB, Bool.and_eq_true, decide_eq_true_eq] at hB
    simpa using hB.1.1.1.2
  have hw := wpAny_qt (P := P) (C := C) (Q := Q) (a₀ := a) (vs := vs) hB (by rw [hvl]; simp; omega) (by simpa using hys) (by simpa using hQ) n (Array.replicate l.toArray.size false) _ hC (by simp)
    (fun t _ _ => getD_replicate_false _ _) (by
      rw [List.filter_eq_self.2 (fun k hk => by rw [getD_replicate_false]; rfl)]; simp)
  rw [fill_none _ 0 a (fun k _ => getD_replicate_false _ _)] at hw
  have he : n + (l.toArray.size - n) = l.toArray.size := by simp; omega
  rw [he] at hw
  exact hw

/-- The same at the class 'some blocks more, some draws'. -/
theorem wp_region_qt_below {id : Nat} {Q : Exit → Act → World → Prop} {a : Act} {w : World} {l : List Oper} (n : Nat) (hm : P.follows .mixedOrders = true) (hB : qtB l.toArray n = true)
    (h : wpQuiet P l.toArray (fun w' => ∃ p : Regrown, w' = Go.Sort.grow (redrawn w p.d) p.os) (fun a' => ∀ w', (∃ p : Regrown, w' = Go.Sort.grow (redrawn w p.d) p.os) → wpList P l.toArray Q (l.drop n) a' w') (l.take n) a) : (Code.region id l.toArray true).wp P Q a w :=
  wp_region_qt (C := fun w' => ∃ p : Regrown, w' = Go.Sort.grow (redrawn w p.d) p.os) n hm hB ⟨⟨w.drawn + 1, #[]⟩, by rw [Go.Sort.grow_empty]; rfl⟩ h
/-- The same at the class 'some draws'. -/
theorem wp_region_qt_drew {id : Nat} {Q : Exit → Act → World → Prop} {a : Act} {w : World} {l : List Oper} (n : Nat) (hm : P.follows .mixedOrders = true) (hB : qtB l.toArray n = true)
    (h : wpQuiet P l.toArray (fun w' => ∃ n, w' = w.drewN n) (fun a' => ∀ w', (∃ n, w' = w.drewN n) → wpList P l.toArray Q (l.drop n) a' w') (l.take n) a) : (Code.region id l.toArray true).wp P Q a w :=
  wp_region_qt (C := fun w' => ∃ n, w' = w.drewN n) n hm hB ⟨1, rfl⟩ h
end
end Go.Proofs.YtadnnijdbcdkjaaGreatDoor
/-
  A region that draws its order: operations that only read, operations that make memory, and a last part that waits for all of them. One walk serves every order. No program in sight.
-/
namespace Go.Proofs.YtadnnijdbcdkjaaGreatDoor
open Go.RowKit

/-- What an operation leaves: a value and a world. -/
def makesAt (P : Program) (o : Oper) (a : Act) (w : World) (R : Value → World → Prop) : Prop :=
  match (execOp a.eval o).run P w with
  | .ok (.value u) w' => R u w'
  | .ok (.enter f args) w' => w' = w ∧ Calls P f args w (fun e w'' => ∃ u, e = .returned u ∧ R u w'')
  | _ => False
theorem makesAt_same {P : Program} {o : Oper} {a b : Act} {w : World} {R : Value → World → Prop} (h : makesAt P o a w R) (he : execOp b.eval o = execOp a.eval o) : makesAt P o b w R := by
  unfold makesAt at *
  rw [he]
  exact h
theorem wp_of_makesAt {P : Program} {o : Oper} {a : Act} {w : World} {R : Value → World → Prop} {K : Act → World → Prop} {Q' : Exit → Act → World → Prop} (h : makesAt P o a w R) (hK : ∀ u w', R u w' → K (a.put o.dst u) w') : o.wp P a w K Q' := by
  unfold makesAt at h
  unfold Oper.wp
  generalize (execOp a.eval o).run P w = r at *
  cases r with
  | ok n w' =>
    cases n <;> simp only at h <;> simp only [Oper.upon]
    case value u => exact hK _ _ h
    case enter f args =>
      obtain ⟨e1, hc⟩ := h
      rw [e1]
      exact hc.mono fun e w'' ⟨u, he, hw''⟩ => by subst he; exact hK _ _ hw''
  | halt x w' => simp only at h

/-- An operation that enters no Go function. -/
def staysB (o : Oper) : Bool :=
  match o.op with
  | .call c => (match c.callee with | .builtin .len => true | _ => false)
  | .nilCheck _ => true
  | .go _ | .defer _ | .send .. | .recv .. | .select .. => false
  | _ => true
theorem run_value_ne {P : Program} (s : Sem Value) (f : FuncId) (args : Array Value) (w w' : World) : (do pure (Next.value (← s)) : Sem Next).run P w ≠ .ok (.enter f args) w' := by
  rw [Sem.run_bind]
  cases Sem.run P s w with
  | ok x w1 => simp [Result.andThen, Sem.run_pure]
  | halt x w1 => simp [Result.andThen]
theorem run_skip_ne {P : Program} (s : Sem Unit) (f : FuncId) (args : Array Value) (w w' : World) : (do s; pure Next.skip : Sem Next).run P w ≠ .ok (.enter f args) w' := by
  rw [Sem.run_bind]
  cases Sem.run P s w with
  | ok x w1 => simp [Result.andThen, Sem.run_pure]
  | halt x w1 => simp [Result.andThen]
theorem stays_run {P : Program} {o : Oper} (h : staysB o = true) (ev : Operand → Value) (f : FuncId) (args : Array Value) (w w' : World) : (execOp ev o).run P w ≠ .ok (.enter f args) w' := by
  unfold staysB at h
  unfold execOp
  cases ho : o.op <;> rw [ho] at h <;> simp only at h ⊢
  all_goals first
    | exact run_value_ne _ _ _ _ _
    | exact run_skip_ne _ _ _ _ _
    | (cases h; done)
    | skip
  case move => rw [Sem.run_pure]; simp
  case assign => rw [Sem.run_pure]; simp
  case pick c x y =>
    rw [Sem.run_bind]
    cases Sem.run P (asBool (ev c)) w with
    | ok b w1 => simp [Result.andThen, Sem.run_pure]
    | halt b w1 => simp [Result.andThen]
  case nilCheck x =>
    generalize ev x = y
    split
    · rw [runtimePanic]; simp [go_sem]
    · rw [runtimePanic]; simp [go_sem]
    · rw [runtimePanic]; simp [go_sem]
    · split
      · rw [runtimePanic]; simp [go_sem]
      · rw [Sem.run_bind]
        generalize Sem.run P program w = r
        cases r with
        | halt b w1 => simp [Result.andThen]
        | ok p w1 =>
          simp only [Result.andThen]
          rw [Sem.run_bind]
          generalize Sem.run P (nilAhead _ _ _ _) w1 = r
          cases r with
          | halt b w2 => simp [Result.andThen]
          | ok q w2 =>
            simp only [Result.andThen]
            split
            · rw [Sem.run_bind]
              generalize Sem.run P (unsupported _) w2 = r
              cases r with
              | halt b w3 => simp [Result.andThen]
              | ok q w3 => simp [Result.andThen, Sem.run_pure]
            · rw [Sem.run_pure]; simp
      · rw [Sem.run_pure]; simp
    · rw [Sem.run_pure]; simp
  case call c =>
    split at h
    · rename_i hc
      unfold resolve
      rw [hc]
      simp only [Sem.run_bind, Sem.run_pure, Result.andThen]
      unfold invoke
      simp only
      unfold builtin
      simp only
      exact run_value_ne _ _ _ _ _
    · cases h

/-- The walk over the operations that only read; those of M are left out. -/
def wpSkip (P : Program) (ops : Array Oper) (C : World → Prop) (M : List Nat) (Q : Act → Prop) : Nat → List Oper → Act → Prop
  | _, [], a => Q a
  | i, o :: rest, a => if M.contains i then wpSkip P ops C M Q (i + 1) rest (a.put o.dst undef) else wpQuiet P ops C (fun a' => wpSkip P ops C M Q (i + 1) rest a') [o] a
theorem skip_nil {P : Program} {ops : Array Oper} {C : World → Prop} {M : List Nat} {Q : Act → Prop} {i : Nat} {a : Act} (h : Q a) : wpSkip P ops C M Q i [] a := h
theorem skip_one {P : Program} {ops : Array Oper} {C : World → Prop} {M : List Nat} {Q : Act → Prop} {i : Nat} {o : Oper} {rest : List Oper} {a : Act} (hi : M.contains i = false)
    (h : wpQuiet P ops C (fun a' => wpSkip P ops C M Q (i + 1) rest a') [o] a) : wpSkip P ops C M Q i (o :: rest) a := by
  unfold wpSkip
  rw [if_neg (by rw [hi]; simp)]
  exact h
theorem skip_made {P : Program} {ops : Array Oper} {C : World → Prop} {M : List Nat} {Q : Act → Prop} {i : Nat} {o : Oper} {rest : List Oper} {a : Act} (hi : M.contains i = true)
    (h : wpSkip P ops C M Q (i + 1) rest (a.put o.dst undef)) : wpSkip P ops C M Q i (o :: rest) a := by
  unfold wpSkip
  rw [if_pos hi]
  exact h

section
variable {P : Program} {ops : Array Oper} {C : World → Prop} {M : List Nat}
theorem skip_vals {Q : Act → Prop} : ∀ (l : List Oper) (i : Nat) (a : Act), wpSkip P ops C M Q i l a → ∃ vs : List Value, vs.length = l.length ∧
    (∀ j x, M.contains (i + j) = false → (l.zip vs)[j]? = some x → YieldsIn P ops C x.1 x.2 (fill (fun m => decide (m < i + j)) (l.zip vs) i a)) ∧ Q (fill (fun _ => true) (l.zip vs) i a)
  | [], _, a, h => ⟨[], rfl, fun j x _ hx => by simp at hx, h⟩
  | o :: l, i, a, h => by
    have hy : ∃ v, (M.contains i = false → YieldsIn P ops C o v a) ∧ wpSkip P ops C M Q (i + 1) l (a.put o.dst v) := by
      unfold wpSkip at h
      by_cases hm : M.contains i = true
      · rw [if_pos hm] at h
        exact ⟨undef, fun h' => (by rw [hm] at h'; cases h'), h⟩
      · rw [if_neg hm] at h
        unfold wpQuiet at h
        by_cases hw : Region.wanted o (yielded ops a.tmps) = true
        · rw [if_pos hw] at h
          obtain ⟨v, h1, h2⟩ := h
          exact ⟨v, fun _ => .inl ⟨hw, h1⟩, h2⟩
        · rw [if_neg hw] at h
          exact ⟨undef, fun _ => .inr ⟨by simpa using hw, rfl⟩, h⟩
    obtain ⟨v, hv, hr⟩ := hy
    obtain ⟨vs, hl, hys, hQ⟩ := skip_vals l (i + 1) _ hr
    refine ⟨v :: vs, by simp [hl], ?_, ?_⟩
    · intro j x hj hx
      cases j with
      | zero =>
        simp only [List.zip_cons_cons, List.getElem?_cons_zero, Option.some.injEq] at hx
        subst hx
        rw [fill_none _ i a (fun k _ => by simp)]
        exact hv hj
      | succ j =>
        simp only [List.zip_cons_cons, List.getElem?_cons_succ] at hx
        have := hys j x (by rw [show i + 1 + j = i + (j + 1) by omega]; exact hj) hx
        simp only [List.zip_cons_cons]
        unfold fill
        rw [decide_eq_true (by omega)]
        simp only [if_true]
        rw [show i + (j + 1) = i + 1 + j by omega]
        exact this
    · simp only [List.zip_cons_cons]
      unfold fill
      simpa using hQ

/-- Two fillings agree where the operations whose temporaries are looked at have come up alike, with the same values. -/
theorem fill_agree2 {ts : List Tmp} {S T : Nat → Bool} : ∀ (l l' : List (Oper × Value)) (i : Nat) (a b : Act), l.length = l'.length → Agree ts a b →
    (∀ (k : Nat) (x y : Oper × Value), l[k]? = some x → l'[k]? = some y → x.1 = y.1 ∧ ∀ d, x.1.dst = some d → d ∈ ts → S (i + k) = T (i + k) ∧ (S (i + k) = true → x.2 = y.2)) → Agree ts (fill S l i a) (fill T l' i b)
  | [], [], _, _, _, _, h, _ => h
  | [], _ :: _, _, _, _, hl, _, _ => by simp at hl
  | _ :: _, [], _, _, _, hl, _, _ => by simp at hl
  | (o, v) :: l, (o', v') :: l', i, a, b, hl, h, hst => by
    unfold fill
    have h0 := hst 0 (o, v) (o', v') (by simp) (by simp)
    obtain rfl : o = o' := h0.1
    refine fill_agree2 l l' (i + 1) _ _ (by simpa using hl) ?_ fun k x y hk hk' => by
      have := hst (k + 1) x y (by simpa using hk) (by simpa using hk')
      rwa [show i + (k + 1) = i + 1 + k by omega] at this
    by_cases hd : ∃ d, o.dst = some d ∧ d ∈ ts
    · obtain ⟨d, hd1, hd2⟩ := hd
      have h1 := h0.2 d hd1 hd2
      rw [Nat.add_zero] at h1
      rw [← h1.1]
      by_cases hs : S i = true
      · rw [hs]
        simp only [if_true]
        have e : v = v' := h1.2 hs
        subst e
        exact h.put _ _
      · have hs' : S i = false := by simpa using hs
        rw [hs']
        exact h
    · have hn : ∀ t, o.dst = some t → t ∉ ts := fun t e hm => hd ⟨t, e, hm⟩
      have hb : ∀ (c d : Bool), Agree ts (if c then a.put o.dst v else a) (if d then b.put o.dst v' else b) := by
        intro c d
        cases c <;> cases d
        · exact h
        · exact h.right hn _
        · exact h.left hn _
        · exact (h.left hn _).right hn _
      exact hb _ _
theorem fill_vals {S : Nat → Bool} : ∀ (l l' : List (Oper × Value)) (i : Nat) (a : Act), l.length = l'.length → (∀ (k : Nat) (x y : Oper × Value), l[k]? = some x → l'[k]? = some y → x.1 = y.1 ∧ (S (i + k) = true → x.2 = y.2)) → fill S l i a = fill S l' i a
  | [], [], _, _, _, _ => rfl
  | [], _ :: _, _, _, hl, _ => by simp at hl
  | _ :: _, [], _, _, hl, _ => by simp at hl
  | (o, v) :: l, (o', v') :: l', i, a, hl, h => by
    unfold fill
    have h0 := h 0 (o, v) (o', v') (by simp) (by simp)
    obtain rfl : o = o' := h0.1
    have e : (if S i then a.put o.dst v else a) = (if S i then a.put o.dst v' else a) := by
      by_cases hs : S i = true
      · rw [show v = v' from h0.2 (by simpa using hs)]
      · have hs' : S i = false := by simpa using hs
        rw [hs']; rfl
    rw [e]
    exact fill_vals l l' (i + 1) _ (by simpa using hl) fun k x y hk hk' => by
      have := h (k + 1) x y (by simpa using hk) (by simpa using hk')
      rwa [show i + (k + 1) = i + 1 + k by omega] at this

/-- What is asked of a region with operations M that make memory. -/
def mkB (ops : Array Oper) (n : Nat) (M : List Nat) : Bool :=
  qtB ops n && M.all (fun m => decide (m < n) && (ops[m]?).all fun o => o.guard.isNone && match o.dst with | none => true | some d => !(o.looksAt ops).contains d) &&
  (List.range n).all (fun j => M.contains j || (ops[j]?).all fun oj => staysB oj && M.all fun k => (ops[k]?).all fun ok => match ok.dst with | none => true | some d => !(oj.looksAt ops).contains d)

/-- The values of a region's first operations: those of M as us says. -/
def valM (M : List Nat) (vs : List Value) (us : Nat → Value) (j : Nat) : Value := if M.contains j then us j else vs.getD j undef
def zipM (ops : Array Oper) (n : Nat) (M : List Nat) (vs : List Value) (us : Nat → Value) : List (Oper × Value) := (ops.toList.take n).zip ((List.range n).map (valM M vs us))

theorem zipM_get {n : Nat} {vs : List Value} {us : Nat → Value} (hn : n ≤ ops.size) {k : Nat} {x : Oper × Value} : (zipM ops n M vs us)[k]? = some x ↔ k < n ∧ ops[k]? = some x.1 ∧ x.2 = valM M vs us k := by
  unfold zipM
  have hlen : ((ops.toList.take n).zip ((List.range n).map (valM M vs us))).length = n := by simp; omega
  constructor
  · intro h
    have hk : k < n := by
      rcases Nat.lt_or_ge k n with h' | h'
      · exact h'
      · rw [List.getElem?_eq_none (by omega)] at h; cases h
    rw [List.getElem?_eq_getElem (by omega)] at h
    simp only [List.getElem_zip, List.getElem_map, List.getElem_range, Option.some.injEq] at h
    subst h
    refine ⟨hk, ?_, rfl⟩
    rw [Array.getElem?_eq_getElem (by omega)]
    simp
  · rintro ⟨hk, h1, h2⟩
    rw [List.getElem?_eq_getElem (by omega)]
    simp only [List.getElem_zip, List.getElem_map, List.getElem_range, Option.some.injEq]
    rw [Array.getElem?_eq_getElem (by omega)] at h1
    obtain ⟨x1, x2⟩ := x
    simp only at h1 h2 ⊢
    rw [h2]
    simp only [Option.some.injEq] at h1
    simp [h1]
theorem zipM_len {n : Nat} {vs : List Value} {us : Nat → Value} (hn : n ≤ ops.size) : (zipM ops n M vs us).length = n := by
  unfold zipM; simp; omega

theorem wpAny_mk {Q : Exit → Act → World → Prop} {n : Nat} (hB : mkB ops n M = true) {a₀ : Act} {vs : List Value} {Rel : Nat → World → World → Prop} {Ps : Nat → Value → World → Prop} {Ns : Nat → World → Prop} (hst2 : ∀ i j w w', i ∈ M → j ∈ M → i ≠ j → Ns j w → Rel i w w' → Ns j w') (hst : ∀ i j u w w', i ∈ M → j ∈ M → i ≠ j → (∀ o, ops[j]? = some o → waitsB o i = false) → Ps j u w → Rel i w w' → Ps j u w')
    (hys : ∀ j o, j < n → M.contains j = false → ops[j]? = some o → ∃ us, YieldsIn P ops C o (vs.getD j undef) (fill (fun m => decide (m < j)) (zipM ops n M vs us) 0 a₀))
    (hmk : ∀ i o, i ∈ M → ops[i]? = some o → ∀ us w, C w → Ns i w → (∀ j, j ∈ M → waitsB o j = true → Ps j (us j) w) → makesAt P o (fill (fun m => decide (m < i)) (zipM ops n M vs us) 0 a₀) w (fun u w' => C w' ∧ Rel i w w' ∧ Ps i u w'))
    (hQ : ∀ us w, C w → (∀ j, j ∈ M → Ps j (us j) w) → wpList P ops Q (ops.toList.drop n) (fill (fun _ => true) (zipM ops n M vs us) 0 a₀) w) :
    ∀ (c : Nat) (listed : Array Bool) (us : Nat → Value) (w : World), C w → (∀ j, j ∈ M → listed.getD j false = true → Ps j (us j) w) → (∀ j, j ∈ M → listed.getD j false = false → Ns j w) → listed.size = ops.size → (∀ t, n ≤ t → t < ops.size → listed.getD t false = false) → (∀ j o, listed.getD j false = true → ops[j]? = some o → ∀ e ∈ o.after, Region.binds .any e = true → listed.getD e.on false = true) →
      ((List.range n).filter fun k => !listed.getD k false).length = c →
      wpAny P .any ops Q (c + (ops.size - n)) listed (fill (fun k => listed.getD k false) (zipM ops n M vs us) 0 a₀) w := by
  simp only [mkB, qtB, Bool.and_eq_true, decide_eq_true_eq] at hB
  obtain ⟨⟨⟨⟨⟨⟨hsel, hn⟩, hbody⟩, htail⟩, hseq⟩, hM⟩, hq⟩ := hB
  have hlen : ∀ us, (zipM ops n M vs us).length = n := fun us => zipM_len hn
  have hget : ∀ {us : Nat → Value} {k : Nat} {x : Oper × Value}, (zipM ops n M vs us)[k]? = some x ↔ k < n ∧ ops[k]? = some x.1 ∧ x.2 = valM M vs us k := zipM_get hn
  have hMn : ∀ m o, m ∈ M → ops[m]? = some o → m < n ∧ o.guard = none := by
    intro m o hm ho
    have h1 := List.all_eq_true.1 hM m hm
    simp only [Bool.and_eq_true, decide_eq_true_eq] at h1
    have h2 := opt_all h1.2 ho
    simp only [Bool.and_eq_true] at h2
    exact ⟨h1.1, by simpa using h2.1⟩
  have hMlt : ∀ m, m ∈ M → m < n := by
    intro m hm
    have h1 := List.all_eq_true.1 hM m hm
    simp only [Bool.and_eq_true, decide_eq_true_eq] at h1
    exact h1.1
  have hqs : ∀ j oj, j < n → M.contains j = false → ops[j]? = some oj → staysB oj = true ∧ ∀ k ok d, k ∈ M → ops[k]? = some ok → ok.dst = some d → (oj.looksAt ops).contains d = false := by
    intro j oj hj hjM hoj
    have h1 := List.all_eq_true.1 hq j (List.mem_range.2 hj)
    rw [hjM, Bool.false_or] at h1
    have h2 := opt_all h1 hoj
    simp only [Bool.and_eq_true] at h2
    refine ⟨h2.1, fun k ok d hk hok hd => ?_⟩
    have h3 := opt_all (List.all_eq_true.1 h2.2 k hk) hok
    simpa [hd] using h3
  have hb1 : ∀ j oj, j < n → ops[j]? = some oj → (∀ e ∈ oj.after, e.on < j) ∧ ∀ k ok, k < n → k ≠ j → ops[k]? = some ok → pairB ops oj ok k = true := by
    intro j oj hj hoj
    have h1 := opt_all (List.all_eq_true.1 hbody j (List.mem_range.2 hj)) hoj
    simp only [Bool.and_eq_true] at h1
    refine ⟨fun e he => by simpa using Array.all_eq_true_iff_forall_mem.1 h1.1 e he, fun k ok hk hkj hok => ?_⟩
    have h2 := List.all_eq_true.1 h1.2 k (List.mem_range.2 hk)
    simp only [Bool.or_eq_true, beq_iff_eq] at h2
    rcases h2 with h2 | h2
    · exact absurd h2.symm hkj
    · exact opt_all (p := fun ok => pairB ops oj ok k) h2 hok
  have hsel' := Region.noSelect_spec hsel
  intro c
  induction c with
  | zero =>
    intro listed us w hC hP hN hsz ht hcl hc
    have hall : ∀ k, k < n → listed.getD k false = true := by
      intro k hk
      have := List.filter_eq_nil_iff.1 (List.length_eq_zero_iff.1 hc) k (List.mem_range.2 hk)
      simpa using this
    have he : listed = Array.replicate n true ++ Array.replicate (ops.size - n) false := by
      apply Array.ext
      · simp [hsz]; omega
      · intro i h1 h2
        by_cases hi : i < n
        · have := hall i hi
          rw [Array.getD_eq_getD_getElem?, Array.getElem?_eq_getElem h1] at this
          rw [Array.getElem_append_left (by simpa using hi)]
          simpa using this
        · have := ht i (by omega) (by omega)
          rw [Array.getD_eq_getD_getElem?, Array.getElem?_eq_getElem h1] at this
          rw [Array.getElem_append_right (by simpa using hi)]
          simpa using this
    rw [fill_congr (T := fun _ => true) _ 0 a₀ (fun k hk => by simp only [Nat.zero_add]; exact hall k (by rw [hlen] at hk; exact hk))]
    rw [Nat.zero_add]
    have hl2 : (ops.toList.drop n).length = ops.size - n := by simp
    rw [← hl2]
    exact wpAny_of_seq (ops.toList.drop n) n listed _ w (fun j => by simp) (by rw [hl2, he]; exact hseq) (hQ us w hC fun j hj => hP j hj (hall j (hMlt j hj)))
  | succ c ih =>
    intro listed us w hC hP hN hsz ht hcl hc
    have hex : ∃ k, k < n ∧ listed.getD k false = false ∧ ∀ m, m < k → listed.getD m false = true := by
      have hne : ∃ k, k < n ∧ listed.getD k false = false := by
        have : ((List.range n).filter fun k => !listed.getD k false) ≠ [] := by intro e; rw [e] at hc; cases hc
        obtain ⟨k, hk⟩ := List.exists_mem_of_ne_nil _ this
        rw [List.mem_filter, List.mem_range] at hk
        exact ⟨k, hk.1, by simpa using hk.2⟩
      obtain ⟨k, hk, hkf⟩ := hne
      induction k using Nat.strongRecOn with
      | _ k ihk =>
        by_cases h : ∃ m, m < k ∧ listed.getD m false = false
        · obtain ⟨m, hm, hmf⟩ := h; exact ihk m hm (by omega) hmf
        · refine ⟨k, hk, hkf, fun m hm => ?_⟩
          cases hmt : listed.getD m false with
          | true => rfl
          | false => exact absurd ⟨m, hm, hmt⟩ h
    obtain ⟨k0, hk0, hk0f, hk0m⟩ := hex
    have hsome : ∀ k, k < n → ∃ o, ops[k]? = some o := fun k hk => ⟨ops[k]'(by omega), Array.getElem?_eq_getElem (by omega)⟩
    have hready : k0 ∈ Region.ready .any ops listed := by
      obtain ⟨o, ho⟩ := hsome k0 hk0
      refine mem_ready.2 ⟨by rw [getD_tf (by omega)]; exact hk0f, o, ho, fun e he _ => ?_⟩
      exact hk0m _ ((hb1 k0 o hk0 ho).1 e he)
    rw [show c + 1 + (ops.size - n) = (c + (ops.size - n)) + 1 by omega]
    refine ⟨fun h => (by rw [h] at hready; cases hready), fun i hi => ?_⟩
    obtain ⟨hiu, oi, hoi, hall⟩ := mem_ready.1 hi
    have hilt : i < ops.size := (Array.getElem?_eq_some_iff.1 hoi).1
    have hin : i < n := by
      rcases Nat.lt_or_ge i n with h | h
      · exact h
      · exfalso
        have h1 := List.all_eq_true.1 htail i (List.mem_range.2 hilt)
        simp only [Bool.or_eq_true, decide_eq_true_eq] at h1
        rcases h1 with h1 | h1
        · omega
        · have h2 := opt_all h1 hoi
          by_cases hin : i = n
          · rw [if_pos hin] at h2
            obtain ⟨e, he, hb, hon⟩ := waitsB_spec (List.all_eq_true.1 h2 k0 (List.mem_range.2 hk0))
            have := hall e he hb
            rw [hon, hk0f] at this; cases this
          · rw [if_neg hin] at h2
            obtain ⟨e, he, hb, hon⟩ := waitsB_spec h2
            have := hall e he hb
            rw [hon, ht (i - 1) (by omega) (by omega)] at this; cases this
    rw [getD_tf (by omega)] at hiu
    have hdst : ∀ (us : Nat → Value) j y t, j ≠ i → (zipM ops n M vs us)[j]? = some y → oi.dst = some t → y.1.dst ≠ some t := by
      intro us j y t hj hy' ht'
      obtain ⟨hjn, hoj, _⟩ := hget.1 hy'
      have hp := (hb1 j y.1 hjn hoj).2 i oi hin (by omega) hoi
      unfold pairB at hp
      simp only [ht', Bool.and_eq_true, bne_iff_ne, ne_eq] at hp
      exact hp.1
    have hcount : ((List.range n).filter fun k => !(listed.setIfInBounds i true).getD k false).length = c := by
      have hp : ((List.range n).filter fun k => !(listed.setIfInBounds i true).getD k false) = ((List.range n).filter fun k => !listed.getD k false).filter (fun k => k != i) := by
        rw [List.filter_filter]
        apply List.filter_congr
        intro k _
        by_cases hki : k = i
        · subst hki; simp [show k < listed.size by omega]
        · rw [getD_set_ne false (Ne.symm hki)]; simp [hki]
      rw [hp]
      have hmem : i ∈ (List.range n).filter fun k => !listed.getD k false := List.mem_filter.2 ⟨List.mem_range.2 hin, by simp [hiu]⟩
      have hnd : ((List.range n).filter fun k => !listed.getD k false).Nodup := List.Pairwise.filter _ List.nodup_range
      have he := hnd.erase_eq_filter i
      rw [← he]
      have := List.length_erase_of_mem hmem
      have hpos := List.length_pos_of_mem hmem
      omega
    have hnext : ∀ (us : Nat → Value), (fill (fun k => listed.getD k false) (zipM ops n M vs us) 0 a₀).put oi.dst (valM M vs us i) = fill (fun k => (listed.setIfInBounds i true).getD k false) (zipM ops n M vs us) 0 a₀ := by
      intro us
      have hset := fill_set (S := fun k => listed.getD k false) (zipM ops n M vs us) 0 i (oi, valM M vs us i) a₀ (hget.2 ⟨hin, hoi, rfl⟩) (by rw [Nat.zero_add]; exact hiu) (fun j y t hj hy' ht' => hdst us j y t hj hy' ht')
      rw [← hset, Nat.zero_add]
      exact fill_congr _ 0 a₀ (fun k hk => by
        try simp only [Nat.zero_add]
        by_cases hki : k = i
        · subst hki; rw [if_pos rfl]; simp [show k < listed.size by omega]
        · rw [if_neg hki, getD_set_ne false (Ne.symm hki)])
    have hall' : ∀ e ∈ oi.after, Region.binds .any e = true → listed.getD e.on false = true := fun e he hb => hall e he hb
    have hcl' : ∀ j o, (listed.setIfInBounds i true).getD j false = true → ops[j]? = some o → ∀ e ∈ o.after, Region.binds .any e = true → (listed.setIfInBounds i true).getD e.on false = true := by
      intro j o hj ho e he hb
      have up : ∀ k, listed.getD k false = true → (listed.setIfInBounds i true).getD k false = true := by
        intro k hk
        by_cases hki : k = i
        · subst hki; rw [hiu] at hk; cases hk
        · rw [getD_set_ne false (Ne.symm hki)]; exact hk
      by_cases hji : j = i
      · subst hji
        rw [hoi] at ho
        obtain rfl := Option.some.inj ho
        exact up _ (hall' e he hb)
      · rw [getD_set_ne false (Ne.symm hji)] at hj
        exact up _ (hcl j o hj ho e he hb)
    have hset_ne : ∀ j, j ≠ i → (listed.setIfInBounds i true).getD j false = listed.getD j false := fun j hj => getD_set_ne false (Ne.symm hj)
    by_cases hiM : M.contains i = true
    · have hiM' : i ∈ M := by simpa using hiM
      have hag : Agree (oi.looksAt ops) (fill (fun k => listed.getD k false) (zipM ops n M vs us) 0 a₀) (fill (fun m => decide (m < i)) (zipM ops n M vs us) 0 a₀) := by
        refine fill_agree _ 0 _ _ ⟨rfl, fun _ _ => rfl⟩ fun k x d hk hx hd => ?_
        rw [Nat.zero_add]
        obtain ⟨hkn, hok, _⟩ := hget.1 hk
        by_cases hki : k = i
        · subst hki; rw [hiu]; simp
        · have hp := (hb1 i oi hin hoi).2 k x.1 hkn hki hok
          unfold pairB at hp
          simp only [hx, Bool.and_eq_true, Bool.or_eq_true, Bool.not_eq_true'] at hp
          rcases hp.2 with hp2 | hp2
          · have : (oi.looksAt ops).contains d = true := by simpa using hd
            rw [hp2] at this; cases this
          · obtain ⟨e, he, hb, hon⟩ := waitsB_spec hp2
            have h1 := hall e he hb
            have h2 := (hb1 i oi hin hoi).1 e he
            rw [hon] at h1 h2
            rw [h1]; simp [h2]
      have hm1 := hmk i oi hiM' hoi us w hC (hN i hiM' hiu) (fun j hj hw => hP j hj (by
        obtain ⟨e, he, hb, hon⟩ := waitsB_spec hw
        have := hall e he hb
        rw [hon] at this
        exact this))
      have hm2 := makesAt_same hm1 (agree_exec (fun cs b => hsel' i oi cs b hoi) hag)
      unfold wpOp
      simp only [hoi]
      have hwant : Region.wanted oi (yielded ops (fill (fun k => listed.getD k false) (zipM ops n M vs us) 0 a₀).tmps) = true := by
        unfold Region.wanted; rw [(hMn i oi hiM' hoi).2]
      rw [if_pos hwant]
      refine .inl (wp_of_makesAt hm2 fun u w' hu => ?_)
      obtain ⟨hC', hR, hPu⟩ := hu
      have hv : fill (fun k => listed.getD k false) (zipM ops n M vs us) 0 a₀ = fill (fun k => listed.getD k false) (zipM ops n M vs (fun j => if j = i then u else us j)) 0 a₀ := by
        refine fill_vals _ _ 0 a₀ (by rw [hlen, hlen]) fun k x y hk hk' => ?_
        obtain ⟨_, h1, h2⟩ := hget.1 hk
        obtain ⟨_, h3, h4⟩ := hget.1 hk'
        rw [h1] at h3
        refine ⟨Option.some.inj h3, fun hs => ?_⟩
        rw [Nat.zero_add] at hs
        rw [h2, h4]
        unfold valM
        by_cases hki : k = i
        · subst hki; rw [hiu] at hs; cases hs
        · simp only [if_neg hki]
      have hvi : valM M vs (fun j => if j = i then u else us j) i = u := by unfold valM; rw [if_pos hiM]; exact if_pos rfl
      rw [hv]
      have e := hnext (fun j => if j = i then u else us j)
      rw [hvi] at e
      rw [e]
      refine ih _ _ w' hC' (fun j hj hl => ?_) (fun j hj hl => ?_) (by simp [hsz]) (fun t h1 h2 => by rw [hset_ne t (by omega)]; exact ht t h1 h2) hcl' hcount
      · by_cases hji : j = i
        · subst hji; rw [if_pos rfl]; exact hPu
        · rw [if_neg hji]
          rw [hset_ne j hji] at hl
          refine hst i j _ _ _ hiM' hj (fun e => hji e.symm) (fun o ho => ?_) (hP j hj hl) hR
          cases hwt : waitsB o i with
          | false => rfl
          | true =>
            obtain ⟨e, he, hb, hon⟩ := waitsB_spec hwt
            have := hcl j o hl ho e he hb
            rw [hon, hiu] at this; cases this
      · have hji : j ≠ i := by
          rintro rfl
          simp [show j < listed.size by omega] at hl
        rw [hset_ne j hji] at hl
        exact hst2 i j _ _ hiM' hj (Ne.symm hji) (hN j hj hl) hR
    · have hiM' : M.contains i = false := by simpa using hiM
      obtain ⟨us0, hy⟩ := hys i oi hin hiM' hoi
      have hqq := hqs i oi hin hiM' hoi
      have hag : Agree (oi.looksAt ops) (fill (fun k => listed.getD k false) (zipM ops n M vs us) 0 a₀) (fill (fun m => decide (m < i)) (zipM ops n M vs us0) 0 a₀) := by
        refine fill_agree2 _ _ 0 _ _ (by rw [hlen, hlen]) ⟨rfl, fun _ _ => rfl⟩ fun k x y hk hk' => ?_
        obtain ⟨hkn, hok, hxv⟩ := hget.1 hk
        obtain ⟨_, hok', hyv⟩ := hget.1 hk'
        rw [hok] at hok'
        refine ⟨Option.some.inj hok', fun d hx hd => ?_⟩
        rw [Nat.zero_add]
        have hd' : (oi.looksAt ops).contains d = true := by simpa using hd
        by_cases hkM : M.contains k = true
        · have := hqq.2 k x.1 d (by simpa using hkM) hok hx
          rw [this] at hd'; cases hd'
        · refine ⟨?_, fun _ => ?_⟩
          · by_cases hki : k = i
            · subst hki; rw [hiu]; simp
            · have hp := (hb1 i oi hin hoi).2 k x.1 hkn hki hok
              unfold pairB at hp
              simp only [hx, Bool.and_eq_true, Bool.or_eq_true, Bool.not_eq_true'] at hp
              rcases hp.2 with hp2 | hp2
              · rw [hp2] at hd'; cases hd'
              · obtain ⟨e, he, hb, hon⟩ := waitsB_spec hp2
                have h1 := hall e he hb
                have h2 := (hb1 i oi hin hoi).1 e he
                rw [hon] at h1 h2
                rw [h1]; simp [h2]
          · rw [hxv, hyv]
            unfold valM
            rw [if_neg hkM, if_neg hkM]
      have hy' : YieldsIn P ops C oi (vs.getD i undef) (fill (fun k => listed.getD k false) (zipM ops n M vs us) 0 a₀) :=
        YieldsIn.of_same hy (agree_exec (fun cs b => hsel' i oi cs b hoi) hag) (agree_wanted hag)
      have hy2 : YieldsIn P ops (fun w' => w' = w) oi (vs.getD i undef) (fill (fun k => listed.getD k false) (zipM ops n M vs us) 0 a₀) := by
        rcases hy' with ⟨h1, h2⟩ | h
        · refine .inl ⟨h1, fun w1 hw1 => ?_⟩
          subst hw1
          have h3 := h2 w1 hC
          have hne := fun f args w' => stays_run (P := P) hqq.1 (fill (fun k => listed.getD k false) (zipM ops n M vs us) 0 a₀).eval f args w1 w'
          unfold Oper.quietAt at h3 ⊢
          generalize (execOp (fill (fun k => listed.getD k false) (zipM ops n M vs us) 0 a₀).eval oi).run P w1 = r at *
          cases r with
          | halt b w2 => exact h3
          | ok nx w2 =>
            cases nx <;> first | exact h3 | skip
            case enter f args =>
              exact absurd rfl (hne f args w2)
        · exact .inr h
      refine wpOp_of_qOp (C := fun w' => w' = w) (K := fun a' => a' = (fill (fun k => listed.getD k false) (zipM ops n M vs us) 0 a₀).put oi.dst (vs.getD i undef)) rfl (fun a' w' hw' ha' => ?_) (hy2.qOp hoi rfl)
      subst ha'
      subst hw'
      have hvi : valM M vs us i = vs.getD i undef := by unfold valM; rw [if_neg hiM]
      rw [← hvi, hnext us]
      refine ih _ us _ hC (fun j hj hl => hP j hj ?_) (fun j hj hl => hN j hj ?_) (by simp [hsz]) (fun t h1 h2 => by rw [hset_ne t (by omega)]; exact ht t h1 h2) hcl' hcount
      all_goals
        rw [hset_ne j (fun e => hiM (by rw [← e]; simpa using hj))] at hl
        exact hl

/-- A frame with the values of the operations of M laid in. -/
def overM (ops : Array Oper) : List Nat → (Nat → Value) → Act → Act
  | [], _, a => a
  | m :: ms, us, a => overM ops ms us (a.put ((ops[m]?).bind (·.dst)) (us m))
theorem put_put (a : Act) (d : Option Tmp) (u v : Value) : (a.put d u).put d v = a.put d v := by
  cases d with
  | none => rfl
  | some d => simp [Act.put]

theorem over_all {n : Nat} (hn : n ≤ ops.size) {vs : List Value} {us : Nat → Value} {a : Act} (hd : ∀ j k oj ok d, j < n → k < n → j ≠ k → ops[j]? = some oj → ops[k]? = some ok → ok.dst = some d → oj.dst ≠ some d) :
    ∀ (ms : List Nat) (us1 : Nat → Value), (∀ m, m ∈ ms → m ∈ M ∧ m < n) → (∀ j, j ∉ ms → us1 j = us j) →
    overM ops ms us (fill (fun _ => true) (zipM ops n M vs us1) 0 a) = fill (fun _ => true) (zipM ops n M vs us) 0 a
  | [], us1, _, h => by
    rw [overM]
    refine fill_vals _ _ 0 a (by rw [zipM_len hn, zipM_len hn]) fun k x y hk hk' => ?_
    obtain ⟨_, h1, h2⟩ := (zipM_get hn).1 hk
    obtain ⟨_, h3, h4⟩ := (zipM_get hn).1 hk'
    rw [h1] at h3
    refine ⟨Option.some.inj h3, fun _ => ?_⟩
    rw [h2, h4]
    unfold valM
    rw [h k (by simp)]
  | m :: ms, us1, hm, h => by
    rw [overM]
    obtain ⟨hmM, hmn⟩ := hm m (by simp)
    obtain ⟨o, ho⟩ : ∃ o, ops[m]? = some o := ⟨ops[m]'(by omega), Array.getElem?_eq_getElem (by omega)⟩
    have hmc : M.contains m = true := by simpa using hmM
    have key : ∀ us2 : Nat → Value, fill (fun _ => true) (zipM ops n M vs us2) 0 a = (fill (fun k => decide (k ≠ m)) (zipM ops n M vs us2) 0 a).put o.dst (us2 m) := by
      intro us2
      have hset := fill_set (S := fun k => decide (k ≠ m)) (zipM ops n M vs us2) 0 m (o, us2 m) a ((zipM_get hn).2 ⟨hmn, ho, by unfold valM; rw [if_pos hmc]⟩) (by simp) (fun j y t hj hy ht => by
        obtain ⟨hjn, hoj, _⟩ := (zipM_get hn).1 hy
        exact hd j m y.1 o t hjn hmn hj hoj ho ht)
      rw [← hset]
      refine fill_congr _ 0 a fun k _ => ?_
      by_cases e : k = m
      · simp [e]
      · simp [e]
    have same : fill (fun k => decide (k ≠ m)) (zipM ops n M vs us1) 0 a = fill (fun k => decide (k ≠ m)) (zipM ops n M vs (fun j => if j = m then us m else us1 j)) 0 a := by
      refine fill_vals _ _ 0 a (by rw [zipM_len hn, zipM_len hn]) fun k x y hk hk' => ?_
      obtain ⟨_, h1, h2⟩ := (zipM_get hn).1 hk
      obtain ⟨_, h3, h4⟩ := (zipM_get hn).1 hk'
      rw [h1] at h3
      refine ⟨Option.some.inj h3, fun hs => ?_⟩
      have hkm : k ≠ m := by simpa using hs
      rw [h2, h4]
      unfold valM
      simp only [if_neg hkm]
    have e : (fill (fun _ => true) (zipM ops n M vs us1) 0 a).put ((ops[m]?).bind (·.dst)) (us m) = fill (fun _ => true) (zipM ops n M vs (fun j => if j = m then us m else us1 j)) 0 a := by
      rw [key us1, key (fun j => if j = m then us m else us1 j), same, ho]
      simp only [Option.bind_some, put_put, ↓reduceIte]
    rw [e]
    refine over_all hn hd ms _ (fun k hk => hm k (by simp [hk])) fun j hj => ?_
    by_cases hjm : j = m
    · subst hjm; exact if_pos rfl
    · simp only [if_neg hjm]
      exact h j (by simp [hjm, hj])

/-- **A REGION THAT READS AND MAKES MEMORY IN ANY ORDER**: the operations M (numbers below n) make memory, each with what Ps says of its value; the others below n only read; from n on each waits for all before it. -/
theorem wp_region_mk {id : Nat} {Q : Exit → Act → World → Prop} {a : Act} {w : World} {l : List Oper} (n : Nat) (Rel : Nat → World → World → Prop) (Ps : Nat → Value → World → Prop) (Ns : Nat → World → Prop) (hm : P.follows .mixedOrders = true) (hB : mkB l.toArray n M = true)
    (hC : C { w with drawn := w.drawn + 1 }) (hN : ∀ j, j ∈ M → Ns j { w with drawn := w.drawn + 1 }) (hst2 : ∀ i j w w', i ∈ M → j ∈ M → i ≠ j → Ns j w → Rel i w w' → Ns j w') (hst : ∀ i j u w w', i ∈ M → j ∈ M → i ≠ j → (∀ o, l[j]? = some o → waitsB o i = false) → Ps j u w → Rel i w w' → Ps j u w')
    {af : Act} (hw : wpSkip P l.toArray C M (fun a' => a' = af) 0 (l.take n) a)
    (hmk : ∀ i o, i ∈ M → l[i]? = some o → ∀ us w', C w' → Ns i w' → (∀ j, j ∈ M → waitsB o j = true → Ps j (us j) w') → makesAt P o (overM l.toArray M us af) w' (fun u w'' => C w'' ∧ Rel i w' w'' ∧ Ps i u w''))
    (hQ : ∀ us w', C w' → (∀ j, j ∈ M → Ps j (us j) w') → wpList P l.toArray Q (l.drop n) (overM l.toArray M us af) w') : (Code.region id l.toArray true).wp P Q a w := by
  refine wp_region_any hm ?_
  obtain ⟨vs, hvl, hys, rfl⟩ := skip_vals (l.take n) 0 a hw
  have hB' := hB
  simp only [mkB, qtB, Bool.and_eq_true, decide_eq_true_eq] at hB'
  obtain ⟨⟨⟨⟨⟨⟨hsel, hn⟩, hbody⟩, htail⟩, hseq⟩, hM⟩, hq⟩ := hB'
  have hsel' := Region.noSelect_spec hsel
  have hnl : n ≤ l.length := by simpa using hn
  have hvn : vs.length = n := by rw [hvl, List.length_take]; omega
  have hMn : ∀ m, m ∈ M → m < n ∧ ∀ o, l.toArray[m]? = some o → ∀ d, o.dst = some d → (o.looksAt l.toArray).contains d = false := by
    intro m hm
    have h1 := List.all_eq_true.1 hM m hm
    simp only [Bool.and_eq_true, decide_eq_true_eq] at h1
    refine ⟨h1.1, fun o ho d hd => ?_⟩
    have h2 := opt_all h1.2 ho
    simp only [Bool.and_eq_true] at h2
    simpa [hd] using h2.2
  have hb1 : ∀ j oj, j < n → l.toArray[j]? = some oj → (∀ e ∈ oj.after, e.on < j) ∧ ∀ k ok, k < n → k ≠ j → l.toArray[k]? = some ok → pairB l.toArray oj ok k = true := by
    intro j oj hj hoj
    have h1 := opt_all (List.all_eq_true.1 hbody j (List.mem_range.2 hj)) hoj
    simp only [Bool.and_eq_true] at h1
    refine ⟨fun e he => by simpa using Array.all_eq_true_iff_forall_mem.1 h1.1 e he, fun k ok hk hkj hok => ?_⟩
    have h2 := List.all_eq_true.1 h1.2 k (List.mem_range.2 hk)
    simp only [Bool.or_eq_true, beq_iff_eq] at h2
    rcases h2 with h2 | h2
    · exact absurd h2.symm hkj
    · exact opt_all (p := fun ok => pairB l.toArray oj ok k) h2 hok
  have hd : ∀ j k oj ok d, j < n → k < n → j ≠ k → l.toArray[j]? = some oj → l.toArray[k]? = some ok → ok.dst = some d → oj.dst ≠ some d := by
    intro j k oj ok d hj hk hjk hoj hok hdk
    have hp := (hb1 j oj hj hoj).2 k ok hk (Ne.symm hjk) hok
    unfold pairB at hp
    simp only [hdk, Bool.and_eq_true, bne_iff_ne, ne_eq] at hp
    exact hp.1
  have hz : (l.take n).zip vs = zipM l.toArray n M vs (fun j => vs.getD j undef) := by
    apply List.ext_getElem
    · rw [zipM_len hn, List.length_zip, List.length_take]; omega
    · intro k h1 h2
      unfold zipM
      simp only [List.getElem_zip]
      have hk : k < vs.length := by rw [List.length_zip] at h1; omega
      have e : vs[k] = valM M vs (fun j => vs.getD j undef) k := by
        unfold valM
        simp only [ite_self]
        rw [List.getD_eq_getElem?_getD, List.getElem?_eq_getElem hk]
        rfl
      rw [e]
      simp
  rw [hz] at hys hmk hQ
  have hover : ∀ us, overM l.toArray M us (fill (fun _ => true) (zipM l.toArray n M vs (fun j => vs.getD j undef)) 0 a) = fill (fun _ => true) (zipM l.toArray n M vs us) 0 a := fun us => by
    have e : fill (fun _ => true) (zipM l.toArray n M vs (fun j => vs.getD j undef)) 0 a = fill (fun _ => true) (zipM l.toArray n M vs (fun j => if j ∈ M then vs.getD j undef else us j)) 0 a := by
      refine fill_vals _ _ 0 a (by rw [zipM_len hn, zipM_len hn]) fun k x y hk hk' => ?_
      obtain ⟨_, h1, h2⟩ := (zipM_get hn).1 hk
      obtain ⟨_, h3, h4⟩ := (zipM_get hn).1 hk'
      rw [h1] at h3
      refine ⟨Option.some.inj h3, fun _ => ?_⟩
      rw [h2, h4]
      unfold valM
      by_cases hc : M.contains k = true
      · have hc' : k ∈ M := by simpa using hc
        simp only [if_pos hc, if_pos hc']
      · simp only [if_neg hc]
    rw [e]
    exact over_all hn hd M _ (fun m hm => ⟨hm, (hMn m hm).1⟩) fun j hj => by simp only [if_neg hj]
  simp only [Nat.zero_add] at hys
  have hw := wpAny_mk (P := P) (C := C) (M := M) (Q := Q) (n := n) (a₀ := a) (vs := vs) (Rel := Rel) (Ps := Ps) (Ns := Ns) hB hst2 (fun i j u w w' h1 h2 h3 h4 => hst i j u w w' h1 h2 h3 (fun o ho => h4 o (by simpa using ho)))
    (fun j o hj hjM ho => ⟨fun j => vs.getD j undef, by
      have h1 := hys j (o, vs.getD j undef) hjM ((zipM_get hn).2 ⟨hj, ho, by unfold valM; simp⟩)
      exact h1⟩)
    (fun i o hi ho us w' hC' hNi hP => by
      have h1 := hmk i o hi (by simpa using ho) us w' hC' hNi hP
      rw [hover us] at h1
      refine makesAt_same h1 (agree_exec (ops := l.toArray) (fun cs b => hsel' i o cs b ho) ?_)
      refine fill_agree _ 0 _ _ ⟨rfl, fun _ _ => rfl⟩ fun k x d hk hx hdk => ?_
      obtain ⟨hkn, hok, _⟩ := (zipM_get hn).1 hk
      have hd' : (o.looksAt l.toArray).contains d = true := by simpa using hdk
      by_cases hki : k = i
      · subst hki
        rw [ho] at hok
        have e := Option.some.inj hok
        have := (hMn k hi).2 o ho d (by rw [e]; exact hx)
        rw [this] at hd'; cases hd'
      · have hp := (hb1 i o (hMn i hi).1 ho).2 k x.1 hkn hki hok
        unfold pairB at hp
        simp only [hx, Bool.and_eq_true, Bool.or_eq_true, Bool.not_eq_true'] at hp
        rcases hp.2 with hp2 | hp2
        · rw [hp2] at hd'; cases hd'
        · obtain ⟨e, he, hb, hon⟩ := waitsB_spec hp2
          have h2 := (hb1 i o (hMn i hi).1 ho).1 e he
          rw [hon] at h2
          simp [h2])
    (fun us w' hC' hP => by
      have h1 := hQ us w' hC' hP
      rw [hover us] at h1
      simpa using h1)
    n (Array.replicate l.toArray.size false) (fun _ => undef) _ hC (fun j _ hl => by rw [getD_replicate_false] at hl; cases hl) (fun j hj _ => hN j hj) (by simp)
    (fun t _ _ => getD_replicate_false _ _) (fun j o hj => by rw [getD_replicate_false] at hj; cases hj) (by
      rw [List.filter_eq_self.2 (fun k hk => by rw [getD_replicate_false]; rfl)]; simp)
  rw [fill_none _ 0 a (fun k _ => getD_replicate_false _ _)] at hw
  have he : n + (l.toArray.size - n) = l.toArray.size := by omega
  rw [he] at hw
  exact hw
end
/-- append as an operation that makes memory. -/
theorem makes_append {P : Program} {o : Oper} {a : Act} {w w' : World} {R : Value → World → Prop} (s x : Operand) (t t' : TypeId) {v y v' : Value} (ho : o.op = .call { callee := .builtin .append, args := #[s, x], argTypes := #[t, t'] })
    (hs : a.eval s = v) (hx : a.eval x = y) (hr : (Builtin.append_ #[t, t'] o.type #[v, y]).run P w = .ok v' w') (h : R v' w') : makesAt P o a w R := by
  unfold makesAt execOp
  simp only [ho, resolve, invoke, builtin, Sem.run_bind, Sem.run_pure, Result.andThen_ok, List.map_toArray, List.map_cons, List.map_nil, hs, hx, hr]
  exact h
end Go.Proofs.YtadnnijdbcdkjaaGreatDoor
/-
  append to a slice of the call's own: as the library's law, and where the new value's block lies. No program in sight.
-/
namespace Go.Proofs.YtadnnijdbcdkjaaGreatDoor
open Go.RowKit

theorem wpList_append_two {P : Program} {w : World} {ops : Array Oper} {rest : List Oper} {o : Oper} {a : Act} {Q : Exit → Act → World → Prop} (hgd : o.guard = none) (s x : Operand) (t : TypeId)
    (ho : o.op = .call { callee := .builtin .append, args := #[s, x], argTypes := #[t, t] })
    (base : Nat) (e : TypeId) (i : TypeInfo) (z : Value) (size bytes : Nat) (ht : P.underlying t = some (.slice e)) (hi : P.info? e = some i) (hz : i.zero = some z)
    (hsize : i.size = size) (hby : i.bytes = bytes) (hzs : z.cells.size = size) (hsz : 0 < size)
    (v : Value) (n : Nat) (xs : List Value) (hs : a.eval s = v) (hown : w.ownsRow base e size v n xs)
    (ad : Addr) (m c : Nat) (news : List Value) (hx : a.eval x = .slice (some ad) m c) (hl : news.length = m * size) (hnews : ∀ j u, news[j]? = some u → w.cell? (ad.add j) = some u) (h1 : ∀ u ∈ news, u.oneCell' = true)
    (hm : 0 < m) (h63 : n + m ≤ maxLen) (hbytes : (n + m) * bytes ≤ 140737488355328) (hbase : base ≤ w.heap.size)
    (h : ∀ v' w', w'.ownsRow base e size v' (n + m) (xs ++ news) → w.grownBy w' v.ownBlock → (v'.ownBlock = v.ownBlock ∨ ∀ k, v'.ownBlock = some k → w.heap.size ≤ k) → wpList P ops Q rest (a.put o.dst v') w') : wpList P ops Q (o :: rest) a w := by
  have up : ∀ {v' : Value} {w' : World}, w'.ownsRow w.heap.size e size v' (n + m) (xs ++ news) → w'.ownsRow base e size v' (n + m) (xs ++ news) ∧ ∀ k, v'.ownBlock = some k → w.heap.size ≤ k := by
    intro v' w' hr
    refine ⟨?_, fun k hk => (hr.lt k hk).1⟩
    obtain ⟨g1, g2⟩ := hr
    refine ⟨g1, ?_⟩
    rcases g2 with g2 | ⟨g, cap, cur, hv, hg, r⟩
    · exact .inl g2
    · exact .inr ⟨g, cap, cur, hv, by omega, r⟩
  have wide : ∀ {w' : World} {row : Option Nat}, w.grownBy w' none → w.grownBy w' row := fun hg => ⟨hg.os, hg.tape, hg.output, hg.size, fun k hk _ => hg.block k hk (by simp)⟩
  obtain ⟨hxl, h2⟩ := hown
  rcases h2 with ⟨hv, hn⟩ | ⟨g, cap, cur, hv, hbg, hg, hnc, hcm, hcs, htk⟩
  · subst hv; subst hn
    refine wpList_append_grows w hgd s x t ho e i z size bytes ht hi hz hsize hby hzs hsz none 0 0 xs hs (fun _ => ⟨rfl, rfl⟩) (by simpa using hxl) (fun b hb => by cases hb) ad m c news hx hl hnews h1 (by omega) h63 hbytes ?_
    intro v' w' r1 r2
    obtain ⟨q1, q2⟩ := up r1
    exact h v' w' q1 (wide r2) (.inr q2)
  · subst hv
    have hown : w.ownsRow base e size (.slice (some ⟨g, 0, none⟩) n cap) n xs := ⟨hxl, .inr ⟨g, cap, cur, rfl, hbg, hg, hnc, hcm, hcs, htk⟩⟩
    by_cases hroom : n + m ≤ cap
    · obtain ⟨w', hr, r1, r2⟩ := run_append_fits (P := P) (w := w) base t o.type e i size ht hi hsize g n cap xs hown ad m c news hl hnews h1 hroom
      refine wpList_plain hgd fun K hK => ?_
      unfold Oper.wp execOp
      simp only [ho, resolve, invoke, builtin, Sem.run_bind, Sem.run_pure, Result.andThen_ok, List.map_toArray, List.map_cons, List.map_nil, hs, hx, hr]
      exact hK _ _ (h _ w' r1 r2 (.inl rfl))
    · refine wpList_append_grows w hgd s x t ho e i z size bytes ht hi hz hsize hby hzs hsz (some ⟨g, 0, none⟩) n cap xs hs (fun hh => by cases hh) hxl (fun b hb => by cases hb; exact hown.cells rfl) ad m c news hx hl hnews h1 (by omega) h63 hbytes ?_
      intro v' w' r1 r2
      obtain ⟨q1, q2⟩ := up r1
      exact h v' w' q1 (wide r2) (.inr q2)
end Go.Proofs.YtadnnijdbcdkjaaGreatDoor
