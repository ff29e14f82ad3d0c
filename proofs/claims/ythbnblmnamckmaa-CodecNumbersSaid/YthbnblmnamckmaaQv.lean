/-
  What the code's and the reference's Plain, PutText, PutValue, PutEvent compute, and that Small, Smalls come to an end. Conditions: the values are what comes in (Wf24: each number of its kind, each row and text within its bounds).
-/
import Derived.Test.YthbnblmnamckmaaPAllx0
import Derived.Test.YthbnblmnamckmaaPAllx1
import Derived.Test.YthbnblmnamckmaaPAllx2
import Derived.Test.YthbnblmnamckmaaPAllx4
import Derived.Test.YthbnblmnamckmaaPAllx5
import Derived.Test.YthbnblmnamckmaaPAllx6
import Derived.Test.YthbnblmnamckmaaPAllx8
import Derived.Test.YthbnblmnamckmaaPAllx9
import Derived.Test.YthbnblmnamckmaaPAllx11
import Derived.Test.YthbnblmnamckmaaPAllx12
import Derived.Test.YthbnblmnamckmaaPAllx13
import Derived.Test.YthbnblmnamckmaaPAllx14
import Derived.Test.YthbnblmnamckmaaPAllx15
import Derived.Test.YthbnblmnamckmaaQb
import Derived.OpenShut
namespace Go.Proofs.Ythbnblmnamckmaa.Q
open Go.RowKit Go.Proofs.Ythbnblmnamckmaa.PAll Go.Proofs.YthbnblmnamckmaaW.PrintWords Go.Proofs.YthbnblmnamckmaaW.PrintLast Go.Proofs.YthbnblmnamckmaaW.PrintMore
set_option linter.unusedVariables false
set_option linter.unusedSimpArgs false

theorem ev_val {α : Type} {g : Nat → Option α} {r r' : α} (h : Ev g r) (e : r = r') : Ev g r' := e ▸ h
theorem text_no {s : ByteArray} (h : ¬ s.toList = []) : (s.toList == []) = false := beq_eq_false_iff_ne.2 h
theorem ev_eq {α : Type} {r r' : α} (h : r = r') : Ev (fun _ => some r) r' := h ▸ Ev.now r

def bareB (v : S24) : Bool := decide (v.f3 = 0) && decide (v.f4.length = 0)
def leafOf (b : Bool) (v : S24) : Bool :=
  if v.f0 = 1 then b && (v.f2.toList == []) else if v.f0 = 2 then b && decide (v.f1 = 0) && decide (v.f2.size ≤ 64) else if v.f0 = 3 then b && (v.f2.toList == []) && (decide (v.f1 = 0) || decide (v.f1 = 1)) else false
def leafB (v : S24) : Bool := leafOf (bareB v) v
def fieldB (v : S24) : Bool := decide (v.f0 ≠ 4) && leafB v
def plainB (v : S24) : Bool :=
  if v.f0 = 4 then decide (v.f1 = 0) && (v.f2.toList == []) && decide (0 ≤ v.f3) && decide (v.f3 ≤ 15) && decide (v.f4.length ≤ 12) && v.f4.all fieldB else leafB v

theorem rdT_drop {l : List S24} {i : Nat} (h : i < l.length) : l.drop i = rd_T24 l (i : Int) :: l.drop (i + 1) := by
  rw [List.drop_eq_getElem_cons h]
  congr 1
  simp [rd_T24, List.getD_eq_getElem?_getD, h]
theorem rdT_mem {l : List S24} {i : Nat} (h : i < l.length) : rd_T24 l (i : Int) ∈ l := by
  have e : rd_T24 l (i : Int) = l[i] := by simp [rd_T24, List.getD_eq_getElem?_getD, h]
  rw [e]
  exact List.getElem_mem h

theorem ev_codec_Plain_j0 (b : Bool) (v : S24) (h4 : v.f0 ≠ 4) : Ev (fun k => codec_Plain.j0 k b v.f0 v.f1 v.f2 v.f3 v.f4) (leafOf b v) := by
  refine Ev.step (fun k => rfl) ?_
  simp only [codec_Plain.j0]
  unfold leafOf
  by_cases h1 : v.f0 = 1
  · simp only [if_pos h1]
    cases b
    · simp; exact Ev.now _
    · simp; exact Ev.now _
  · simp only [if_neg h1]
    by_cases h2 : v.f0 = 2
    · simp only [if_pos h2]
      cases b
      · simp; exact Ev.now _
      · by_cases h : v.f1 = 0
        · simp [h]; exact ev_eq (decide_eq_decide.2 (by omega))
        · simp [h]; exact Ev.now _
    · simp only [if_neg h2]
      by_cases h3 : v.f0 = 3
      · simp only [if_pos h3]
        cases b
        · simp; exact Ev.now _
        · by_cases ht : v.f2.toList = []
          · by_cases h : v.f1 = 0
            · simp [h, ht]; exact Ev.now _
            · simp [h, ht]; exact ev_eq (by by_cases hq : v.f1 = 1 <;> simp [hq])
          · simp only [if_true, if_neg ht]
            exact ev_eq (by rw [text_no ht]; rfl)
      · simp only [if_neg h3, if_neg h4]
        exact Ev.now _
theorem bare_eq (v : S24) (h : v.f3 = 0) : ((v.f4.length : Int) == 0) = bareB v := by
  unfold bareB
  by_cases hl : v.f4.length = 0 <;> simp [h, hl]
theorem bare_no (v : S24) (h : ¬ v.f3 = 0) : false = bareB v := by
  unfold bareB
  simp [h]
theorem ev_codec_Plain_leaf (v : S24) (h4 : v.f0 ≠ 4) : Ev (fun k => codec_Plain.f k v.f0 v.f1 v.f2 v.f3 v.f4) (leafB v) := by
  refine Ev.step (fun k => rfl) ?_
  simp only [codec_Plain.f]
  unfold leafB
  by_cases h : v.f3 = 0
  · simp only [if_pos h, bare_eq v h]
    exact ev_codec_Plain_j0 _ v h4
  · simp only [if_neg h, bare_no v h]
    exact ev_codec_Plain_j0 _ v h4
theorem ev_codec_Plain_l0 (l : List S24) (hl : l.length ≤ 9223372036854775807) : ∀ d i : Nat, i + d = l.length → Ev (fun k => codec_Plain.l0 k l (l.length : Int) (i : Int)) ((l.drop i).all fieldB) := by
  intro d
  induction d with
  | zero =>
    intro i hi
    refine Ev.step (fun k => rfl) ?_
    simp only [codec_Plain.l0]
    simp only [if_neg (show ¬ ((i : Int) < (l.length : Int)) by omega)]
    rw [List.drop_eq_nil_of_le (by omega)]
    exact Ev.now _
  | succ d ih =>
    intro i hi
    have hlt : i < l.length := by omega
    refine Ev.step (fun k => rfl) ?_
    simp only [codec_Plain.l0]
    have e1 : wrap64 ((i : Int) + 1) = ((i + 1 : Nat) : Int) := by rw [w64_id (by omega) (by omega)]; omega
    simp only [if_pos (show ((i : Int) < (l.length : Int)) by omega), if_pos (show (0 : Int) ≤ (i : Int) by omega), e1]
    rw [rdT_drop hlt, List.all_cons]
    by_cases h4 : (rd_T24 l (i : Int)).f0 = 4
    · simp only [if_pos h4]
      exact ev_eq (by simp [fieldB, h4])
    · simp only [if_neg h4]
      refine Ev.bind (ev_codec_Plain_leaf _ h4) ?_
      cases hb : leafB (rd_T24 l (i : Int)) with
      | false => simp only [if_neg (show ¬ (false = true) by decide)]; exact ev_eq (by simp [fieldB, hb])
      | true =>
        simp only [if_true]
        have e2 : fieldB (rd_T24 l (i : Int)) = true := by simp [fieldB, hb, h4]
        rw [e2, Bool.true_and]
        exact ih (i + 1) (by omega)
theorem ev_codec_Plain (v : S24) (hl : v.f4.length ≤ 9223372036854775807) : Ev (fun k => codec_Plain.f k v.f0 v.f1 v.f2 v.f3 v.f4) (plainB v) := by
  by_cases h4 : v.f0 = 4
  · have hj1 : ∀ b : Bool, Ev (fun k => codec_Plain.j1 k b v.f0 v.f1 v.f2 v.f3 v.f4) (!b && v.f4.all fieldB) := by
      intro b
      refine Ev.step (fun k => rfl) ?_
      simp only [codec_Plain.j1]
      cases b
      · simp only [if_neg (show ¬ (false = true) by decide)]
        exact ev_codec_Plain_l0 v.f4 hl v.f4.length 0 (Nat.zero_add _)
      · simp only [if_true]; exact Ev.now _
    have hj0 : ∀ b : Bool, Ev (fun k => codec_Plain.j0 k b v.f0 v.f1 v.f2 v.f3 v.f4) (plainB v) := by
      intro b
      refine Ev.step (fun k => rfl) ?_
      simp only [codec_Plain.j0]
      unfold plainB
      simp only [if_neg (show ¬ v.f0 = 1 by omega), if_neg (show ¬ v.f0 = 2 by omega), if_neg (show ¬ v.f0 = 3 by omega), if_pos h4]
      by_cases h1 : v.f1 = 0
      · simp only [if_pos h1]
        by_cases ht : v.f2.toList = []
        · simp only [if_pos ht]
          by_cases ha : v.f3 < 0
          · simp only [if_pos ha]
            have := hj1 true
            simpa [h1, ht, show ¬ (0 ≤ v.f3) by omega] using this
          · simp only [if_neg ha]
            by_cases hb : v.f3 > 15
            · simp only [if_pos hb]
              have := hj1 true
              simpa [h1, ht, show ¬ (v.f3 ≤ 15) by omega] using this
            · simp only [if_neg hb]
              have := hj1 (decide ((v.f4.length : Int) > 12))
              have e : (!decide ((v.f4.length : Int) > 12)) = decide (v.f4.length ≤ 12) := by
                by_cases hq : v.f4.length ≤ 12
                · rw [decide_eq_true hq, decide_eq_false (by omega)]; rfl
                · rw [decide_eq_false hq, decide_eq_true (by omega)]; rfl
              rw [e] at this
              simpa [h1, ht, show (0 ≤ v.f3) by omega, show (v.f3 ≤ 15) by omega] using this
        · simp only [if_neg ht]
          exact ev_val (hj1 true) (by rw [text_no ht]; simp)
      · simp only [if_neg h1]
        have := hj1 true
        simpa [h1] using this
    refine Ev.step (fun k => rfl) ?_
    simp only [codec_Plain.f]
    by_cases h : v.f3 = 0
    · simp only [if_pos h]; exact hj0 _
    · simp only [if_neg h]; exact hj0 _
  · have : plainB v = leafB v := by unfold plainB; rw [if_neg h4]
    rw [this]
    exact ev_codec_Plain_leaf v h4

/-! ### the reference's -/
theorem ev_ref_Plain_j0 (b : Bool) (v : S24) (h4 : v.f0 ≠ 4) : Ev (fun k => windlassref2_Plain.j0 k b v.f0 v.f1 v.f2 v.f3 v.f4) (leafOf b v) := by
  refine Ev.step (fun k => rfl) ?_
  simp only [windlassref2_Plain.j0]
  unfold leafOf
  by_cases h1 : v.f0 = 1
  · simp only [if_pos h1]
    cases b
    · simp; exact Ev.now _
    · simp; exact Ev.now _
  · simp only [if_neg h1]
    by_cases h2 : v.f0 = 2
    · simp only [if_pos h2]
      cases b
      · simp; exact Ev.now _
      · by_cases h : v.f1 = 0
        · simp [h]; exact ev_eq (decide_eq_decide.2 (by omega))
        · simp [h]; exact Ev.now _
    · simp only [if_neg h2]
      by_cases h3 : v.f0 = 3
      · simp only [if_pos h3]
        cases b
        · simp; exact Ev.now _
        · by_cases ht : v.f2.toList = []
          · by_cases h : v.f1 = 0
            · simp [h, ht]; exact Ev.now _
            · simp [h, ht]; exact ev_eq (by by_cases hq : v.f1 = 1 <;> simp [hq])
          · simp only [if_true, if_neg ht]
            exact ev_eq (by rw [text_no ht]; rfl)
      · simp only [if_neg h3, if_neg h4]
        exact Ev.now _
theorem ev_ref_Plain_leaf (v : S24) (h4 : v.f0 ≠ 4) : Ev (fun k => windlassref2_Plain.f k v.f0 v.f1 v.f2 v.f3 v.f4) (leafB v) := by
  refine Ev.step (fun k => rfl) ?_
  simp only [windlassref2_Plain.f]
  unfold leafB
  by_cases h : v.f3 = 0
  · simp only [if_pos h, bare_eq v h]
    exact ev_ref_Plain_j0 _ v h4
  · simp only [if_neg h, bare_no v h]
    exact ev_ref_Plain_j0 _ v h4
theorem ev_ref_Plain_l0 (v : S24) (hl : v.f4.length ≤ 9223372036854775807) : ∀ d i : Nat, i + d = v.f4.length → Ev (fun k => windlassref2_Plain.l0 k (i : Int) v.f0 v.f1 v.f2 v.f3 v.f4) ((v.f4.drop i).all fieldB) := by
  intro d
  induction d with
  | zero =>
    intro i hi
    refine Ev.step (fun k => rfl) ?_
    simp only [windlassref2_Plain.l0]
    simp only [if_neg (show ¬ ((i : Int) < (v.f4.length : Int)) by omega)]
    rw [List.drop_eq_nil_of_le (by omega)]
    exact Ev.now _
  | succ d ih =>
    intro i hi
    have hlt : i < v.f4.length := by omega
    refine Ev.step (fun k => rfl) ?_
    simp only [windlassref2_Plain.l0]
    have e1 : wrap64 ((i : Int) + 1) = ((i + 1 : Nat) : Int) := by rw [w64_id (by omega) (by omega)]; omega
    simp only [if_pos (show ((i : Int) < (v.f4.length : Int)) by omega), if_pos (show (0 : Int) ≤ (i : Int) by omega), e1]
    rw [rdT_drop hlt, List.all_cons]
    by_cases h4 : (rd_T24 v.f4 (i : Int)).f0 = 4
    · simp only [if_pos h4]
      exact ev_eq (by simp [fieldB, h4])
    · simp only [if_neg h4]
      refine Ev.bind (ev_ref_Plain_leaf _ h4) ?_
      cases hb : leafB (rd_T24 v.f4 (i : Int)) with
      | false => simp only [if_neg (show ¬ (false = true) by decide)]; exact ev_eq (by simp [fieldB, hb])
      | true =>
        simp only [if_true]
        have e2 : fieldB (rd_T24 v.f4 (i : Int)) = true := by simp [fieldB, hb, h4]
        rw [e2, Bool.true_and]
        exact ih (i + 1) (by omega)
theorem ev_ref_Plain (v : S24) (hl : v.f4.length ≤ 9223372036854775807) : Ev (fun k => windlassref2_Plain.f k v.f0 v.f1 v.f2 v.f3 v.f4) (plainB v) := by
  by_cases h4 : v.f0 = 4
  · have hj1 : ∀ b : Bool, Ev (fun k => windlassref2_Plain.j1 k b v.f0 v.f1 v.f2 v.f3 v.f4) (!b && v.f4.all fieldB) := by
      intro b
      refine Ev.step (fun k => rfl) ?_
      simp only [windlassref2_Plain.j1]
      cases b
      · simp only [if_neg (show ¬ (false = true) by decide)]
        exact ev_ref_Plain_l0 v hl v.f4.length 0 (Nat.zero_add _)
      · simp only [if_true]; exact Ev.now _
    have hj0 : ∀ b : Bool, Ev (fun k => windlassref2_Plain.j0 k b v.f0 v.f1 v.f2 v.f3 v.f4) (plainB v) := by
      intro b
      refine Ev.step (fun k => rfl) ?_
      simp only [windlassref2_Plain.j0]
      unfold plainB
      simp only [if_neg (show ¬ v.f0 = 1 by omega), if_neg (show ¬ v.f0 = 2 by omega), if_neg (show ¬ v.f0 = 3 by omega), if_pos h4]
      by_cases h1 : v.f1 = 0
      · simp only [if_pos h1]
        by_cases ht : v.f2.toList = []
        · simp only [if_pos ht]
          by_cases ha : v.f3 < 0
          · simp only [if_pos ha]
            have := hj1 true
            simpa [h1, ht, show ¬ (0 ≤ v.f3) by omega] using this
          · simp only [if_neg ha]
            by_cases hb : v.f3 > 15
            · simp only [if_pos hb]
              have := hj1 true
              simpa [h1, ht, show ¬ (v.f3 ≤ 15) by omega] using this
            · simp only [if_neg hb]
              have := hj1 (decide ((v.f4.length : Int) > 12))
              have e : (!decide ((v.f4.length : Int) > 12)) = decide (v.f4.length ≤ 12) := by
                by_cases hq : v.f4.length ≤ 12
                · rw [decide_eq_true hq, decide_eq_false (by omega)]; rfl
                · rw [decide_eq_false hq, decide_eq_true (by omega)]; rfl
              rw [e] at this
              simpa [h1, ht, show (0 ≤ v.f3) by omega, show (v.f3 ≤ 15) by omega] using this
        · simp only [if_neg ht]
          exact ev_val (hj1 true) (by rw [text_no ht]; simp)
      · simp only [if_neg h1]
        have := hj1 true
        simpa [h1] using this
    refine Ev.step (fun k => rfl) ?_
    simp only [windlassref2_Plain.f]
    by_cases h : v.f3 = 0
    · simp only [if_pos h]; exact hj0 _
    · simp only [if_neg h]; exact hj0 _
  · have : plainB v = leafB v := by unfold plainB; rw [if_neg h4]
    rw [this]
    exact ev_ref_Plain_leaf v h4

/-! ### writing -/
theorem ev_codec_PutText {s : ByteArray} (h : s.size ≤ 140737488351232) : Ev (fun k => codec_PutText.f k s) (putU s.size ++ bytesOf s) := by
  unfold codec_PutText.f
  have hl := putU_len (n := s.size) (by omega)
  rw [u64_id (by omega) (by omega)]
  refine Ev.bind (ev_codec_PutUint (by omega)) ?_
  simp only [if_pos (show (putU s.size).length + s.size < 140737488355328 by omega)]
  exact Ev.now _
theorem ev_ref_PutText {s : ByteArray} (h : s.size ≤ 140737488351232) : Ev (fun k => windlassref2_PutText.f k s) (putU s.size ++ bytesOf s) := by
  unfold windlassref2_PutText.f
  have hl := putU_len (n := s.size) (by omega)
  rw [u64_id (by omega) (by omega)]
  refine Ev.bind (ev_ref_PutUint (by omega)) ?_
  simp only [if_pos (show (putU s.size).length + s.size < 140737488355328 by omega)]
  exact Ev.now _

def encL (v : S24) : List Int :=
  [v.f0 % 256] ++ if v.f0 = 1 then putU (zig v.f1) else if v.f0 = 2 then putU v.f2.size ++ bytesOf v.f2 else [v.f1 % 256]
def encV (v : S24) : List Int :=
  if v.f0 = 4 then [v.f0 % 256] ++ putU v.f3.toNat ++ putU v.f4.length ++ v.f4.flatMap encL else encL v
def pv (v : S24) : List Int × Int := if plainB v = true then (encV v, 0) else ([], 20)

theorem leaf_kind {v : S24} (h : leafB v = true) : v.f0 = 1 ∨ (v.f0 = 2 ∧ v.f2.size ≤ 64) ∨ v.f0 = 3 := by
  unfold leafB leafOf at h
  split at h
  · exact .inl ‹_›
  · split at h
    · simp at h; exact .inr (.inl ⟨‹_›, h.2⟩)
    · split at h
      · exact .inr (.inr ‹_›)
      · simp at h
theorem encL_len {v : S24} (h : leafB v = true) (hf : -9223372036854775808 ≤ v.f1 ∧ v.f1 ≤ 9223372036854775807) : (encL v).length ≤ 80 := by
  have h1 := putU_len (zig_lt hf.1 hf.2)
  have h2 := leaf_kind h
  have h3 : v.f2.size ≤ 64 → (putU v.f2.size).length ≤ 10 := fun h => (putU_len (by omega)).2
  unfold encL
  split
  · simp; omega
  · split
    · simp [bytesOf_length]; omega
    · simp
theorem ev_codec_put_leaf {v : S24} (h : leafB v = true) (hf : -9223372036854775808 ≤ v.f1 ∧ v.f1 ≤ 9223372036854775807) : Ev (fun k => codec_put.f k v.f0 v.f1 v.f2 v.f3 v.f4) (encL v) := by
  have h1 := putU_len (zig_lt hf.1 hf.2)
  have h2 := leaf_kind h
  refine Ev.step (fun k => rfl) ?_
  simp only [codec_put.f, Option.bind_some]
  unfold encL
  by_cases k1 : v.f0 = 1
  · simp only [if_pos k1]
    refine Ev.bind (ev_codec_PutInt hf.1 hf.2) ?_
    simp only [List.length_singleton, if_pos (show 1 + (putU (zig v.f1)).length < 140737488355328 by omega)]
    exact Ev.now _
  · simp only [if_neg k1]
    by_cases k2 : v.f0 = 2
    · have hs : v.f2.size ≤ 64 := by omega
      have hp := putU_len (n := v.f2.size) (by omega)
      simp only [if_pos k2]
      refine Ev.bind (ev_codec_PutText (by omega)) ?_
      simp only [List.length_singleton, List.length_append, bytesOf_length, if_pos (show 1 + ((putU v.f2.size).length + v.f2.size) < 140737488355328 by omega)]
      exact Ev.now _
    · have k3 : v.f0 = 3 := by omega
      simp only [if_neg k2, if_pos k3, List.length_singleton, if_pos (show 1 < 140737488355328 by omega)]
      exact Ev.now _
theorem ev_codec_put_l0 (l : List S24) (hl : l.length ≤ 12) (hp : l.all fieldB = true) (hw : ∀ v ∈ l, -9223372036854775808 ≤ v.f1 ∧ v.f1 ≤ 9223372036854775807) : ∀ (d i : Nat) (acc : List Int), i + d = l.length → acc.length + 80 * d < 100000 →
    Ev (fun k => codec_put.l0 k acc l (l.length : Int) (i : Int)) (acc ++ (l.drop i).flatMap encL) := by
  intro d
  induction d with
  | zero =>
    intro i acc hi ha
    refine Ev.step (fun k => rfl) ?_
    simp only [codec_put.l0]
    simp only [if_neg (show ¬ ((i : Int) < (l.length : Int)) by omega)]
    rw [List.drop_eq_nil_of_le (by omega)]
    exact ev_eq (by simp)
  | succ d ih =>
    intro i acc hi ha
    have hlt : i < l.length := by omega
    refine Ev.step (fun k => rfl) ?_
    simp only [codec_put.l0]
    have e1 : wrap64 ((i : Int) + 1) = ((i + 1 : Nat) : Int) := by rw [w64_id (by omega) (by omega)]; omega
    simp only [if_pos (show ((i : Int) < (l.length : Int)) by omega), if_pos (show (0 : Int) ≤ (i : Int) by omega), e1]
    have hm := rdT_mem hlt
    have hb : leafB (rd_T24 l (i : Int)) = true := by
      have := List.all_eq_true.1 hp _ hm
      simp [fieldB] at this
      exact this.2
    have hlen := encL_len hb (hw _ hm)
    refine Ev.bind (ev_codec_put_leaf hb (hw _ hm)) ?_
    simp only [if_pos (show acc.length + (encL (rd_T24 l (i : Int))).length < 140737488355328 by omega)]
    rw [rdT_drop hlt, List.flatMap_cons, ← List.append_assoc]
    exact ih (i + 1) _ (by omega) (by simp; omega)
theorem plain_rec {v : S24} (h : plainB v = true) (h4 : v.f0 = 4) : 0 ≤ v.f3 ∧ v.f3 ≤ 15 ∧ v.f4.length ≤ 12 ∧ v.f4.all fieldB = true := by
  unfold plainB at h
  rw [if_pos h4] at h
  simp only [Bool.and_eq_true, decide_eq_true_eq] at h
  exact ⟨h.1.1.1.2, h.1.1.2, h.1.2, h.2⟩
theorem flat_len {l : List S24} (hp : l.all fieldB = true) (hw : ∀ v ∈ l, -9223372036854775808 ≤ v.f1 ∧ v.f1 ≤ 9223372036854775807) : (l.flatMap encL).length ≤ 80 * l.length := by
  induction l with
  | nil => simp
  | cons v t ih =>
    rw [List.all_cons, Bool.and_eq_true] at hp
    have := ih hp.2 (fun x hx => hw x (List.mem_cons_of_mem _ hx))
    have hb : leafB v = true := by have := hp.1; simp [fieldB] at this; exact this.2
    have := encL_len hb (hw v (List.mem_cons_self ..))
    rw [List.flatMap_cons, List.length_append, List.length_cons]
    omega
/-- What a value that comes in is, as far as writing it asks. -/
def In (v : S24) : Prop := (-9223372036854775808 ≤ v.f1 ∧ v.f1 ≤ 9223372036854775807) ∧ v.f4.length ≤ 9223372036854775807 ∧ ∀ x ∈ v.f4, (-9223372036854775808 ≤ x.f1 ∧ x.f1 ≤ 9223372036854775807) ∧ x.f4.length ≤ 9223372036854775807
theorem In.of {v : S24} (h : Wf24 v) : In v := by
  have h1 := h.out
  refine ⟨bounds_i64 h1.2.1, ?_, fun x hx => ?_⟩
  · have := h1.2.2.2.2.1
    unfold maxLen at this
    exact this
  · have h2 := (h1.2.2.2.2.2.2 x hx).out
    refine ⟨bounds_i64 h2.2.1, ?_⟩
    have := h2.2.2.2.2.1
    unfold maxLen at this
    exact this
theorem encV_len {v : S24} (h : plainB v = true) (hi : In v) : (encV v).length ≤ 1000 := by
  unfold encV
  split
  · rename_i h4
    obtain ⟨a, b, c, d⟩ := plain_rec h h4
    have h1 := putU_len (n := v.f3.toNat) (by omega)
    have h2 := putU_len (n := v.f4.length) (by omega)
    have h3 := flat_len d (fun x hx => (hi.2.2 x hx).1)
    simp only [List.length_append, List.length_singleton]
    omega
  · rename_i h4
    have : plainB v = leafB v := by unfold plainB; rw [if_neg h4]
    have := encL_len (this ▸ h) hi.1
    omega
theorem ev_codec_put {v : S24} (h : plainB v = true) (hi : In v) : Ev (fun k => codec_put.f k v.f0 v.f1 v.f2 v.f3 v.f4) (encV v) := by
  unfold encV
  by_cases h4 : v.f0 = 4
  · rw [if_pos h4]
    obtain ⟨a, b, c, d⟩ := plain_rec h h4
    have h1 := putU_len (n := v.f3.toNat) (by omega)
    have h2 := putU_len (n := v.f4.length) (by omega)
    refine Ev.step (fun k => rfl) ?_
    simp only [codec_put.f, Option.bind_some]
    simp only [if_neg (show ¬ v.f0 = 1 by omega), if_neg (show ¬ v.f0 = 2 by omega), if_neg (show ¬ v.f0 = 3 by omega)]
    rw [u64_id (n := v.f3) (by omega) (by omega), u64_id (n := (v.f4.length : Int)) (by omega) (by omega)]
    refine Ev.bind (ev_codec_PutUint' a (by omega)) ?_
    simp only [List.length_singleton, if_pos (show 1 + (putU v.f3.toNat).length < 140737488355328 by omega)]
    refine Ev.bind (ev_codec_PutUint (by omega)) ?_
    simp only [List.length_append, List.length_singleton, if_pos (show 1 + (putU v.f3.toNat).length + (putU v.f4.length).length < 140737488355328 by omega)]
    have := ev_codec_put_l0 v.f4 c d (fun x hx => (hi.2.2 x hx).1) v.f4.length 0 ([v.f0 % 256] ++ putU v.f3.toNat ++ putU v.f4.length) (by omega) (by simp only [List.length_append, List.length_singleton]; omega)
    rw [List.drop_zero] at this
    exact this
  · rw [if_neg h4]
    have : plainB v = leafB v := by unfold plainB; rw [if_neg h4]
    exact ev_codec_put_leaf (this ▸ h) hi.1
theorem ev_codec_PutValue {v : S24} (hi : In v) : Ev (fun k => codec_PutValue.f k v.f0 v.f1 v.f2 v.f3 v.f4) (pv v) := by
  unfold codec_PutValue.f pv
  refine Ev.bind (ev_codec_Plain v hi.2.1) ?_
  by_cases h : plainB v = true
  · simp only [if_pos h]
    exact Ev.bind (ev_codec_put h hi) (Ev.now _)
  · simp only [if_neg h]
    exact Ev.now _

/-! ### the reference's -/
theorem ev_ref_PutValue_leaf {v : S24} (h : leafB v = true) (h4 : v.f0 ≠ 4) (hl : v.f4.length ≤ 9223372036854775807) (hf : -9223372036854775808 ≤ v.f1 ∧ v.f1 ≤ 9223372036854775807) : Ev (fun k => windlassref2_PutValue.f k v.f0 v.f1 v.f2 v.f3 v.f4) (encL v, 0) := by
  have h1 := putU_len (zig_lt hf.1 hf.2)
  have h2 := leaf_kind h
  have hp : plainB v = true := by unfold plainB; rw [if_neg h4]; exact h
  refine Ev.step (fun k => rfl) ?_
  simp only [windlassref2_PutValue.f, Option.bind_some]
  refine Ev.bind (ev_ref_Plain v hl) ?_
  simp only [if_pos hp]
  unfold encL
  by_cases k1 : v.f0 = 1
  · simp only [if_pos k1]
    refine Ev.bind (ev_ref_PutInt hf.1 hf.2) ?_
    simp only [List.length_singleton, if_pos (show 1 + (putU (zig v.f1)).length < 140737488355328 by omega)]
    exact Ev.now _
  · simp only [if_neg k1]
    by_cases k2 : v.f0 = 2
    · have hs : v.f2.size ≤ 64 := by omega
      have hp := putU_len (n := v.f2.size) (by omega)
      simp only [if_pos k2]
      refine Ev.bind (ev_ref_PutText (by omega)) ?_
      simp only [List.length_singleton, List.length_append, bytesOf_length, if_pos (show 1 + ((putU v.f2.size).length + v.f2.size) < 140737488355328 by omega)]
      exact Ev.now _
    · have k3 : v.f0 = 3 := by omega
      simp only [if_neg k2, if_pos k3, List.length_singleton, if_pos (show 1 < 140737488355328 by omega)]
      exact Ev.now _
theorem ev_ref_PutValue_l0 (v : S24) (hl : v.f4.length ≤ 12) (hp : v.f4.all fieldB = true) (hi : In v) : ∀ (d i : Nat) (acc : List Int), i + d = v.f4.length → acc.length + 80 * d < 100000 →
    Ev (fun k => windlassref2_PutValue.l0 k acc (i : Int) v.f0 v.f1 v.f2 v.f3 v.f4) (acc ++ (v.f4.drop i).flatMap encL, 0) := by
  intro d
  induction d with
  | zero =>
    intro i acc hi' ha
    refine Ev.step (fun k => rfl) ?_
    simp only [windlassref2_PutValue.l0]
    simp only [if_neg (show ¬ ((i : Int) < (v.f4.length : Int)) by omega)]
    rw [List.drop_eq_nil_of_le (by omega)]
    exact ev_eq (by simp)
  | succ d ih =>
    intro i acc hi' ha
    have hlt : i < v.f4.length := by omega
    refine Ev.step (fun k => rfl) ?_
    simp only [windlassref2_PutValue.l0]
    have e1 : wrap64 ((i : Int) + 1) = ((i + 1 : Nat) : Int) := by rw [w64_id (by omega) (by omega)]; omega
    simp only [if_pos (show ((i : Int) < (v.f4.length : Int)) by omega), if_pos (show (0 : Int) ≤ (i : Int) by omega), e1]
    have hm := rdT_mem hlt
    have hb := List.all_eq_true.1 hp _ hm
    simp only [fieldB, Bool.and_eq_true, decide_eq_true_eq] at hb
    have hlen := encL_len hb.2 (hi.2.2 _ hm).1
    refine Ev.bind (ev_ref_PutValue_leaf hb.2 hb.1 (hi.2.2 _ hm).2 (hi.2.2 _ hm).1) ?_
    simp only [if_pos (show acc.length + (encL (rd_T24 v.f4 (i : Int))).length < 140737488355328 by omega)]
    rw [rdT_drop hlt, List.flatMap_cons, ← List.append_assoc]
    exact ih (i + 1) _ (by omega) (by simp; omega)
theorem ev_ref_PutValue {v : S24} (hi : In v) : Ev (fun k => windlassref2_PutValue.f k v.f0 v.f1 v.f2 v.f3 v.f4) (pv v) := by
  unfold pv
  by_cases h : plainB v = true
  · rw [if_pos h]
    unfold encV
    by_cases h4 : v.f0 = 4
    · rw [if_pos h4]
      obtain ⟨a, b, c, d⟩ := plain_rec h h4
      have h1 := putU_len (n := v.f3.toNat) (by omega)
      have h2 := putU_len (n := v.f4.length) (by omega)
      refine Ev.step (fun k => rfl) ?_
      simp only [windlassref2_PutValue.f, Option.bind_some]
      refine Ev.bind (ev_ref_Plain v hi.2.1) ?_
      simp only [if_pos h]
      simp only [if_neg (show ¬ v.f0 = 1 by omega), if_neg (show ¬ v.f0 = 2 by omega), if_neg (show ¬ v.f0 = 3 by omega)]
      rw [u64_id (n := v.f3) (by omega) (by omega), u64_id (n := (v.f4.length : Int)) (by omega) (by omega)]
      refine Ev.bind (ev_ref_PutUint' a (by omega)) ?_
      simp only [List.length_singleton, if_pos (show 1 + (putU v.f3.toNat).length < 140737488355328 by omega)]
      refine Ev.bind (ev_ref_PutUint (by omega)) ?_
      simp only [List.length_append, List.length_singleton, if_pos (show 1 + (putU v.f3.toNat).length + (putU v.f4.length).length < 140737488355328 by omega)]
      have := ev_ref_PutValue_l0 v c d hi v.f4.length 0 ([v.f0 % 256] ++ putU v.f3.toNat ++ putU v.f4.length) (by omega) (by simp only [List.length_append, List.length_singleton]; omega)
      rw [List.drop_zero] at this
      exact this
    · rw [if_neg h4]
      have : plainB v = leafB v := by unfold plainB; rw [if_neg h4]
      exact ev_ref_PutValue_leaf (this ▸ h) h4 hi.2.1 hi.1
  · rw [if_neg h]
    refine Ev.step (fun k => rfl) ?_
    simp only [windlassref2_PutValue.f]
    refine Ev.bind (ev_ref_Plain v hi.2.1) ?_
    simp only [if_neg h]
    exact Ev.now _

/-! ### events -/
def pe (s : ByteArray) (l : List S24) : List Int × Int :=
  if s.size < 1 ∨ s.size > 20 ∨ l.length > 12 then ([], 20) else if l.all plainB = true then (putU s.size ++ bytesOf s ++ putU l.length ++ l.flatMap encV, 0) else ([], 20)
theorem ev_codec_PutEvent_l0 (l : List S24) (hl : l.length ≤ 12) (hi : ∀ v ∈ l, In v) : ∀ (d i : Nat) (acc : List Int), i + d = l.length → acc.length + 1000 * d < 100000 →
    Ev (fun k => codec_PutEvent.l0 k acc l (l.length : Int) (i : Int)) (if (l.drop i).all plainB = true then (acc ++ (l.drop i).flatMap encV, 0) else ([], 20)) := by
  intro d
  induction d with
  | zero =>
    intro i acc hi' ha
    refine Ev.step (fun k => rfl) ?_
    simp only [codec_PutEvent.l0]
    simp only [if_neg (show ¬ ((i : Int) < (l.length : Int)) by omega)]
    rw [List.drop_eq_nil_of_le (by omega)]
    exact ev_eq (by simp)
  | succ d ih =>
    intro i acc hi' ha
    have hlt : i < l.length := by omega
    refine Ev.step (fun k => rfl) ?_
    simp only [codec_PutEvent.l0]
    have e1 : wrap64 ((i : Int) + 1) = ((i + 1 : Nat) : Int) := by rw [w64_id (by omega) (by omega)]; omega
    simp only [if_pos (show ((i : Int) < (l.length : Int)) by omega), if_pos (show (0 : Int) ≤ (i : Int) by omega), e1]
    have hm := hi _ (rdT_mem hlt)
    refine Ev.bind (ev_codec_PutValue hm) ?_
    rw [rdT_drop hlt, List.all_cons, List.flatMap_cons]
    unfold pv
    by_cases hp : plainB (rd_T24 l (i : Int)) = true
    · have hlen := encV_len hp hm
      simp only [if_pos hp, if_true, hp, Bool.true_and, if_pos (show acc.length + (encV (rd_T24 l (i : Int))).length < 140737488355328 by omega)]
      rw [← List.append_assoc]
      exact ih (i + 1) _ (by omega) (by simp; omega)
    · simp only [if_neg hp, if_neg (show ¬ ((20 : Int) = 0) by decide)]
      exact ev_eq (by simp [hp])
theorem ev_codec_PutEvent {s : ByteArray} {l : List S24} (hs : s.size ≤ 140737488351232) (hl : l.length ≤ 9223372036854775807) (hi : ∀ v ∈ l, In v) : Ev (fun k => codec_PutEvent.f k s l) (pe s l) := by
  have hj : ∀ b : Bool, (b = false → s.size ≤ 20 ∧ l.length ≤ 12) → Ev (fun k => codec_PutEvent.j0 k b s l) (if b = true then ([], 20) else if l.all plainB = true then (putU s.size ++ bytesOf s ++ putU l.length ++ l.flatMap encV, 0) else ([], 20)) := by
    intro b hb
    refine Ev.step (fun k => rfl) ?_
    simp only [codec_PutEvent.j0]
    cases b
    · obtain ⟨h1, h2⟩ := hb rfl
      have p1 := putU_len (n := s.size) (by omega)
      have p2 := putU_len (n := l.length) (by omega)
      simp only [if_neg (show ¬ (false = true) by decide)]
      rw [u64_id (n := (l.length : Int)) (by omega) (by omega)]
      refine Ev.bind (ev_codec_PutText hs) ?_
      refine Ev.bind (ev_codec_PutUint (by omega)) ?_
      simp only [List.length_append, bytesOf_length, if_pos (show (putU s.size).length + s.size + (putU l.length).length < 140737488355328 by omega)]
      have := ev_codec_PutEvent_l0 l h2 hi l.length 0 (putU s.size ++ bytesOf s ++ putU l.length) (by omega) (by simp only [List.length_append, bytesOf_length]; omega)
      rw [List.drop_zero] at this
      exact this
    · simp only [if_true]
      exact Ev.now _
  unfold codec_PutEvent.f pe
  by_cases h1 : s.size < 1
  · simp only [if_pos (show (s.size : Int) < 1 by omega)]
    rw [if_pos (.inl h1)]
    exact hj true (by simp)
  · simp only [if_neg (show ¬ ((s.size : Int) < 1) by omega)]
    by_cases h2 : s.size > 20
    · simp only [if_pos (show (s.size : Int) > 20 by omega)]
      rw [if_pos (.inr (.inl h2))]
      exact hj true (by simp)
    · simp only [if_neg (show ¬ ((s.size : Int) > 20) by omega)]
      by_cases h3 : l.length > 12
      · rw [if_pos (.inr (.inr h3)), decide_eq_true (show ((l.length : Int) > 12) by omega)]
        exact hj true (by simp)
      · rw [if_neg (by omega), decide_eq_false (show ¬ ((l.length : Int) > 12) by omega)]
        exact hj false (fun _ => ⟨by omega, by omega⟩)
theorem ev_ref_PutEvent_l0 (s : ByteArray) (l : List S24) (hl : l.length ≤ 12) (hi : ∀ v ∈ l, In v) : ∀ (d i : Nat) (acc : List Int), i + d = l.length → acc.length + 1000 * d < 100000 →
    Ev (fun k => windlassref2_PutEvent.l0 k acc (i : Int) s l) (if (l.drop i).all plainB = true then (acc ++ (l.drop i).flatMap encV, 0) else ([], 20)) := by
  intro d
  induction d with
  | zero =>
    intro i acc hi' ha
    refine Ev.step (fun k => rfl) ?_
    simp only [windlassref2_PutEvent.l0]
    simp only [if_neg (show ¬ ((i : Int) < (l.length : Int)) by omega)]
    rw [List.drop_eq_nil_of_le (by omega)]
    exact ev_eq (by simp)
  | succ d ih =>
    intro i acc hi' ha
    have hlt : i < l.length := by omega
    refine Ev.step (fun k => rfl) ?_
    simp only [windlassref2_PutEvent.l0]
    have e1 : wrap64 ((i : Int) + 1) = ((i + 1 : Nat) : Int) := by rw [w64_id (by omega) (by omega)]; omega
    simp only [if_pos (show ((i : Int) < (l.length : Int)) by omega), if_pos (show (0 : Int) ≤ (i : Int) by omega), e1]
    have hm := hi _ (rdT_mem hlt)
    refine Ev.bind (ev_ref_PutValue hm) ?_
    rw [rdT_drop hlt, List.all_cons, List.flatMap_cons]
    unfold pv
    by_cases hp : plainB (rd_T24 l (i : Int)) = true
    · have hlen := encV_len hp hm
      simp only [if_pos hp, if_true, hp, Bool.true_and, if_pos (show acc.length + (encV (rd_T24 l (i : Int))).length < 140737488355328 by omega)]
      rw [← List.append_assoc]
      exact ih (i + 1) _ (by omega) (by simp; omega)
    · simp only [if_neg hp, if_neg (show ¬ ((20 : Int) = 0) by decide)]
      exact ev_eq (by simp [hp])
theorem ev_ref_PutEvent {s : ByteArray} {l : List S24} (hs : s.size ≤ 140737488351232) (hl : l.length ≤ 9223372036854775807) (hi : ∀ v ∈ l, In v) : Ev (fun k => windlassref2_PutEvent.f k s l) (pe s l) := by
  have hj : ∀ b : Bool, (b = false → s.size ≤ 20 ∧ l.length ≤ 12) → Ev (fun k => windlassref2_PutEvent.j0 k b s l) (if b = true then ([], 20) else if l.all plainB = true then (putU s.size ++ bytesOf s ++ putU l.length ++ l.flatMap encV, 0) else ([], 20)) := by
    intro b hb
    refine Ev.step (fun k => rfl) ?_
    simp only [windlassref2_PutEvent.j0]
    cases b
    · obtain ⟨h1, h2⟩ := hb rfl
      have p1 := putU_len (n := s.size) (by omega)
      have p2 := putU_len (n := l.length) (by omega)
      simp only [if_neg (show ¬ (false = true) by decide)]
      rw [u64_id (n := (l.length : Int)) (by omega) (by omega)]
      refine Ev.bind (ev_ref_PutText hs) ?_
      refine Ev.bind (ev_ref_PutUint (by omega)) ?_
      simp only [List.length_append, bytesOf_length, if_pos (show (putU s.size).length + s.size + (putU l.length).length < 140737488355328 by omega)]
      have := ev_ref_PutEvent_l0 s l h2 hi l.length 0 (putU s.size ++ bytesOf s ++ putU l.length) (by omega) (by simp only [List.length_append, bytesOf_length]; omega)
      rw [List.drop_zero] at this
      exact this
    · simp only [if_true]
      exact Ev.now _
  unfold windlassref2_PutEvent.f pe
  by_cases h1 : s.size < 1
  · simp only [if_pos (show (s.size : Int) < 1 by omega)]
    rw [if_pos (.inl h1)]
    exact hj true (by simp)
  · simp only [if_neg (show ¬ ((s.size : Int) < 1) by omega)]
    by_cases h2 : s.size > 20
    · simp only [if_pos (show (s.size : Int) > 20 by omega)]
      rw [if_pos (.inr (.inl h2))]
      exact hj true (by simp)
    · simp only [if_neg (show ¬ ((s.size : Int) > 20) by omega)]
      by_cases h3 : l.length > 12
      · rw [if_pos (.inr (.inr h3)), decide_eq_true (show ((l.length : Int) > 12) by omega)]
        exact hj true (by simp)
      · rw [if_neg (by omega), decide_eq_false (show ¬ ((l.length : Int) > 12) by omega)]
        exact hj false (fun _ => ⟨by omega, by omega⟩)

/-! ### the guards come to an end -/
theorem ev_Small_l1 (v : S24) (hi : In v) (i : Nat) (hlt : i < v.f4.length) (hnext : ∃ b, Ev (fun k => windlasshelp_Small.l0 k (((i + 1 : Nat) : Int)) v.f0 v.f1 v.f2 v.f3 v.f4) b) :
    ∀ d j : Nat, j + d = (rd_T24 v.f4 (i : Int)).f4.length → ∃ b, Ev (fun k => windlasshelp_Small.l1 k (i : Int) (j : Int) v.f0 v.f1 v.f2 v.f3 v.f4) b := by
  have hb := hi.2.1
  have hb2 := (hi.2.2 _ (rdT_mem hlt)).2
  have e1 : wrap64 ((i : Int) + 1) = ((i + 1 : Nat) : Int) := by rw [w64_id (by omega) (by omega)]; omega
  intro d
  induction d with
  | zero =>
    intro j hj
    obtain ⟨b, h⟩ := hnext
    refine ⟨b, Ev.step (fun k => rfl) ?_⟩
    simp only [windlasshelp_Small.l1]
    simp only [if_pos (show (0 : Int) ≤ (i : Int) by omega), if_pos (show ((i : Int) < (v.f4.length : Int)) by omega), if_neg (show ¬ ((j : Int) < ((rd_T24 v.f4 (i : Int)).f4.length : Int)) by omega), e1]
    exact h
  | succ d ih =>
    intro j hj
    have e2 : wrap64 ((j : Int) + 1) = ((j + 1 : Nat) : Int) := by rw [w64_id (by omega) (by omega)]; omega
    by_cases c1 : ((rd_T24 (rd_T24 v.f4 (i : Int)).f4 (j : Int)).f4.length : Int) > 0
    · refine ⟨false, Ev.step (fun k => rfl) ?_⟩
      simp only [windlasshelp_Small.l1]
      simp only [if_pos (show (0 : Int) ≤ (i : Int) by omega), if_pos (show ((i : Int) < (v.f4.length : Int)) by omega), if_pos (show ((j : Int) < ((rd_T24 v.f4 (i : Int)).f4.length : Int)) by omega), if_pos (show (0 : Int) ≤ (j : Int) by omega), if_pos c1]
      exact Ev.now _
    · by_cases c2 : ((rd_T24 (rd_T24 v.f4 (i : Int)).f4 (j : Int)).f2.size : Int) > 300
      · refine ⟨false, Ev.step (fun k => rfl) ?_⟩
        simp only [windlasshelp_Small.l1]
        simp only [if_pos (show (0 : Int) ≤ (i : Int) by omega), if_pos (show ((i : Int) < (v.f4.length : Int)) by omega), if_pos (show ((j : Int) < ((rd_T24 v.f4 (i : Int)).f4.length : Int)) by omega), if_pos (show (0 : Int) ≤ (j : Int) by omega), if_neg c1, if_pos c2]
        exact Ev.now _
      · obtain ⟨b, h⟩ := ih (j + 1) (by omega)
        refine ⟨b, Ev.step (fun k => rfl) ?_⟩
        simp only [windlasshelp_Small.l1]
        simp only [if_pos (show (0 : Int) ≤ (i : Int) by omega), if_pos (show ((i : Int) < (v.f4.length : Int)) by omega), if_pos (show ((j : Int) < ((rd_T24 v.f4 (i : Int)).f4.length : Int)) by omega), if_pos (show (0 : Int) ≤ (j : Int) by omega), if_neg c1, if_neg c2, e2]
        exact h
theorem ev_Small_l0 (v : S24) (hi : In v) : ∀ d i : Nat, i + d = v.f4.length → ∃ b, Ev (fun k => windlasshelp_Small.l0 k (i : Int) v.f0 v.f1 v.f2 v.f3 v.f4) b := by
  intro d
  have hb := hi.2.1
  induction d with
  | zero =>
    intro i hi'
    refine ⟨true, Ev.step (fun k => rfl) ?_⟩
    simp only [windlasshelp_Small.l0]
    simp only [if_neg (show ¬ ((i : Int) < (v.f4.length : Int)) by omega)]
    exact Ev.now _
  | succ d ih =>
    intro i hi'
    have hlt : i < v.f4.length := by omega
    have hj2 : ∀ c : Bool, ∃ b, Ev (fun k => windlasshelp_Small.j2 k (i : Int) c v.f0 v.f1 v.f2 v.f3 v.f4) b := by
      intro c
      cases c
      · obtain ⟨b, h⟩ := ev_Small_l1 v hi i hlt (ih (i + 1) (by omega)) _ 0 (Nat.zero_add _)
        refine ⟨b, Ev.step (fun k => rfl) ?_⟩
        simp only [windlasshelp_Small.j2]
        simp only [if_neg (show ¬ (false = true) by decide)]
        exact h
      · refine ⟨false, Ev.step (fun k => rfl) ?_⟩
        simp only [windlasshelp_Small.j2, if_true]
        exact Ev.now _
    by_cases c : ((rd_T24 v.f4 (i : Int)).f2.size : Int) > 300
    · obtain ⟨b, h⟩ := hj2 true
      refine ⟨b, Ev.step (fun k => rfl) ?_⟩
      simp only [windlasshelp_Small.l0]
      simp only [if_pos (show ((i : Int) < (v.f4.length : Int)) by omega), if_pos (show (0 : Int) ≤ (i : Int) by omega), if_pos c]
      exact h
    · obtain ⟨b, h⟩ := hj2 (decide (((rd_T24 v.f4 (i : Int)).f4.length : Int) > 3))
      refine ⟨b, Ev.step (fun k => rfl) ?_⟩
      simp only [windlasshelp_Small.l0]
      simp only [if_pos (show ((i : Int) < (v.f4.length : Int)) by omega), if_pos (show (0 : Int) ≤ (i : Int) by omega), if_neg c]
      exact h
theorem ev_Small {v : S24} (hi : In v) : ∃ b, Ev (fun k => windlasshelp_Small.f k v.f0 v.f1 v.f2 v.f3 v.f4) b := by
  have hj : ∀ c : Bool, ∃ b, Ev (fun k => windlasshelp_Small.j0 k c v.f0 v.f1 v.f2 v.f3 v.f4) b := by
    intro c
    cases c
    · obtain ⟨b, h⟩ := ev_Small_l0 v hi _ 0 (Nat.zero_add _)
      refine ⟨b, Ev.step (fun k => rfl) ?_⟩
      simp only [windlasshelp_Small.j0]
      simp only [if_neg (show ¬ (false = true) by decide)]
      exact h
    · refine ⟨false, Ev.step (fun k => rfl) ?_⟩
      simp only [windlasshelp_Small.j0, if_true]
      exact Ev.now _
  unfold windlasshelp_Small.f
  by_cases c : (v.f2.size : Int) > 300
  · simp only [if_pos c]; exact hj _
  · simp only [if_neg c]; exact hj _
theorem ev_Smalls_l0 (l : List S24) (hl : l.length ≤ 9223372036854775807) (hi : ∀ v ∈ l, In v) : ∀ d i : Nat, i + d = l.length → ∃ b, Ev (fun k => windlasshelp_Smalls.l0 k l (i : Int)) b ∧ (b = true → l.length ≤ 20) := by
  intro d
  induction d with
  | zero =>
    intro i hi'
    refine ⟨decide ((l.length : Int) ≤ 20), Ev.step (fun k => rfl) ?_, fun h => by have := of_decide_eq_true h; omega⟩
    simp only [windlasshelp_Smalls.l0]
    simp only [if_neg (show ¬ ((i : Int) < (l.length : Int)) by omega)]
    exact Ev.now _
  | succ d ih =>
    intro i hi'
    have hlt : i < l.length := by omega
    have e1 : wrap64 ((i : Int) + 1) = ((i + 1 : Nat) : Int) := by rw [w64_id (by omega) (by omega)]; omega
    obtain ⟨b, hb⟩ := ev_Small (hi _ (rdT_mem hlt))
    cases b with
    | false =>
      refine ⟨false, Ev.step (fun k => rfl) ?_, by simp⟩
      simp only [windlasshelp_Smalls.l0]
      simp only [if_pos (show ((i : Int) < (l.length : Int)) by omega), if_pos (show (0 : Int) ≤ (i : Int) by omega)]
      refine Ev.bind hb ?_
      simp only [if_neg (show ¬ (false = true) by decide)]
      exact Ev.now _
    | true =>
      obtain ⟨c, hc, hq⟩ := ih (i + 1) (by omega)
      refine ⟨c, Ev.step (fun k => rfl) ?_, hq⟩
      simp only [windlasshelp_Smalls.l0]
      simp only [if_pos (show ((i : Int) < (l.length : Int)) by omega), if_pos (show (0 : Int) ≤ (i : Int) by omega), e1]
      refine Ev.bind hb ?_
      simp only [if_true]
      exact hc
theorem ev_Smalls {l : List S24} (hl : l.length ≤ 9223372036854775807) (hi : ∀ v ∈ l, In v) : ∃ b, Ev (fun k => windlasshelp_Smalls.f k l) b ∧ (b = true → l.length ≤ 20) := by
  unfold windlasshelp_Smalls.f
  exact ev_Smalls_l0 l hl hi _ 0 (Nat.zero_add _)
theorem bytes_same (a : List Int) : windlasshelp_Bytes.f a a = some true := by
  unfold windlasshelp_Bytes.f
  rw [beq_self_eq_true]
end Go.Proofs.Ythbnblmnamckmaa.Q
