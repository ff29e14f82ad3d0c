/-
  What a value of any kind that comes in reads as: for each kind of the print's words, that the row's reading of it gives a plain value, the reading fact and its bounds. Conditions: none but those named in each lemma.
-/
import Derived.Test.YthnehdimjadliaaDoorWWords
import Derived.SizedLaws
import Derived.ChangeArms
import Derived.DataReads
import Derived.ChangeSlices
import Derived.Scope
namespace Go.Proofs.YthnehdimjadliaaDoor.Opn
open Go.Proofs.YthnehdimjadliaaDoorW.PrintWords
set_option linter.unusedVariables false
set_option linter.unusedSimpArgs false

/-- What reads at type T with so much fuel is of the kind d, and wf holds of it. -/
def Op {α : Type} (P : Program) (T : TypeId) (d : Kd α) (wf : α → Prop) (fuel : Nat) : Prop :=
  ∀ {H : Type} (enc : TypeId × Value → H) (w : World) (base : Nat) (spare : Nat → Bool) (held : Bool) (cs : List Value) (D : DataW H) (ps : List MemPlace),
    DataW.trod enc P w base spare held fuel T cs = some (D, ps) → (∀ n ∈ D.weights P T, n ≤ reachBytes) → ∃ x, d.K w x cs ∧ wf x

section
variable {P : Program} {T : TypeId} {fuel : Nat}

theorem op_int {k : IntKind} (hu : P.underlying T = some (.int k)) (fuel : Nat) : Op P T (Kd.int k) (fun n => (Lit.int k n).wf = true) fuel := by
  intro H enc w base spare held cs D ps h _
  obtain ⟨n, rfl, _, hw⟩ := DataW.trod_int hu h
  exact ⟨n, rfl, hw⟩

theorem op_bool (hu : P.underlying T = some .bool) (fuel : Nat) : Op P T Kd.bool (fun _ => True) fuel := by
  intro H enc w base spare held cs D ps h _
  obtain ⟨b, rfl, _⟩ := DataW.trod_bool hu h
  exact ⟨b, rfl, trivial⟩

theorem op_string (hu : P.underlying T = some .string) (fuel : Nat) : Op P T Kd.string (fun s => s.size ≤ 140737488351232) fuel := by
  intro H enc w base spare held cs D ps h hw
  obtain ⟨s, rfl, hx, _⟩ := DataW.trod_string hu h
  obtain ⟨rfl, _⟩ := Prod.mk.inj hx
  refine ⟨s, rfl, ?_⟩
  have h1 := hw s.data.toList.length (by unfold DataW.weights; exact List.mem_singleton.2 rfl)
  have h2 : s.size = s.data.toList.length := by rw [Array.length_toList]; rfl
  have h3 : s.size ≤ reachBytes := by rw [h2]; exact h1
  exact h3

theorem choose_list {α : Type} {Q : Nat → α → Prop} (n : Nat) (h : ∀ i, i < n → ∃ x, Q i x) : ∃ l : List α, l.length = n ∧ ∀ i p, l[i]? = some p → Q i p := by
  induction n with
  | zero => exact ⟨[], rfl, fun i p hp => by simp at hp⟩
  | succ n ih =>
    obtain ⟨l, hl, hq⟩ := ih (fun i hi => h i (by omega))
    obtain ⟨x, hx⟩ := h n (by omega)
    refine ⟨l ++ [x], by simp [hl], fun i p hp => ?_⟩
    rw [List.getElem?_append] at hp
    split at hp
    · exact hq i p hp
    · rename_i hi
      have : i = n := by
        have := (List.getElem?_eq_some_iff.1 hp).1
        simp at this
        omega
      subst this
      rw [hl, Nat.sub_self] at hp
      simp at hp
      subst hp
      exact hx

theorem add_add (a : Addr) (m j : Nat) : (a.add m).add j = a.add (m + j) := by
  unfold Addr.add
  by_cases hm : m = 0 <;> by_cases hj : j = 0 <;> simp [hm, hj, Nat.add_assoc]

theorem weights_all {H : Type} {e : TypeId} : ∀ {l : List (DataW H)} {d : DataW H}, d ∈ l → ∀ n ∈ d.weights P e, n ∈ DataW.weightsAll P e l
  | d0 :: l, d, hd, n, hn => by
    simp only [DataW.weightsAll, List.mem_append]
    rcases List.mem_cons.1 hd with rfl | hd
    · exact .inl hn
    · exact .inr (weights_all hd n hn)

theorem op_slice {α : Type} {e : TypeId} {d : Kd α} {wf : α → Prop} {B : Nat} (hu : P.underlying T = some (.slice e)) (hc : P.cellsOf e = d.sz) (hB : P.bytesOf e = B) (h : ∀ n, n < fuel → Op P e d wf n) :
    Op P T (Kd.slice e d) (fun l => l.length ≤ maxLen ∧ l.length * B ≤ 140737488351232 ∧ ∀ x ∈ l, wf x) fuel := by
  intro H enc w base spare held cs D ps ht hw
  rcases DataW.trod_slice hu ht with ⟨rfl, _⟩ | ⟨a, len, cap, elems, rest, n, rfl, rfl, hx, hb, hl, hm, hel, hat, _, _⟩
  · exact ⟨[], ⟨none, 0, rfl, Nat.le_refl _, rfl, by simp, fun h => absurd h (Nat.lt_irrefl _)⟩, by simp, by simp, by simp⟩
  · obtain ⟨rfl, _⟩ := Prod.mk.inj hx
    have hwe : ∀ i (hi : i < elems.length), ∀ m ∈ (elems[i]).1.weights P e, m ≤ reachBytes := by
      intro i hi m hmm
      refine hw m ?_
      simp only [DataW.weights, hu, List.mem_cons, List.mem_append]
      exact .inr (.inl (weights_all (List.mem_map.2 ⟨elems[i], List.getElem_mem hi, rfl⟩) m hmm))
    obtain ⟨l, hll, hlq⟩ := choose_list (Q := fun i x => wf x ∧ ∃ c, c.length = d.sz ∧ d.K w x c ∧ ∀ j u, c[j]? = some u → w.cell? (a.add (i * d.sz + j)) = some u) len (fun i hi => by
      have hi' : i < elems.length := by omega
      have := hat i hi
      rw [List.getElem?_eq_getElem hi', Option.bind_eq_some_iff] at this
      obtain ⟨c, hcc, htr⟩ := this
      obtain ⟨x, hK, hwf⟩ := h n (Nat.lt_succ_self _) enc w base spare held c _ _ htr (hwe i hi')
      obtain ⟨_, hcl, hcell⟩ := World.cells?_some hcc
      refine ⟨x, hwf, c, by rw [hcl, hc], hK, fun j u hju => ?_⟩
      have hj : j < P.cellsOf e := by
        have := (List.getElem?_eq_some_iff.1 hju).1
        omega
      rw [← hc, ← add_add, hcell j hj, hju])
    refine ⟨l, ⟨some a, cap, by rw [hll], by omega, ?_⟩, by omega, ?_, ?_⟩
    · refine ⟨rfl, ?_, fun _ => ⟨a, rfl, fun j p hp => (hlq j p hp).2⟩⟩
      have : len ≤ maxLen := Nat.le_trans hl hm
      rw [hll]
      simpa [maxLen] using this
    · have hz := hw (((elems.map (·.1)).length + (rest.map (·.1)).length) * P.bytesOf e) (by simp [DataW.weights, hu])
      rw [hB] at hz
      have : len * B ≤ ((elems.map (·.1)).length + (rest.map (·.1)).length) * B := Nat.mul_le_mul_right _ (by simp; omega)
      rw [hll]
      exact Nat.le_trans this hz
    · intro x hx
      obtain ⟨i, hi, rfl⟩ := List.getElem_of_mem hx
      exact (hlq i _ (List.getElem?_eq_getElem hi)).1

/-- The same of fields, from the cell off on, of N in all. -/
def OpF {α : Type} (P : Program) (fs : List Field) (off N : Nat) (d : Kd α) (wf : α → Prop) (n : Nat) : Prop :=
  ∀ {H : Type} (enc : TypeId × Value → H) (w : World) (base : Nat) (spare : Nat → Bool) (held : Bool) (cs : List Value) (xs : List (DataW H × List MemPlace)),
    cs.length = N → xs.length = fs.length → (∀ (i : Nat) (f : Field), fs[i]? = some f → DataW.trod enc P w base spare held n f.type ((cs.drop f.offset).take (P.cellsOf f.type)) = xs[i]?) →
    (∀ m ∈ DataW.weightsEach P (fs.map (·.type)) (xs.map (·.1)), m ≤ reachBytes) → ∃ x, d.K w x (cs.drop off) ∧ wf x

theorem opF_last {α : Type} {f : Field} {off N : Nat} {d : Kd α} {wf : α → Prop} {n : Nat} (ho : f.offset = off) (hN : N = off + P.cellsOf f.type) (h : Op P f.type d wf n) : OpF P [f] off N d wf n := by
  intro H enc w base spare held cs xs hl hx hf hw
  obtain ⟨x0, rfl⟩ : ∃ x0, xs = [x0] := by
    cases xs with
    | nil => simp at hx
    | cons a t => cases t with | nil => exact ⟨a, rfl⟩ | cons b t => simp at hx
  have h0 := hf 0 f rfl
  rw [ho, List.take_of_length_le (by rw [List.length_drop]; omega)] at h0
  exact h enc w base spare held _ x0.1 x0.2 h0 (fun m hm => hw m (by simpa [DataW.weightsEach] using hm))

theorem opF_cons {α β : Type} {f : Field} {fs : List Field} {off off' N : Nat} {d : Kd α} {d' : Kd β} {wf : α → Prop} {wf' : β → Prop} {n : Nat} (ho : f.offset = off) (ho' : off' = off + P.cellsOf f.type) (h : Op P f.type d wf n) (hF : OpF P fs off' N d' wf' n) :
    OpF P (f :: fs) off N (Kd.pair d d') (fun x => wf x.1 ∧ wf' x.2) n := by
  intro H enc w base spare held cs xs hl hx hf hw
  cases xs with
  | nil => simp at hx
  | cons x0 xs =>
    have h0 := hf 0 f rfl
    rw [ho] at h0
    obtain ⟨x, hK, hwf⟩ := h enc w base spare held _ x0.1 x0.2 h0 (fun m hm => hw m (by simp only [List.map_cons, DataW.weightsEach, List.mem_append]; exact .inl hm))
    obtain ⟨y, hK', hwf'⟩ := hF enc w base spare held cs xs hl (by simpa using hx) (fun i g hg => by simpa using hf (i + 1) g (by simpa using hg)) (fun m hm => hw m (by simp only [List.map_cons, DataW.weightsEach, List.mem_append]; exact .inr hm))
    refine ⟨(x, y), ⟨_, _, ?_, hK, hK'⟩, hwf, hwf'⟩
    rw [ho', ← List.drop_drop, List.take_append_drop]

theorem op_struct {α : Type} {fs : Array Field} {N : Nat} {d : Kd α} {wf : α → Prop} (hu : P.underlying T = some (.struct fs)) (hN : P.cellsOf T = N) (h : ∀ n, n < fuel → OpF P fs.toList 0 N d wf n) : Op P T d wf fuel := by
  intro H enc w base spare held cs D ps ht hw
  obtain ⟨xs, n, rfl, hx, hl, hxl, hf⟩ := DataW.trod_struct hu ht
  obtain ⟨rfl, _⟩ := Prod.mk.inj hx
  have := h n (Nat.lt_succ_self _) enc w base spare held cs xs (by omega) (by simpa using hxl) (fun i f hi => hf i f (by simpa using hi)) (fun m hm => hw m (by simpa only [DataW.weights, hu] using hm))
  simpa using this

theorem op_iso {α β : Type} {d : Kd α} {wf : α → Prop} (f : β → α) (g : α → β) (hfg : ∀ a, f (g a) = a) (h : Op P T d wf fuel) : Op P T (Kd.iso d f) (fun b => wf (f b)) fuel := by
  intro H enc w base spare held cs D ps ht hw
  obtain ⟨x, hK, hwf⟩ := h enc w base spare held cs D ps ht hw
  refine ⟨g x, ?_, ?_⟩
  rotate_left
  · show wf (f (g x))
    rw [hfg]
    exact hwf
  show d.K w (f (g x)) cs
  rw [hfg]
  exact hK

theorem op_imp {α : Type} {d : Kd α} {wf wf' : α → Prop} (h : Op P T d wf fuel) (hi : ∀ x, wf x → wf' x) : Op P T d wf' fuel := by
  intro H enc w base spare held cs D ps ht hw
  obtain ⟨x, hK, hwf⟩ := h enc w base spare held cs D ps ht hw
  exact ⟨x, hK, hi x hwf⟩

theorem op_zero {α : Type} (d : Kd α) (wf : α → Prop) {n : Nat} (hn : n = 0) : Op P T d wf n := by
  intro H enc w base spare held cs D ps ht hw
  subst hn
  simp [DataW.trod] at ht

theorem op_upto {α : Type} {F : Kd α → Kd α} {sz : Nat} {E : List Nat} {wf : α → Prop} (hF : ∀ d m, d.sz = sz → (∀ n, n ≤ m → Op P T d wf n) → ∀ n, n ≤ m + 1 → Op P T (F d) wf n) (hs : ∀ n, (Kd.upto F sz E n).sz = sz) :
    ∀ m n, n ≤ m → Op P T (Kd.upto F sz E m) wf n
  | 0, n, hn => op_zero _ _ (by omega)
  | m + 1, n, hn => hF (Kd.upto F sz E m) m (hs m) (fun n hn => op_upto hF hs m n hn) n hn

theorem op_fix {α : Type} {F : Kd α → Kd α} {sz : Nat} {E : List Nat} {wf : α → Prop} {hs : ∀ n, (Kd.upto F sz E n).sz = sz} {hE : ∀ n q, q ∈ (Kd.upto F sz E n).E → q ∈ E} (hF : ∀ d m, d.sz = sz → (∀ n, n ≤ m → Op P T d wf n) → ∀ n, n ≤ m + 1 → Op P T (F d) wf n) (fuel : Nat) :
    Op P T (Kd.fix F sz E hs hE) wf fuel := by
  intro H enc w base spare held cs D ps ht hw
  obtain ⟨x, hK, hwf⟩ := op_upto (E := E) hF hs fuel fuel (Nat.le_refl _) enc w base spare held cs D ps ht hw
  exact ⟨x, ⟨fuel, hK⟩, hwf⟩

/-- A row's argument. -/
theorem arg {α : Type} {d : Kd α} {wf : α → Prop} (h : ∀ fuel, Op P T d wf fuel) {H : Type} {enc : TypeId × Value → H} {w : World} {base : Nat} {spare : Nat → Bool} {held : Bool} {v : Value} {D : DataW H} {ps : List MemPlace} {ts : List TypeId} {ds : List (DataW H)} {j : Nat}
    (hsz : (DataW.weightsEach P ts ds).all (· ≤ reachBytes) = true) (ht : ts[j]? = some T) (hd : ds[j]? = some D) (hv : DataW.Trod enc P w base spare held T v D ps) : ∃ x, d.K w x v.cells.toList ∧ wf x := by
  obtain ⟨fuel, hf⟩ := hv
  exact h fuel enc w base spare held _ D ps hf (fun n hn => by
    have := List.all_eq_true.1 hsz _ (DataW.weights_mem_each ht hd n hn)
    simpa using this)
theorem agg_of {v : Value} {w : World} {base : Nat} {fs : Array Field} {r : Reach} (hu : P.underlying T = some (.struct fs)) (h : Value.okWide P w r base T v) {l : List Value} (hl : v.cells.toList = l) : v = .agg l.toArray := by
  simp only [Value.okWide, hu] at h
  obtain ⟨cs, rfl, _⟩ := h
  simp only [Value.cells] at hl
  subst hl
  simp
theorem lt_of {H : Type} {enc : TypeId × Value → H} {w : World} {base : Nat} {spare : Nat → Bool} {held : Bool} {v : Value} {D : DataW H} {ps : List MemPlace} (h : DataW.Trod enc P w base spare held T v D ps) : ∀ x ∈ ps, x.block < w.heap.size := by
  obtain ⟨m, hm⟩ := h
  exact DataW.trod_lt m _ _ _ hm
end
/-- A scope through which the run goes without a goto. -/
theorem wp_scope_nog {P : Program} {c : Code} {Q : Exit → Act → World → Prop} {a : Act} {w : World} (hq : Exit.noGoto Q = Q) (h : c.wp P Q a w) : (Code.scope c).wp P Q a w := by
  refine wp_scope_straight ?_
  rw [hq]
  exact h
end Go.Proofs.YthnehdimjadliaaDoor.Opn
