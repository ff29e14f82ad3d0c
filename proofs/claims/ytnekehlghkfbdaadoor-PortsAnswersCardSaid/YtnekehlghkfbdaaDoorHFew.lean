import Derived.Test.YtnekehlghkfbdaaDoorHKn
import Derived.Test.YtnekehlghkfbdaaDoorPAllx4
import Derived.Test.YtnekehlghkfbdaaDoorPAllx7
/- Plain laws: few, Calls, rows of calls that are asked. -/
namespace Go.Proofs.YtnekehlghkfbdaaDoor.PAll
open Go Go.Proofs Go.RowKit Go.Shelf Go.Proofs.YtnekehlghkfbdaaDoorW.PrintWords Go.Proofs.YtnekehlghkfbdaaDoorW.PrintLast Go.Proofs.YtnekehlghkfbdaaDoorW.PrintMore Go.Proofs.YtnekehlghkfbdaaDoor.Bx
set_option linter.unusedVariables false
set_option linter.unusedSimpArgs false
theorem wrap_big (j : Nat) (h : j ≤ 4611686018427387904) : wrap64 ((j : Int) + 1) = ((j + 1 : Nat) : Int) := by unfold wrap64; omega
theorem rd_at (l : List S33) (j : Nat) (p : S33) (h : l[j]? = some p) : rd_T33 l (j : Int) = p := by unfold rd_T33; simp [List.getD_eq_getElem?_getD, h]
theorem few_l (l : List S33) (hl : l.length ≤ 4611686018427387904) : ∀ (m j k : Nat), j + m = l.length → m + 1 ≤ k → ∃ b, windlasslaw20_few.l0 k l (j : Int) = some b ∧ (b = true → l.length ≤ 80 ∧ ∀ i p, j ≤ i → l[i]? = some p → small p)
  | m, j, 0, _, hk => by omega
  | 0, j, k + 1, hj, hk => by
    refine ⟨decide ((l.length : Int) ≤ 80), ?_, fun h => ⟨by have := of_decide_eq_true h; omega, fun i p hi hp => ?_⟩⟩
    · unfold windlasslaw20_few.l0
      rw [if_neg (by omega)]
    · have := (List.getElem?_eq_some_iff.1 hp).1
      omega
  | m + 1, j, k + 1, hj, hk => by
    obtain ⟨p, hp⟩ : ∃ p, l[j]? = some p := ⟨_, List.getElem?_eq_getElem (by omega)⟩
    unfold windlasslaw20_few.l0
    rw [if_pos (by omega), if_pos (by omega), rd_at l j p hp]
    by_cases h2 : (p.f2.size : Int) > 200
    · rw [if_pos h2]
      exact ⟨false, rfl, fun h => by cases h⟩
    · rw [if_neg h2]
      by_cases h3 : (p.f3.size : Int) > 200
      · rw [if_pos h3]
        exact ⟨false, rfl, fun h => by cases h⟩
      · rw [if_neg h3, wrap_big j (by omega)]
        obtain ⟨b, hb, hs⟩ := few_l l hl m (j + 1) k (by omega) (by omega)
        refine ⟨b, hb, fun h => ⟨(hs h).1, fun i q hi hq => ?_⟩⟩
        by_cases e : i = j
        · subst e
          rw [hp] at hq
          cases hq
          exact ⟨by omega, by omega⟩
        · exact (hs h).2 i q (by omega) hq
theorem few_law (l : List S33) (hl : l.length ≤ 4611686018427387904) : ∃ b, windlasslaw20_few.f (l.length + 1) l = some b ∧ (b = true → l.length ≤ 80 ∧ ∀ (i : Nat) p, l[i]? = some p → small p) := by
  obtain ⟨b, hb, hs⟩ := few_l l hl l.length 0 (l.length + 1) (by omega) (by omega)
  exact ⟨b, hb, fun h => ⟨(hs h).1, fun i p hp => (hs h).2 i p (Nat.zero_le _) hp⟩⟩
theorem calls_l (l : List S33) (hl : l.length ≤ 1000) : ∀ (m j k : Nat), j + m = l.length → m + 1 ≤ k → windlasshelp_Calls.l0 k l l (j : Int) = some true
  | m, j, 0, _, hk => by omega
  | 0, j, k + 1, hj, hk => by
    unfold windlasshelp_Calls.l0
    rw [if_neg (by omega)]
  | m + 1, j, k + 1, hj, hk => by
    unfold windlasshelp_Calls.l0
    rw [if_pos (by omega), if_pos (by omega), if_pos (by omega), if_neg (by simp), wrap_big j (by omega)]
    exact calls_l l hl m (j + 1) k (by omega) (by omega)
theorem calls_same (l : List S33) (hl : l.length ≤ 1000) : windlasshelp_Calls.f (l.length + 1) l l = some true := by
  unfold windlasshelp_Calls.f
  rw [if_pos rfl]
  exact calls_l l hl l.length 0 (l.length + 1) (by omega) (by omega)
theorem calls_at {W : World} {l : List S33} {ok1 ok2 : Nat → Prop} {base1 base2 : Nat} {A1 A2 : Option Addr} {n1 n2 c1 c2 : Nat} (h1 : Kd.N k33 33 W base1 ok1 (.slice A1 n1 c1) l) (h2 : Kd.N k33 33 W base2 ok2 (.slice A2 n2 c2) l) (hl : l.length ≤ 1000) :
    Calls Tryd.prog 13 #[.slice A1 n1 c1, .slice A2 n2 c2] W fun e W' => e = .returned (.bool true) ∧ Below W.heap.size W W' := by
  obtain ⟨rfl, hc1, hC1⟩ := Kd.N_reads' h1
  obtain ⟨rfl, hc2, hC2⟩ := Kd.N_reads' h2
  refine (windlasshelp_Calls.calls (l.length + 1) A1 c1 l A2 c2 l true W hC1 hc1 hC2 hc2 (calls_same l hl)).mono ?_
  rintro e W' ⟨rfl, m, rfl⟩
  exact ⟨rfl, pw_below_drewN (Below.refl _ _) m⟩
/-- What a service keeps behind a row of calls. -/
def asked (l : List S33) : List (S33 × ByteArray) := l.foldl askD []
theorem asked_nil : asked [] = [] := rfl
theorem asked_next (l : List S33) (j : Nat) (p : S33) (h : l[j]? = some p) : asked (l.take (j + 1)) = askD (asked (l.take j)) p := by
  unfold asked
  rw [List.take_add_one, h]
  simp
theorem askD_le (D : List (S33 × ByteArray)) (l : List S33) : (l.foldl askD D).length ≤ D.length + l.length := by
  induction l generalizing D with
  | nil => simp
  | cons c l ih =>
    have h1 := ih (askD D c)
    have h2 := askD_length D c
    simp only [List.foldl_cons, List.length_cons]
    omega
theorem asked_le (l : List S33) : (asked l).length ≤ l.length := by have := askD_le [] l; simpa [asked] using this
end Go.Proofs.YtnekehlghkfbdaaDoor.PAll
