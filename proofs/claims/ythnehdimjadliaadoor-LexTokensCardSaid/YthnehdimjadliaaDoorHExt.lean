import Derived.Test.YthnehdimjadliaaDoorHName
import Derived.Test.YthnehdimjadliaaDoorHDq
/- The contracts of the functions that were walked by hand, in the print's form. -/
namespace Go.Proofs.YthnehdimjadliaaDoor.PAll
open Go Go.Proofs Go.RowKit Go.Shelf Go.Proofs.YthnehdimjadliaaDoorW.PrintWords Go.Proofs.YthnehdimjadliaaDoorW.PrintLast Go.Proofs.YthnehdimjadliaaDoorW.PrintMore Go.Proofs.YthnehdimjadliaaDoor.Bx
attribute [local go_sem] Oper.semAt_some
set_option linter.unusedVariables false
set_option linter.unusedSimpArgs false
theorem N_R {α : Type} {d : Kd α} (hf : ∀ (w : World) (x : α) (c : List Value), d.K w x c → ∀ (W : World) (base : Nat) (ok : Nat → Prop), d.M W base ok x c) {e base : Nat} {w : World} {ok : Nat → Prop} {v : Value} {xs : List α} (h : Kd.N d e w base ok v xs) : Kd.R d e w base ok v xs := by
  obtain ⟨h0, rows, hl, ⟨_, inner, ho, hr⟩, hk⟩ := h
  refine ⟨h0, inner, by rw [← hl]; exact ho, by rw [← hl]; exact hr.1, fun j x hj => ?_⟩
  have hj' : j < rows.length := by rw [hl]; exact (List.getElem?_eq_some_iff.1 hj).1
  have h1 := hr.2 j _ (List.getElem?_eq_getElem hj')
  obtain ⟨e1, _⟩ := h1
  have h2 := hk j x _ hj (List.getElem?_eq_getElem hj')
  rw [← e1] at h2
  exact hf _ _ _ (Kd.FK_now h2) _ _ _
theorem flat28R (w : World) (x : S28) (c : List Value) (h : k28.K w x c) (W : World) (base : Nat) (ok : Nat → Prop) : k28.M W base ok x c := h
def windlasslaw5_known.f : Option Bool := some true
theorem windlasslaw5_known.calls (r : Bool) (w : World) (h : windlasslaw5_known.f = some r) (hm : MX w := by exact MXH.out _ (by repeat (first | (with_reducible first | exact HB.out | apply below_alloc | apply pw_below_drewN | apply below_drew1) | exact HB.out))) :
    Calls Tryd.prog 9 #[] w fun e w' => e = .returned (.bool r) ∧ Below w.heap.size w w' := by
  obtain rfl := Option.some.inj h
  exact known_h w hm
def lex_Name.f (s : ByteArray) : Option Bool := some (nm (by' s))
theorem lex_Name.calls (s : ByteArray) (r : Bool) (w : World) (h : lex_Name.f s = some r) :
    Calls Tryd.prog 17 #[.string s] w fun e w' => e = .returned (.bool r) ∧ Below w.heap.size w w' := by
  obtain rfl := Option.some.inj h
  exact name_calls s w
/-- a text in its quote -/
def qte (s : ByteArray) : ByteArray := ((⟨#[34]⟩ : ByteArray) ++ ⟨(Lib.replaceAll (by' s) [34] [34, 34]).toArray⟩) ++ (⟨#[34]⟩ : ByteArray)
theorem count34 (s : ByteArray) : Lib.countB s ⟨#[34]⟩ ≤ s.size := Lib.countB_le _ (by decide) s.size s (Nat.le_refl _)
theorem rep34 : ∀ l : List UInt8, (Lib.replaceAll l [34] [34, 34]).length ≤ 2 * l.length := fun l => by rw [rep_dq]; exact dq_length l
def lex_Quote.f (s : ByteArray) : Option ByteArray := if s.size ≤ 10000 then some (qte s) else none
theorem lex_Quote.calls (s : ByteArray) (r : ByteArray) (w : World) (h : lex_Quote.f s = some r) (hm : MX w := by exact MXH.out _ (by repeat (first | (with_reducible first | exact HB.out | apply below_alloc | apply pw_below_drewN | apply below_drew1) | exact HB.out))) :
    Calls Tryd.prog 11 #[.string s] w fun e w' => e = .returned (.string r) ∧ Below w.heap.size w w' := by
  unfold lex_Quote.f at h
  by_cases hs : s.size ≤ 10000
  · rw [if_pos hs] at h
    obtain rfl := Option.some.inj h
    have h1 := count34 s
    have h2 := rep34 (by' s)
    rw [by_size] at h2
    exact quote_calls s _ w hm (by omega) (by omega) rfl (by show (Lib.replaceAll (by' s) [34] [34, 34]).toArray.size ≤ _; rw [List.size_toArray]; omega)
  · rw [if_neg hs] at h; cases h
def lex_Tokens.f (s : ByteArray) : Option (List S28 × Int × Int) := if s.size ≤ 4096 then (lexGo (s.size + 1) (by' s) 0 []).map (fun r => (r.1, (r.2.1 : Int), r.2.2)) else some ([], 0, 50)
set_option maxHeartbeats 4000000 in
set_option maxRecDepth 100000 in
theorem tokens_big (s : ByteArray) (w : World) (hs : 4096 < s.size) :
    Calls Tryd.prog 10 #[.string s] w fun e W' => ∃ v, e = .returned (.tuple #[v, .int .i64 0, .int .i64 50]) ∧ Kd.R k28 28 W' w.heap.size (fun _ => True) v [] ∧ Below w.heap.size w W' := by
  have hs1 : decide ((s.size : Int) > 4096) = true := decide_eq_true (by omega)
  have hs2 : decide ((4096 : Int) < (s.size : Int)) = true := decide_eq_true (by omega)
  have hs3 : 4096 < s.size := by omega
  have HE := Aside0.mk (Pw.start w)
  go_enter Tryd.func10, Tryd.ntmps10
  go_wp2_with (fail)
  go_step3
  go_wp2
  (try rw [Exit.noGoto_ret])
  go_ret3
  exact ⟨_, rfl, Kd.R_nil _ _ _ _ _, Below.refl _ _⟩
theorem lex_Tokens.calls (s : ByteArray) (r1 : List S28) (r2 r3 : Int) (w : World) (h : lex_Tokens.f s = some (r1, r2, r3)) :
    Calls Tryd.prog 10 #[.string s] w fun e W' => ∃ v, e = .returned (.tuple #[v, .int .i64 r2, .int .i64 r3]) ∧ Kd.R k28 28 W' w.heap.size (fun _ => True) v r1 ∧ Below w.heap.size w W' := by
  unfold lex_Tokens.f at h
  by_cases hs : s.size ≤ 4096
  · rw [if_pos hs] at h
    rcases hg : lexGo (s.size + 1) (by' s) 0 [] with _ | ⟨T, tw, er⟩
    · rw [hg] at h; cases h
    · rw [hg] at h
      simp only [Option.map_some, Option.some.injEq, Prod.mk.injEq] at h
      obtain ⟨rfl, rfl, rfl⟩ := h
      refine (tokens_calls s w _ _ _ hs hg).mono ?_
      rintro e W ⟨v, rfl, hN, hb⟩
      exact ⟨v, rfl, Kd.R_mono (N_R flat28R hN) (fun _ _ => trivial), hb⟩
  · rw [if_neg hs] at h
    simp only [Option.some.injEq, Prod.mk.injEq] at h
    obtain ⟨rfl, rfl, rfl⟩ := h
    exact tokens_big s w (by omega)
end Go.Proofs.YthnehdimjadliaaDoor.PAll
