import Derived.Test.YthnehdimjadliaaDoorHPw
/- The closure add: one token more. -/
namespace Go.Proofs.YthnehdimjadliaaDoor.PAll
open Go Go.Proofs Go.RowKit Go.Shelf Go.Proofs.YthnehdimjadliaaDoorW.PrintWords Go.Proofs.YthnehdimjadliaaDoorW.PrintLast Go.Proofs.YthnehdimjadliaaDoorW.PrintMore Go.Proofs.YthnehdimjadliaaDoor.Bx
attribute [local go_sem] Oper.semAt_some
set_option linter.unusedVariables false
set_option linter.unusedSimpArgs false
theorem info28' : (Tryd.prog.info? 28).map (fun i => (i.zero, i.size, i.bytes)) = some (some (.agg #[.int .i64 0, .string ⟨#[]⟩, .int .i64 0]), 3, 32) := by kernel_rfl
set_option maxHeartbeats 8000000 in
set_option maxRecDepth 100000 in
theorem add_calls {w W : World} {bs : List Bx} {cl : CL} {tl : TL} {g5 g7 : Nat} {v : Value} {acc : List S28} (k : Int) (t : ByteArray) (at_ nn : Nat) (h : Pw w W ((g7, #[.int .i64 (at_ : Int)], 3) :: (g5, #[v], 23) :: bs) ((v, acc) :: cl) tl) (ha : acc.length ≤ 100000) (h1 : at_ ≤ 100000) (h2 : nn ≤ 100000) :
    Calls Tryd.prog 20 #[.int .i64 k, .string t, .int .i64 (nn : Int), .pointer (some ⟨g5, 0, none⟩), .pointer (some ⟨g7, 0, none⟩)] W fun e W' => e = .returned (.tuple #[]) ∧ ∃ v', Pw w W' ((g7, #[.int .i64 ((at_ + nn : Nat) : Int)], 3) :: (g5, #[v'], 23) :: bs) ((v', acc ++ [⟨k, t, at_⟩]) :: cl) tl := by
  obtain ⟨A, n, c, rfl⟩ : ∃ A n c, v = Value.slice A n c := (Kd.N_slice (h.rc 0 rfl)).imp fun A h => ⟨_, h⟩
  have HE := Aside0.mk h
  have HA := Aside0.mk ha
  have hw1 : wrap64 ((at_ : Int) + (nn : Int)) = ((at_ + nn : Nat) : Int) := by unfold wrap64; omega
  obtain ⟨b, hb⟩ : ∃ b : Nat, b = at_ + nn := ⟨_, rfl⟩
  rw [← hb] at hw1 ⊢
  clear h ha hb h1 h2
  go_enter Tryd.func20, Tryd.ntmps20
  have z_g7_0 : W.cell? ⟨g7, 0, none⟩ = some (.int .i64 (at_ : Int)) := HE.out.cell 0 0 rfl rfl
  have y_g7_0 : W.frozen? ⟨g7, 0, none⟩ = false := HE.out.frz 0 0 rfl
  have z_g5_0 : W.cell? ⟨g5, 0, none⟩ = some (.slice A n c) := HE.out.cell 1 0 rfl rfl
  have y_g5_0 : W.frozen? ⟨g5, 0, none⟩ = false := HE.out.frz 1 0 rfl
  go_wp2_with (first | ((with_reducible refine gate_builtin (b := .append) (xs := #[.tmp 8, .tmp 13]) rfl ?_); at_builtin; refine Kd.N_append k28 (w0 := w) w.heap.size rfl (.tmp 8) (.tmp 13) 23 28 (.agg #[.int .i64 0, .string ⟨#[]⟩, .int .i64 0]) 32 rfl Tryd.underlying23 info28' rfl (by decide) (by omega) (.slice A n c) acc ⟨k, t, at_⟩ [.int .i64 k, .string t, .int .i64 (at_ : Int)] (fun q => some q = Value.ownBlock (.slice A n c) ∨ W.heap.size ≤ q) (fun _ => False) rfl rfl (fun _ _ => k28_mk _ _) (fun _ hk => hk.elim) (fun _ hk => .inr hk) (Kd.N_mono (HE.out.rc 0 rfl) (fun _ hk => .inl hk)) HE.out.below HE.out.size (by have := HA.out; omega) ?_; intro v3 w7 hN hb hg hat; obtain ⟨A3, n3, c3, e3_⟩ : ∃ A n c, v3 = Value.slice A n c := (Kd.N_slice hN).imp fun A h => ⟨_, h⟩; subst e3_; have n_ := Aside0.mk (HE.out.growC hN hg hat); clear HE hN hb hg hat; (try clear z_g5_0); (try clear z_g7_0); (try clear y_g5_0); (try clear y_g7_0); have HE := n_; clear n_; have z_g7_0 : w7.cell? ⟨g7, 0, none⟩ = some (.int .i64 (at_ : Int)) := HE.out.cell 0 0 rfl rfl; have y_g7_0 : w7.frozen? ⟨g7, 0, none⟩ = false := HE.out.frz 0 0 rfl; have z_g5_0 : w7.cell? ⟨g5, 0, none⟩ = some (.slice A n c) := HE.out.cell 1 0 rfl rfl; have y_g5_0 : w7.frozen? ⟨g5, 0, none⟩ = false := HE.out.frz 1 0 rfl) | ((with_reducible refine gate_store (t := 23) (p := 3) rfl ?_); have y_g5_0 : w7.frozen? ⟨g5, 0, none⟩ = false := HE.out.frz 1 0 rfl; have z_g5_0 : w7.cell? ⟨g5, 0, none⟩ = some (.slice A n c) := HE.out.cell 1 0 rfl rfl; refine store_event (w1 := (w7.setCell ⟨g5, 0, none⟩ (.slice A3 n3 c3))) rfl rfl rfl (by first | (go_simp; done) | (go_simp; rfl)) ?_; intro X1 hw_; have n_ : Aside0 (Pw w X1 ((g7, #[.int .i64 (at_ : Int)], 3) :: (g5, #[.slice A3 n3 c3], 23) :: bs) ((.slice A3 n3 c3, acc ++ [⟨k, t, at_⟩]) :: cl) tl) := ⟨by rw [hw_]; exact (HE.out.set 1 rfl 0 (.slice A3 n3 c3))⟩; clear HE hw_; (try clear z_g7_0); (try clear y_g7_0); (try clear z_g5_0); (try clear y_g5_0); have HE := n_; clear n_; have z_g7_0 : X1.cell? ⟨g7, 0, none⟩ = some (.int .i64 (at_ : Int)) := HE.out.cell 0 0 rfl rfl; have y_g7_0 : X1.frozen? ⟨g7, 0, none⟩ = false := HE.out.frz 0 0 rfl; have z_g5_0 : X1.cell? ⟨g5, 0, none⟩ = some (.slice A3 n3 c3) := HE.out.cell 1 0 rfl rfl; have y_g5_0 : X1.frozen? ⟨g5, 0, none⟩ = false := HE.out.frz 1 0 rfl) | ((with_reducible refine gate_store (t := 3) (p := 4) rfl ?_); have y_g7_0 : X1.frozen? ⟨g7, 0, none⟩ = false := HE.out.frz 0 0 rfl; have z_g7_0 : X1.cell? ⟨g7, 0, none⟩ = some (.int .i64 (at_ : Int)) := HE.out.cell 0 0 rfl rfl; refine store_event (w1 := (X1.setCell ⟨g7, 0, none⟩ (.int .i64 (b : Int)))) rfl rfl rfl (by first | (go_simp; done) | (go_simp; rfl)) ?_; intro X2 hw_; have n_ : Aside0 (Pw w X2 ((g7, #[.int .i64 (b : Int)], 3) :: (g5, #[.slice A3 n3 c3], 23) :: bs) ((.slice A3 n3 c3, acc ++ [⟨k, t, at_⟩]) :: cl) tl) := ⟨by rw [hw_]; exact (HE.out.set 0 rfl 0 (.int .i64 (b : Int)))⟩; clear HE hw_; (try clear z_g7_0); (try clear y_g7_0); (try clear z_g5_0); (try clear y_g5_0); have HE := n_; clear n_))
  go_end0
  exact ⟨rfl, _, HE.out⟩
end Go.Proofs.YthnehdimjadliaaDoor.PAll
