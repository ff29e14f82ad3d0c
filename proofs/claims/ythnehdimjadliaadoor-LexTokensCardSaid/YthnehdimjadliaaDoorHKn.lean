import Derived.Test.YthnehdimjadliaaDoorHTok
/- Quote; the checks that each law makes of itself come out well. -/
namespace Go.Proofs
open Go.Shelf
theorem Tryd.extra155 : Builder.Extra Tryd.prog Tryd.lays155_ren := {
  sizeBuilder := by kernel_rfl
  liesBuilder := by kernel_rfl
  t5 := Tryd.underlying5
  a5 := Tryd.isAgg5
  z5 := Tryd.sizeOf5
  v5 := Tryd.zeroValue5
  infoByte := by kernel_rfl
  cellsByte := by kernel_rfl
  sizeByte := by kernel_rfl
  neB5 := by decide }
end Go.Proofs
namespace Go.Proofs.YthnehdimjadliaaDoor.PAll
open Go Go.Proofs Go.RowKit Go.Shelf Go.Proofs.YthnehdimjadliaaDoorW.PrintWords Go.Proofs.YthnehdimjadliaaDoorW.PrintLast Go.Proofs.YthnehdimjadliaaDoorW.PrintMore Go.Proofs.YthnehdimjadliaaDoor.Bx
attribute [local go_sem] Oper.semAt_some
set_option linter.unusedVariables false
set_option linter.unusedSimpArgs false
/-- internal/bytealg.MaxLen holds some whole number. -/
def MX (w : World) : Prop := ∃ m : Int, w.cell? ⟨0, 0, none⟩ = some (.int .i64 m)
theorem mx_on {w W : World} (h : MX w) (hb : Below w.heap.size w W) : MX W := by
  obtain ⟨m, hm⟩ := h
  exact ⟨m, (hb.cell (World.block_lt_of_cell? w _ hm)).trans hm⟩
theorem rep_calls (s : ByteArray) (w : World) (hm : MX w) (hs : s.size < 4294967281) (hl : s.size + Lib.countB s ⟨#[34]⟩ * 2 ≤ 140737488355328) :
    Calls Tryd.prog 32 #[.string s, .string ⟨#[34]⟩, .string ⟨#[34, 34]⟩] w fun e w' => e = .returned (.string ⟨(Lib.replaceAll (by' s) [34] [34, 34]).toArray⟩) ∧ Below w.heap.size w w' := by
  obtain ⟨m, hm⟩ := hm
  exact Any.strings_ReplaceAll { Tryd.lays155 with } Tryd.extra155 s ⟨#[34]⟩ ⟨#[34, 34]⟩ m w hs hm (by decide) hl
set_option maxHeartbeats 4000000 in
set_option maxRecDepth 100000 in
theorem quote_calls (s q : ByteArray) (w : World) (hm : MX w) (hs : s.size < 4294967281) (hl : s.size + Lib.countB s ⟨#[34]⟩ * 2 ≤ 140737488355328) (hq : q = ⟨(Lib.replaceAll (by' s) [34] [34, 34]).toArray⟩) (hz : q.size ≤ 1000000) :
    Calls Tryd.prog 11 #[.string s] w fun e w' => e = .returned (.string (((⟨#[34]⟩ : ByteArray) ++ q) ++ (⟨#[34]⟩ : ByteArray))) ∧ Below w.heap.size w w' := by
  have HQ := Aside0.mk hq
  have q1 : (9223372036854775807 < 1 + q.size) = False := eq_false (by omega)
  have q2 : (9223372036854775807 < 1 + q.size + 1) = False := eq_false (by omega)
  clear hq
  go_enter Tryd.func11, Tryd.ntmps11
  go_wp2_with (fail)
  refine (rep_calls s _ hm hs hl).mono ?_
  rintro e_ w1 ⟨rfl, hb⟩
  dsimp only
  rw [← HQ.out]
  have HB := Aside0.mk hb
  clear hb
  go_wp2
  go_ret
  exact ⟨rfl, HB.out⟩
def knT : List S28 := [⟨1, ⟨#[97]⟩, 0⟩, ⟨5, ⟨#[43, 37]⟩, 1⟩, ⟨1, ⟨#[98]⟩, 3⟩, ⟨0, ⟨#[]⟩, 4⟩]
theorem kn_lex1 : lexGo 5 [97, 43, 37, 98] 0 [] = some (knT, 0, 0) := by kernel_rfl
theorem kn_lex2 : lexGo 2 [33] 0 [] = some ([], 0, 51) := by kernel_rfl
theorem kn_rep : Lib.replaceAll [97, 34] [34] [34, 34] = [97, 34, 34] := by decide +kernel
theorem kn_cnt : Lib.countB ⟨#[97, 34]⟩ ⟨#[34]⟩ ≤ 10 := by decide +kernel
set_option maxHeartbeats 4000000 in
set_option maxRecDepth 100000 in
theorem known_h (w : World) (hm : MX w) : Calls Tryd.prog 9 #[] w fun e w' => e = .returned (.bool true) ∧ Below w.heap.size w w' := by
  have HM := Aside0.mk hm
  clear hm
  go_enter Tryd.func9, Tryd.ntmps9
  go_wp2_with (fail)
  refine (tokens_calls ⟨#[97, 43, 37, 98]⟩ _ knT 0 0 (by decide) kn_lex1).mono ?_
  rintro e_ w1 ⟨v1, rfl, hN1, hb1⟩
  dsimp only
  obtain ⟨A1, c1, rfl⟩ := Kd.N_slice hN1
  rw [show knT.length = 4 from rfl]
  have HN1 := Aside0.mk hN1
  have HB := Aside0.mk hb1
  clear hN1 hb1
  go_wp2_with (fail)
  refine (tokens_calls ⟨#[33]⟩ _ [] 0 51 (by decide) kn_lex2).mono ?_
  rintro e_ w2 ⟨v2, rfl, hN2, hb2⟩
  dsimp only
  have hN := Kd.N_below HN1.out hb2
  have hB := HB.out.trans (hb2.mono HB.out.size)
  clear HN1 HB hN2 hb2
  have HB := Aside0.mk hB
  clear hB
  have hC := (Kd.N_reads' hN).2.2
  obtain ⟨ad, e1, _, hx1, _⟩ := at_T28 hC 1 (by decide) (by decide)
  subst e1
  obtain ⟨ad', e2, hx3, _⟩ := at_T28 hC 3 (by decide) (by decide)
  cases e2
  have r1 : (rd_T28 knT 1).f1 = ⟨#[43, 37]⟩ := rfl
  have r3 : (rd_T28 knT 3).f0 = 0 := rfl
  rw [r1] at hx1
  rw [r3] at hx3
  simp only [Int.reduceToNat, Nat.reduceMul, Int.toNat_one, Nat.one_mul] at hx1 hx3
  have hy1 : w2.cell? ⟨ad.block, ad.off + 3 + 1, none⟩ = some (.string ⟨#[43, 37]⟩) := hx1
  have hy3 : w2.cell? ⟨ad.block, ad.off + 9, none⟩ = some (.int .i64 0) := hx3
  clear hC hN r1 r3 hx1 hx3
  have t1 : (((⟨#[43, 37]⟩ : ByteArray)).toList == [43, 37]) = true := by decide +kernel
  go_wp2_with (fail)
  refine (quote_calls ⟨#[97, 34]⟩ ⟨#[97, 34, 34]⟩ _ (mx_on HM.out HB.out) (by decide) (by have := kn_cnt; have e : (⟨#[97, 34]⟩ : ByteArray).size = 2 := rfl; omega) (by rw [show by' ⟨#[97, 34]⟩ = [97, 34] from rfl, kn_rep]) (by decide)).mono ?_
  rintro e_ w3 ⟨rfl, hb3⟩
  dsimp only
  have hB := HB.out.trans (hb3.mono HB.out.size)
  have HB3 := Aside0.mk hB
  clear hB hb3
  have t2 : ((((⟨#[34]⟩ : ByteArray) ++ (⟨#[97, 34, 34]⟩ : ByteArray)) ++ (⟨#[34]⟩ : ByteArray)).toList == [34, 97, 34, 34, 34]) = true := by decide +kernel
  go_wp2
  go_ret
  exact ⟨rfl, HB3.out⟩
end Go.Proofs.YthnehdimjadliaaDoor.PAll
