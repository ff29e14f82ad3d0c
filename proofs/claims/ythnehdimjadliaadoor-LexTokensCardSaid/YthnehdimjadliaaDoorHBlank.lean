import Derived.Test.YthnehdimjadliaaDoorHText
import Derived.Test.YthnehdimjadliaaDoorPAllx2
import Derived.WalkMore
import Derived.Deep.QuietTactic
import Derived.BigQuiet
/- Blanks: strings.ContainsRune at a byte's rune. -/
namespace Go.Proofs.YthnehdimjadliaaDoor.PAll
open Go Go.Proofs Go.RowKit Go.Shelf Go.Proofs.YthnehdimjadliaaDoorW.PrintWords Go.Proofs.YthnehdimjadliaaDoorW.PrintLast Go.Proofs.YthnehdimjadliaaDoorW.PrintMore
attribute [local go_sem] Oper.semAt_some
set_option linter.unusedVariables false
set_option linter.unusedSimpArgs false
theorem valid_r (r : Int) (h0 : 128 ≤ r) (h1 : r < 256) : utf8_ValidRune.f 5 r = some true := by
  unfold utf8_ValidRune.f
  rw [if_pos (by omega)]
  have : decide (r < 55296) = true := decide_eq_true (by omega)
  rw [this]
  rfl
theorem enc_fin : ∀ v : Fin 128, (Utf8.encode (128 + (v : Nat) : Int)).size = 2 ∧ 128 ≤ ((Utf8.encode (128 + (v : Nat) : Int)).get! 1).toNat := by decide +kernel
theorem get1 (E : ByteArray) (h : 1 < E.size) (h1 : E.size = 2) (h2 : 128 ≤ (E.get! 1).toNat) : 128 ≤ (E[1]'h).toNat := by
  have e : E.get! 1 = E[1]'h := by
    simp [ByteArray.get!, getElem!_pos, h]
    rfl
  rw [← e]
  exact h2
theorem enc_r (r : Int) (h0 : 128 ≤ r) (h1 : r < 256) : ∃ E : ByteArray, ∃ h : 1 < E.size, Utf8.encode r = E ∧ E.size = 2 ∧ 128 ≤ (E[1]'h).toNat := by
  obtain ⟨n, rfl⟩ : ∃ n : Nat, r = 128 + (n : Int) := ⟨(r - 128).toNat, by omega⟩
  have := enc_fin ⟨n, by omega⟩
  refine ⟨_, by rw [this.1]; decide, rfl, this.1, ?_⟩
  have h2 := this.2
  exact get1 _ _ this.1 h2
theorem ix_hi (c : UInt8) (h : 128 ≤ c.toNat) : Lib.indexByte (by' ((⟨#[32, 9, 10, 13]⟩ : ByteArray).extract 2 4)) ((c.toNat : Int)).toNat.toUInt8 = -1 := by
  have e1 : ((c.toNat : Int)).toNat.toUInt8 = c := by simp
  rw [e1]
  have : ∀ v : Fin 256, 128 ≤ v.val → Lib.indexByte (by' ((⟨#[32, 9, 10, 13]⟩ : ByteArray).extract 2 4)) (UInt8.ofNat v) = -1 := by decide +kernel
  simpa using this ⟨c.toNat, c.toNat_lt⟩ h
set_option maxHeartbeats 8000000 in
set_option maxRecDepth 100000 in
theorem ir_high (r : Int) (w : World) (h0 : 128 ≤ r) (h1 : r < 256) :
    Calls Tryd.prog 41 #[.string ⟨#[32, 9, 10, 13]⟩, .int .i32 r] w fun e w' => e = .returned (.int .i64 (-1)) ∧ Below w.heap.size w w' := by
  have H0 := Aside0.mk h0
  have H1 := Aside0.mk h1
  have HV := Aside0.mk (valid_r r h0 h1)
  have a1 : decide ((0 : Int) ≤ r) = true := decide_eq_true (by omega)
  have a2 : decide (r < 128) = false := decide_eq_false (by omega)
  have a3 : (r == 65533) = false := beq_eq_false_iff_ne.2 (by omega)
  have a4 : (0 : Int) ≤ r := by omega
  have a5 : ¬ r < 128 := by omega
  clear h0 h1
  go_enter Tryd.func41, Tryd.ntmps41
  go_wp2_with (fail)
  refine (utf8_ValidRune.calls 5 r true _ HV.out).mono ?_
  rintro e_ w1 ⟨rfl, m, rfl⟩
  dsimp only
  go_wp2
  go_step3
  go_wp2
  obtain ⟨E, hE1, hE, hE2, hE3⟩ := enc_r r H0.out H1.out
  have hw : wrap64 ((E.size : Int) - 1) = 1 := by rw [hE2]; unfold wrap64; omega
  rw [hE, hw]
  clear hE hw
  have b1 : ((9 : Int) != ((E[1]'hE1).toNat : Int)) = true := bne_iff_ne.2 (by omega)
  have b2 : (1 : Int) < (E.size : Int) := by omega
  have b3 : ¬ (9 : Int) = ((E[1]'hE1).toNat : Int) := by omega
  have b4 : ((9 : Int) == ((E[1]'hE1).toNat : Int)) = false := beq_eq_false_iff_ne.2 b3
  have b5 : ¬ 9 = (E[1]'hE1).toNat := by omega
  have b6 : ¬ (E[1]'hE1).toNat = 9 := by omega
  go_loopg [9] 1 (fun kq v9 w' => v9 = .int .i64 1 ∧ Aside0 (kq = 1) ∧ Aside0 (Below w.heap.size w w'))
  case atStart => exact ⟨rfl, ⟨rfl⟩, ⟨pw_below_drewN (Below.refl _ _) m⟩⟩
  case round =>
    obtain ⟨rfl, HK, HB⟩ := hrel
    go_wp2
    go_step3
    go_wp2
    go_quiet (fail)
    have b7 : ((((⟨#[32, 9, 10, 13]⟩ : ByteArray)[1]'(by decide)).toNat : Int) != ((E[1]'hE1).toNat : Int)) = true := b1
    rw [b7]
    have HB2 := Aside0.mk (pw_below_drewN HB.out nq)
    generalize wr.drewN nq = wr2 at HB2 ⊢
    go_wp2_with (fail)
    go_quiet (exact Calls.quiet_of_same (ix_calls _ _ _))
    rw [ix_hi _ hE3]
    have HB3 := Aside0.mk (pw_below_drewN HB2.out nq)
    generalize wr2.drewN nq = wr3 at HB3 ⊢
    go_wp2
    rw [Exit.noGoto_ret]
    simp only [Exit.inBlock, Exit.then]
    (try rw [Exit.noGoto_ret])
    (try simp only [Exit.inBlock, Exit.then])
    (try simp only [Exit.noGoto_ret])
    go_ret
    exact ⟨rfl, HB3.out⟩
theorem cr_high (r : Int) (w : World) (h0 : 128 ≤ r) (h1 : r < 256) :
    Calls Tryd.prog 21 #[.string ⟨#[32, 9, 10, 13]⟩, .int .i32 r] w fun e w' => e = .returned (.bool false) ∧ Below w.heap.size w w' := by
  go_enter Tryd.func21, Tryd.ntmps21
  go_wp2_with (fail)
  refine (ir_high r _ h0 h1).mono ?_
  rintro e_ w1 ⟨rfl, hb⟩
  have HB := Aside0.mk hb
  dsimp only
  go_wp2
  go_ret
  exact ⟨rfl, HB.out⟩
end Go.Proofs.YthnehdimjadliaaDoor.PAll
