import Derived.Test.YtnekehlghkfbdaaDoorHKn
/- PortsAnswers' walk: the digits one by one, then port and text, cut off at sixty-four bytes. -/
namespace Go.Proofs.YtnekehlghkfbdaaDoor.PAll
open Go Go.Proofs Go.RowKit Go.Shelf Go.Proofs.YtnekehlghkfbdaaDoorW.PrintWords Go.Proofs.YtnekehlghkfbdaaDoorW.PrintLast Go.Proofs.YtnekehlghkfbdaaDoorW.PrintMore Go.Proofs.YtnekehlghkfbdaaDoor.Bx
attribute [local go_sem] Oper.semAt_some max2_int min2_int max_two min_two
set_option linter.unusedVariables false
set_option linter.unusedSimpArgs false
theorem one_digit (u : Nat) (h : u < 10) : strOfNums [((48 + u : Nat) : Int)] = ⟨#[UInt8.ofNat (48 + u)]⟩ := by
  have : ∀ v : Fin 10, strOfNums [((48 + (v : Nat) : Nat) : Int)] = ⟨#[UInt8.ofNat (48 + v)]⟩ := by decide +kernel
  exact this ⟨u, h⟩
theorem dg_start (n : Nat) (T : ByteArray) (h : T = dec (n : Int)) : (⟨(Lib.decDigits n).toArray⟩ : ByteArray) ++ (⟨#[]⟩ : ByteArray) = T := by
  rw [h]
  unfold dec
  rw [Lib.itoa_nonneg]
  apply ByteArray.ext
  simp [ByteArray.data_append]
theorem dg_facts (u : Nat) : ∃ d e : Nat, d = u % 10 ∧ e = 48 + d ∧ d < 10 ∧ Int.tmod (u : Int) 10 = (d : Int) ∧ wrap64 (48 + (d : Int)) = (e : Int) ∧ wrap64 (d : Int) = (d : Int) ∧ (e : Int) % 256 = (e : Int) :=
  ⟨u % 10, 48 + u % 10, rfl, rfl, by omega, by rw [Int.tmod_eq_emod_of_nonneg (by omega)]; omega, by unfold wrap64; omega, by unfold wrap64; omega, by omega⟩
theorem dg_quo (u : Nat) (h : u < 65536) : ∃ v : Nat, v = u / 10 ∧ Int.tdiv (u : Int) 10 = (v : Int) ∧ wrap64 (v : Int) = (v : Int) :=
  ⟨u / 10, rfl, by rw [Int.tdiv_eq_ediv_of_nonneg (by omega)]; omega, by unfold wrap64; omega⟩
theorem dg_pow (u k : Nat) (h : u < 10 ^ (k + 1)) (hu : ¬ u < 10) (hk : k + 1 ≤ 5) : u / 10 < 10 ^ k ∧ 1 ≤ k ∧ k ≤ 5 := by
  refine ⟨?_, ?_, by omega⟩
  · rw [Nat.pow_succ] at h
    omega
  · cases k with
    | zero => simp at h; omega
    | succ m => omega
theorem dg_size (l : List UInt8) (r T : ByteArray) (h : (⟨l.toArray⟩ : ByteArray) ++ r = T) (hT : T.size ≤ 21) : r.size ≤ 21 := by
  have h3 := congrArg ByteArray.size h
  rw [ByteArray.size_append] at h3
  omega
theorem dg_last (u : Nat) (r : ByteArray) (h : u < 10) : (⟨(Lib.decDigits u).toArray⟩ : ByteArray) ++ r = (⟨#[UInt8.ofNat (48 + u % 10)]⟩ : ByteArray) ++ r := by
  rw [Lib.decDigits_one h, Nat.mod_eq_of_lt h]
theorem dg_next (u : Nat) (r : ByteArray) (h : ¬ u < 10) : (⟨(Lib.decDigits u).toArray⟩ : ByteArray) ++ r = (⟨(Lib.decDigits (u / 10)).toArray⟩ : ByteArray) ++ ((⟨#[UInt8.ofNat (48 + u % 10)]⟩ : ByteArray) ++ r) := by
  rw [bytes_cons, ← show Lib.decDigits u = Lib.decDigits (u / 10) ++ [UInt8.ofNat (48 + u % 10)] by rw [Lib.decDigits, dif_neg h]]
set_option maxHeartbeats 8000000 in
set_option maxRecDepth 100000 in
theorem answers_walk (n : Nat) (p x : ByteArray) (w : World) (hn : n < 65536) (ht : TAB w) :
    Calls Tryd.prog 5 #[.int .u16 (n : Int), .string p, .string x] w fun e w' => e = .returned (.bool true) ∧ Below w.heap.size w w' := by
  have hu33 := Tryd.underlying33
  have HT := Aside0.mk ht
  have HN := Aside0.mk hn
  clear ht hn
  go_enter Tryd.func5, Tryd.ntmps5
  go_wp2_with (fail)
  refine (known_h w HT.out).mono ?_
  rintro e_ w1 ⟨rfl, hb1⟩
  dsimp only
  have HB := Aside0.mk hb1
  clear hb1
  by_cases hp : p.size > 100
  case pos =>
    have e1 : decide ((p.size : Int) > 100) = true := decide_eq_true (by omega)
    have e2 : decide ((100 : Int) < (p.size : Int)) = true := decide_eq_true (by omega)
    have e3 : 100 < p.size := hp
    go_wp2
    go_ret
    exact ⟨rfl, by repeat (first | (with_reducible first | exact HB.out | apply below_alloc | apply pw_below_drewN | apply below_drew1) | exact HB.out)⟩
  case neg =>
    have e1 : decide ((p.size : Int) > 100) = false := decide_eq_false (by omega)
    have e2 : decide ((100 : Int) < (p.size : Int)) = false := decide_eq_false (by omega)
    have e3 : ¬ 100 < p.size := hp
    by_cases hx : x.size > 100
    case pos =>
      have f1 : decide ((x.size : Int) > 100) = true := decide_eq_true (by omega)
      have f2 : decide ((100 : Int) < (x.size : Int)) = true := decide_eq_true (by omega)
      have f3 : 100 < x.size := hx
      go_wp2
      go_ret
      exact ⟨rfl, by repeat (first | (with_reducible first | exact HB.out | apply below_alloc | apply pw_below_drewN | apply below_drew1) | exact HB.out)⟩
    case neg =>
      have f1 : decide ((x.size : Int) > 100) = false := decide_eq_false (by omega)
      have f2 : decide ((100 : Int) < (x.size : Int)) = false := decide_eq_false (by omega)
      have f3 : ¬ 100 < x.size := hx
      have hcv : wrap64 (n : Int) = (n : Int) := by have := HN.out; unfold wrap64; omega
      obtain ⟨T, hT⟩ : ∃ T, T = dec (n : Int) := ⟨_, rfl⟩
      have hTs : T.size ≤ 21 := by rw [hT]; exact dec_size _ (by omega) (by have := HN.out; omega)
      have HDT := Aside0.mk hT
      have HTS := Aside0.mk hTs
      clear hT hTs
      have HPS : Aside0 (p.size ≤ 100) := ⟨by omega⟩
      have HXS : Aside0 (x.size ≤ 100) := ⟨by omega⟩
      have HN5 : Aside0 (n < 10 ^ 5) := ⟨by have := HN.out; omega⟩
      clear hp hx
      go_wp2_with (fail)
      rw [hcv]
      have HCV := Aside0.mk hcv
      clear hcv
      go_loopg [7, 8] 5 (fun kq v7 v8 w' => ∃ (r : ByteArray) (u : Nat), v7 = .string r ∧ v8 = .int .i64 (u : Int) ∧ Aside0 ((⟨(Lib.decDigits u).toArray⟩ : ByteArray) ++ r = T) ∧ Aside0 (u < 10 ^ kq ∧ u < 65536) ∧ Aside0 (1 ≤ kq ∧ kq ≤ 5) ∧ Aside0 (Below w.heap.size w w'))
      case atStart =>
        exact ⟨⟨#[]⟩, n, rfl, rfl, ⟨dg_start n T HDT.out⟩, ⟨⟨HN5.out, HN.out⟩⟩, ⟨⟨by decide, by decide⟩⟩, ⟨by repeat (first | (with_reducible first | exact HB.out | apply below_alloc | apply pw_below_drewN | apply below_drew1) | exact HB.out)⟩⟩
      case round =>
        clear HB
        obtain ⟨r, u, rfl, rfl, HR, HU, HK, HB⟩ := hrel
        cases gk with
        | zero => exact absurd HK.out.1 (by omega)
        | succ k1 =>
          obtain ⟨d, e, hd, he, hd10, hmod, hw1, hw2, hm2⟩ := dg_facts u
          have hrs : r.size ≤ 21 := dg_size _ _ _ HR.out HTS.out
          obtain ⟨y, hy⟩ : ∃ y : List Int, y = [(e : Int)] := ⟨_, rfl⟩
          have hys : strOfNums y = ⟨#[UInt8.ofNat (48 + u % 10)]⟩ := by rw [hy, he, one_digit d hd10, hd]
          have hyz : (strOfNums y).size = 1 := by rw [hys]; rfl
          have HY := Aside0.mk hy
          have HYS := Aside0.mk hys
          have q0 : (9223372036854775807 < (strOfNums y).size + r.size) = False := eq_false (by omega)
          have q00 : (9223372036854775807 < 1 + r.size) = False := eq_false (by omega)
          clear hy hys hd hd10 he
          by_cases hu : u < 10
          case pos =>
            have g1 : decide ((u : Int) < 10) = true := decide_eq_true (by omega)
            have hS : strOfNums y ++ r = T := by rw [HYS.out, ← dg_last u r hu]; exact HR.out
            have HS := Aside0.mk hS
            clear hS
            have s1 : (9223372036854775807 < T.size + 1) = False := eq_false (by have := HTS.out; omega)
            have hz := num_size T p x
            have hTT := HTS.out
            have hPP := HPS.out
            have hXX := HXS.out
            go_upto_region 10 with (first | ((with_reducible refine gate_dst (N := 27) rfl ?_); refine Kd.R_lit (Kd.int .u8) _ 5 ?hg (N := 27) ?hd (xs := ([(e : Int)] : List Int)) (inner := [.int .u8 (e : Int)]) (ok := fun _ => True) (okp := fun _ => True) ?hr ?hp (fun _ hk => hk) trivial (Below.refl _ _) (Nat.le_refl _) (by simp) ?_; (case hd => rfl); (case hg => rfl); (case hr => first | (go_simp; done) | (go_simp; rfl)); (case hp => exact (Reps.one (show Kd.M (Kd.int .u8) _ _ _ (e : Int) [.int .u8 (e : Int)] from rfl) (Reps.none _ _))); intro v124 w8 ho9 hb hg_ hnew_; clear hg_ hnew_; rw [← HY.out] at ho9; have n0_ := Aside0.mk (Kd.R_lower ho9 (below_size (by repeat (first | (with_reducible first | exact HB.out | apply below_alloc | apply pw_below_drewN | apply below_drew1) | exact HB.out)))); have n1_ := Aside0.mk (below_step (by repeat (first | (with_reducible first | exact HB.out | apply below_alloc | apply pw_below_drewN | apply below_drew1) | exact HB.out)) hb); clear HB; have HO125 := n0_; have HB := n1_; clear n0_ n1_; clear hb ho9; have hcv10 := own_string (P := Tryd.prog) Tryd.underlying38 Tryd.underlying5 Tryd.underlying9 (Kd.own_of_R HO125.out)))
            rw [HS.out]
            have q1 : (9223372036854775807 < T.size + 1) = False := eq_false (by omega)
            have q2 : (9223372036854775807 < T.size + 1 + p.size) = False := eq_false (by omega)
            have q3 : (9223372036854775807 < T.size + 1 + p.size + 1) = False := eq_false (by omega)
            have q4 : (9223372036854775807 < T.size + 1 + p.size + 1 + x.size) = False := eq_false (by omega)
            have HZ := Aside0.mk hz
            clear hz hTT hPP hXX
            obtain ⟨E, hE⟩ : ∃ E, E = num T p x := ⟨_, rfl⟩
            have HE := Aside0.mk hE
            clear hE
            unfold num at HE
            by_cases hc : 64 < T.size + 1 + p.size + 1 + x.size
            case pos =>
              have d0 : decide ((64 : Int) < (T.size : Int) + 1 + p.size + 1 + x.size) = true := decide_eq_true (by omega)
              have d1 : ((64 : Int) < (T.size : Int) + 1 + p.size + 1 + x.size) = True := eq_true (by omega)
              have d2 : decide (64 < T.size + 1 + p.size + 1 + x.size) = true := decide_eq_true hc
              have d3 : (64 < T.size + 1 + p.size + 1 + x.size) = True := eq_true hc
              have d6 : (64 : Int) ≤ (T.size : Int) + 1 + p.size + 1 + x.size := by omega
              have d7 : 64 ≤ T.size + 1 + p.size + 1 + x.size := by omega
              have hcut : cut64 (num (dec (n : Int)) p x) = ((((T ++ (⟨#[58]⟩ : ByteArray)) ++ p) ++ (⟨#[58]⟩ : ByteArray)) ++ x).extract 0 64 := by rw [← HDT.out]; unfold cut64; rw [HZ.out]; exact if_pos hc
              have HCUT := Aside0.mk hcut
              clear hcut hc
              have qe : ((((((T ++ (⟨#[58]⟩ : ByteArray)) ++ p) ++ (⟨#[58]⟩ : ByteArray)) ++ x).extract 0 64).toList == (((((T ++ (⟨#[58]⟩ : ByteArray)) ++ p) ++ (⟨#[58]⟩ : ByteArray)) ++ x).extract 0 64).toList) = true := by simp
              have qf : ((((((T ++ (⟨#[58]⟩ : ByteArray)) ++ p) ++ (⟨#[58]⟩ : ByteArray)) ++ x).extract 0 64) == (((((T ++ (⟨#[58]⟩ : ByteArray)) ++ p) ++ (⟨#[58]⟩ : ByteArray)) ++ x).extract 0 64)) = true := (Go.MapKept.bytes_beq _ _).2 rfl
              have hcv := HCV.out
              go_wp2_with (fail)
              refine (pans.calls 3 4 p x (n : Int) _ (by omega) (by have := HN.out; omega) (by have := HPS.out; omega) (by have := HXS.out; omega) (tabAt HT.out (by repeat (first | (with_reducible first | exact HB.out | apply below_alloc | apply pw_below_drewN | apply below_drew1) | exact HB.out)))).mono ?_
              rintro e_ w9 ⟨he_, hb9⟩
              rw [HCUT.out] at he_
              subst he_
              dsimp only
              have n_ := Aside0.mk (below_step (by repeat (first | (with_reducible first | exact HB.out | apply below_alloc | apply pw_below_drewN | apply below_drew1) | exact HB.out)) hb9)
              clear HB hb9
              have HB := n_
              clear n_
              go_wp2
              go_ret
              exact ⟨rfl, by repeat (first | (with_reducible first | exact HB.out | apply below_alloc | apply pw_below_drewN | apply below_drew1) | exact HB.out)⟩
            case neg =>
              have d0 : decide ((64 : Int) < (T.size : Int) + 1 + p.size + 1 + x.size) = false := decide_eq_false (by omega)
              have d1 : ((64 : Int) < (T.size : Int) + 1 + p.size + 1 + x.size) = False := eq_false (by omega)
              have d2 : decide (64 < T.size + 1 + p.size + 1 + x.size) = false := decide_eq_false hc
              have d3 : (64 < T.size + 1 + p.size + 1 + x.size) = False := eq_false hc
              have hcut : cut64 (num (dec (n : Int)) p x) = ((((T ++ (⟨#[58]⟩ : ByteArray)) ++ p) ++ (⟨#[58]⟩ : ByteArray)) ++ x) := by rw [← HDT.out]; unfold cut64; rw [HZ.out]; exact if_neg hc
              have HCUT := Aside0.mk hcut
              clear hcut hc
              have qe : ((((((T ++ (⟨#[58]⟩ : ByteArray)) ++ p) ++ (⟨#[58]⟩ : ByteArray)) ++ x)).toList == (((((T ++ (⟨#[58]⟩ : ByteArray)) ++ p) ++ (⟨#[58]⟩ : ByteArray)) ++ x)).toList) = true := by simp
              have qf : ((((((T ++ (⟨#[58]⟩ : ByteArray)) ++ p) ++ (⟨#[58]⟩ : ByteArray)) ++ x)) == (((((T ++ (⟨#[58]⟩ : ByteArray)) ++ p) ++ (⟨#[58]⟩ : ByteArray)) ++ x))) = true := (Go.MapKept.bytes_beq _ _).2 rfl
              have hcv := HCV.out
              go_wp2_with (fail)
              refine (pans.calls 3 4 p x (n : Int) _ (by omega) (by have := HN.out; omega) (by have := HPS.out; omega) (by have := HXS.out; omega) (tabAt HT.out (by repeat (first | (with_reducible first | exact HB.out | apply below_alloc | apply pw_below_drewN | apply below_drew1) | exact HB.out)))).mono ?_
              rintro e_ w9 ⟨he_, hb9⟩
              rw [HCUT.out] at he_
              subst he_
              dsimp only
              have n_ := Aside0.mk (below_step (by repeat (first | (with_reducible first | exact HB.out | apply below_alloc | apply pw_below_drewN | apply below_drew1) | exact HB.out)) hb9)
              clear HB hb9
              have HB := n_
              clear n_
              go_wp2
              go_ret
              exact ⟨rfl, by repeat (first | (with_reducible first | exact HB.out | apply below_alloc | apply pw_below_drewN | apply below_drew1) | exact HB.out)⟩
          case neg =>
            have g1 : decide ((u : Int) < 10) = false := decide_eq_false (by omega)
            have g2 : ¬ (u : Int) < 10 := by omega
            obtain ⟨v, hv, hdv, hwv⟩ := dg_quo u HU.out.2
            obtain ⟨hv1, hv2, hv3⟩ := dg_pow u k1 HU.out.1 hu HK.out.2
            have HV : Aside0 (v < 10 ^ k1 ∧ v < 65536) := ⟨⟨by rw [hv]; exact hv1, by rw [hv]; exact Nat.lt_of_le_of_lt (Nat.div_le_self _ _) HU.out.2⟩⟩
            have HK1 : Aside0 (1 ≤ k1 ∧ k1 ≤ 5) := ⟨⟨hv2, hv3⟩⟩
            clear hv1 hv2 hv3
            have HR2 : Aside0 ((⟨(Lib.decDigits v).toArray⟩ : ByteArray) ++ (strOfNums y ++ r) = T) := ⟨by rw [hv, HYS.out, ← dg_next u r hu]; exact HR.out⟩
            clear hv hu
            go_wp2_with (first | ((with_reducible refine gate_dst (N := 27) rfl ?_); refine Kd.R_lit (Kd.int .u8) _ 5 ?hg (N := 27) ?hd (xs := ([(e : Int)] : List Int)) (inner := [.int .u8 (e : Int)]) (ok := fun _ => True) (okp := fun _ => True) ?hr ?hp (fun _ hk => hk) trivial (Below.refl _ _) (Nat.le_refl _) (by simp) ?_; (case hd => rfl); (case hg => rfl); (case hr => first | (go_simp; done) | (go_simp; rfl)); (case hp => exact (Reps.one (show Kd.M (Kd.int .u8) _ _ _ (e : Int) [.int .u8 (e : Int)] from rfl) (Reps.none _ _))); intro v124 w8 ho9 hb hg_ hnew_; clear hg_ hnew_; rw [← HY.out] at ho9; have n0_ := Aside0.mk (Kd.R_lower ho9 (below_size (by repeat (first | (with_reducible first | exact HB.out | apply below_alloc | apply pw_below_drewN | apply below_drew1) | exact HB.out)))); have n1_ := Aside0.mk (below_step (by repeat (first | (with_reducible first | exact HB.out | apply below_alloc | apply pw_below_drewN | apply below_drew1) | exact HB.out)) hb); clear HB; have HO125 := n0_; have HB := n1_; clear n0_ n1_; clear hb ho9; have hcv10 := own_string (P := Tryd.prog) Tryd.underlying38 Tryd.underlying5 Tryd.underlying9 (Kd.own_of_R HO125.out)))
            go_roundg k1
            case measure => have := HK.out; omega
            case rel => exact ⟨_, v, rfl, rfl, HR2, HV, HK1, ⟨by repeat (first | (with_reducible first | exact HB.out | apply below_alloc | apply pw_below_drewN | apply below_drew1) | exact HB.out)⟩⟩
end Go.Proofs.YtnekehlghkfbdaaDoor.PAll
