import Derived.Test.YtnekehlghkfbdaaDoorHOnceP
/- PortsOnce's walk. -/
namespace Go.Proofs.YtnekehlghkfbdaaDoor.PAll
open Go Go.Proofs Go.RowKit Go.Shelf Go.Proofs.YtnekehlghkfbdaaDoorW.PrintWords Go.Proofs.YtnekehlghkfbdaaDoorW.PrintLast Go.Proofs.YtnekehlghkfbdaaDoorW.PrintMore Go.Proofs.YtnekehlghkfbdaaDoor.Bx
attribute [local go_sem] Oper.semAt_some
set_option linter.unusedVariables false
set_option linter.unusedSimpArgs false
def onceN.T15 : Bool × List (List Nat × List Nat) := (true, [([], []), ([], []), ([], []), ([1, 2], [1, 2]), ([3], [3]), ([0, 4], [0, 4]), ([], []), ([], []), ([6, 7], [6, 7]), ([8], [8]), ([5, 9], [5, 9])])
def onceN.B15 : List Nat := [0, 0, 0, 6, 14, 31, 0, 0, 192, 448, 1023]
theorem onceN.tab15 : rtab .any (opsOf Tryd.f4 15) = onceN.T15 := by kernel_rfl
theorem onceN.bits15 : waitsOk onceN.T15.2 onceN.B15 = true := by kernel_rfl
set_option maxHeartbeats 16000000 in
set_option maxRecDepth 100000 in
theorem once_nil (A0 : Option Addr) (c0 : Nat) (l : List S33) (A1 : Option Addr) (c1 : Nat) (ag : List Int) (w : World) (hl : l.length ≤ 4611686018427387904) (hr : Kd.C k33 w A0 l.length l) (hc : l.length ≤ c0) (hra : Kd.C (Kd.int .u8) w A1 ag.length ag) (hag : ∀ x ∈ ag, 0 ≤ x ∧ x ≤ 255) (hca : ag.length ≤ c1) (ht : TAB w) (hle : l.length = 0) :
    Calls Tryd.prog 4 #[.slice A0 l.length c0, .slice A1 ag.length c1] w fun e w' => e = .returned (.bool true) ∧ Below w.heap.size w w' := by
  generalize hA0_ : A0 = AA at hr ⊢
  generalize hA1_ : A1 = AB at hra ⊢
  have HLE := Aside0.mk hle
  clear hle
  have hu33 := Tryd.underlying33
  have HR := Aside0.mk hr
  have HC := Aside0.mk hc
  have HT := Aside0.mk ht
  have HRA := Aside0.mk hra
  have HAG := Aside0.mk hag
  obtain ⟨fb, hfb, hfew⟩ := few_law l hl
  have FB := Aside0.mk hfb
  have FW := Aside0.mk hfew
  clear hr hc ht hra hag hca hfb hfew hl
  go_enter Tryd.func4, Tryd.ntmps4
  go_wp2_with (fail)
  refine (known_h w HT.out).mono ?_
  rintro e_ w1 ⟨rfl, hb1⟩
  dsimp only
  have HB := Aside0.mk hb1
  clear hb1
  go_wp2_with (fail)
  refine (windlasslaw20_few.calls (l.length + 1) AA c0 l fb _ (Kd.C_below HR.out HB.out) HC.out FB.out).mono ?_
  rintro e_ w2 ⟨rfl, m_, rfl⟩
  dsimp only
  cases fb
  case false =>
    go_wp2
    go_ret
    exact ⟨rfl, by repeat (first | (with_reducible first | exact HB.out | apply below_alloc | apply pw_below_drewN | apply below_drew1) | exact HB.out)⟩
  case true =>
    by_cases hag1 : ag.length > 100
    case pos =>
      have e1 : decide ((ag.length : Int) > 100) = true := decide_eq_true (by omega)
      have e2 : (100 : Int) < (ag.length : Int) := by omega
      have e3 : decide ((100 : Int) < (ag.length : Int)) = true := decide_eq_true e2
      have e4 : (100 < ag.length) := hag1
      go_wp2
      go_ret
      exact ⟨rfl, by repeat (first | (with_reducible first | exact HB.out | apply below_alloc | apply pw_below_drewN | apply below_drew1) | exact HB.out)⟩
    case neg =>
      have e1 : decide ((ag.length : Int) > 100) = false := decide_eq_false (by omega)
      have e2 : ¬ (100 : Int) < (ag.length : Int) := by omega
      have e3 : decide ((100 : Int) < (ag.length : Int)) = false := decide_eq_false e2
      have e4 : ¬ (100 < ag.length) := hag1
      obtain ⟨hl80, hsm⟩ := FW.out rfl
      have HL := Aside0.mk hl80
      have HSM := Aside0.mk hsm
      clear hl80 hsm FW
      have HE : Aside0 (Pv w (w1.drewN m_) [] [] [] []) := ⟨(Pv.start w).call (pw_below_drewN HB.out m_)⟩
      clear HB
      go_wp2_with (fail)
      refine (new_calls HE.out).mono ?_
      rintro e_ w3 ⟨s, B, rfl, hp_⟩
      dsimp only
      clear HE
      have HAG1 := Aside0.mk hag1
      clear hag1 e1 e2 e3 e4
      have HE := Aside0.mk hp_.nilT
      clear hp_
      replace HE : Aside0 (Pv w w3 [(s, #[.map (some B), .slice none 0 0], 44)] [(B, mapL [])] [(.slice none 0 0, callsL [])] [(.slice none 0 0, [])]) := HE
      go_wp2_with (fail)
      go_loopg [6, 7] (l.length + 1) (fun kq v6 v7 w' => ∃ (j : Nat) (A2 : Option Addr) (n2 c2 : Nat), v7 = .int .i64 (j : Int) ∧ v6 = .slice A2 n2 c2 ∧ Aside0 (j ≤ l.length) ∧ Aside0 (kq + j = l.length + 1) ∧ (∃ A3 n3 c3, Aside0 (Pv w w' [(s, #[.map (some B), .slice A3 n3 c3], 44)] [(B, mapL (asked (l.take j)))] [(.slice A3 n3 c3, callsL (asked (l.take j)))] [(.slice A2 n2 c2, told (l.take j))])))
      case atStart => exact ⟨0, _, _, _, rfl, rfl, ⟨Nat.zero_le _⟩, ⟨rfl⟩, _, _, _, HE⟩
      case round =>
        clear HE
        obtain ⟨j, A2, n2, c2, rfl, rfl, HJ, HK1, A3, n3, c3, HE⟩ := hrel
        cases gk with
        | zero => exact absurd HK1.out (by have := HJ.out; omega)
        | succ k1 =>
          obtain ⟨DL, hDL⟩ : ∃ DL, DL = asked (l.take j) := ⟨_, rfl⟩
          have HDL := Aside0.mk hDL
          rw [← hDL] at HE
          clear hDL
          obtain ⟨FL, hFL⟩ : ∃ FL, FL = told (l.take j) := ⟨_, rfl⟩
          have HFL := Aside0.mk hFL
          rw [← hFL] at HE
          clear hFL
          have HD : Aside0 (DL.length ≤ 100) := ⟨by rw [HDL.out]; have h1 := asked_le (l.take j); have h2 := HL.out; rw [List.length_take] at h1; omega⟩
          have HFN : Aside0 (FL.length = j) := ⟨by rw [HFL.out]; exact told_length l j HJ.out⟩
          by_cases hj : j < l.length
          case pos =>
            exact absurd HLE.out (by omega)
          case neg =>
            have HDU : Aside0 (DL.length ≤ l.length) := ⟨by rw [HDL.out]; have h1 := asked_le (l.take j); rw [List.length_take] at h1; omega⟩
            have hjn : ¬ j < l.length := hj
            have d1 : decide ((j : Int) < (l.length : Int)) = false := decide_eq_false (by omega)
            have hjl : j = l.length := by have := HJ.out; omega
            have HLK : Aside0 (∀ (i : Nat) (p : S33), l[i]? = some p → ∃ a, FL[i]? = some a ∧ look (p.f0, p.f1) (mapL DL) = some a ∧ a.size ≤ 64 ∧ cnt p (callsL DL) = 1) := ⟨fun i p hp => by
              obtain ⟨a, h1, h2⟩ := told_look l l.length (Nat.le_refl _) i p (List.getElem?_eq_some_iff.1 hp).1 hp
              have eD : DL = asked (l.take l.length) := by rw [HDL.out, hjl]
              have eF : FL = told (l.take l.length) := by rw [HFL.out, hjl]
              rw [← eD] at h2
              rw [← eF] at h1
              have hI : Inv DL := by rw [eD]; exact inv_l _
              exact ⟨a, h1, h2, look_size _ _ DL hI.2 h2, cnt_one p a DL hI h2⟩⟩
            have HI : Aside0 (Inv DL) := ⟨by rw [HDL.out]; exact inv_l _⟩
            clear HK1 HDL HFL hj
            go_wp2_with (fail)
            go_loopg [8] (ag.length + 1) (fun kq v8 w' => ∃ (q : Nat), v8 = .int .i64 (q : Int) ∧ Aside0 (q ≤ ag.length) ∧ Aside0 (kq + q = ag.length + 1) ∧ (∃ A3 n3 c3, Aside0 (Pv w w' [(s, #[.map (some B), .slice A3 n3 c3], 44)] [(B, mapL DL)] [(.slice A3 n3 c3, callsL DL)] [(.slice A2 n2 c2, FL)])))
            case atStart => exact ⟨0, rfl, ⟨Nat.zero_le _⟩, ⟨rfl⟩, _, _, _, HE⟩
            case round =>
              clear HE
              obtain ⟨q, rfl, HQ, HK2, A3, n3, c3, HE⟩ := hrel
              cases gk with
              | zero => exact absurd HK2.out (by have := HQ.out; omega)
              | succ k2 =>
                by_cases hq : q < ag.length ∧ 0 < l.length
                case pos =>
                  exact absurd HLE.out (by omega)
                case neg =>
                  have c0b : (¬ q < ag.length) ∨ (q < ag.length ∧ ¬ 0 < l.length) := by omega
                  clear hq HK2
                  skip
                  skip
                  skip
                  skip
                  rcases c0b with c1n | ⟨c1p, c2n⟩
                  · skip
                    have c1b : decide ((q : Int) < (ag.length : Int)) = false := decide_eq_false (by omega)
                    go_wp2_with (fail)
                    refine (done_calls 0 0 HE.out rfl rfl (by rw [callsL_length]; have := HD.out; omega)).mono ?_
                    rintro e_ X2 ⟨v4_, rfl, hp_⟩
                    dsimp only
                    have n_ := Aside0.mk hp_
                    clear hp_ HE
                    (try clear z_s_0)
                    (try clear z_s_1)
                    (try clear y_s_0)
                    (try clear y_s_1)
                    have HE := n_
                    clear n_
                    obtain ⟨A4, c4, e4_⟩ := Kd.N_slice (HE.out.rc 0 rfl)
                    subst e4_
                    obtain ⟨KS, hKS⟩ : ∃ KS, KS = callsL DL := ⟨_, rfl⟩
                    rw [← hKS] at HE ⊢
                    have HKS := Aside0.mk hKS
                    clear hKS
                    have HKD : Aside0 (KS.length ≤ l.length) := ⟨by rw [HKS.out, callsL_length]; exact HDU.out⟩
                    have HKN : Aside0 (KS.length ≤ 100) := ⟨by rw [HKS.out, callsL_length]; exact HD.out⟩
                    go_wp2_with (fail)
                    go_loopg [11] (KS.length + 1) (fun kq v11 w' => ∃ (i : Nat), v11 = .int .i64 (i : Int) ∧ Aside0 (i ≤ KS.length) ∧ Aside0 (kq + i = KS.length + 1) ∧ Aside0 (Pv w w' [(s, #[.map (some B), .slice A3 n3 c3], 44)] [(B, mapL DL)] [(.slice A4 KS.length c4, KS), (.slice A3 n3 c3, KS)] [(.slice A2 n2 c2, FL)]))
                    case atStart => exact ⟨0, rfl, ⟨Nat.zero_le _⟩, ⟨rfl⟩, HE⟩
                    case round =>
                      clear HE
                      obtain ⟨i, rfl, HI3, HK3, HE⟩ := hrel
                      cases gk with
                      | zero => exact absurd HK3.out (by have := HI3.out; omega)
                      | succ k3 =>
                        by_cases hi : i < KS.length
                        case pos =>
                          have h0 := HLE.out
                          have h1 := HKD.out
                          exact absurd hi (by omega)
                        case neg =>
                          have g1 : decide ((i : Int) < (KS.length : Int)) = false := decide_eq_false (by omega)
                          clear HK3 HI3
                          go_wp2_with (fail)
                          go_loopg [13] (l.length + 1) (fun kq v13 w' => ∃ (u : Nat), v13 = .int .i64 (u : Int) ∧ Aside0 (u ≤ l.length) ∧ Aside0 (kq + u = l.length + 1) ∧ Aside0 (Pv w w' [(s, #[.map (some B), .slice A3 n3 c3], 44)] [(B, mapL DL)] [(.slice A4 KS.length c4, KS), (.slice A3 n3 c3, KS)] [(.slice A2 n2 c2, FL)]))
                          case atStart => exact ⟨0, rfl, ⟨Nat.zero_le _⟩, ⟨rfl⟩, HE⟩
                          case round =>
                            clear HE
                            obtain ⟨u, rfl, HU, HK5, HE⟩ := hrel
                            cases gk with
                            | zero => exact absurd HK5.out (by have := HU.out; omega)
                            | succ k5 =>
                              by_cases hu : u < l.length
                              case pos =>
                                exact absurd HLE.out (by omega)
                              case neg =>
                                have g3 : decide ((u : Int) < (l.length : Int)) = false := decide_eq_false (by omega)
                                go_wp2
                                go_ret
                                exact ⟨rfl, HE.out.below⟩
                  · skip
                    have c1b : decide ((q : Int) < (ag.length : Int)) = true := decide_eq_true (by omega)
                    have c2b : decide ((0 : Int) < (l.length : Int)) = false := decide_eq_false (by omega)
                    go_wp2_with (fail)
                    refine (done_calls 0 0 HE.out rfl rfl (by rw [callsL_length]; have := HD.out; omega)).mono ?_
                    rintro e_ X3 ⟨v4_, rfl, hp_⟩
                    dsimp only
                    have n_ := Aside0.mk hp_
                    clear hp_ HE
                    (try clear z_s_0)
                    (try clear z_s_1)
                    (try clear y_s_0)
                    (try clear y_s_1)
                    have HE := n_
                    clear n_
                    obtain ⟨A4, c4, e4_⟩ := Kd.N_slice (HE.out.rc 0 rfl)
                    subst e4_
                    obtain ⟨KS, hKS⟩ : ∃ KS, KS = callsL DL := ⟨_, rfl⟩
                    rw [← hKS] at HE ⊢
                    have HKS := Aside0.mk hKS
                    clear hKS
                    have HKD : Aside0 (KS.length ≤ l.length) := ⟨by rw [HKS.out, callsL_length]; exact HDU.out⟩
                    have HKN : Aside0 (KS.length ≤ 100) := ⟨by rw [HKS.out, callsL_length]; exact HD.out⟩
                    go_wp2_with (fail)
                    go_loopg [11] (KS.length + 1) (fun kq v11 w' => ∃ (i : Nat), v11 = .int .i64 (i : Int) ∧ Aside0 (i ≤ KS.length) ∧ Aside0 (kq + i = KS.length + 1) ∧ Aside0 (Pv w w' [(s, #[.map (some B), .slice A3 n3 c3], 44)] [(B, mapL DL)] [(.slice A4 KS.length c4, KS), (.slice A3 n3 c3, KS)] [(.slice A2 n2 c2, FL)]))
                    case atStart => exact ⟨0, rfl, ⟨Nat.zero_le _⟩, ⟨rfl⟩, HE⟩
                    case round =>
                      clear HE
                      obtain ⟨i, rfl, HI3, HK3, HE⟩ := hrel
                      cases gk with
                      | zero => exact absurd HK3.out (by have := HI3.out; omega)
                      | succ k3 =>
                        by_cases hi : i < KS.length
                        case pos =>
                          have h0 := HLE.out
                          have h1 := HKD.out
                          exact absurd hi (by omega)
                        case neg =>
                          have g1 : decide ((i : Int) < (KS.length : Int)) = false := decide_eq_false (by omega)
                          clear HK3 HI3
                          go_wp2_with (fail)
                          go_loopg [13] (l.length + 1) (fun kq v13 w' => ∃ (u : Nat), v13 = .int .i64 (u : Int) ∧ Aside0 (u ≤ l.length) ∧ Aside0 (kq + u = l.length + 1) ∧ Aside0 (Pv w w' [(s, #[.map (some B), .slice A3 n3 c3], 44)] [(B, mapL DL)] [(.slice A4 KS.length c4, KS), (.slice A3 n3 c3, KS)] [(.slice A2 n2 c2, FL)]))
                          case atStart => exact ⟨0, rfl, ⟨Nat.zero_le _⟩, ⟨rfl⟩, HE⟩
                          case round =>
                            clear HE
                            obtain ⟨u, rfl, HU, HK5, HE⟩ := hrel
                            cases gk with
                            | zero => exact absurd HK5.out (by have := HU.out; omega)
                            | succ k5 =>
                              by_cases hu : u < l.length
                              case pos =>
                                exact absurd HLE.out (by omega)
                              case neg =>
                                have g3 : decide ((u : Int) < (l.length : Int)) = false := decide_eq_false (by omega)
                                go_wp2
                                go_ret
                                exact ⟨rfl, HE.out.below⟩
end Go.Proofs.YtnekehlghkfbdaaDoor.PAll
