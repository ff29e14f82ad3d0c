import Derived.Test.YtnekehlghkfbdaaDoorHOnceP
/- PortsOnce's walk. -/
namespace Go.Proofs.YtnekehlghkfbdaaDoor.PAll
open Go Go.Proofs Go.RowKit Go.Shelf Go.Proofs.YtnekehlghkfbdaaDoorW.PrintWords Go.Proofs.YtnekehlghkfbdaaDoorW.PrintLast Go.Proofs.YtnekehlghkfbdaaDoorW.PrintMore Go.Proofs.YtnekehlghkfbdaaDoor.Bx
attribute [local go_sem] Oper.semAt_some
set_option linter.unusedVariables false
set_option linter.unusedSimpArgs false
def once.T15 : Bool × List (List Nat × List Nat) := (true, [([], []), ([], []), ([], []), ([1, 2], [1, 2]), ([3], [3]), ([0, 4], [0, 4]), ([], []), ([], []), ([6, 7], [6, 7]), ([8], [8]), ([5, 9], [5, 9])])
def once.B15 : List Nat := [0, 0, 0, 6, 14, 31, 0, 0, 192, 448, 1023]
theorem once.tab15 : rtab .any (opsOf Tryd.f4 15) = once.T15 := by kernel_rfl
theorem once.bits15 : waitsOk once.T15.2 once.B15 = true := by kernel_rfl
/-- A walk cut in parts: what is left to show at the cut, and that it is enough. -/
structure once_ne.Cut (G : Prop) where
  P : Prop
  ok : P → G
def once_ne.cut_mk {G P : Prop} (h : Aside0 P → G) : once_ne.Cut G := ⟨P, fun p => h (Aside0.mk p)⟩
set_option maxHeartbeats 16000000 in
set_option maxRecDepth 100000 in
noncomputable def once_ne.p0 (A0 : Option Addr) (c0 : Nat) (l : List S33) (A1 : Option Addr) (c1 : Nat) (ag : List Int) (w : World) : once_ne.Cut (∀ (hl : l.length ≤ 4611686018427387904) (hr : Kd.C k33 w A0 l.length l) (hc : l.length ≤ c0) (hra : Kd.C (Kd.int .u8) w A1 ag.length ag) (hag : ∀ x ∈ ag, 0 ≤ x ∧ x ≤ 255) (hca : ag.length ≤ c1) (ht : TAB w) (hle : 0 < l.length), Calls Tryd.prog 4 #[.slice A0 l.length c0, .slice A1 ag.length c1] w fun e w' => e = .returned (.bool true) ∧ Below w.heap.size w w') := by
  apply once_ne.cut_mk
  focus
    intro hcutP hl hr hc hra hag hca ht hle
    generalize hA0_ : A0 = AA at hr ⊢
    generalize hA1_ : A1 = AB at hra ⊢
    have HLE := Aside0.mk hle
    clear hle
    have hu33 := Tryd.underlying33
    have HR := Aside0.mk hr
    have HC := Aside0.mk hc
    have HT := Aside0.mk ht
    have HRA := Aside0.mk hra
    have HAG := Aside0.mk hag
    obtain ⟨fb, hfb, hfew⟩ := few_law l hl
    have FB := Aside0.mk hfb
    have FW := Aside0.mk hfew
    clear hr hc ht hra hag hca hfb hfew hl
    go_enter Tryd.func4, Tryd.ntmps4
    go_wp2_with (fail)
    refine (known_h w HT.out).mono ?_
    rintro e_ w1 ⟨rfl, hb1⟩
    dsimp only
    have HB := Aside0.mk hb1
    clear hb1
    go_wp2_with (fail)
    refine (windlasslaw20_few.calls (l.length + 1) AA c0 l fb _ (Kd.C_below HR.out HB.out) HC.out FB.out).mono ?_
    rintro e_ w2 ⟨rfl, m_, rfl⟩
    dsimp only
    cases fb
    case false =>
      go_wp2
      go_ret
      exact ⟨rfl, by repeat (first | (with_reducible first | exact HB.out | apply below_alloc | apply pw_below_drewN | apply below_drew1) | exact HB.out)⟩
    case true =>
      by_cases hag1 : ag.length > 100
      case pos =>
        have e1 : decide ((ag.length : Int) > 100) = true := decide_eq_true (by omega)
        have e2 : (100 : Int) < (ag.length : Int) := by omega
        have e3 : decide ((100 : Int) < (ag.length : Int)) = true := decide_eq_true e2
        have e4 : (100 < ag.length) := hag1
        go_wp2
        go_ret
        exact ⟨rfl, by repeat (first | (with_reducible first | exact HB.out | apply below_alloc | apply pw_below_drewN | apply below_drew1) | exact HB.out)⟩
      case neg =>
        have e1 : decide ((ag.length : Int) > 100) = false := decide_eq_false (by omega)
        have e2 : ¬ (100 : Int) < (ag.length : Int) := by omega
        have e3 : decide ((100 : Int) < (ag.length : Int)) = false := decide_eq_false e2
        have e4 : ¬ (100 < ag.length) := hag1
        obtain ⟨hl80, hsm⟩ := FW.out rfl
        have HL := Aside0.mk hl80
        have HSM := Aside0.mk hsm
        clear hl80 hsm FW
        have HE : Aside0 (Pv w (w1.drewN m_) [] [] [] []) := ⟨(Pv.start w).call (pw_below_drewN HB.out m_)⟩
        clear HB
        go_wp2_with (fail)
        refine (new_calls HE.out).mono ?_
        rintro e_ w3 ⟨s, B, rfl, hp_⟩
        dsimp only
        clear HE
        have HAG1 := Aside0.mk hag1
        clear hag1 e1 e2 e3 e4
        have HE := Aside0.mk hp_.nilT
        clear hp_
        replace HE : Aside0 (Pv w w3 [(s, #[.map (some B), .slice none 0 0], 44)] [(B, mapL [])] [(.slice none 0 0, callsL [])] [(.slice none 0 0, [])]) := HE
        go_wp2_with (fail)
        go_loopg [6, 7] (l.length + 1) (fun kq v6 v7 w' => ∃ (j : Nat) (A2 : Option Addr) (n2 c2 : Nat), v7 = .int .i64 (j : Int) ∧ v6 = .slice A2 n2 c2 ∧ Aside0 (j ≤ l.length) ∧ Aside0 (kq + j = l.length + 1) ∧ (∃ A3 n3 c3, Aside0 (Pv w w' [(s, #[.map (some B), .slice A3 n3 c3], 44)] [(B, mapL (asked (l.take j)))] [(.slice A3 n3 c3, callsL (asked (l.take j)))] [(.slice A2 n2 c2, told (l.take j))])))
        case atStart => exact ⟨0, _, _, _, rfl, rfl, ⟨Nat.zero_le _⟩, ⟨rfl⟩, _, _, _, HE⟩
        case round =>
          clear HE
          obtain ⟨j, A2, n2, c2, rfl, rfl, HJ, HK1, A3, n3, c3, HE⟩ := hrel
          cases gk with
          | zero => exact absurd HK1.out (by have := HJ.out; omega)
          | succ k1 =>
            obtain ⟨DL, hDL⟩ : ∃ DL, DL = asked (l.take j) := ⟨_, rfl⟩
            have HDL := Aside0.mk hDL
            rw [← hDL] at HE
            clear hDL
            obtain ⟨FL, hFL⟩ : ∃ FL, FL = told (l.take j) := ⟨_, rfl⟩
            have HFL := Aside0.mk hFL
            rw [← hFL] at HE
            clear hFL
            have HD : Aside0 (DL.length ≤ 100) := ⟨by rw [HDL.out]; have h1 := asked_le (l.take j); have h2 := HL.out; rw [List.length_take] at h1; omega⟩
            have HFN : Aside0 (FL.length = j) := ⟨by rw [HFL.out]; exact told_length l j HJ.out⟩
            by_cases hj : j < l.length
            case pos =>
              obtain ⟨p, hp⟩ : ∃ p, l[j]? = some p := ⟨_, List.getElem?_eq_getElem hj⟩
              have HP := Aside0.mk hp
              have HSP : Aside0 (small p) := ⟨HSM.out j p hp⟩
              have d1 : decide ((j : Int) < (l.length : Int)) = true := decide_eq_true (by omega)
              have d2 : (0 : Int) ≤ (j : Int) := by omega
              obtain ⟨ad, hA, hx0, hx1, hx2, hx3⟩ := at_c HR.out j p hp
              have HX0 := Aside0.mk hx0
              have HX1 := Aside0.mk hx1
              have HX2 := Aside0.mk hx2
              have HX3 := Aside0.mk hx3
              clear hp hx0 hx1 hx2 hx3
              subst hA
              have zx_0 : wr.cell? (ad.add (j * 4)) = some (.int .i64 p.f0) := HE.out.old (HX0.out)
              have zx_1 : wr.cell? ⟨(ad.add (j * 4)).block, (ad.add (j * 4)).off + 1, none⟩ = some (.int .i64 p.f1) := HE.out.old (HX1.out)
              have zx_2 : wr.cell? ⟨(ad.add (j * 4)).block, (ad.add (j * 4)).off + 2, none⟩ = some (.string p.f2) := HE.out.old (HX2.out)
              have zx_3 : wr.cell? ⟨(ad.add (j * 4)).block, (ad.add (j * 4)).off + 3, none⟩ = some (.string p.f3) := HE.out.old (HX3.out)
              go_wp2_with (fail)
              refine (c_ask p HE.out (by have := HD.out; omega) HSP.out HT.out).mono ?_
              rintro e_ X1 ⟨rfl, v4_, hp_⟩
              dsimp only
              have n_ := Aside0.mk hp_
              clear hp_ HE
              (try clear z_s_0)
              (try clear z_s_1)
              (try clear y_s_0)
              (try clear y_s_1)
              (try clear zx_0)
              (try clear zx_1)
              (try clear zx_2)
              (try clear zx_3)
              have HE := n_
              clear n_
              have zx_0 : X1.cell? (ad.add (j * 4)) = some (.int .i64 p.f0) := HE.out.old (HX0.out)
              have zx_1 : X1.cell? ⟨(ad.add (j * 4)).block, (ad.add (j * 4)).off + 1, none⟩ = some (.int .i64 p.f1) := HE.out.old (HX1.out)
              have zx_2 : X1.cell? ⟨(ad.add (j * 4)).block, (ad.add (j * 4)).off + 2, none⟩ = some (.string p.f2) := HE.out.old (HX2.out)
              have zx_3 : X1.cell? ⟨(ad.add (j * 4)).block, (ad.add (j * 4)).off + 3, none⟩ = some (.string p.f3) := HE.out.old (HX3.out)
              skip
              obtain ⟨A4, n4, c4, e4_⟩ : ∃ A n c, v4_ = Value.slice A n c := (Kd.N_slice (HE.out.rc 0 rfl)).imp fun A h => ⟨_, h⟩
              subst e4_
              go_wp2_with ((with_reducible refine gate_builtin (b := .append) (xs := #[.tmp 33, .tmp 40]) rfl ?_); at_builtin; refine Kd.N_append Kd.string (w0 := w) w.heap.size rfl (.tmp 33) (.tmp 40) 28 9 (.string ⟨#[]⟩) 16 rfl Tryd.underlying28 infoS rfl (by decide) (by omega) (.slice A2 n2 c2) FL (askA DL p) [.string (askA DL p)] (fun k => some k = Value.ownBlock (.slice A2 n2 c2) ∨ X1.heap.size ≤ k) (fun _ => False) rfl rfl (fun _ _ => rfl) (fun _ hk => hk.elim) (fun _ hk => .inr hk) (Kd.N_mono (HE.out.rt 0 rfl) (fun _ hk => .inl hk)) HE.out.below HE.out.size (by have := HFN.out; have := HL.out; have := HJ.out; omega) ?_; intro v5 w5 hN hb hg hat; obtain ⟨A5, n5, c5, e5_⟩ : ∃ A n c, v5 = Value.slice A n c := (Kd.N_slice hN).imp fun A h => ⟨_, h⟩; subst e5_; have n_ := Aside0.mk (HE.out.growT hN hg hat); clear HE hN hb hg hat; have HE := n_; clear n_)
              go_roundg k1
              case measure => have := HK1.out; omega
              case rel => exact ⟨j + 1, _, _, _, by rw [wrap_j j (by have := HL.out; omega)], rfl, ⟨hj⟩, ⟨by have := HK1.out; omega⟩, _, _, _, ⟨by rw [asked_next l j p HP.out, told_next l j p HP.out, ← HDL.out, ← HFL.out]; exact HE.out⟩⟩
            case neg =>
              have hjn : ¬ j < l.length := hj
              have d1 : decide ((j : Int) < (l.length : Int)) = false := decide_eq_false (by omega)
              have hjl : j = l.length := by have := HJ.out; omega
              have HLK : Aside0 (∀ (i : Nat) (p : S33), l[i]? = some p → ∃ a, FL[i]? = some a ∧ look (p.f0, p.f1) (mapL DL) = some a ∧ a.size ≤ 64 ∧ cnt p (callsL DL) = 1) := ⟨fun i p hp => by
                obtain ⟨a, h1, h2⟩ := told_look l l.length (Nat.le_refl _) i p (List.getElem?_eq_some_iff.1 hp).1 hp
                have eD : DL = asked (l.take l.length) := by rw [HDL.out, hjl]
                have eF : FL = told (l.take l.length) := by rw [HFL.out, hjl]
                rw [← eD] at h2
                rw [← eF] at h1
                have hI : Inv DL := by rw [eD]; exact inv_l _
                exact ⟨a, h1, h2, look_size _ _ DL hI.2 h2, cnt_one p a DL hI h2⟩⟩
              have HI : Aside0 (Inv DL) := ⟨by rw [HDL.out]; exact inv_l _⟩
              clear HK1 HDL HFL hj
              go_wp2_with (fail)
              rename_i ic00_ ic01_ ic02_ ic03_ ic04_ ic05_ ic06_ ic07_ ic08_ ic09_
              revert AA hA0_ AB hA1_ HLE hu33 HR HC HT HRA HAG ic00_ w1 m_ FB HL HSM w3 s B HAG1 ic01_ wr u27 u28 u29 u30 u31 u32 u33 u34 u35 u36 u37 u38 u39 u40 u41 ic02_ ic03_ ic04_ j A2 n2 c2 HJ A3 n3 c3 k1 ic05_ DL FL HE HD HFN hjn d1 hjl HLK HI ic06_ ic07_ ic08_ ic09_
              exact hcutP.out
set_option maxHeartbeats 16000000 in
set_option maxRecDepth 100000 in
noncomputable def once_ne.p1 (A0 : Option Addr) (c0 : Nat) (l : List S33) (A1 : Option Addr) (c1 : Nat) (ag : List Int) (w : World) : once_ne.Cut ((once_ne.p0 A0 c0 l A1 c1 ag w).P) := by
  apply once_ne.cut_mk
  focus
    intro hcutP AA hA0_ AB hA1_ HLE hu33 HR HC HT HRA HAG ic00_ w1 m_ FB HL HSM w3 s B HAG1 ic01_ wr u27 u28 u29 u30 u31 u32 u33 u34 u35 u36 u37 u38 u39 u40 u41 ic02_ ic03_ ic04_ j A2 n2 c2 HJ A3 n3 c3 k1 ic05_ DL FL HE HD HFN hjn d1 hjl HLK HI ic06_ ic07_ ic08_ ic09_
    go_loopg [8] (ag.length + 1) (fun kq v8 w' => ∃ (q : Nat), v8 = .int .i64 (q : Int) ∧ Aside0 (q ≤ ag.length) ∧ Aside0 (kq + q = ag.length + 1) ∧ (∃ A3 n3 c3, Aside0 (Pv w w' [(s, #[.map (some B), .slice A3 n3 c3], 44)] [(B, mapL DL)] [(.slice A3 n3 c3, callsL DL)] [(.slice A2 n2 c2, FL)])))
    case atStart => exact ⟨0, rfl, ⟨Nat.zero_le _⟩, ⟨rfl⟩, _, _, _, HE⟩
    case round =>
      clear HE
      obtain ⟨q, rfl, HQ, HK2, A3, n3, c3, HE⟩ := hrel
      cases gk with
      | zero => exact absurd HK2.out (by have := HQ.out; omega)
      | succ k2 =>
        by_cases hq : q < ag.length ∧ 0 < l.length
        case pos =>
          obtain ⟨hq1, hq2⟩ := hq
          have HQ1 := Aside0.mk hq1
          obtain ⟨b, hb⟩ : ∃ b, ag[q]? = some b := ⟨_, List.getElem?_eq_getElem hq1⟩
          obtain ⟨hb0, hb1⟩ := HAG.out b (List.mem_of_getElem? hb)
          obtain ⟨nb, rfl⟩ : ∃ nb : Nat, b = (nb : Int) := ⟨b.toNat, by omega⟩
          have c1b : decide ((q : Int) < (ag.length : Int)) = true := decide_eq_true (by omega)
          have c2b : decide ((l.length : Int) > 0) = true := decide_eq_true (by omega)
          have c3b : decide ((0 : Int) < (l.length : Int)) = true := decide_eq_true (by omega)
          have c4b : (0 : Int) ≤ (q : Int) := by omega
          have c5b : ((l.length : Int) == 0) = false := beq_eq_false_iff_ne.2 (by omega)
          have c6b : (l.length == 0) = false := beq_eq_false_iff_ne.2 (by omega)
          have c7b : ¬ l.length = 0 := by omega
          obtain ⟨adb, hAb, hxb⟩ := at_b HRA.out q _ hb
          have HXB := Aside0.mk hxb
          clear hb hxb
          subst hAb
          have hmod : Int.tmod (nb : Int) (l.length : Int) = ((nb % l.length : Nat) : Int) := by rw [Int.tmod_eq_emod_of_nonneg (by omega)]; rfl
          obtain ⟨i, hi⟩ : ∃ i, i = nb % l.length := ⟨_, rfl⟩
          have hil : i < l.length := by rw [hi]; exact Nat.mod_lt nb hq2
          have HMOD : Aside0 (Int.tmod (nb : Int) (l.length : Int) = (i : Int)) := ⟨by rw [hmod, hi]⟩
          rw [← hi] at hmod
          clear hi
          have hwr : wrap64 (i : Int) = (i : Int) := by have := HL.out; unfold wrap64; omega
          have hcv : wrap64 (nb : Int) = (nb : Int) := by unfold wrap64; omega
          obtain ⟨p, hp⟩ : ∃ p, l[i]? = some p := ⟨_, List.getElem?_eq_getElem hil⟩
          have HP := Aside0.mk hp
          have HSP : Aside0 (small p) := ⟨HSM.out i p hp⟩
          obtain ⟨a, hFa, hlk, hsz, hcn⟩ := HLK.out i p hp
          have HFA := Aside0.mk hFa
          have HLKA := Aside0.mk hlk
          have e1 : decide ((i : Int) < (l.length : Int)) = true := decide_eq_true (by omega)
          have e2 : (0 : Int) ≤ (i : Int) := by omega
          obtain ⟨adi, hA, hx0, hx1, hx2, hx3⟩ := at_c HR.out i p hp
          have HX0i := Aside0.mk hx0
          have HX1i := Aside0.mk hx1
          have HX2i := Aside0.mk hx2
          have HX3i := Aside0.mk hx3
          clear hp hx0 hx1 hx2 hx3
          subst hA
          have hFp : 0 < FL.length := Nat.lt_of_le_of_lt (Nat.zero_le _) (List.getElem?_eq_some_iff.1 hFa).1
          have hiF : i < FL.length := (List.getElem?_eq_some_iff.1 hFa).1
          obtain ⟨adf, cf, ef_⟩ := HE.out.tsome 0 rfl hFp
          obtain ⟨rfl, rfl, rfl⟩ : A2 = some adf ∧ n2 = FL.length ∧ c2 = cf := by simpa using ef_
          clear ef_ hFa hlk hsz hcn hb0 hb1
          have zb_ : wr.cell? (adb.add q) = some (.int .u8 (nb : Int)) := HE.out.old (HXB.out)
          have e3 : decide ((i : Int) < (FL.length : Int)) = true := decide_eq_true (by omega)
          go_upto_region 15 with (fail)
          (try clear z_s_0)
          (try clear z_s_1)
          (try clear y_s_0)
          (try clear y_s_1)
          (try clear zb_)
          have n_ := Aside0.mk (HE.out.call (below_drew (Below.refl _ _)))
          clear HE
          have HE := n_
          clear n_
          have zb_ : wr.drew.cell? (adb.add q) = some (.int .u8 (nb : Int)) := HE.out.old (HXB.out)
          have qa3 : (askA DL p == a) = true := (Go.MapKept.bytes_beq _ _).2 (askA_of HLKA.out)
          have qa : (askA DL p != a) = false := by simp [bne, qa3]
          have qa2 : ((askA DL p).toList == a.toList) = true := by rw [askA_of HLKA.out]; simp
          have qa4 : ((askA DL p).toList != a.toList) = false := by simp [bne, qa2]
          refine start_ (n := 11) (S := fun w' => w'.cell? (adi.add (i * 4)) = some (.int .i64 p.f0) ∧ w'.cell? ⟨(adi.add (i * 4)).block, (adi.add (i * 4)).off + 1, none⟩ = some (.int .i64 p.f1) ∧ w'.cell? ⟨(adi.add (i * 4)).block, (adi.add (i * 4)).off + 2, none⟩ = some (.string p.f2) ∧ w'.cell? ⟨(adi.add (i * 4)).block, (adi.add (i * 4)).off + 3, none⟩ = some (.string p.f3) ∧ w'.cell? (adf.add i) = some (.string a)) (ds := []) #[false, false, false, false, false, false, false, false, false, false, false] (by kernel_rfl) rfl rfl ⟨HE.out.old (HX0i.out), HE.out.old (HX1i.out), HE.out.old (HX2i.out), HE.out.old (HX3i.out), HE.out.tcell 0 rfl i a HFA.out⟩ (fun hHeld => ?_)
          refine with_tabW once.tab15 once.bits15 (fun HT_ HW_ => ?_)
          generalize wr.drew = wq at HE hHeld ⊢
          refine pure_ (i := 0) (N := some 61) (v := ?_) (a' := ?_) #[true, false, false, false, false, false, false, false, false, false, false] rfl rfl (any_of HT_.out (by kernel_rfl)) (fun _ _ _ h => h) (Or.inl ⟨by rfl, ?_⟩) ?_ ?_
          rotate_left
          · intro w'
            go_simp
            with_reducible rfl
          rotate_left
          · simp only [Act.put, List.setIfInBounds_toArray, List.set_cons_zero, List.set_cons_succ, i64_w, i32_w]
            rfl
          refine pure_ (i := 1) (N := some 62) (v := ?_) (a' := ?_) #[true, true, false, false, false, false, false, false, false, false, false] rfl rfl (any_of HT_.out (by kernel_rfl)) (fun _ _ _ h => h) (Or.inl ⟨by rfl, ?_⟩) ?_ ?_
          rotate_left
          · intro w'
            go_simp
            with_reducible rfl
          rotate_left
          · simp only [Act.put, List.setIfInBounds_toArray, List.set_cons_zero, List.set_cons_succ, i64_w, i32_w]
            rfl
          refine pure_ (i := 2) (N := some 63) (v := ?_) (a' := ?_) #[true, true, true, false, false, false, false, false, false, false, false] rfl rfl (any_of HT_.out (by kernel_rfl)) (fun _ _ _ h => h) (Or.inl ⟨by rfl, ?_⟩) ?_ ?_
          rotate_left
          · intro w'
            go_simp
            with_reducible rfl
          rotate_left
          · simp only [Act.put, List.setIfInBounds_toArray, List.set_cons_zero, List.set_cons_succ, i64_w, i32_w]
            rfl
          refine pure_ (i := 3) (N := some 64) (v := ?_) (a' := ?_) #[true, true, true, true, false, false, false, false, false, false, false] rfl rfl (any_of HT_.out (by kernel_rfl)) (fun _ _ _ h => h) (Or.inl ⟨by rfl, ?_⟩) ?_ ?_
          rotate_left
          · intro w'
            go_simp
            with_reducible rfl
          rotate_left
          · simp only [Act.put, List.setIfInBounds_toArray, List.set_cons_zero, List.set_cons_succ, i64_w, i32_w]
            rfl
          refine pure_ (i := 6) (N := some 67) (v := ?_) (a' := ?_) #[true, true, true, true, false, false, true, false, false, false, false] rfl rfl (any_of HT_.out (by kernel_rfl)) (fun _ _ _ h => h) (Or.inl ⟨by rfl, ?_⟩) ?_ ?_
          rotate_left
          · intro w'
            go_simp
            with_reducible rfl
          rotate_left
          · simp only [Act.put, List.setIfInBounds_toArray, List.set_cons_zero, List.set_cons_succ, i64_w, i32_w]
            rfl
          refine pure_ (i := 7) (N := some 68) (v := ?_) (a' := ?_) #[true, true, true, true, false, false, true, true, false, false, false] rfl rfl (any_of HT_.out (by kernel_rfl)) (fun _ _ _ h => h) (Or.inl ⟨by rfl, ?_⟩) ?_ ?_
          rotate_left
          · intro w'
            go_simp
            with_reducible rfl
          rotate_left
          · simp only [Act.put, List.setIfInBounds_toArray, List.set_cons_zero, List.set_cons_succ, i64_w, i32_w]
            rfl
          refine pure_ (i := 8) (N := some 69) (v := ?_) (a' := ?_) #[true, true, true, true, false, false, true, true, true, false, false] rfl rfl (any_of HT_.out (by kernel_rfl)) (fun _ _ _ h => h) (Or.inl ⟨by rfl, ?_⟩) ?_ ?_
          rotate_left
          · intro w'
            go_simp
            with_reducible rfl
          rotate_left
          · simp only [Act.put, List.setIfInBounds_toArray, List.set_cons_zero, List.set_cons_succ, i64_w, i32_w]
            rfl
          refine take_ (i := 4) (N := some 65) (v := ?_) (a' := ?_) #[true, true, true, true, true, false, true, true, true, false, false] rfl rfl (take_ofW HT_.out HW_.out (by kernel_rfl)) (fun _ _ _ h => h) (Or.inl ⟨by rfl, ?_⟩) hHeld ?_ ?_
          rotate_left
          · rintro w' ⟨s0, s1, s2, s3, s4⟩
            go_simp
            with_reducible rfl
          rotate_left
          · simp only [Act.put, List.setIfInBounds_toArray, List.set_cons_zero, List.set_cons_succ, i64_w, i32_w]
            rfl
          refine take_ (i := 9) (N := some 70) (v := ?_) (a' := ?_) #[true, true, true, true, true, false, true, true, true, true, false] rfl rfl (take_ofW HT_.out HW_.out (by kernel_rfl)) (fun _ _ _ h => h) (Or.inl ⟨by rfl, ?_⟩) hHeld ?_ ?_
          rotate_left
          · rintro w' ⟨s0, s1, s2, s3, s4⟩
            go_simp
            with_reducible rfl
          rotate_left
          · simp only [Act.put, List.setIfInBounds_toArray, List.set_cons_zero, List.set_cons_succ, i64_w, i32_w]
            rfl
          refine one_ (i := 5) (N := some 66) #[true, true, true, true, true, true, true, true, true, true, false] rfl rfl (one_of HT_.out (by kernel_rfl)) (by decide) (fun K hK => ?_)
          refine goes_ Tryd.func9 (by kernel_rfl) rfl #[.pointer (some ⟨s, 0, none⟩), cellsOf p] (by rfl) rfl rfl (by simp only [List.map_toArray, List.map_cons, List.map_nil]; rfl) ?_
          refine (c_ask p HE.out (by have := HD.out; omega) HSP.out HT.out).mono ?_
          rintro e_ w4 ⟨rfl, v4_, hp_⟩
          refine ⟨_, rfl, ?_⟩
          rw [askD_of HLKA.out] at hp_
          obtain ⟨A4, n4, c4, ev_⟩ : ∃ A n c, v4_ = Value.slice A n c := (Kd.N_slice (hp_.rc 0 rfl)).imp fun A h => ⟨_, h⟩
          subst ev_
          have n_ := Aside0.mk hp_
          clear HE hp_
          have HE := n_
          clear n_
          refine hK.out _ _ ⟨HE.out.old (HX0i.out), HE.out.old (HX1i.out), HE.out.old (HX2i.out), HE.out.old (HX3i.out), HE.out.tcell 0 rfl i a HFA.out⟩ (fun hHeld => ?_)
          clear hK K
          refine norm_ (a' := ?_) ?_ ?_
          rotate_left
          · show Act.put _ (some 66) _ = _
            simp only [Act.put, List.setIfInBounds_toArray, List.set_cons_zero, List.set_cons_succ, i64_w, i32_w]
            rfl
          refine pure_ (i := 10) (N := some 71) (v := ?_) (a' := ?_) #[true, true, true, true, true, true, true, true, true, true, true] rfl rfl (any_of HT_.out (by kernel_rfl)) (fun _ _ _ h => h) (Or.inl ⟨by rfl, ?_⟩) ?_ ?_
          rotate_left
          · intro w'
            go_simp
            with_reducible rfl
          rotate_left
          · simp only [Act.put, List.setIfInBounds_toArray, List.set_cons_zero, List.set_cons_succ, i64_w, i32_w]
            rfl
          refine done_ (done_of HT_.out (by kernel_rfl)) ?_
        
          (try clear hHeld)
          go_wp2
          go_roundg k2
          case measure => have := HK2.out; omega
          case rel => exact ⟨q + 1, by rw [wrap_j q (by have := HAG1.out; have := HQ1.out; omega)], ⟨HQ1.out⟩, ⟨by have := HK2.out; omega⟩, _, _, _, HE⟩
        case neg =>
          have c1n : ¬ q < ag.length := by have := HLE.out; omega
          clear hq HK2
          skip
          skip
          skip
          skip
          have c1b : decide ((q : Int) < (ag.length : Int)) = false := decide_eq_false (by omega)
          go_wp2_with (fail)
          refine (done_calls 0 0 HE.out rfl rfl (by rw [callsL_length]; have := HD.out; omega)).mono ?_
          rintro e_ X2 ⟨v4_, rfl, hp_⟩
          dsimp only
          have n_ := Aside0.mk hp_
          clear hp_ HE
          (try clear z_s_0)
          (try clear z_s_1)
          (try clear y_s_0)
          (try clear y_s_1)
          have HE := n_
          clear n_
          obtain ⟨A4, c4, e4_⟩ := Kd.N_slice (HE.out.rc 0 rfl)
          subst e4_
          obtain ⟨KS, hKS⟩ : ∃ KS, KS = callsL DL := ⟨_, rfl⟩
          rw [← hKS] at HE ⊢
          have HKS := Aside0.mk hKS
          clear hKS
          have HKN : Aside0 (KS.length ≤ 100) := ⟨by rw [HKS.out, callsL_length]; exact HD.out⟩
          go_wp2_with (fail)
          rename_i ic10_ ic11_ ic12_ ic13_ ic14_ ic15_ ic16_ ic17_ ic18_ ic19_ ic110_ ic111_
          revert AA hA0_ AB hA1_ HLE hu33 HR HC HT HRA HAG ic00_ w1 m_ FB HL HSM w3 s B HAG1 ic01_ ic10_ u27 u28 u29 u30 u31 u32 u33 u34 u35 u36 u37 u38 u39 u40 u41 ic02_ ic03_ ic04_ j A2 n2 c2 HJ ic11_ ic12_ ic13_ k1 ic05_ DL FL HD HFN hjn d1 hjl HLK HI ic06_ ic07_ ic08_ wr u4 u9 u42 u43 u44 u45 u46 u47 u48 u49 u50 u51 u52 u53 u54 u55 u56 u57 u58 u59 u60 u61 u62 u63 u64 u65 u66 u67 u68 u69 u70 u71 ic14_ ic15_ ic16_ q HQ A3 n3 c3 k2 ic17_ c1n c1b ic18_ ic19_ X2 A4 c4 KS HE HKS HKN ic110_ ic111_
          exact hcutP.out
set_option maxHeartbeats 16000000 in
set_option maxRecDepth 100000 in
noncomputable def once_ne.p2 (A0 : Option Addr) (c0 : Nat) (l : List S33) (A1 : Option Addr) (c1 : Nat) (ag : List Int) (w : World) : once_ne.Cut ((once_ne.p1 A0 c0 l A1 c1 ag w).P) := by
  apply once_ne.cut_mk
  focus
    intro hcutP AA hA0_ AB hA1_ HLE hu33 HR HC HT HRA HAG ic00_ w1 m_ FB HL HSM w3 s B HAG1 ic01_ ic10_ u27 u28 u29 u30 u31 u32 u33 u34 u35 u36 u37 u38 u39 u40 u41 ic02_ ic03_ ic04_ j A2 n2 c2 HJ ic11_ ic12_ ic13_ k1 ic05_ DL FL HD HFN hjn d1 hjl HLK HI ic06_ ic07_ ic08_ wr u4 u9 u42 u43 u44 u45 u46 u47 u48 u49 u50 u51 u52 u53 u54 u55 u56 u57 u58 u59 u60 u61 u62 u63 u64 u65 u66 u67 u68 u69 u70 u71 ic14_ ic15_ ic16_ q HQ A3 n3 c3 k2 ic17_ c1n c1b ic18_ ic19_ X2 A4 c4 KS HE HKS HKN ic110_ ic111_
    go_loopg [11] (KS.length + 1) (fun kq v11 w' => ∃ (i : Nat), v11 = .int .i64 (i : Int) ∧ Aside0 (i ≤ KS.length) ∧ Aside0 (kq + i = KS.length + 1) ∧ Aside0 (Pv w w' [(s, #[.map (some B), .slice A3 n3 c3], 44)] [(B, mapL DL)] [(.slice A4 KS.length c4, KS), (.slice A3 n3 c3, KS)] [(.slice A2 n2 c2, FL)]))
    case atStart => exact ⟨0, rfl, ⟨Nat.zero_le _⟩, ⟨rfl⟩, HE⟩
    case round =>
      clear HE
      obtain ⟨i, rfl, HI3, HK3, HE⟩ := hrel
      cases gk with
      | zero => exact absurd HK3.out (by have := HI3.out; omega)
      | succ k3 =>
        by_cases hi : i < KS.length
        case pos =>
          have g1 : decide ((i : Int) < (KS.length : Int)) = true := decide_eq_true (by omega)
          have HIL := Aside0.mk hi
          obtain ⟨ad4, c4', e4_⟩ := HE.out.csome 0 rfl (by omega)
          obtain ⟨rfl, rfl⟩ : A4 = some ad4 ∧ c4 = c4' := by simpa using e4_
          clear e4_
          obtain ⟨pi, hpi⟩ : ∃ p, KS[i]? = some p := ⟨_, List.getElem?_eq_getElem hi⟩
          have HPI := Aside0.mk hpi
          clear hpi
          have g2 : (0 : Int) ≤ (i : Int) := by omega
          go_wp2_with (fail)
          go_loopg [12] (i + 1) (fun kq v12 w' => ∃ (m : Nat), v12 = .int .i64 (m : Int) ∧ Aside0 (m ≤ i) ∧ Aside0 (kq + m = i + 1) ∧ Aside0 (Pv w w' [(s, #[.map (some B), .slice A3 n3 c3], 44)] [(B, mapL DL)] [(.slice (some ad4) KS.length c4, KS), (.slice A3 n3 c3, KS)] [(.slice A2 n2 c2, FL)]))
          case atStart => exact ⟨0, rfl, ⟨Nat.zero_le _⟩, ⟨rfl⟩, HE⟩
          case round =>
            clear HE
            obtain ⟨m, rfl, HM, HK4, HE⟩ := hrel
            cases gk with
            | zero => exact absurd HK4.out (by have := HM.out; omega)
            | succ k4 =>
              by_cases hm : m < i
              case pos =>
                have m1 : decide ((m : Int) < (i : Int)) = true := decide_eq_true (by omega)
                have m2 : (0 : Int) ≤ (m : Int) := by omega
                have m3 : m < KS.length := by omega
                have m4 : decide ((m : Int) < (KS.length : Int)) = true := decide_eq_true (by omega)
                have HML := Aside0.mk hm
                obtain ⟨pm, hpm⟩ : ∃ p, KS[m]? = some p := ⟨_, List.getElem?_eq_getElem m3⟩
                have hap := apart_at DL HI.out i m pi pm hm (HKS.out ▸ HPI.out) (HKS.out ▸ hpm)
                have HAP := Aside0.mk hap
                obtain ⟨ci0, ci1⟩ := HE.out.ccells 0 rfl i pi HPI.out
                obtain ⟨cm0, cm1⟩ := HE.out.ccells 0 rfl m pm hpm
                clear hap hpm
                cases h0 : (pi.f0 == pm.f0) with
                | false =>
                  go_wp2
                  repeat (go_quiet (fail); try go_wp2)
                  go_roundg k4
                  case measure => have := HK4.out; omega
                  case rel => exact ⟨m + 1, by rw [wrap_j m (by have := HML.out; have := HIL.out; have := HKN.out; omega)], ⟨HML.out⟩, ⟨by have := HK4.out; omega⟩, ⟨HE.out.call (by repeat (first | (with_reducible first | exact Below.refl _ _ | apply below_alloc | apply pw_below_drewN | apply below_drew1) | exact Below.refl _ _))⟩⟩
                | true =>
                  have h1 : (pi.f1 == pm.f1) = false := beq_eq_false_iff_ne.2 (fun e => HAP.out ⟨by simpa using h0, e⟩)
                  go_wp2
                  repeat (go_quiet (fail); try go_wp2)
                  go_roundg k4
                  case measure => have := HK4.out; omega
                  case rel => exact ⟨m + 1, by rw [wrap_j m (by have := HML.out; have := HIL.out; have := HKN.out; omega)], ⟨HML.out⟩, ⟨by have := HK4.out; omega⟩, ⟨HE.out.call (by repeat (first | (with_reducible first | exact Below.refl _ _ | apply below_alloc | apply pw_below_drewN | apply below_drew1) | exact Below.refl _ _))⟩⟩
              case neg =>
                have m1 : decide ((m : Int) < (i : Int)) = false := decide_eq_false (by omega)
                go_wp2
                go_roundg k3
                case measure => have := HK3.out; omega
                case rel => exact ⟨i + 1, by rw [wrap_j i (by have := HIL.out; have := HKN.out; omega)], ⟨HIL.out⟩, ⟨by have := HK3.out; omega⟩, HE⟩
        case neg =>
          have g1 : decide ((i : Int) < (KS.length : Int)) = false := decide_eq_false (by omega)
          clear HK3 HI3
          go_wp2_with (fail)
          rename_i ic20_ ic21_ ic22_ ic23_ ic24_ ic25_ ic26_ ic27_ ic28_ ic29_
          revert AA hA0_ AB hA1_ HLE hu33 HR HC HT HRA HAG ic00_ w1 m_ FB HL HSM w3 s B HAG1 ic01_ ic10_ u27 u28 u29 u30 u31 u32 u33 u34 u35 u36 u37 u38 u39 u40 u41 ic02_ ic03_ ic04_ j A2 n2 c2 HJ ic11_ ic12_ ic13_ k1 ic05_ DL FL HD HFN hjn d1 hjl HLK HI ic06_ ic07_ ic08_ ic20_ ic21_ u9 u42 u43 u44 u45 u46 u47 u48 u49 u50 u51 u52 u53 u54 u55 u56 u57 u58 u59 u60 u61 u62 u63 u64 u65 u66 u67 u68 u69 u70 u71 ic14_ ic15_ ic16_ q HQ A3 n3 c3 k2 ic17_ c1n c1b ic18_ ic19_ X2 A4 c4 KS HKS HKN ic110_ wr u4 u12 u74 u75 u76 u77 u78 u79 u80 u81 u82 u83 u84 u85 u86 u87 u88 u89 u90 u91 u92 u93 u94 u95 u96 u97 u98 u99 u100 u101 u102 u103 u104 u105 u106 u107 u108 ic22_ ic23_ ic24_ i HE k3 ic25_ hi g1 ic26_ ic27_ ic28_ ic29_
          exact hcutP.out
set_option maxHeartbeats 16000000 in
set_option maxRecDepth 100000 in
theorem once_ne.p3 (A0 : Option Addr) (c0 : Nat) (l : List S33) (A1 : Option Addr) (c1 : Nat) (ag : List Int) (w : World) : (once_ne.p2 A0 c0 l A1 c1 ag w).P := by
  intro AA hA0_ AB hA1_ HLE hu33 HR HC HT HRA HAG ic00_ w1 m_ FB HL HSM w3 s B HAG1 ic01_ ic10_ u27 u28 u29 u30 u31 u32 u33 u34 u35 u36 u37 u38 u39 u40 u41 ic02_ ic03_ ic04_ j A2 n2 c2 HJ ic11_ ic12_ ic13_ k1 ic05_ DL FL HD HFN hjn d1 hjl HLK HI ic06_ ic07_ ic08_ ic20_ ic21_ u9 u42 u43 u44 u45 u46 u47 u48 u49 u50 u51 u52 u53 u54 u55 u56 u57 u58 u59 u60 u61 u62 u63 u64 u65 u66 u67 u68 u69 u70 u71 ic14_ ic15_ ic16_ q HQ A3 n3 c3 k2 ic17_ c1n c1b ic18_ ic19_ X2 A4 c4 KS HKS HKN ic110_ wr u4 u12 u74 u75 u76 u77 u78 u79 u80 u81 u82 u83 u84 u85 u86 u87 u88 u89 u90 u91 u92 u93 u94 u95 u96 u97 u98 u99 u100 u101 u102 u103 u104 u105 u106 u107 u108 ic22_ ic23_ ic24_ i HE k3 ic25_ hi g1 ic26_ ic27_ ic28_ ic29_
  go_loopg [13] (l.length + 1) (fun kq v13 w' => ∃ (u : Nat), v13 = .int .i64 (u : Int) ∧ Aside0 (u ≤ l.length) ∧ Aside0 (kq + u = l.length + 1) ∧ Aside0 (Pv w w' [(s, #[.map (some B), .slice A3 n3 c3], 44)] [(B, mapL DL)] [(.slice A4 KS.length c4, KS), (.slice A3 n3 c3, KS)] [(.slice A2 n2 c2, FL)]))
  case atStart => exact ⟨0, rfl, ⟨Nat.zero_le _⟩, ⟨rfl⟩, HE⟩
  case round =>
    clear HE
    obtain ⟨u, rfl, HU, HK5, HE⟩ := hrel
    cases gk with
    | zero => exact absurd HK5.out (by have := HU.out; omega)
    | succ k5 =>
      by_cases hu : u < l.length
      case pos =>
        have g3 : decide ((u : Int) < (l.length : Int)) = true := decide_eq_true (by omega)
        have HUL := Aside0.mk hu
        have g4 : (0 : Int) ≤ (u : Int) := by omega
        obtain ⟨pu, hp⟩ : ∃ p, l[u]? = some p := ⟨_, List.getElem?_eq_getElem hu⟩
        obtain ⟨au, hFa, hlk, hsz, hcn⟩ := HLK.out u pu hp
        rw [← HKS.out] at hcn
        have HFA := Aside0.mk hFa
        have HSZ := Aside0.mk hsz
        have HCN := Aside0.mk hcn
        have hFp : 0 < FL.length := Nat.lt_of_le_of_lt (Nat.zero_le _) (List.getElem?_eq_some_iff.1 hFa).1
        have huF : u < FL.length := (List.getElem?_eq_some_iff.1 hFa).1
        obtain ⟨adf, cf, ef_⟩ := HE.out.tsome 0 rfl hFp
        obtain ⟨rfl, rfl, rfl⟩ : A2 = some adf ∧ n2 = FL.length ∧ c2 = cf := by simpa using ef_
        clear ef_ hFa hlk hsz hcn
        have hKp : 0 < KS.length := by have h1 := HCN.out; have h2 := cnt_le pu KS; omega
        obtain ⟨ad4, c4', e4_⟩ := HE.out.csome 0 rfl hKp
        obtain ⟨rfl, rfl⟩ : A4 = some ad4 ∧ c4 = c4' := by simpa using e4_
        clear e4_ hKp
        have g5 : decide ((u : Int) < (FL.length : Int)) = true := decide_eq_true (by omega)
        obtain ⟨adu, hA, hx0, hx1, hx2, hx3⟩ := at_c HR.out u pu hp
        have HX0u := Aside0.mk hx0
        have HX1u := Aside0.mk hx1
        have HX2u := Aside0.mk hx2
        have HX3u := Aside0.mk hx3
        clear hp hx0 hx1 hx2 hx3
        subst hA
        go_wp2_with (fail)
        go_loopg [14, 15] (KS.length + 1) (fun kq v14 v15 w' => ∃ (m : Nat), v15 = .int .i64 (m : Int) ∧ v14 = .int .i64 (cnt pu (KS.take m) : Int) ∧ Aside0 (m ≤ KS.length) ∧ Aside0 (kq + m = KS.length + 1) ∧ Aside0 (Pv w w' [(s, #[.map (some B), .slice A3 n3 c3], 44)] [(B, mapL DL)] [(.slice (some ad4) KS.length c4, KS), (.slice A3 n3 c3, KS)] [(.slice (some adf) FL.length c2, FL)]))
        case atStart => exact ⟨0, rfl, rfl, ⟨Nat.zero_le _⟩, ⟨rfl⟩, HE⟩
        case round =>
          clear HE
          obtain ⟨m, rfl, rfl, HM, HK4, HE⟩ := hrel
          cases gk with
          | zero => exact absurd HK4.out (by have := HM.out; omega)
          | succ k4 =>
            by_cases hm : m < KS.length
            case pos =>
              have m4 : decide ((m : Int) < (KS.length : Int)) = true := decide_eq_true (by omega)
              have m2 : (0 : Int) ≤ (m : Int) := by omega
              have HML := Aside0.mk hm
              obtain ⟨pm, hpm⟩ : ∃ p, KS[m]? = some p := ⟨_, List.getElem?_eq_getElem hm⟩
              have hcx := cnt_next pu KS m pm hpm
              have HCX := Aside0.mk hcx
              obtain ⟨cm0, cm1⟩ := HE.out.ccells 0 rfl m pm hpm
              have hcl : cnt pu (KS.take m) ≤ 100 := by have h1 := cnt_le pu (KS.take m); have h2 := HKN.out; rw [List.length_take] at h1; omega
              have HCL := Aside0.mk hcl
              clear hcx hpm hcl
              obtain ⟨nn, hnn⟩ : ∃ nn, nn = cnt pu (KS.take m) := ⟨_, rfl⟩
              have HNN := Aside0.mk hnn
              rw [← hnn]
              clear hnn
              have zxu_0 : wr.cell? (adu.add (u * 4)) = some (.int .i64 pu.f0) := HE.out.old (HX0u.out)
              have zxu_1 : wr.cell? ⟨(adu.add (u * 4)).block, (adu.add (u * 4)).off + 1, none⟩ = some (.int .i64 pu.f1) := HE.out.old (HX1u.out)
              have zxu_2 : wr.cell? ⟨(adu.add (u * 4)).block, (adu.add (u * 4)).off + 2, none⟩ = some (.string pu.f2) := HE.out.old (HX2u.out)
              have zxu_3 : wr.cell? ⟨(adu.add (u * 4)).block, (adu.add (u * 4)).off + 3, none⟩ = some (.string pu.f3) := HE.out.old (HX3u.out)
              cases h0 : (pm.f0 == pu.f0) with
              | false =>
                go_wp2
                repeat (go_quiet (fail); try go_wp2)
                go_roundg k4
                case measure => have := HK4.out; omega
                case rel => exact ⟨m + 1, by rw [wrap_j m (by have := HML.out; have := HKN.out; omega)], by rw [HCX.out, ← HNN.out]; simp [h0], ⟨HML.out⟩, ⟨by have := HK4.out; omega⟩, ⟨HE.out.call (by repeat (first | (with_reducible first | exact Below.refl _ _ | apply below_alloc | apply pw_below_drewN | apply below_drew1) | exact Below.refl _ _))⟩⟩
              | true =>
                cases h1 : (pm.f1 == pu.f1) with
                | false =>
                  go_wp2
                  repeat (go_quiet (fail); try go_wp2)
                  go_roundg k4
                  case measure => have := HK4.out; omega
                  case rel => exact ⟨m + 1, by rw [wrap_j m (by have := HML.out; have := HKN.out; omega)], by rw [HCX.out, ← HNN.out]; simp [h1], ⟨HML.out⟩, ⟨by have := HK4.out; omega⟩, ⟨HE.out.call (by repeat (first | (with_reducible first | exact Below.refl _ _ | apply below_alloc | apply pw_below_drewN | apply below_drew1) | exact Below.refl _ _))⟩⟩
                | true =>
                  have hw1 : wrap64 ((nn : Int) + 1) = ((nn + 1 : Nat) : Int) := wrap_j nn (by have := HCL.out; have := HNN.out; omega)
                  go_wp2
                  repeat (go_quiet (fail); try go_wp2)
                  go_roundg k4
                  case measure => have := HK4.out; omega
                  case rel => exact ⟨m + 1, by rw [wrap_j m (by have := HML.out; have := HKN.out; omega)], by rw [HCX.out, ← HNN.out]; simp [h0, h1, wrap_j nn (by have := HCL.out; have := HNN.out; omega)], ⟨HML.out⟩, ⟨by have := HK4.out; omega⟩, ⟨HE.out.call (by repeat (first | (with_reducible first | exact Below.refl _ _ | apply below_alloc | apply pw_below_drewN | apply below_drew1) | exact Below.refl _ _))⟩⟩
            case neg =>
              have m4 : decide ((m : Int) < (KS.length : Int)) = false := decide_eq_false (by omega)
              have hmk : m = KS.length := by have := HM.out; omega
              have hc1 : cnt pu (KS.take m) = 1 := by rw [hmk, List.take_length]; exact HCN.out
              rw [hc1]
              clear hc1 hmk
              have zf := HE.out.tcell 0 rfl u au HFA.out
              have s1 : decide ((au.size : Int) > 64) = false := decide_eq_false (by have := HSZ.out; omega)
              have s2 : decide ((64 : Int) < (au.size : Int)) = false := decide_eq_false (by have := HSZ.out; omega)
              have s3 : ¬ 64 < au.size := by have := HSZ.out; omega
              have s4 : (((1 : Nat) : Int) != 1) = false := rfl
              skip
              go_wp2
              repeat (go_quiet (fail); try go_wp2)
              go_roundg k5
              case measure => have := HK5.out; omega
              case rel => exact ⟨u + 1, by rw [wrap_j u (by have := HUL.out; have := HL.out; omega)], ⟨HUL.out⟩, ⟨by have := HK5.out; omega⟩, ⟨HE.out.call (by repeat (first | (with_reducible first | exact Below.refl _ _ | apply below_alloc | apply pw_below_drewN | apply below_drew1) | exact Below.refl _ _))⟩⟩
      case neg =>
        have g3 : decide ((u : Int) < (l.length : Int)) = false := decide_eq_false (by omega)
        go_wp2
        go_ret
        exact ⟨rfl, HE.out.below⟩
theorem once_ne (A0 : Option Addr) (c0 : Nat) (l : List S33) (A1 : Option Addr) (c1 : Nat) (ag : List Int) (w : World) (hl : l.length ≤ 4611686018427387904) (hr : Kd.C k33 w A0 l.length l) (hc : l.length ≤ c0) (hra : Kd.C (Kd.int .u8) w A1 ag.length ag) (hag : ∀ x ∈ ag, 0 ≤ x ∧ x ≤ 255) (hca : ag.length ≤ c1) (ht : TAB w) (hle : 0 < l.length) :
  Calls Tryd.prog 4 #[.slice A0 l.length c0, .slice A1 ag.length c1] w fun e w' => e = .returned (.bool true) ∧ Below w.heap.size w w' :=
  (once_ne.p0 A0 c0 l A1 c1 ag w).ok ((once_ne.p1 A0 c0 l A1 c1 ag w).ok ((once_ne.p2 A0 c0 l A1 c1 ag w).ok (once_ne.p3 A0 c0 l A1 c1 ag w))) hl hr hc hra hag hca ht hle
end Go.Proofs.YtnekehlghkfbdaaDoor.PAll

