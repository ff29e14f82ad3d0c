import Derived.Test.YtnekehlghkfbdaaDoorHAt
/- (*windlassref20.Service).Ask: the document's service tells and keeps the same. -/
namespace Go.Proofs.YtnekehlghkfbdaaDoor.PAll
open Go Go.Proofs Go.RowKit Go.Shelf Go.Proofs.YtnekehlghkfbdaaDoorW.PrintWords Go.Proofs.YtnekehlghkfbdaaDoorW.PrintLast Go.Proofs.YtnekehlghkfbdaaDoorW.PrintMore Go.Proofs.YtnekehlghkfbdaaDoor.Bx
attribute [local go_sem] Oper.semAt_some
set_option linter.unusedVariables false
set_option linter.unusedSimpArgs false
theorem infoS : (Tryd.prog.info? 9).map (fun i => (i.zero, i.size, i.bytes)) = some (some (.string ⟨#[]⟩), 1, 16) := by kernel_rfl
def rask.T6 : Bool × List (List Nat × List Nat) := (true, [([], []), ([], []), ([1], [1]), ([2], [2]), ([3], [3]), ([4], [4]), ([0, 5], [0, 5]), ([6, 6, 0, 1, 2, 3, 4, 5, 6], [6])])
def rask.B6 : List Nat := [0, 0, 2, 6, 14, 30, 63, 127]
theorem rask.tab6 : rtab .any (opsOf Tryd.f10 6) = rask.T6 := by kernel_rfl
theorem rask.bits6 : waitsOk rask.T6.2 rask.B6 = true := by kernel_rfl
def rask.T7 : Bool × List (List Nat × List Nat) := (true, [([], []), ([], []), ([1], [1]), ([2], [2]), ([3], [3]), ([], []), ([5], [5]), ([4, 6], [4, 6]), ([0, 0, 1, 2, 3, 4, 5, 6, 7], [0]), ([8, 0, 1, 2, 3, 4, 5, 6, 7], [8]), ([9, 7, 7, 0, 1, 2, 3, 4, 5, 6, 7], [7, 9])])
def rask.B7 : List Nat := [0, 0, 2, 6, 14, 0, 32, 126, 255, 511, 1023]
theorem rask.tab7 : rtab .any (opsOf Tryd.f10 7) = rask.T7 := by kernel_rfl
theorem rask.bits7 : waitsOk rask.T7.2 rask.B7 = true := by kernel_rfl
set_option maxHeartbeats 8000000 in
set_option maxRecDepth 100000 in
theorem c_rask {w W : World} {bs : List Bx} {ms : ML} {cl : CL} {tl : TL} {s : Nat} {v t : Value} {DL : List (S33 × ByteArray)} (c : S33) (h : Pv w W ((s, #[v, t], 30) :: bs) ms ((v, callsL DL) :: cl) ((t, textsL DL) :: tl)) (hD : DL.length ≤ 1000) (hs : small c) :
    Calls Tryd.prog 10 #[.pointer (some ⟨s, 0, none⟩), cellsOf c] W fun e W' => e = .returned (.string (askA DL c)) ∧ ∃ v' t', Pv w W' ((s, #[v', t'], 30) :: bs) ms ((v', callsL (askD DL c)) :: cl) ((t', textsL (askD DL c)) :: tl) := by
  have hu30 := Tryd.underlying30
  have hu33 := Tryd.underlying33
  obtain ⟨A, cc, rfl, hcc, hC⟩ := Kd.N_reads (h.rc 0 rfl)
  clear hcc hC
  obtain ⟨A2, n2, c2, rfl⟩ : ∃ A n c, t = Value.slice A n c := (Kd.N_slice (h.rt 0 rfl)).imp fun A h => ⟨_, h⟩
  have hlen := callsL_length DL
  obtain ⟨KS, hKS⟩ : ∃ KS, callsL DL = KS := ⟨_, rfl⟩
  rw [hKS] at h hlen
  have HE := Aside0.mk h
  have HKS := Aside0.mk hKS
  have HLEN := Aside0.mk hlen
  have HD := Aside0.mk hD
  have HS := Aside0.mk hs
  clear h hKS hlen hD hs
  go_enter Tryd.func10, Tryd.ntmps10
  have z_s_0 : W.cell? ⟨s, 0, none⟩ = some (.slice A KS.length cc) := HE.out.cell 0 0 rfl rfl
  have z_s_1 : W.cell? ⟨s, 1, none⟩ = some (.slice A2 n2 c2) := HE.out.cell 0 1 rfl rfl
  go_wp2_with ((with_reducible refine gate_dst (N := 3) rfl ?_); refine box_event ?hg (N := 3) ?hd (cs := #[.int .i64 c.f0, .int .i64 c.f1, .string c.f2, .string c.f3]) (t := 33) ?hr ?_; (case hd => rfl); (case hg => rfl); (case hr => first | (go_simp; done) | (go_simp; rfl)); intro gc hg_ X1 hbx_ hb_; have n_ := Aside0.mk (HE.out.box hg_ hbx_ hb_); clear HE hg_ hbx_ hb_; (try clear z_s_0); (try clear z_s_1); (try clear y_s_0); (try clear y_s_1); have HE := n_; clear n_; have z_gc_0 : X1.cell? ⟨gc, 0, none⟩ = some (.int .i64 c.f0) := HE.out.cell 0 0 rfl rfl; have z_gc_1 : X1.cell? ⟨gc, 1, none⟩ = some (.int .i64 c.f1) := HE.out.cell 0 1 rfl rfl; have z_gc_2 : X1.cell? ⟨gc, 2, none⟩ = some (.string c.f2) := HE.out.cell 0 2 rfl rfl; have z_gc_3 : X1.cell? ⟨gc, 3, none⟩ = some (.string c.f3) := HE.out.cell 0 3 rfl rfl; have z_s_0 : X1.cell? ⟨s, 0, none⟩ = some (.slice A KS.length cc) := HE.out.cell 1 0 rfl rfl; have z_s_1 : X1.cell? ⟨s, 1, none⟩ = some (.slice A2 n2 c2) := HE.out.cell 1 1 rfl rfl)
  (try clear z_gc_0)
  (try clear z_gc_1)
  (try clear z_gc_2)
  (try clear z_gc_3)
  (try clear y_gc_0)
  (try clear y_gc_1)
  (try clear y_gc_2)
  (try clear y_gc_3)
  (try clear z_s_0)
  (try clear z_s_1)
  (try clear y_s_0)
  (try clear y_s_1)
  go_loopg [5] (DL.length + 1) (fun kq v5 w' => ∃ (j : Nat), v5 = .int .i64 (j : Int) ∧ Aside0 (j ≤ DL.length) ∧ Aside0 (kq + j = DL.length + 1) ∧ Aside0 (look (c.f0, c.f1) (mapL (DL.take j)) = none) ∧ Aside0 (Pv w w' ((gc, #[.int .i64 c.f0, .int .i64 c.f1, .string c.f2, .string c.f3], 33) :: (s, #[.slice A KS.length cc, .slice A2 n2 c2], 30) :: bs) ms ((.slice A KS.length cc, KS) :: cl) ((.slice A2 n2 c2, textsL DL) :: tl)))
  case atStart => exact ⟨0, rfl, ⟨Nat.zero_le _⟩, ⟨rfl⟩, ⟨rfl⟩, HE⟩
  case round =>
    clear HE
    obtain ⟨j, rfl, HJ, HK1, HN, HE⟩ := hrel
    cases gk with
    | zero => exact absurd HK1.out (by have := HJ.out; omega)
    | succ k1 =>
      have z_gc_0 : wr.cell? ⟨gc, 0, none⟩ = some (.int .i64 c.f0) := HE.out.cell 0 0 rfl rfl
      have z_gc_1 : wr.cell? ⟨gc, 1, none⟩ = some (.int .i64 c.f1) := HE.out.cell 0 1 rfl rfl
      have z_gc_2 : wr.cell? ⟨gc, 2, none⟩ = some (.string c.f2) := HE.out.cell 0 2 rfl rfl
      have z_gc_3 : wr.cell? ⟨gc, 3, none⟩ = some (.string c.f3) := HE.out.cell 0 3 rfl rfl
      have z_s_0 : wr.cell? ⟨s, 0, none⟩ = some (.slice A KS.length cc) := HE.out.cell 1 0 rfl rfl
      have z_s_1 : wr.cell? ⟨s, 1, none⟩ = some (.slice A2 n2 c2) := HE.out.cell 1 1 rfl rfl
      by_cases hj : j < DL.length
      case pos =>
        obtain ⟨p, hp⟩ : ∃ p, DL[j]? = some p := ⟨_, List.getElem?_eq_getElem hj⟩
        have hp1 : KS[j]? = some p.1 := by rw [← HKS.out]; simp [callsL, hp]
        have hp2 : (textsL DL)[j]? = some p.2 := by simp [textsL, hp]
        have hjk : j < KS.length := by rw [HLEN.out]; exact hj
        have d1 : decide ((j : Int) < (KS.length : Int)) = true := decide_eq_true (by omega)
        have d2 : (0 : Int) ≤ (j : Int) := by omega
        obtain ⟨ad, hA, hx0, hx1, hx2, hx3⟩ := at_c (Kd.N_reads' (HE.out.rc 0 rfl)).2.2 j p.1 hp1
        have HP := Aside0.mk hp
        have HP2 := Aside0.mk hp2
        have HJL := Aside0.mk hj
        clear hp hp1 hp2 hj
        skip
        subst hA
        cases h0 : (p.1.f0 == c.f0) with
        | false =>
          have hkey : (((c.f0, c.f1) : Int × Int).1 == p.1.f0 && ((c.f0, c.f1) : Int × Int).2 == p.1.f1) = false := by have := beq_false_of h0; simp [this]
          go_wp2
          repeat (go_quiet (fail); try go_wp2)
          go_roundg k1
          case measure => have := HK1.out; omega
          case rel => exact ⟨j + 1, by rw [wrap_j j (by have := HJL.out; have := HD.out; omega)], ⟨HJL.out⟩, ⟨by have := HK1.out; omega⟩, ⟨look_next _ DL j p HP.out HN.out hkey⟩, ⟨HE.out.call (by repeat (first | (with_reducible first | exact Below.refl _ _ | apply below_alloc | apply pw_below_drewN | apply below_drew1) | exact Below.refl _ _))⟩⟩
        | true =>
          cases h1 : (p.1.f1 == c.f1) with
          | false =>
            have hkey : (((c.f0, c.f1) : Int × Int).1 == p.1.f0 && ((c.f0, c.f1) : Int × Int).2 == p.1.f1) = false := by have := beq_false_of h1; simp [this]
            go_wp2
            repeat (go_quiet (fail); try go_wp2)
            go_roundg k1
            case measure => have := HK1.out; omega
            case rel => exact ⟨j + 1, by rw [wrap_j j (by have := HJL.out; have := HD.out; omega)], ⟨HJL.out⟩, ⟨by have := HK1.out; omega⟩, ⟨look_next _ DL j p HP.out HN.out hkey⟩, ⟨HE.out.call (by repeat (first | (with_reducible first | exact Below.refl _ _ | apply below_alloc | apply pw_below_drewN | apply below_drew1) | exact Below.refl _ _))⟩⟩
          | true =>
            have hkey : (((c.f0, c.f1) : Int × Int).1 == p.1.f0 && ((c.f0, c.f1) : Int × Int).2 == p.1.f1) = true := by have e0 := beq_iff_eq.1 h0; have e1 := beq_iff_eq.1 h1; simp [e0, e1]
            have hlk := look_take _ DL j p HP.out HN.out hkey
            have HLK := Aside0.mk hlk
            clear hlk hkey
            obtain ⟨ad2, hA2, hy⟩ := at_s (Kd.N_reads' (HE.out.rt 0 rfl)).2.2 j p.2 HP2.out
            have hn2 : n2 = (textsL DL).length := (Kd.N_reads' (HE.out.rt 0 rfl)).1
            have d3 : decide ((j : Int) < (n2 : Int)) = true := decide_eq_true (by rw [hn2]; simp [textsL]; exact HJL.out)
            have hjn2 : j < n2 := by rw [hn2]; simp [textsL]; exact HJL.out
            clear hn2
            subst hA2
            go_wp2
            repeat (go_quiet (fail); try go_wp2)
            go_ret
            have ea : askA DL c = p.2 := by unfold askA; rw [HLK.out]
            have ed : askD DL c = DL := by unfold askD; rw [HLK.out]
            rw [ea, ed, HKS.out]
            exact ⟨rfl, _, _, (HE.out.call (by repeat (first | (with_reducible first | exact Below.refl _ _ | apply below_alloc | apply pw_below_drewN | apply below_drew1) | exact Below.refl _ _))).sub (by repeat (first | exact List.Sublist.refl _ | apply List.Sublist.cons))⟩
      case neg =>
        have hjn : ¬ j < KS.length := by have := HLEN.out; omega
        have d1 : decide ((j : Int) < (KS.length : Int)) = false := decide_eq_false (by have := HLEN.out; omega)
        have hjl : j = DL.length := by have := HJ.out; omega
        have hnone : look (c.f0, c.f1) (mapL DL) = none := by have := HN.out; rwa [hjl, List.take_length] at this
        have ea : askA DL c = ansOf c DL.length := by unfold askA; rw [hnone]
        have ed : askD DL c = DL ++ [(c, ansOf c DL.length)] := by unfold askD; rw [hnone]
        have hKL : (DL.length : Int) = (KS.length : Int) := by rw [HLEN.out]
        rw [hKL] at ea ed
        have EA := Aside0.mk ea
        have EC : Aside0 (callsL (askD DL c) = KS ++ [c]) := ⟨by rw [ed, callsL_add, HKS.out]⟩
        have ET : Aside0 (textsL (askD DL c) = textsL DL ++ [ansOf c KS.length]) := ⟨by rw [ed, textsL_add]⟩
        clear hnone ea ed hjl hj hKL
        have HK : Aside0 (KS.length ≤ 1000) := ⟨by rw [HLEN.out]; exact HD.out⟩
        go_upto_region 6 with (fail)
        (try clear z_gc_0)
        (try clear z_gc_1)
        (try clear z_gc_2)
        (try clear z_gc_3)
        (try clear y_gc_0)
        (try clear y_gc_1)
        (try clear y_gc_2)
        (try clear y_gc_3)
        (try clear z_s_0)
        (try clear z_s_1)
        (try clear y_s_0)
        (try clear y_s_1)
        have n_ := Aside0.mk (HE.out.call (below_drew (Below.refl _ _)))
        clear HE
        have HE := n_
        clear n_
        refine start_ (n := 8) (S := fun w' => w'.cell? ⟨gc, 0, none⟩ = some (.int .i64 c.f0) ∧ w'.cell? ⟨gc, 1, none⟩ = some (.int .i64 c.f1) ∧ w'.cell? ⟨gc, 2, none⟩ = some (.string c.f2) ∧ w'.cell? ⟨gc, 3, none⟩ = some (.string c.f3) ∧ w'.cell? ⟨s, 0, none⟩ = some (.slice A KS.length cc)) (ds := []) #[false, false, false, false, false, false, false, false] (by kernel_rfl) rfl rfl ⟨HE.out.cell 0 0 rfl rfl, HE.out.cell 0 1 rfl rfl, HE.out.cell 0 2 rfl rfl, HE.out.cell 0 3 rfl rfl, HE.out.cell 1 0 rfl rfl⟩ (fun hHeld => ?_)
        refine with_tabW rask.tab6 rask.bits6 (fun HT_ HW_ => ?_)
        generalize wr.drew = wq5 at HE hHeld ⊢
        refine pure_ (i := 1) (N := some 48) (v := ?_) (a' := ?_) #[false, true, false, false, false, false, false, false] rfl rfl (any_of HT_.out (by kernel_rfl)) (fun _ _ _ h => h) (Or.inl ⟨by rfl, ?_⟩) ?_ ?_
        rotate_left
        · intro w'
          go_simp
          with_reducible rfl
        rotate_left
        · simp only [Act.put, List.setIfInBounds_toArray, List.set_cons_zero, List.set_cons_succ, i64_w, i32_w]
          rfl
        refine pure_ (i := 2) (N := some 49) (v := ?_) (a' := ?_) #[false, true, true, false, false, false, false, false] rfl rfl (any_of HT_.out (by kernel_rfl)) (fun _ _ _ h => h) (Or.inl ⟨by rfl, ?_⟩) ?_ ?_
        rotate_left
        · intro w'
          go_simp
          with_reducible rfl
        rotate_left
        · simp only [Act.put, List.setIfInBounds_toArray, List.set_cons_zero, List.set_cons_succ, i64_w, i32_w]
          rfl
        refine pure_ (i := 3) (N := some 50) (v := ?_) (a' := ?_) #[false, true, true, true, false, false, false, false] rfl rfl (any_of HT_.out (by kernel_rfl)) (fun _ _ _ h => h) (Or.inl ⟨by rfl, ?_⟩) ?_ ?_
        rotate_left
        · intro w'
          go_simp
          with_reducible rfl
        rotate_left
        · simp only [Act.put, List.setIfInBounds_toArray, List.set_cons_zero, List.set_cons_succ, i64_w, i32_w]
          rfl
        refine take_ (i := 0) (N := some 47) (v := ?_) (a' := ?_) #[true, true, true, true, false, false, false, false] rfl rfl (take_ofW HT_.out HW_.out (by kernel_rfl)) (fun _ _ _ h => h) (Or.inl ⟨by rfl, ?_⟩) hHeld ?_ ?_
        rotate_left
        · rintro w' ⟨s0, s1, s2, s3, s4⟩
          go_simp
          with_reducible rfl
        rotate_left
        · simp only [Act.put, List.setIfInBounds_toArray, List.set_cons_zero, List.set_cons_succ, i64_w, i32_w]
          rfl
        refine take_ (i := 4) (N := some 51) (v := ?_) (a' := ?_) #[true, true, true, true, true, false, false, false] rfl rfl (take_ofW HT_.out HW_.out (by kernel_rfl)) (fun _ _ _ h => h) (Or.inl ⟨by rfl, ?_⟩) hHeld ?_ ?_
        rotate_left
        · rintro w' ⟨s0, s1, s2, s3, s4⟩
          go_simp
          with_reducible rfl
        rotate_left
        · simp only [Act.put, List.setIfInBounds_toArray, List.set_cons_zero, List.set_cons_succ, i64_w, i32_w]
          rfl
        refine pure_ (i := 5) (N := some 52) (v := ?_) (a' := ?_) #[true, true, true, true, true, true, false, false] rfl rfl (any_of HT_.out (by kernel_rfl)) (fun _ _ _ h => h) (Or.inl ⟨by rfl, ?_⟩) ?_ ?_
        rotate_left
        · intro w'
          go_simp
          with_reducible rfl
        rotate_left
        · simp only [Act.put, List.setIfInBounds_toArray, List.set_cons_zero, List.set_cons_succ, i64_w, i32_w]
          rfl
        refine one_ (i := 6) (N := some 53) #[true, true, true, true, true, true, true, false] rfl rfl (one_of HT_.out (by kernel_rfl)) (by decide) (fun K hK => ?_)
        refine goes_ Tryd.func12 (by kernel_rfl) rfl #[cellsOf c, .int .i64 KS.length] (by rfl) rfl rfl (by simp only [List.map_toArray, List.map_cons, List.map_nil]; rfl) ?_
        refine (c_rans HE.out c KS.length (by have := HK.out; omega) (by have := HK.out; omega) HS.out).mono ?_
        rintro e_ w3 ⟨rfl, hp_⟩
        refine ⟨_, rfl, ?_⟩
        clear HE
        have HE := Aside0.mk hp_
        clear hp_
        refine hK.out _ _ ⟨HE.out.cell 0 0 rfl rfl, HE.out.cell 0 1 rfl rfl, HE.out.cell 0 2 rfl rfl, HE.out.cell 0 3 rfl rfl, HE.out.cell 1 0 rfl rfl⟩ (fun hHeld => ?_)
        clear hK K
        refine norm_ (a' := ?_) ?_ ?_
        rotate_left
        · show Act.put _ (some 53) _ = _
          simp only [Act.put, List.setIfInBounds_toArray, List.set_cons_zero, List.set_cons_succ, i64_w, i32_w]
          rfl
        refine pure_ (i := 7) (N := some 6) (v := ?_) (a' := ?_) #[true, true, true, true, true, true, true, true] rfl rfl (any_of HT_.out (by kernel_rfl)) (fun _ _ _ h => h) (Or.inl ⟨by rfl, ?_⟩) ?_ ?_
        rotate_left
        · intro w'
          go_simp
          with_reducible rfl
        rotate_left
        · simp only [Act.put, List.setIfInBounds_toArray, List.set_cons_zero, List.set_cons_succ, i64_w, i32_w]
          rfl
        refine done_ (done_of HT_.out (by kernel_rfl)) ?_
        
        (try clear hHeld)
        go_upto_region 7 with (fail)
        (try clear z_gc_0)
        (try clear z_gc_1)
        (try clear z_gc_2)
        (try clear z_gc_3)
        (try clear y_gc_0)
        (try clear y_gc_1)
        (try clear y_gc_2)
        (try clear y_gc_3)
        (try clear z_s_0)
        (try clear z_s_1)
        (try clear y_s_0)
        (try clear y_s_1)
        have n_ := Aside0.mk (HE.out.call (below_drew (Below.refl _ _)))
        clear HE
        have HE := n_
        clear n_
        refine start_ (n := 11) (S := fun w' => w'.cell? ⟨gc, 0, none⟩ = some (.int .i64 c.f0) ∧ w'.cell? ⟨gc, 1, none⟩ = some (.int .i64 c.f1) ∧ w'.cell? ⟨gc, 2, none⟩ = some (.string c.f2) ∧ w'.cell? ⟨gc, 3, none⟩ = some (.string c.f3) ∧ w'.cell? ⟨s, 0, none⟩ = some (.slice A KS.length cc)) (ds := [10]) #[false, false, false, false, false, false, false, false, false, false, false] (by kernel_rfl) rfl rfl ⟨HE.out.cell 0 0 rfl rfl, HE.out.cell 0 1 rfl rfl, HE.out.cell 0 2 rfl rfl, HE.out.cell 0 3 rfl rfl, HE.out.cell 1 0 rfl rfl⟩ (fun hHeld => ?_)
        refine with_tabW rask.tab7 rask.bits7 (fun HT_ HW_ => ?_)
        generalize w3.drew = wq7 at HE hHeld ⊢
        refine pure_ (i := 0) (N := some 54) (v := ?_) (a' := ?_) #[true, false, false, false, false, false, false, false, false, false, false] rfl rfl (any_of HT_.out (by kernel_rfl)) (fun _ _ _ h => h) (Or.inl ⟨by rfl, ?_⟩) ?_ ?_
        rotate_left
        · intro w'
          go_simp
          with_reducible rfl
        rotate_left
        · simp only [Act.put, List.setIfInBounds_toArray, List.set_cons_zero, List.set_cons_succ, i64_w, i32_w]
          rfl
        refine pure_ (i := 1) (N := some 55) (v := ?_) (a' := ?_) #[true, true, false, false, false, false, false, false, false, false, false] rfl rfl (any_of HT_.out (by kernel_rfl)) (fun _ _ _ h => h) (Or.inl ⟨by rfl, ?_⟩) ?_ ?_
        rotate_left
        · intro w'
          go_simp
          with_reducible rfl
        rotate_left
        · simp only [Act.put, List.setIfInBounds_toArray, List.set_cons_zero, List.set_cons_succ, i64_w, i32_w]
          rfl
        refine pure_ (i := 2) (N := some 56) (v := ?_) (a' := ?_) #[true, true, true, false, false, false, false, false, false, false, false] rfl rfl (any_of HT_.out (by kernel_rfl)) (fun _ _ _ h => h) (Or.inl ⟨by rfl, ?_⟩) ?_ ?_
        rotate_left
        · intro w'
          go_simp
          with_reducible rfl
        rotate_left
        · simp only [Act.put, List.setIfInBounds_toArray, List.set_cons_zero, List.set_cons_succ, i64_w, i32_w]
          rfl
        refine pure_ (i := 3) (N := some 57) (v := ?_) (a' := ?_) #[true, true, true, true, false, false, false, false, false, false, false] rfl rfl (any_of HT_.out (by kernel_rfl)) (fun _ _ _ h => h) (Or.inl ⟨by rfl, ?_⟩) ?_ ?_
        rotate_left
        · intro w'
          go_simp
          with_reducible rfl
        rotate_left
        · simp only [Act.put, List.setIfInBounds_toArray, List.set_cons_zero, List.set_cons_succ, i64_w, i32_w]
          rfl
        refine take_ (i := 4) (N := some 58) (v := ?_) (a' := ?_) #[true, true, true, true, true, false, false, false, false, false, false] rfl rfl (take_ofW HT_.out HW_.out (by kernel_rfl)) (fun _ _ _ h => h) (Or.inl ⟨by rfl, ?_⟩) hHeld ?_ ?_
        rotate_left
        · rintro w' ⟨s0, s1, s2, s3, s4⟩
          go_simp
          with_reducible rfl
        rotate_left
        · simp only [Act.put, List.setIfInBounds_toArray, List.set_cons_zero, List.set_cons_succ, i64_w, i32_w]
          rfl
        refine take_ (i := 5) (N := some 59) (v := ?_) (a' := ?_) #[true, true, true, true, true, true, false, false, false, false, false] rfl rfl (take_ofW HT_.out HW_.out (by kernel_rfl)) (fun _ _ _ h => h) (Or.inl ⟨by rfl, ?_⟩) hHeld ?_ ?_
        rotate_left
        · rintro w' ⟨s0, s1, s2, s3, s4⟩
          go_simp
          with_reducible rfl
        rotate_left
        · simp only [Act.put, List.setIfInBounds_toArray, List.set_cons_zero, List.set_cons_succ, i64_w, i32_w]
          rfl
        refine one_ (i := 6) (N := some 60) #[true, true, true, true, true, true, true, false, false, false, false] rfl rfl (one_of HT_.out (by kernel_rfl)) (by decide) (fun K hK => ?_)
        refine value_ (w1 := ?_) (v := ?_) (by rfl) rfl ?_ ?_
        rotate_left 2
        · go_simp
          constructor
          · rfl
          · rfl
        refine hK.out _ _ ⟨(World.cell?_alloc_lt _ _ _ (World.block_lt_of_cell? _ _ (HE.out.cell 0 0 rfl rfl))).trans (HE.out.cell 0 0 rfl rfl), (World.cell?_alloc_lt _ _ _ (World.block_lt_of_cell? _ _ (HE.out.cell 0 1 rfl rfl))).trans (HE.out.cell 0 1 rfl rfl), (World.cell?_alloc_lt _ _ _ (World.block_lt_of_cell? _ _ (HE.out.cell 0 2 rfl rfl))).trans (HE.out.cell 0 2 rfl rfl), (World.cell?_alloc_lt _ _ _ (World.block_lt_of_cell? _ _ (HE.out.cell 0 3 rfl rfl))).trans (HE.out.cell 0 3 rfl rfl), (World.cell?_alloc_lt _ _ _ (World.block_lt_of_cell? _ _ (HE.out.cell 1 0 rfl rfl))).trans (HE.out.cell 1 0 rfl rfl)⟩ (fun hHeld => ?_)
        clear hK K
        refine norm_ (a' := ?_) ?_ ?_
        rotate_left
        · show Act.put _ (some 60) _ = _
          simp only [Act.put, List.setIfInBounds_toArray, List.set_cons_zero, List.set_cons_succ, i64_w, i32_w]
          rfl
        refine one_ (i := 7) (N := some 61) #[true, true, true, true, true, true, true, true, false, false, false] rfl rfl (one_of HT_.out (by kernel_rfl)) (by decide) (fun K hK => ?_)
        refine Kd.N_append_step k33 (w0 := w) w.heap.size (by rfl) (.tmp 58) (.tmp 60) 22 33 (.agg #[.int .i64 0, .int .i64 0, .string ⟨#[]⟩, .string ⟨#[]⟩]) 48 rfl Tryd.underlying22 k33info rfl (by decide) (by omega) (.slice A KS.length cc) KS c [.int .i64 c.f0, .int .i64 c.f1, .string c.f2, .string c.f3] (fun k => some k = Value.ownBlock (.slice A KS.length cc) ∨ wq7.heap.size ≤ k) (fun _ => False) rfl rfl (fun _ _ => k33_mk _ _) (fun _ hk => hk.elim) (fun _ hk => .inr hk) (Kd.N_mono (HE.out.rc 0 rfl) (fun _ hk => .inl hk)) HE.out.below HE.out.size (by have := HK.out; omega) ?_
        intro v1 w5 hN hb hg hat
        obtain ⟨A1, n1, c1, rfl⟩ : ∃ A n c, v1 = Value.slice A n c := (Kd.N_slice hN).imp fun A h => ⟨_, h⟩
        have n_ := Aside0.mk (HE.out.growC hN hg hat)
        clear HE hN hb hg hat
        have HE := n_
        clear n_
        refine hK.out _ _ ⟨HE.out.cell 0 0 rfl rfl, HE.out.cell 0 1 rfl rfl, HE.out.cell 0 2 rfl rfl, HE.out.cell 0 3 rfl rfl, HE.out.cell 1 0 rfl rfl⟩ (fun hHeld => ?_)
        clear hK K
        refine norm_ (a' := ?_) ?_ ?_
        rotate_left
        · show Act.put _ (some 61) _ = _
          simp only [Act.put, List.setIfInBounds_toArray, List.set_cons_zero, List.set_cons_succ, i64_w, i32_w]
          rfl
        refine pure_ (i := 8) (N := some 62) (v := ?_) (a' := ?_) #[true, true, true, true, true, true, true, true, true, false, false] rfl rfl (any_of HT_.out (by kernel_rfl)) (fun _ _ _ h => h) (Or.inl ⟨by rfl, ?_⟩) ?_ ?_
        rotate_left
        · intro w'
          go_simp
          with_reducible rfl
        rotate_left
        · simp only [Act.put, List.setIfInBounds_toArray, List.set_cons_zero, List.set_cons_succ, i64_w, i32_w]
          rfl
        refine pure_ (i := 9) (N := some 63) (v := ?_) (a' := ?_) #[true, true, true, true, true, true, true, true, true, true, false] rfl rfl (any_of HT_.out (by kernel_rfl)) (fun _ _ _ h => h) (Or.inl ⟨by rfl, ?_⟩) ?_ ?_
        rotate_left
        · intro w'
          go_simp
          with_reducible rfl
        rotate_left
        · simp only [Act.put, List.setIfInBounds_toArray, List.set_cons_zero, List.set_cons_succ, i64_w, i32_w]
          rfl
        refine last_ (i := 10) (N := none) #[true, true, true, true, true, true, true, true, true, true, true] rfl rfl (one_of HT_.out (by kernel_rfl)) (by decide) (fun K hK => ?_)
        have hc_ : w5.cell? ⟨s, 0, none⟩ = some (.slice A KS.length cc) := HE.out.cell 1 0 rfl rfl
        have hf_ : w5.frozen? ⟨s, 0, none⟩ = false := HE.out.frz 1 0 rfl
        refine skip_ (w1 := ?_) (by rfl) rfl ?_ ?_
        rotate_left
        · go_simp
          rfl
        have n_ := Aside0.mk (HE.out.set 1 rfl 0 (.slice A1 n1 c1))
        clear HE hc_ hf_
        have HE := n_
        clear n_
        refine hK.out _ _ ?_
        clear hK K
        refine done_ (done_of HT_.out (by kernel_rfl)) ?_
        
        generalize (w5.setCell ⟨s, 0, none⟩ (.slice A1 n1 c1)) = w6 at HE ⊢
        (try clear hHeld)
        have z_s_0 : w6.cell? ⟨s, 0, none⟩ = some (.slice A1 n1 c1) := HE.out.cell 1 0 rfl rfl
        have z_s_1 : w6.cell? ⟨s, 1, none⟩ = some (.slice A2 n2 c2) := HE.out.cell 1 1 rfl rfl
        have y_s_0 : w6.frozen? ⟨s, 0, none⟩ = false := HE.out.frz 1 0 rfl
        have y_s_1 : w6.frozen? ⟨s, 1, none⟩ = false := HE.out.frz 1 1 rfl
        go_wp2_with (first | ((with_reducible refine gate_builtin (b := .append) (xs := #[.tmp 68, .tmp 70]) rfl ?_); at_builtin; refine Kd.N_append Kd.string (w0 := w) w.heap.size rfl (.tmp 68) (.tmp 70) 28 9 (.string ⟨#[]⟩) 16 rfl Tryd.underlying28 infoS rfl (by decide) (by omega) (.slice A2 n2 c2) (textsL DL) (ansOf c KS.length) [.string (ansOf c KS.length)] (fun k => some k = Value.ownBlock (.slice A2 n2 c2) ∨ w6.heap.size ≤ k) (fun _ => False) rfl rfl (fun _ _ => rfl) (fun _ hk => hk.elim) (fun _ hk => .inr hk) (Kd.N_mono (HE.out.rt 0 rfl) (fun _ hk => .inl hk)) HE.out.below HE.out.size (by have := HD.out; simp [textsL]; omega) ?_; intro v3 w7 hN hb hg hat; obtain ⟨A3, n3, c3, e3_⟩ : ∃ A n c, v3 = Value.slice A n c := (Kd.N_slice hN).imp fun A h => ⟨_, h⟩; subst e3_; have n_ := Aside0.mk (HE.out.growT hN hg hat); clear HE hN hb hg hat; (try clear z_s_0); (try clear z_s_1); (try clear y_s_0); (try clear y_s_1); have HE := n_; clear n_; have z_s_0 : w7.cell? ⟨s, 0, none⟩ = some (.slice A1 n1 c1) := HE.out.cell 1 0 rfl rfl; have z_s_1 : w7.cell? ⟨s, 1, none⟩ = some (.slice A2 n2 c2) := HE.out.cell 1 1 rfl rfl; have y_s_0 : w7.frozen? ⟨s, 0, none⟩ = false := HE.out.frz 1 0 rfl; have y_s_1 : w7.frozen? ⟨s, 1, none⟩ = false := HE.out.frz 1 1 rfl) | ((with_reducible refine gate_store (t := 28) (p := 73) rfl ?_); have y_s_1 : w7.frozen? ⟨s, 1, none⟩ = false := HE.out.frz 1 1 rfl; have z_s_1 : w7.cell? ⟨s, 1, none⟩ = some (.slice A2 n2 c2) := HE.out.cell 1 1 rfl rfl; refine store_event (w1 := (w7.setCell ⟨s, 1, none⟩ (.slice A3 n3 c3))) rfl rfl rfl (by first | (go_simp; done) | (go_simp; rfl)) ?_; intro X2 hw_; have n_ : Aside0 (Pv w X2 ((gc, #[.int .i64 c.f0, .int .i64 c.f1, .string c.f2, .string c.f3], 33) :: (s, #[.slice A1 n1 c1, .slice A3 n3 c3], 30) :: bs) ms ((.slice A1 n1 c1, KS ++ [c]) :: cl) ((.slice A3 n3 c3, textsL DL ++ [ansOf c KS.length]) :: tl)) := ⟨by rw [hw_]; exact (HE.out.set 1 rfl 1 (.slice A3 n3 c3))⟩; clear HE hw_; (try clear z_gc_0); (try clear z_gc_1); (try clear z_gc_2); (try clear z_gc_3); (try clear y_gc_0); (try clear y_gc_1); (try clear y_gc_2); (try clear y_gc_3); (try clear z_s_0); (try clear z_s_1); (try clear y_s_0); (try clear y_s_1); have HE := n_; clear n_))
        go_ret
        rw [EA.out, EC.out, ET.out]
        exact ⟨rfl, _, _, HE.out.sub (by repeat (first | exact List.Sublist.refl _ | apply List.Sublist.cons))⟩
end Go.Proofs.YtnekehlghkfbdaaDoor.PAll
