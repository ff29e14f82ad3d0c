import Derived.Test.YthnehdimjadliaaDoorHLex
import Derived.WalkMore
/- lex.Tokens tells what lexGo tells. -/
namespace Go.Proofs.YthnehdimjadliaaDoor.PAll
open Go Go.Proofs Go.RowKit Go.Shelf Go.Proofs.YthnehdimjadliaaDoorW.PrintWords Go.Proofs.YthnehdimjadliaaDoorW.PrintLast Go.Proofs.YthnehdimjadliaaDoorW.PrintMore Go.Proofs.YthnehdimjadliaaDoor.Bx
attribute [local go_sem] Oper.semAt_some
set_option linter.unusedVariables false
set_option linter.unusedSimpArgs false
theorem wrap_a (a n : Nat) (h : a + n ≤ 100000) : wrap64 ((a : Int) + (n : Int)) = ((a + n : Nat) : Int) := by unfold wrap64; omega
theorem wrap_c (c : UInt8) : wrap32 (c.toNat : Int) = (c.toNat : Int) := by
  have := c.toNat_lt
  unfold wrap32
  omega
theorem lex_next (s : ByteArray) (a m : Nat) (c : UInt8) (r : List UInt8) (h : c :: r = (by' s).drop a) (ha : a < s.size) (hm : m ≤ a) : r = (by' s).drop (a + 1) ∧ a + 1 ≤ s.size ∧ m ≤ a + 1 := by
  refine ⟨?_, by omega, by omega⟩
  rw [← List.drop_drop, ← h]
  rfl
theorem lex_drop (s : ByteArray) (a m n : Nat) (l : List UInt8) (h : l = (by' s).drop a) (hn : n ≤ l.length) (ha : a ≤ s.size) (hm : m ≤ a) (m' : Nat) (hm' : m' ≤ a + n) : l.drop n = (by' s).drop (a + n) ∧ a + n ≤ s.size ∧ m' ≤ a + n := by
  refine ⟨by rw [← List.drop_drop, ← h], ?_, hm'⟩
  rw [h, List.length_drop, by_size] at hn
  omega
theorem ix_lt : ∀ (l : List UInt8) (m : Nat), Lib.indexByte l 10 = (m : Int) → m < l.length
  | [], m, h => by simp [Lib.indexByte] at h
  | c :: l, m, h => by
    unfold Lib.indexByte at h
    have h3 := Lib.indexByte_ge l 10
    simp only [List.length_cons]
    by_cases hc : (c == 10) = true
    · rw [if_pos hc] at h
      omega
    · rw [if_neg hc] at h
      by_cases h2 : (Lib.indexByte l 10 == -1) = true
      · rw [if_pos h2] at h
        omega
      · rw [if_neg h2] at h
        have := ix_lt l (m - 1) (by have : Lib.indexByte l 10 ≠ -1 := by simpa using h2
                                    omega)
        omega
theorem ix_nat (l : List UInt8) (h : ¬ Lib.indexByte l 10 = -1) : ∃ m : Nat, Lib.indexByte l 10 = (m : Int) ∧ m < l.length := by
  have h1 := Lib.indexByte_ge l 10
  exact ⟨(Lib.indexByte l 10).toNat, by omega, ix_lt l (Lib.indexByte l 10).toNat (by omega)⟩
theorem wrap_m (n m : Nat) (h : 1 ≤ n) (hm : m = n - 1) (hn : n ≤ 100000) : wrap64 ((n : Int) - 1) = (m : Int) := by unfold wrap64; omega
theorem trim_le (l : List UInt8) : (Lib.trimLeftB l 48).length ≤ l.length := by unfold Lib.trimLeftB; exact List.Sublist.length_le (List.dropWhile_sublist _)
theorem trim_size (ρ σ : ByteArray) (m : Nat) (h : ρ.size ≤ 4096) (hσ : ρ.extract 0 m = σ) : (⟨(Lib.trimLeftB (by' σ) 48).toArray⟩ : ByteArray).size ≤ 4096 := by
  have h1 := trim_le (by' σ)
  have h2 : (by' σ).length ≤ ρ.size := by rw [← hσ, by_to, List.length_take, by_size]; omega
  show (Lib.trimLeftB (by' σ) 48).toArray.size ≤ 4096
  simp only [List.size_toArray]
  omega
theorem digits_eq (ρ σ δ π : ByteArray) (l : List UInt8) (n m : Nat) (h : by' ρ = l) (hσ : ρ.extract 0 m = σ) (hδ : ρ.extract m n = δ) (hπ : π = ⟨(Lib.trimLeftB (by' σ) 48).toArray⟩) (hm : m = n - 1) (hn : 1 ≤ n) :
    by' (π ++ δ) = Lib.trimLeftB (l.take (n - 1)) 48 ++ (l.drop (n - 1)).take 1 := by
  rw [by_app, hπ, ← hδ, show n = m + 1 by omega, by_mid, ← hσ, by_to, h]
  simp [by']
theorem sign_pos (x : ByteArray) (h : x ∈ signs) : 1 ≤ x.size := by
  have : ∀ y ∈ signs, 1 ≤ y.size := by decide +kernel
  exact this x h
theorem sign_len : signs.length ≤ 100000 := by decide
theorem cast_n (j : Nat) : Value.int .i64 ((j : Int) + 1) = .int .i64 ((j + 1 : Nat) : Int) := by rw [Int.natCast_add]; rfl
theorem find_pre (l : List UInt8) : ∀ (xs : List ByteArray) (j : Nat) (x : ByteArray), (∀ i y, i < j → xs[i]? = some y → Lib.hasPrefix l (by' y) = false) → xs[j]? = some x → Lib.hasPrefix l (by' x) = true → xs.find? (fun x => Lib.hasPrefix l (by' x)) = some x
  | [], j, x, _, h, _ => by simp at h
  | y :: xs, 0, x, _, h, hp => by
    simp only [List.getElem?_cons_zero, Option.some.injEq] at h
    subst h
    simp [hp]
  | y :: xs, j + 1, x, hn, h, hp => by
    have h0 := hn 0 y (by omega) rfl
    rw [List.find?_cons, h0]
    exact find_pre l xs j x (fun i z hi hz => hn (i + 1) z (by omega) (by simpa using hz)) (by simpa using h) hp
theorem find_none (l : List UInt8) (xs : List ByteArray) (hn : ∀ i y, i < xs.length → xs[i]? = some y → Lib.hasPrefix l (by' y) = false) : xs.find? (fun x => Lib.hasPrefix l (by' x)) = none := by
  rw [List.find?_eq_none]
  intro x hx
  obtain ⟨i, hi, e⟩ := List.getElem_of_mem hx
  rw [hn i x hi (by rw [List.getElem?_eq_getElem hi, e])]
  decide
theorem runL_pos (pr : Int → Bool) (c : UInt8) (r : List UInt8) (h : pr c.toNat = true) : 1 ≤ runL pr (c :: r) := by simp [runL, h]
theorem pre_len (l : List UInt8) (x : ByteArray) (h : Lib.hasPrefix l (by' x) = true) : x.size ≤ l.length := by
  have := (List.isPrefixOf_iff_prefix.1 h).length_le
  rwa [by_size] at this
theorem qt_le : ∀ (n : Nat) (l : List UInt8) (p : List UInt8 × Nat), l.length ≤ n → qt l = some p → p.2 ≤ l.length
  | 0, l, p, hn, h => by
    have : l = [] := List.eq_nil_of_length_eq_zero (by omega)
    subst this
    cases h
  | n + 1, [], p, hn, h => by cases h
  | n + 1, [c], p, hn, h => by
    by_cases hc : c = 34
    · simp [qt, hc] at h; subst h; simp
    · simp [qt, hc] at h
  | n + 1, c :: d :: r, p, hn, h => by
    simp only [List.length_cons] at hn ⊢
    by_cases hc : c = 34
    · by_cases hd : d = 34
      · subst hc hd
        rw [qt_two] at h
        obtain ⟨q, hq, rfl⟩ := Option.map_eq_some_iff.1 h
        have := qt_le n r q (by omega) hq
        simp only
        omega
      · simp [qt, hc, hd] at h; subst h; simp
    · have hqq : qt (c :: d :: r) = (qt (d :: r)).map (fun p => (c :: p.1, p.2 + 1)) := by simp [qt, hc]
      rw [hqq] at h
      obtain ⟨q, hq, rfl⟩ := Option.map_eq_some_iff.1 h
      have := qt_le n (d :: r) q (by simp; omega) hq
      simp only [List.length_cons] at this ⊢
      omega
def tok.T25 : Bool × List (List Nat × List Nat) := (true, [([], []), ([], []), ([], []), ([2], [2]), ([1, 3], [1, 3]), ([4], [4]), ([], []), ([], []), ([7], [7]), ([], []), ([6, 8, 9], [6, 8, 9]), ([5, 10], [5, 10]), ([], []), ([0, 11, 12, 5], [0, 11, 12])])
def tok.B25 : List Nat := [0, 0, 0, 4, 14, 30, 0, 0, 128, 0, 960, 2046, 0, 8191]
theorem tok.tab25 : rtab .any (opsOf Tryd.f10 25) = tok.T25 := by kernel_rfl
theorem tok.bits25 : waitsOk tok.T25.2 tok.B25 = true := by kernel_rfl
set_option maxHeartbeats 16000000 in
set_option maxRecDepth 100000 in
theorem tokens_calls (s : ByteArray) (w : World) (T : List S28) (tw : Nat) (er : Int) (hs : s.size ≤ 4096) (h : lexGo (s.size + 1) (by' s) 0 [] = some (T, tw, er)) :
    Calls Tryd.prog 10 #[.string s] w fun e W' => ∃ v, e = .returned (.tuple #[v, .int .i64 (tw : Int), .int .i64 er]) ∧ Kd.N k28 28 W' w.heap.size (fun k => some k = v.ownBlock) v T ∧ Below w.heap.size w W' := by
  have HS := Aside0.mk hs
  have HGO := Aside0.mk h
  have hs1 : decide ((s.size : Int) > 4096) = false := decide_eq_false (by omega)
  have hs2 : decide ((4096 : Int) < (s.size : Int)) = false := decide_eq_false (by omega)
  have hs3 : ¬ 4096 < s.size := by omega
  clear hs h
  have HE := Aside0.mk (Pw.start w)
  go_enter Tryd.func10, Tryd.ntmps10
  go_wp2_with (fail)
  go_step3
  go_wp2_with ((with_reducible refine gate_dst (N := 5) rfl ?_); refine box_event ?hg (N := 5) ?hd (cs := #[.slice none 0 0]) (t := 23) ?hr ?_; (case hd => rfl); (case hg => rfl); (case hr => first | (go_simp; done) | (go_simp; rfl)); intro g5 hg_ X1 hbx_ hb_; have n_ := Aside0.mk (HE.out.box hg_ hbx_ hb_); clear HE hg_ hbx_ hb_; have HE := n_; clear n_; have z_g5_0 : X1.cell? ⟨g5, 0, none⟩ = some (.slice none 0 0) := HE.out.cell 0 0 rfl rfl)
  refine (Pw.words HE.out).mono ?_
  rintro e_ w1 ⟨Aw, nw, cw, rfl, hp_⟩
  dsimp only
  clear HE
  have HE := Aside0.mk hp_.nilC
  clear hp_
  go_wp2_with (first | ((with_reducible refine gate_dst (N := 7) rfl ?_); refine box_event ?hg (N := 7) ?hd (cs := #[.int .i64 0]) (t := 3) ?hr ?_; (case hd => rfl); (case hg => rfl); (case hr => first | (go_simp; done) | (go_simp; rfl)); intro g7 hg_ X2 hbx_ hb_; have n_ := Aside0.mk (HE.out.box hg_ hbx_ hb_); clear HE hg_ hbx_ hb_; (try clear z_g5_0); (try clear y_g5_0); have HE := n_; clear n_; have z_g7_0 : X2.cell? ⟨g7, 0, none⟩ = some (.int .i64 0) := HE.out.cell 0 0 rfl rfl; have y_g7_0 : X2.frozen? ⟨g7, 0, none⟩ = false := HE.out.frz 0 0 rfl; have z_g5_0 : X2.cell? ⟨g5, 0, none⟩ = some (.slice none 0 0) := HE.out.cell 1 0 rfl rfl) | ((with_reducible refine gate_store (t := 3) (p := 7) rfl ?_); have y_g7_0 : X2.frozen? ⟨g7, 0, none⟩ = false := HE.out.frz 0 0 rfl; have z_g7_0 : X2.cell? ⟨g7, 0, none⟩ = some (.int .i64 0) := HE.out.cell 0 0 rfl rfl; refine store_event (w1 := (X2.setCell ⟨g7, 0, none⟩ (.int .i64 0))) rfl rfl rfl (by first | (go_simp; done) | (go_simp; rfl)) ?_; intro X3 hw_; have n_ : Aside0 (Pw w X3 [(g7, #[.int .i64 0], 3), (g5, #[.slice none 0 0], 23)] [(.slice none 0 0, [])] [(.slice Aw nw cw, words)]) := ⟨by rw [hw_]; exact (HE.out.set 0 rfl 0 (.int .i64 0))⟩; clear HE hw_; (try clear z_g7_0); (try clear y_g7_0); (try clear z_g5_0); (try clear y_g5_0); have HE := n_; clear n_))
  go_step3
  go_wp2_with (fail)
  (try clear z_g7_0)
  (try clear y_g7_0)
  (try clear z_g5_0)
  (try clear y_g5_0)
  go_loopg [] (s.size + 1) (fun kq w' => ∃ (l : List UInt8) (a : Nat) (acc : List S28) (v5 : Value), Aside0 (l = (by' s).drop a ∧ a ≤ s.size ∧ acc.length ≤ a) ∧ Aside0 (lexGo kq l a acc = some (T, tw, er)) ∧ Aside0 (Pw w w' [(g7, #[.int .i64 (a : Int)], 3), (g5, #[v5], 23)] [(v5, acc)] [(.slice Aw nw cw, words)]))
  case atStart => exact ⟨by' s, 0, [], _, ⟨⟨rfl, Nat.zero_le _, by simp⟩⟩, HGO, HE⟩
  case round =>
    clear HE HGO
    obtain ⟨l, a, acc, v5, HL, HG, HE⟩ := hrel
    cases gk with
    | zero => exact absurd HG.out (by simp [lexGo])
    | succ k1 =>
      obtain ⟨A5, n5, c5, e5_⟩ : ∃ A n c, v5 = Value.slice A n c := (Kd.N_slice (HE.out.rc 0 rfl)).imp fun A h => ⟨_, h⟩
      subst e5_
      have hll : l.length = s.size - a := by rw [HL.out.1, List.length_drop, by_size]
      have HLL := Aside0.mk hll
      clear hll
      cases l with
      | nil =>
        have hg := HG.out
        simp only [lexGo, Option.some.injEq, Prod.mk.injEq] at hg
        obtain ⟨rfl, rfl, rfl⟩ := hg
        have ha : a = s.size := by have h1 := HLL.out; have h2 := HL.out.2.1; simp at h1; omega
        have d1 : decide ((a : Int) < (s.size : Int)) = false := decide_eq_false (by omega)
        have d2 : ¬ a < s.size := by omega
        clear ha
        have z_g7_0 : wr.cell? ⟨g7, 0, none⟩ = some (.int .i64 (a : Int)) := HE.out.cell 0 0 rfl rfl
        have z_g5_0 : wr.cell? ⟨g5, 0, none⟩ = some (.slice A5 n5 c5) := HE.out.cell 1 0 rfl rfl
        go_wp2_with (fail)
        refine (add_calls 0 ⟨#[]⟩ a 0 HE.out (by have h1 := HL.out.2.2; have h2 := HL.out.2.1; have h3 := HS.out; omega) (by have h2 := HL.out.2.1; have h3 := HS.out; omega) (by omega)).mono ?_
        rintro e_ X4 ⟨rfl, v6_, hp_⟩
        dsimp only
        have n_ := Aside0.mk hp_
        clear hp_ HE
        (try clear z_g7_0)
        (try clear y_g7_0)
        (try clear z_g5_0)
        (try clear y_g5_0)
        have HE := n_
        clear n_
        obtain ⟨A6, n6, c6, e6_⟩ : ∃ A n c, v6_ = Value.slice A n c := (Kd.N_slice (HE.out.rc 0 rfl)).imp fun A h => ⟨_, h⟩
        subst e6_
        have z6 : X4.cell? ⟨g5, 0, none⟩ = some (.slice A6 n6 c6) := HE.out.cell 1 0 rfl rfl
        go_wp2
        (try rw [Exit.noGoto_ret])
        go_ret3
        exact ⟨_, rfl, HE.out.rc 0 rfl, HE.out.below⟩
      | cons c r =>
        have ha : a < s.size := by have h1 := HLL.out; simp at h1; omega
        have d1 : decide ((a : Int) < (s.size : Int)) = true := decide_eq_true (by omega)
        have d3 : (0 : Int) ≤ (a : Int) := by omega
        have d4 : (a : Int) ≤ (s.size : Int) := by omega
        have d5 : a ≤ s.size := by omega
        have HALT := Aside0.mk ha
        have hlr : r.length + 1 = s.size - a := by have := HLL.out; simpa using this
        have HLR := Aside0.mk hlr
        clear hlr
        have hg := HG.out
        clear HG
        simp only [lexGo] at hg
        · skip
          have z_g7_0 : wr.cell? ⟨g7, 0, none⟩ = some (.int .i64 (a : Int)) := HE.out.cell 0 0 rfl rfl
          have z_g5_0 : wr.cell? ⟨g5, 0, none⟩ = some (.slice A5 n5 c5) := HE.out.cell 1 0 rfl rfl
          obtain ⟨ρ, hρ⟩ : ∃ ρ, ρ = s.extract a s.size := ⟨_, rfl⟩
          have hby : by' ρ = c :: r := by rw [hρ, by_from]; exact HL.out.1.symm
          have HBY := Aside0.mk hby
          have hρs : ρ.size = r.length + 1 := by rw [← by_size, hby]; rfl
          have HRS := Aside0.mk hρs
          have HRHO := Aside0.mk hρ
          have h0 : 0 < ρ.size := by omega
          have hx0 : ((ρ[0]'h0).toNat : Int) = (c.toNat : Int) := by have := byte_at ρ 0 h0; rw [List.drop_zero, show ρ.data.toList = c :: r from hby] at this; injection this with this; rw [this]
          clear hby hρs
          have hext : s.extract a s.size = ρ := HRHO.out.symm
          clear hρ
          go_wp2_with (fail)
          have hq8 : wrap32 (c.toNat : Int) = (c.toNat : Int) := wrap_c c
          rw [hq8]
          clear hext hq8
          have hcv := Aside0.mk hx0
          clear hx0
          refine (blank_calls c _).mono ?_
          rintro e_ w4 ⟨rfl, hb_⟩
          dsimp only
          have n_ := Aside0.mk (HE.out.call hb_)
          clear HE hb_
          have HE := n_
          clear n_
          (try clear z_g7_0)
          (try clear y_g7_0)
          (try clear z_g5_0)
          (try clear y_g5_0)
          cases hB : isB c with
          | true =>
            rw [if_pos hB] at hg
            have HG2 := Aside0.mk hg
            clear hg
            have hw1 := wrap_a a 1 (by have h3 := HS.out; have h4 := HALT.out; omega)
            have z_g7_0 : w4.cell? ⟨g7, 0, none⟩ = some (.int .i64 (a : Int)) := HE.out.cell 0 0 rfl rfl
            have y_g7_0 : w4.frozen? ⟨g7, 0, none⟩ = false := HE.out.frz 0 0 rfl
            have z_g5_0 : w4.cell? ⟨g5, 0, none⟩ = some (.slice A5 n5 c5) := HE.out.cell 1 0 rfl rfl
            go_wp2_with ((with_reducible refine gate_store (t := 3) (p := 7) rfl ?_); have y_g7_0 : w4.frozen? ⟨g7, 0, none⟩ = false := HE.out.frz 0 0 rfl; have z_g7_0 : w4.cell? ⟨g7, 0, none⟩ = some (.int .i64 (a : Int)) := HE.out.cell 0 0 rfl rfl; refine store_event (w1 := (w4.setCell ⟨g7, 0, none⟩ (.int .i64 ((a + 1 : Nat) : Int)))) rfl rfl rfl (by first | (go_simp; done) | (go_simp; rfl)) ?_; intro X5 hw_; have n_ : Aside0 (Pw w X5 [(g7, #[.int .i64 ((a + 1 : Nat) : Int)], 3), (g5, #[.slice A5 n5 c5], 23)] [(.slice A5 n5 c5, acc)] [(.slice Aw nw cw, words)]) := ⟨by rw [hw_]; exact (HE.out.set 0 rfl 0 (.int .i64 ((a + 1 : Nat) : Int)))⟩; clear HE hw_; (try clear z_g7_0); (try clear y_g7_0); (try clear z_g5_0); (try clear y_g5_0); have HE := n_; clear n_)
            go_roundg k1
            case measure => omega
            case rel => exact ⟨r, a + 1, acc, _, ⟨lex_next s a acc.length c r HL.out.1 HALT.out HL.out.2.2⟩, HG2, HE⟩
          | false =>
            rw [if_neg (by rw [hB]; decide)] at hg
            have z_g7_0 : w4.cell? ⟨g7, 0, none⟩ = some (.int .i64 (a : Int)) := HE.out.cell 0 0 rfl rfl
            by_cases h35 : c = 35
            case pos =>
              rw [if_pos h35] at hg
              have e35 : ((c.toNat : Int) == 35) = true := by rw [h35]; rfl
              go_wp2_with (fail)
              refine (ix_calls ρ 10 _).mono ?_
              rintro e_ w5 ⟨rfl, rfl⟩
              dsimp only
              rw [HBY.out]
              have e10 : ((10 : Int)).toNat.toUInt8 = 10 := rfl
              rw [e10]
              by_cases hix : Lib.indexByte (c :: r) 10 = -1
              case pos =>
                rw [if_pos hix] at hg
                simp only [Option.some.injEq, Prod.mk.injEq] at hg
                obtain ⟨rfl, rfl, rfl⟩ := hg
                rw [hix]
                have hend : a + (r.length + 1) = s.size := by have h1 := HLR.out; have h2 := HALT.out; omega
                have HEND := Aside0.mk hend
                clear hend hix
                (try clear z_g7_0)
                (try clear y_g7_0)
                (try clear z_g5_0)
                (try clear y_g5_0)
                have z_g7_0 : w5.cell? ⟨g7, 0, none⟩ = some (.int .i64 (a : Int)) := HE.out.cell 0 0 rfl rfl
                have y_g7_0 : w5.frozen? ⟨g7, 0, none⟩ = false := HE.out.frz 0 0 rfl
                go_wp2_with ((with_reducible refine gate_store (t := 3) (p := 7) rfl ?_); have y_g7_0 : w5.frozen? ⟨g7, 0, none⟩ = false := HE.out.frz 0 0 rfl; have z_g7_0 : w5.cell? ⟨g7, 0, none⟩ = some (.int .i64 (a : Int)) := HE.out.cell 0 0 rfl rfl; refine store_event (w1 := (w5.setCell ⟨g7, 0, none⟩ (.int .i64 (s.size : Int)))) rfl rfl rfl (by first | (go_simp; done) | (go_simp; rfl)) ?_; intro X6 hw_; have n_ : Aside0 (Pw w X6 [(g7, #[.int .i64 (s.size : Int)], 3), (g5, #[.slice A5 n5 c5], 23)] [(.slice A5 n5 c5, acc)] [(.slice Aw nw cw, words)]) := ⟨by rw [hw_]; exact (HE.out.set 0 rfl 0 (.int .i64 (s.size : Int)))⟩; clear HE hw_; (try clear z_g7_0); (try clear y_g7_0); (try clear z_g5_0); (try clear y_g5_0); have HE := n_; clear n_)
                refine (add_calls 0 ⟨#[]⟩ s.size 0 HE.out (by have h1 := HL.out.2.2; have h2 := HL.out.2.1; have h3 := HS.out; omega) (by have h3 := HS.out; omega) (by omega)).mono ?_
                rintro e_ w6 ⟨rfl, v6_, hp_⟩
                dsimp only
                clear HE
                have HE := Aside0.mk hp_
                clear hp_
                obtain ⟨A6, n6, c6, e6_⟩ : ∃ A n c, v6_ = Value.slice A n c := (Kd.N_slice (HE.out.rc 0 rfl)).imp fun A h => ⟨_, h⟩
                subst e6_
                have z6 : w6.cell? ⟨g5, 0, none⟩ = some (.slice A6 n6 c6) := HE.out.cell 1 0 rfl rfl
                go_wp2
                (try rw [Exit.noGoto_ret])
                go_ret3
                rw [HEND.out]
                exact ⟨_, rfl, HE.out.rc 0 rfl, HE.out.below⟩
              case neg =>
                rw [if_neg hix] at hg
                have HG2 := Aside0.mk hg
                obtain ⟨m, hm, hml⟩ := ix_nat (c :: r) hix
                rw [hm] at HG2
                rw [hm]
                simp only [Int.toNat_natCast] at HG2
                have m1 : decide ((m : Int) ≥ 0) = true := decide_eq_true (by omega)
                have m2 : decide ((0 : Int) ≤ (m : Int)) = true := decide_eq_true (by omega)
                have m3 : (0 : Int) ≤ (m : Int) := by omega
                have HML := Aside0.mk hml
                have hlm : a + m ≤ s.size := by have h1 := HLR.out; have h2 := hml; simp at h2; omega
                have hw1 := wrap_a a m (by have h3 := HS.out; omega)
                have hb2 : ∃ b : Nat, b = a + m := ⟨_, rfl⟩
                obtain ⟨b, hb⟩ := hb2
                rw [← hb] at hw1 HG2
                have HBB := Aside0.mk hb
                clear hg hm hml hix hlm hb
                (try clear z_g7_0)
                (try clear y_g7_0)
                (try clear z_g5_0)
                (try clear y_g5_0)
                have z_g7_0 : w5.cell? ⟨g7, 0, none⟩ = some (.int .i64 (a : Int)) := HE.out.cell 0 0 rfl rfl
                have y_g7_0 : w5.frozen? ⟨g7, 0, none⟩ = false := HE.out.frz 0 0 rfl
                go_wp2_with ((with_reducible refine gate_store (t := 3) (p := 7) rfl ?_); have y_g7_0 : w5.frozen? ⟨g7, 0, none⟩ = false := HE.out.frz 0 0 rfl; have z_g7_0 : w5.cell? ⟨g7, 0, none⟩ = some (.int .i64 (a : Int)) := HE.out.cell 0 0 rfl rfl; refine store_event (w1 := (w5.setCell ⟨g7, 0, none⟩ (.int .i64 (b : Int)))) rfl rfl rfl (by first | (go_simp; done) | (go_simp; rfl)) ?_; intro X7 hw_; have n_ : Aside0 (Pw w X7 [(g7, #[.int .i64 (b : Int)], 3), (g5, #[.slice A5 n5 c5], 23)] [(.slice A5 n5 c5, acc)] [(.slice Aw nw cw, words)]) := ⟨by rw [hw_]; exact (HE.out.set 0 rfl 0 (.int .i64 (b : Int)))⟩; clear HE hw_; (try clear z_g7_0); (try clear y_g7_0); (try clear z_g5_0); (try clear y_g5_0); have HE := n_; clear n_)
                go_roundg k1
                case measure => omega
                case rel => exact ⟨_, b, acc, _, ⟨by rw [HBB.out]; exact lex_drop s a acc.length m (c :: r) HL.out.1 (Nat.le_of_lt HML.out) HL.out.2.1 HL.out.2.2 acc.length (by have := HL.out.2.2; omega)⟩, HG2, HE⟩
            case neg =>
              rw [if_neg h35] at hg
              have e35 : ((c.toNat : Int) == 35) = false := beq_eq_false_iff_ne.2 (fun e => h35 (u8_of _ 35 (by omega)))
              go_wp2_with (fail)
              (try clear z_g7_0)
              (try clear y_g7_0)
              (try clear z_g5_0)
              (try clear y_g5_0)
              refine (lex_letter.calls (c.toNat : Int) (pL c.toNat) _ (letter_p _)).mono ?_
              rintro e_ w_ ⟨rfl, mm, rfl⟩
              dsimp only
              have n_ := Aside0.mk (HE.out.call (pw_below_drewN (Below.refl _ _) mm))
              clear HE
              generalize World.drewN _ mm = x11 at n_ ⊢
              have HE := n_
              clear n_
              cases hL : pL (c.toNat : Int) with
              | true =>
                rw [if_pos hL] at hg
                obtain ⟨n, hn⟩ : ∃ n, n = runL pLD (c :: r) := ⟨_, rfl⟩
                rw [← hn] at hg
                have HN1 : Aside0 (1 ≤ n) := ⟨by rw [hn]; exact runL_pos pLD c r (by unfold pLD; rw [hL]; rfl)⟩
                have HNL : Aside0 (n ≤ (c :: r).length) := ⟨by rw [hn]; exact runL_le pLD _⟩
                have HG2 := Aside0.mk hg
                clear hg
                go_wp2_with (fail)
                (try clear z_g7_0)
                (try clear y_g7_0)
                (try clear z_g5_0)
                (try clear y_g5_0)
                refine (run_25 ρ _).mono ?_
                rintro e_ x12 ⟨rfl, hb_⟩
                dsimp only
                have n_ := Aside0.mk (HE.out.call hb_)
                clear HE hb_
                have HE := n_
                clear n_
                rw [show ρ.data.toList = c :: r from HBY.out, ← hn]
                clear hn
                have n1 : (n : Int) ≤ (ρ.size : Int) := by have h1 := HNL.out; have h2 := HRS.out; simp at h1; omega
                have n2 : n ≤ ρ.size := by omega
                have n3 : (0 : Int) ≤ (n : Int) := by omega
                obtain ⟨τ, hτ⟩ : ∃ τ, τ = ρ.extract 0 n := ⟨_, rfl⟩
                have HTB : Aside0 (τ = ⟨((c :: r).take n).toArray⟩) := ⟨ba_eq _ _ (by rw [hτ, by_to, HBY.out])⟩
                have hex : ρ.extract 0 n = τ := hτ.symm
                clear hτ
                go_wp2_with (fail)
                (try rw [hex])
                (try clear z_g7_0)
                (try clear y_g7_0)
                (try clear z_g5_0)
                (try clear y_g5_0)
                refine (HE.out.word 0 rfl τ).mono ?_
                rintro e_ x13 ⟨rfl, rfl⟩
                dsimp only
                cases hW : Lib.containsS words τ with
                | true =>
                  have HG3 : Aside0 (lexGo k1 ((c :: r).drop n) (a + n) (acc ++ [⟨2, τ, (a : Int)⟩]) = some (T, tw, er)) := ⟨by have h1 := HG2.out; unfold isWord tk at h1; rw [← HTB.out, hW] at h1; simpa using h1⟩
                  go_wp2_with (fail)
                  (try rw [hex])
                  (try clear z_g7_0)
                  (try clear y_g7_0)
                  (try clear z_g5_0)
                  (try clear y_g5_0)
                  refine (add_calls 2 τ a n HE.out (by have h1 := HL.out.2.2; have h2 := HL.out.2.1; have h3 := HS.out; omega) (by have h2 := HL.out.2.1; have h3 := HS.out; omega) (by have h1 := HLR.out; have h2 := HNL.out; have h3 := HS.out; simp at h2; omega)).mono ?_
                  rintro e_ x14 ⟨rfl, v8_, hp_⟩
                  dsimp only
                  clear HE
                  have HE := Aside0.mk hp_
                  clear hp_
                  go_wp2
                  go_roundg k1
                  case measure => omega
                  case rel => exact ⟨_, a + n, _, _, ⟨lex_drop s a acc.length n (c :: r) HL.out.1 HNL.out HL.out.2.1 HL.out.2.2 _ (by have h1 := HL.out.2.2; have h2 := HN1.out; simp; omega)⟩, HG3, HE⟩
                | false =>
                  have HG3 : Aside0 (lexGo k1 ((c :: r).drop n) (a + n) (acc ++ [⟨1, τ, (a : Int)⟩]) = some (T, tw, er)) := ⟨by have h1 := HG2.out; unfold isWord tk at h1; rw [← HTB.out, hW] at h1; simpa using h1⟩
                  go_wp2_with (fail)
                  (try rw [hex])
                  (try clear z_g7_0)
                  (try clear y_g7_0)
                  (try clear z_g5_0)
                  (try clear y_g5_0)
                  refine (add_calls 1 τ a n HE.out (by have h1 := HL.out.2.2; have h2 := HL.out.2.1; have h3 := HS.out; omega) (by have h2 := HL.out.2.1; have h3 := HS.out; omega) (by have h1 := HLR.out; have h2 := HNL.out; have h3 := HS.out; simp at h2; omega)).mono ?_
                  rintro e_ x15 ⟨rfl, v8_, hp_⟩
                  dsimp only
                  clear HE
                  have HE := Aside0.mk hp_
                  clear hp_
                  go_wp2
                  go_roundg k1
                  case measure => omega
                  case rel => exact ⟨_, a + n, _, _, ⟨lex_drop s a acc.length n (c :: r) HL.out.1 HNL.out HL.out.2.1 HL.out.2.2 _ (by have h1 := HL.out.2.2; have h2 := HN1.out; simp; omega)⟩, HG3, HE⟩
              | false =>
                rw [if_neg (by rw [hL]; decide)] at hg
                go_wp2_with (fail)
                (try clear z_g7_0)
                (try clear y_g7_0)
                (try clear z_g5_0)
                (try clear y_g5_0)
                refine (lex_digit.calls (c.toNat : Int) (pD c.toNat) _ (digit_p _)).mono ?_
                rintro e_ w_ ⟨rfl, mm, rfl⟩
                dsimp only
                have n_ := Aside0.mk (HE.out.call (pw_below_drewN (Below.refl _ _) mm))
                clear HE
                generalize World.drewN _ mm = x16 at n_ ⊢
                have HE := n_
                clear n_
                cases hD : pD (c.toNat : Int) with
                | true =>
                  rw [if_pos hD] at hg
                  unfold digits at hg
                  obtain ⟨n, hn⟩ : ∃ n, n = runL pD (c :: r) := ⟨_, rfl⟩
                  rw [← hn] at hg
                  have HN1 : Aside0 (1 ≤ n) := ⟨by rw [hn]; exact runL_pos pD c r hD⟩
                  have HNL : Aside0 (n ≤ (c :: r).length) := ⟨by rw [hn]; exact runL_le pD _⟩
                  have HG2 := Aside0.mk hg
                  clear hg
                  go_wp2_with (fail)
                  (try clear z_g7_0)
                  (try clear y_g7_0)
                  (try clear z_g5_0)
                  (try clear y_g5_0)
                  refine (run_26 ρ _).mono ?_
                  rintro e_ x17 ⟨rfl, hb_⟩
                  dsimp only
                  have n_ := Aside0.mk (HE.out.call hb_)
                  clear HE hb_
                  have HE := n_
                  clear n_
                  rw [show ρ.data.toList = c :: r from HBY.out, ← hn]
                  clear hn
                  obtain ⟨m, hm⟩ : ∃ m, m = n - 1 := ⟨_, rfl⟩
                  have HMN : Aside0 (m = n - 1) := ⟨hm⟩
                  have hwm : wrap64 ((n : Int) - 1) = (m : Int) := wrap_m n m HN1.out hm (by have h1 := HNL.out; have h2 := HRS.out; have h3 := HLR.out; have h4 := HS.out; simp at h1; omega)
                  have hwi : IntKind.i64.wrap ((n : Int) - 1) = (m : Int) := by rw [i64_w]; exact hwm
                  have n1 : (n : Int) ≤ (ρ.size : Int) := by have h1 := HNL.out; have h2 := HRS.out; simp at h1; omega
                  have n2 : n ≤ ρ.size := by omega
                  have n4 : (m : Int) ≤ (n : Int) := by omega
                  have n5 : (m : Int) ≤ (ρ.size : Int) := by omega
                  have n6 : (0 : Int) ≤ (m : Int) := by omega
                  have n7 : m ≤ n := by omega
                  have n8 : m ≤ ρ.size := by omega
                  have n9 : (0 : Int) ≤ (n : Int) := by omega
                  obtain ⟨σ, hσ⟩ : ∃ σ, ρ.extract 0 m = σ := ⟨_, rfl⟩
                  obtain ⟨δ, hδ⟩ : ∃ δ, ρ.extract m n = δ := ⟨_, rfl⟩
                  obtain ⟨π, hπ⟩ : ∃ π : ByteArray, π = ⟨(Lib.trimLeftB (by' σ) 48).toArray⟩ := ⟨_, rfl⟩
                  have hps : π.size ≤ 4096 := by have h1 := HNL.out; have h2 := HRS.out; have h3 := HLR.out; have h4 := HS.out; rw [hπ]; exact trim_size ρ σ m (by omega) hσ
                  have hds : δ.size ≤ 4096 := by rw [← hδ, ByteArray.size_extract]; have h1 := HNL.out; have h2 := HRS.out; have h3 := HLR.out; have h4 := HS.out; omega
                  have q1 : (9223372036854775807 < π.size + δ.size) = False := eq_false (by omega)
                  have HTX : Aside0 (π ++ δ = ⟨(Lib.trimLeftB ((c :: r).take (n - 1)) 48 ++ ((c :: r).drop (n - 1)).take 1).toArray⟩) := ⟨ba_eq _ _ (digits_eq ρ σ δ π (c :: r) n m HBY.out hσ hδ hπ hm HN1.out)⟩
                  have HPI := Aside0.mk hπ
                  clear hm hps hds hπ
                  go_upto_region 25 with (fail)
                  (try clear z_g7_0)
                  (try clear y_g7_0)
                  (try clear z_g5_0)
                  (try clear y_g5_0)
                  have n_ := Aside0.mk (HE.out.call (below_drew (Below.refl _ _)))
                  clear HE
                  have HE := n_
                  clear n_
                  refine start_ (n := 14) (S := fun w' => True) (ds := []) #[false, false, false, false, false, false, false, false, false, false, false, false, false, false] (by kernel_rfl) rfl rfl trivial (fun hHeld => ?_)
                  refine with_tabW tok.tab25 tok.bits25 (fun HT_ HW_ => ?_)
                  generalize x17.drew = wq at HE hHeld ⊢
                  refine pure_ (i := 0) (N := some 74) (v := ?_) (a' := ?_) #[true, false, false, false, false, false, false, false, false, false, false, false, false, false] rfl rfl (any_of HT_.out (by kernel_rfl)) (fun _ _ _ h => h) (Or.inl ⟨by rfl, ?_⟩) ?_ ?_
                  rotate_left
                  · intro w'
                    go_simp
                    with_reducible rfl
                  rotate_left
                  · simp only [Act.put, List.setIfInBounds_toArray, List.set_cons_zero, List.set_cons_succ, i64_w, i32_w]
                    rfl
                  refine pure_ (i := 1) (N := some 75) (v := ?_) (a' := ?_) #[true, true, false, false, false, false, false, false, false, false, false, false, false, false] rfl rfl (any_of HT_.out (by kernel_rfl)) (fun _ _ _ h => h) (Or.inl ⟨by rfl, ?_⟩) ?_ ?_
                  rotate_left
                  · intro w'
                    go_simp
                    with_reducible rfl
                  rotate_left
                  · simp only [Act.put, List.setIfInBounds_toArray, List.set_cons_zero, List.set_cons_succ, i64_w, i32_w]
                    rfl
                  refine pure_ (i := 2) (N := some 76) (v := ?_) (a' := ?_) #[true, true, true, false, false, false, false, false, false, false, false, false, false, false] rfl rfl (any_of HT_.out (by kernel_rfl)) (fun _ _ _ h => h) (Or.inl ⟨by rfl, ?_⟩) ?_ ?_
                  rotate_left
                  · intro w'
                    go_simp
                    with_reducible rfl
                  rotate_left
                  · simp only [Act.put, List.setIfInBounds_toArray, List.set_cons_zero, List.set_cons_succ, i64_w, i32_w]
                    rfl
                  refine pure_ (i := 3) (N := some 77) (v := ?_) (a' := ?_) #[true, true, true, true, false, false, false, false, false, false, false, false, false, false] rfl rfl (any_of HT_.out (by kernel_rfl)) (fun _ _ _ h => h) (Or.inl ⟨by rfl, ?_⟩) ?_ ?_
                  rotate_left
                  · intro w'
                    go_simp
                    with_reducible rfl
                  rotate_left
                  · simp only [Act.put, List.setIfInBounds_toArray, List.set_cons_zero, List.set_cons_succ, i64_w, i32_w]
                    rfl
                  refine pure_ (i := 4) (N := some 78) (v := ?_) (a' := ?_) #[true, true, true, true, true, false, false, false, false, false, false, false, false, false] rfl rfl (any_of HT_.out (by kernel_rfl)) (fun _ _ _ h => h) (Or.inl ⟨by rfl, ?_⟩) ?_ ?_
                  rotate_left
                  · intro w'
                    go_simp
                    with_reducible rfl
                  rotate_left
                  · simp only [Act.put, List.setIfInBounds_toArray, List.set_cons_zero, List.set_cons_succ, i64_w, i32_w]
                    rfl
                  refine pure_ (i := 6) (N := some 80) (v := ?_) (a' := ?_) #[true, true, true, true, true, false, true, false, false, false, false, false, false, false] rfl rfl (any_of HT_.out (by kernel_rfl)) (fun _ _ _ h => h) (Or.inl ⟨by rfl, ?_⟩) ?_ ?_
                  rotate_left
                  · intro w'
                    go_simp
                    with_reducible rfl
                  rotate_left
                  · simp only [Act.put, List.setIfInBounds_toArray, List.set_cons_zero, List.set_cons_succ, i64_w, i32_w]
                    rfl
                  refine pure_ (i := 7) (N := some 81) (v := ?_) (a' := ?_) #[true, true, true, true, true, false, true, true, false, false, false, false, false, false] rfl rfl (any_of HT_.out (by kernel_rfl)) (fun _ _ _ h => h) (Or.inl ⟨by rfl, ?_⟩) ?_ ?_
                  rotate_left
                  · intro w'
                    go_simp
                    with_reducible rfl
                  rotate_left
                  · simp only [Act.put, List.setIfInBounds_toArray, List.set_cons_zero, List.set_cons_succ, i64_w, i32_w]
                    rfl
                  refine pure_ (i := 8) (N := some 82) (v := ?_) (a' := ?_) #[true, true, true, true, true, false, true, true, true, false, false, false, false, false] rfl rfl (any_of HT_.out (by kernel_rfl)) (fun _ _ _ h => h) (Or.inl ⟨by rfl, ?_⟩) ?_ ?_
                  rotate_left
                  · intro w'
                    go_simp
                    with_reducible rfl
                  rotate_left
                  · simp only [Act.put, List.setIfInBounds_toArray, List.set_cons_zero, List.set_cons_succ, i64_w, i32_w]
                    rfl
                  refine pure_ (i := 9) (N := some 83) (v := ?_) (a' := ?_) #[true, true, true, true, true, false, true, true, true, true, false, false, false, false] rfl rfl (any_of HT_.out (by kernel_rfl)) (fun _ _ _ h => h) (Or.inl ⟨by rfl, ?_⟩) ?_ ?_
                  rotate_left
                  · intro w'
                    go_simp
                    with_reducible rfl
                  rotate_left
                  · simp only [Act.put, List.setIfInBounds_toArray, List.set_cons_zero, List.set_cons_succ, i64_w, i32_w]
                    rfl
                  refine pure_ (i := 10) (N := some 84) (v := ?_) (a' := ?_) #[true, true, true, true, true, false, true, true, true, true, true, false, false, false] rfl rfl (any_of HT_.out (by kernel_rfl)) (fun _ _ _ h => h) (Or.inl ⟨by rfl, ?_⟩) ?_ ?_
                  rotate_left
                  · intro w'
                    go_simp
                    with_reducible rfl
                  rotate_left
                  · simp only [Act.put, List.setIfInBounds_toArray, List.set_cons_zero, List.set_cons_succ, i64_w, i32_w]
                    rfl
                  refine pure_ (i := 12) (N := some 86) (v := ?_) (a' := ?_) #[true, true, true, true, true, false, true, true, true, true, true, false, true, false] rfl rfl (any_of HT_.out (by kernel_rfl)) (fun _ _ _ h => h) (Or.inl ⟨by rfl, ?_⟩) ?_ ?_
                  rotate_left
                  · intro w'
                    go_simp
                    with_reducible rfl
                  rotate_left
                  · simp only [Act.put, List.setIfInBounds_toArray, List.set_cons_zero, List.set_cons_succ, i64_w, i32_w]
                    rfl
                  refine one_ (i := 5) (N := some 79) #[true, true, true, true, true, true, true, true, true, true, true, false, true, false] rfl rfl (one_of HT_.out (by kernel_rfl)) (by decide) (fun K hK => ?_)
                  refine goes_ Tryd.func28 (by kernel_rfl) rfl #[.string σ, .string ⟨#[48]⟩] (by rfl) rfl rfl (by simp only [List.map_toArray, List.map_cons, List.map_nil]; rfl) ?_
                  refine (trim_calls σ _).mono ?_
                  rintro e_ w8 ⟨rfl, hw_⟩
                  refine ⟨_, rfl, ?_⟩
                  subst hw_
                  rw [← HPI.out]
                  refine hK.out _ _ trivial (fun hHeld => ?_)
                  clear hK K
                  refine norm_ (a' := ?_) ?_ ?_
                  rotate_left
                  · show Act.put _ (some 79) _ = _
                    simp only [Act.put, List.setIfInBounds_toArray, List.set_cons_zero, List.set_cons_succ, i64_w, i32_w]
                    rfl
                  refine pure_ (i := 11) (N := some 85) (v := ?_) (a' := ?_) #[true, true, true, true, true, true, true, true, true, true, true, true, true, false] rfl rfl (any_of HT_.out (by kernel_rfl)) (fun _ _ _ h => h) (Or.inl ⟨by rfl, ?_⟩) ?_ ?_
                  rotate_left
                  · intro w'
                    go_simp
                    with_reducible rfl
                  rotate_left
                  · simp only [Act.put, List.setIfInBounds_toArray, List.set_cons_zero, List.set_cons_succ, i64_w, i32_w]
                    rfl
                  refine one_ (i := 13) (N := some 87) #[true, true, true, true, true, true, true, true, true, true, true, true, true, true] rfl rfl (one_of HT_.out (by kernel_rfl)) (by decide) (fun K hK => ?_)
                  refine call_ 20 #[.int .i64 3, .string (π ++ δ), .int .i64 (n : Int), .pointer (some ⟨g5, 0, none⟩), .pointer (some ⟨g7, 0, none⟩)] (by rfl) rfl (by first | rfl | (go_simp; done) | (go_simp; rfl)) ?_
                  refine (add_calls 3 (π ++ δ) a n HE.out (by have h1 := HL.out.2.2; have h2 := HL.out.2.1; have h3 := HS.out; omega) (by have h2 := HL.out.2.1; have h3 := HS.out; omega) (by have h1 := HLR.out; have h2 := HNL.out; have h3 := HS.out; simp at h2; omega)).mono ?_
                  rintro e_ w9 ⟨rfl, v8_, hp_⟩
                  refine ⟨_, rfl, ?_⟩
                  clear HE
                  have HE := Aside0.mk hp_
                  clear hp_
                  refine hK.out _ _ trivial (fun hHeld => ?_)
                  clear hK K
                  refine norm_ (a' := ?_) ?_ ?_
                  rotate_left
                  · show Act.put _ (some 87) _ = _
                    simp only [Act.put, List.setIfInBounds_toArray, List.set_cons_zero, List.set_cons_succ, i64_w, i32_w]
                    rfl
                  refine done_ (done_of HT_.out (by kernel_rfl)) ?_
                  
                  (try clear hHeld)
                  have HG3 : Aside0 (lexGo k1 ((c :: r).drop n) (a + n) (acc ++ [⟨3, π ++ δ, (a : Int)⟩]) = some (T, tw, er)) := ⟨by have h1 := HG2.out; unfold tk at h1; rw [← HTX.out] at h1; exact h1⟩
                  go_wp2
                  go_roundg k1
                  case measure => omega
                  case rel => exact ⟨_, a + n, _, _, ⟨lex_drop s a acc.length n (c :: r) HL.out.1 HNL.out HL.out.2.1 HL.out.2.2 _ (by have h1 := HL.out.2.2; have h2 := HN1.out; simp; omega)⟩, HG3, HE⟩
                | false =>
                  rw [if_neg (by rw [hD]; decide)] at hg
                  by_cases h34 : c = 34
                  case pos =>
                    rw [if_pos h34] at hg
                    have e34 : ((c.toNat : Int) == 34) = true := by rw [h34]; rfl
                    go_wp2_with (fail)
                    (try clear z_g7_0)
                    (try clear y_g7_0)
                    (try clear z_g5_0)
                    (try clear y_g5_0)
                    refine (text_calls ρ _ (by have := HRS.out; omega) (by have h1 := HRS.out; have h2 := HLR.out; have h3 := HS.out; omega)).mono ?_
                    rintro e_ x18 ⟨rfl, hb_⟩
                    dsimp only
                    have n_ := Aside0.mk (HE.out.call hb_)
                    clear HE hb_
                    have HE := n_
                    clear n_
                    have htr : textR ρ = match qt r with | none => (0, [], false) | some p => ((p.2 + 1 : Nat), p.1, true) := by unfold textR; rw [HBY.out]; rfl
                    rw [htr]
                    clear htr
                    cases hq : qt r with
                    | none =>
                      rw [hq] at hg
                      simp only [Option.some.injEq, Prod.mk.injEq] at hg
                      obtain ⟨rfl, rfl, rfl⟩ := hg
                      dsimp only
                      have z_g7_0 : x18.cell? ⟨g7, 0, none⟩ = some (.int .i64 (a : Int)) := HE.out.cell 0 0 rfl rfl
                      go_wp2
                      repeat (go_quiet (fail); try go_wp2)
                      (try rw [Exit.noGoto_ret])
                      go_ret3
                      exact ⟨_, rfl, Kd.N_nil _ _ _ _ _, (HE.out.call (by repeat (first | (with_reducible first | exact Below.refl _ _ | apply below_alloc | apply pw_below_drewN | apply below_drew1) | exact Below.refl _ _))).below⟩
                    | some p =>
                      rw [hq] at hg
                      have HG2 := Aside0.mk hg
                      clear hg
                      have hpl := qt_le _ r p (Nat.le_refl _) hq
                      obtain ⟨n, hn⟩ : ∃ n : Nat, n = p.2 + 1 := ⟨_, rfl⟩
                      have HN1 : Aside0 (1 ≤ n) := ⟨by omega⟩
                      have HNL : Aside0 (n ≤ (c :: r).length) := ⟨by simp; omega⟩
                      obtain ⟨τ, hτ⟩ : ∃ τ : ByteArray, τ = ⟨p.1.toArray⟩ := ⟨_, rfl⟩
                      dsimp only
                      rw [← hn, ← hτ]
                      have HG3 : Aside0 (lexGo k1 ((c :: r).drop n) (a + n) (acc ++ [⟨4, τ, (a : Int)⟩]) = some (T, tw, er)) := ⟨by have h1 := HG2.out; simp only at h1; unfold tk at h1; rw [← hτ] at h1; subst hn; exact h1⟩
                      clear hq hpl hn hτ
                      go_wp2_with (fail)
                      (try clear z_g7_0)
                      (try clear y_g7_0)
                      (try clear z_g5_0)
                      (try clear y_g5_0)
                      refine (add_calls 4 τ a n HE.out (by have h1 := HL.out.2.2; have h2 := HL.out.2.1; have h3 := HS.out; omega) (by have h2 := HL.out.2.1; have h3 := HS.out; omega) (by have h1 := HLR.out; have h2 := HNL.out; have h3 := HS.out; simp at h2; omega)).mono ?_
                      rintro e_ x19 ⟨rfl, v8_, hp_⟩
                      dsimp only
                      clear HE
                      have HE := Aside0.mk hp_
                      clear hp_
                      go_wp2
                      go_roundg k1
                      case measure => omega
                      case rel => exact ⟨_, a + n, _, _, ⟨lex_drop s a acc.length n (c :: r) HL.out.1 HNL.out HL.out.2.1 HL.out.2.2 _ (by have h1 := HL.out.2.2; have h2 := HN1.out; simp; omega)⟩, HG3, HE⟩
                  case neg =>
                    rw [if_neg h34] at hg
                    have e34 : ((c.toNat : Int) == 34) = false := beq_eq_false_iff_ne.2 (fun e => h34 (u8_of _ 34 (by omega)))
                    go_wp2_with (fail)
                    (try clear z_g7_0)
                    (try clear y_g7_0)
                    (try clear z_g5_0)
                    (try clear y_g5_0)
                    refine (HE.out.signs).mono ?_
                    rintro e_ y1 ⟨As, ns, cs, rfl, hp_⟩
                    dsimp only
                    clear HE
                    have HE := Aside0.mk hp_
                    clear hp_
                    have hns : ns = signs.length := (Kd.N_reads' (HE.out.rt 0 rfl)).1
                    have HNS := Aside0.mk hns
                    clear hns
                    have HG2 := Aside0.mk hg
                    clear hg
                    go_wp2_with (fail)
                    go_loopg [106] (signs.length + 1) (fun kq v106 w' => ∃ (j : Nat), v106 = .int .i64 (j : Int) ∧ Aside0 (j ≤ signs.length) ∧ Aside0 (kq + j = signs.length + 1) ∧ Aside0 (∀ i y, i < j → signs[i]? = some y → Lib.hasPrefix (c :: r) (by' y) = false) ∧ Aside0 (Pw w w' [(g7, #[.int .i64 (a : Int)], 3), (g5, #[.slice A5 n5 c5], 23)] [(.slice A5 n5 c5, acc)] [(.slice As ns cs, signs), (.slice Aw nw cw, words)]))
                    case atStart => exact ⟨0, rfl, ⟨Nat.zero_le _⟩, ⟨rfl⟩, ⟨fun i y hi _ => absurd hi (Nat.not_lt_zero _)⟩, HE⟩
                    case round =>
                      clear HE
                      obtain ⟨j, rfl, HJ, HK, HNO, HE⟩ := hrel
                      cases gk with
                      | zero => exact absurd HK.out (by have := HJ.out; omega)
                      | succ k2 =>
                        by_cases hj : j < signs.length
                        case pos =>
                          have j1 : decide ((j : Int) < (ns : Int)) = true := decide_eq_true (by have := HNS.out; omega)
                          have j2 : j < ns := by have := HNS.out; omega
                          have j3 : (0 : Int) ≤ (j : Int) := by omega
                          have HJL := Aside0.mk hj
                          obtain ⟨x, hx⟩ : ∃ x, signs[j]? = some x := ⟨_, List.getElem?_eq_getElem hj⟩
                          obtain ⟨ads, hAs, hcx⟩ := at_s (Kd.N_reads' (HE.out.rt 0 rfl)).2.2 j x hx
                          subst hAs
                          have HX := Aside0.mk hx
                          clear hx
                          go_wp2_with (fail)
                          refine (pre_calls ρ x _).mono ?_
                          rintro e_ y2 ⟨rfl, rfl⟩
                          dsimp only
                          rw [HBY.out]
                          cases hP : Lib.hasPrefix (c :: r) (by' x) with
                          | true =>
                            have hfind := find_pre (c :: r) signs j x HNO.out HX.out hP
                            have HG3 : Aside0 (lexGo k1 ((c :: r).drop x.size) (a + x.size) (acc ++ [⟨5, x, (a : Int)⟩]) = some (T, tw, er)) := ⟨by have h1 := HG2.out; rw [hfind] at h1; exact h1⟩
                            have HNL : Aside0 (x.size ≤ (c :: r).length) := ⟨pre_len _ _ hP⟩
                            have HN1 : Aside0 (1 ≤ x.size) := ⟨sign_pos x (List.mem_of_getElem? HX.out)⟩
                            clear hfind
                            go_wp2_with (fail)
                            (try clear z_g7_0)
                            (try clear y_g7_0)
                            (try clear z_g5_0)
                            (try clear y_g5_0)
                            refine (add_calls 5 x a x.size HE.out (by have h1 := HL.out.2.2; have h2 := HL.out.2.1; have h3 := HS.out; omega) (by have h2 := HL.out.2.1; have h3 := HS.out; omega) (by have h1 := HLR.out; have h2 := HNL.out; have h3 := HS.out; simp at h2; omega)).mono ?_
                            rintro e_ x20 ⟨rfl, v8_, hp_⟩
                            dsimp only
                            clear HE
                            have HE := Aside0.mk hp_
                            clear hp_
                            go_wp2
                            go_roundg k1
                            case measure => omega
                            case rel => exact ⟨_, a + x.size, _, _, ⟨lex_drop s a acc.length x.size (c :: r) HL.out.1 HNL.out HL.out.2.1 HL.out.2.2 _ (by have h1 := HL.out.2.2; have h2 := HN1.out; simp; omega)⟩, HG3, ⟨HE.out.less (List.Sublist.refl _) (List.sublist_cons_self _ _)⟩⟩
                          | false =>
                            have HNO2 : Aside0 (∀ i y, i < j + 1 → signs[i]? = some y → Lib.hasPrefix (c :: r) (by' y) = false) := ⟨fun i y hi hy => by
                              by_cases e : i = j
                              · subst e
                                rw [HX.out] at hy
                                cases hy
                                exact hP
                              · exact HNO.out i y (by omega) hy⟩
                            clear hP
                            go_wp2
                            go_roundg k2
                            case measure => omega
                            case rel => exact ⟨j + 1, by first | rfl | exact cast_n j | rw [wrap_1 j (Nat.le_of_lt (Nat.lt_of_lt_of_le HJL.out sign_len))], ⟨HJL.out⟩, ⟨by have := HK.out; omega⟩, HNO2, HE⟩
                        case neg =>
                          have j1 : decide ((j : Int) < (ns : Int)) = false := decide_eq_false (by have := HNS.out; omega)
                          have j2 : ¬ j < ns := by have := HNS.out; omega
                          have hfn := find_none (c :: r) signs (fun i y hi hy => HNO.out i y (by omega) hy)
                          have hg := HG2.out
                          rw [hfn] at hg
                          simp only [Option.some.injEq, Prod.mk.injEq] at hg
                          obtain ⟨rfl, rfl, rfl⟩ := hg
                          clear hfn
                          have zq : wr.cell? ⟨g7, 0, none⟩ = some (.int .i64 (a : Int)) := HE.out.cell 0 0 rfl rfl
                          go_wp2
                          repeat (go_quiet (fail); try go_wp2)
                          (try rw [Exit.noGoto_ret])
                          go_ret3
                          exact ⟨_, rfl, Kd.N_nil _ _ _ _ _, (HE.out.call (by repeat (first | (with_reducible first | exact Below.refl _ _ | apply below_alloc | apply pw_below_drewN | apply below_drew1) | exact Below.refl _ _))).below⟩
end Go.Proofs.YthnehdimjadliaaDoor.PAll
