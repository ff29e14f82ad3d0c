import Derived.Test.YthnehdimjadliaaDoorHRun
/- The text that a quote begins. -/
namespace Go.Proofs.YthnehdimjadliaaDoor.PAll
open Go Go.Proofs Go.RowKit Go.Shelf Go.Proofs.YthnehdimjadliaaDoorW.PrintWords Go.Proofs.YthnehdimjadliaaDoorW.PrintLast Go.Proofs.YthnehdimjadliaaDoorW.PrintMore
attribute [local go_sem] Oper.semAt_some
set_option linter.unusedVariables false
set_option linter.unusedSimpArgs false
abbrev by' (s : ByteArray) : List UInt8 := s.data.toList
theorem ba_eq (s : ByteArray) (l : List UInt8) (h : by' s = l) : s = ⟨l.toArray⟩ := by
  apply ByteArray.ext
  apply Array.ext'
  simpa using h
theorem by_app (a b : ByteArray) : by' (a ++ b) = by' a ++ by' b := by simp [by', ByteArray.data_append]
theorem by_ext (s : ByteArray) (a b : Nat) : by' (s.extract a b) = (by' s).extract a b := by simp [by', ByteArray.data_extract]
theorem by_size (s : ByteArray) : (by' s).length = s.size := by simp [by']
theorem by_from (s : ByteArray) (a : Nat) : by' (s.extract a s.size) = (by' s).drop a := by
  rw [by_ext, List.extract_eq_take_drop, ← by_size, List.take_of_length_le (by simp)]
theorem by_to (s : ByteArray) (b : Nat) : by' (s.extract 0 b) = (by' s).take b := by
  rw [by_ext, List.extract_eq_take_drop]; simp
theorem by_mid (s : ByteArray) (a n : Nat) : by' (s.extract a (a + n)) = ((by' s).drop a).take n := by
  rw [by_ext, List.extract_eq_take_drop]; congr 1; omega
/-- What a text says from behind its quote on, and how many bytes it takes, its last quote among them. -/
def qt : List UInt8 → Option (List UInt8 × Nat)
  | [] => none
  | c :: r => if c = 34 then (match r with
      | [] => some ([], 1)
      | d :: r' => if d = 34 then (qt r').map (fun p => (34 :: p.1, p.2 + 2)) else some ([], 1))
    else (qt r).map (fun p => (c :: p.1, p.2 + 1))
theorem qt_none : ∀ l : List UInt8, Lib.indexByte l 34 = -1 → qt l = none
  | [], _ => rfl
  | c :: l, h => by
    unfold Lib.indexByte at h
    by_cases hc : c = 34
    · simp [hc] at h
    · have hc' : (c == 34) = false := by simpa using hc
      rw [hc'] at h
      simp only [Bool.false_eq_true, if_false] at h
      have h1 : Lib.indexByte l 34 = -1 := by
        have := Lib.indexByte_ge l 34
        split at h
        · rename_i h2; simpa using h2
        · omega
      have hqq : qt (c :: l) = (qt l).map (fun p => (c :: p.1, p.2 + 1)) := by cases l <;> simp [qt, hc]
      rw [hqq, qt_none l h1]
      rfl
theorem qt_skip : ∀ (l : List UInt8) (m : Nat), Lib.indexByte l 34 = (m : Int) → (∃ r, l.drop m = 34 :: r) ∧ m < l.length ∧ qt l = (qt (l.drop m)).map (fun p => (l.take m ++ p.1, m + p.2))
  | [], m, h => by simp [Lib.indexByte] at h
  | c :: l, m, h => by
    unfold Lib.indexByte at h
    by_cases hc : c = 34
    · subst hc
      simp at h
      have : m = 0 := by omega
      subst this
      refine ⟨⟨l, rfl⟩, by simp, ?_⟩
      cases hq : qt (34 :: l) <;> simp [hq]
    · have hc' : (c == 34) = false := by simpa using hc
      rw [hc'] at h
      simp only [Bool.false_eq_true, if_false] at h
      split at h
      · omega
      · rename_i h2
        have h4 : Lib.indexByte l 34 ≠ -1 := by simpa using h2
        have h3 := Lib.indexByte_ge l 34
        obtain ⟨k, rfl⟩ : ∃ k, m = k + 1 := ⟨m - 1, by omega⟩
        obtain ⟨⟨r, hr⟩, hl, hq⟩ := qt_skip l k (by omega)
        refine ⟨⟨r, by simpa using hr⟩, by simp; omega, ?_⟩
        have hqq : qt (c :: l) = (qt l).map (fun p => (c :: p.1, p.2 + 1)) := by cases l <;> simp [qt, hc]
        rw [hqq, hq]
        simp only [List.drop_succ_cons, List.take_succ_cons, Option.map_map]
        congr 1
        funext p
        simp
        omega
theorem qt_end (r : List UInt8) (h : ∀ d r', r = d :: r' → d ≠ 34) : qt (34 :: r) = some ([], 1) := by
  cases r with
  | nil => simp [qt]
  | cons d r' => simp [qt, h d r' rfl]
theorem qt_two (r : List UInt8) : qt (34 :: 34 :: r) = (qt r).map (fun p => (34 :: p.1, p.2 + 2)) := by simp [qt]
theorem wrap_1 (d : Nat) (h : d ≤ 100000) : wrap64 ((d : Int) + 1) = ((d + 1 : Nat) : Int) := by unfold wrap64; omega
theorem u8_of (x : UInt8) (n : Nat) (h : x.toNat = n) : x = UInt8.ofNat n := by rw [← h]; simp
theorem cast_1 (d : Nat) : Value.int .i64 ((d : Int) + 1) = .int .i64 ((d + 1 : Nat) : Int) := by rw [Int.natCast_add]; rfl
theorem text_b (o : ByteArray) (n b d : Nat) (h : o.size ≤ b) (h1 : b ≤ n) (h2 : d < n) (h3 : d = b + 1) : 1 ≤ d + 1 ∧ d + 1 ≤ n ∧ (o ++ (⟨#[34]⟩ : ByteArray)).size ≤ d + 1 := by
  refine ⟨by omega, by omega, ?_⟩
  rw [ByteArray.size_append]
  show o.size + 1 ≤ d + 1
  omega
theorem text_k (k a d m n : Nat) (h : n + 2 ≤ k + 1 + a) (hd : d = a + (m + 1)) : n + 2 ≤ k + (d + 1) := by omega
theorem text_q (o t : List UInt8) (a m d : Nat) (q : Option (List UInt8 × Nat)) (ha : 1 ≤ a) (hd : d = a + (m + 1)) :
    ((q.map (fun p => (34 :: p.1, p.2 + 2))).map (fun p => (t ++ p.1, m + p.2))).map (fun p => (o ++ p.1, a - 1 + p.2)) = q.map (fun p => (((o ++ t) ++ [34]) ++ p.1, d + 1 - 1 + p.2)) := by
  cases q with
  | none => rfl
  | some p =>
    simp only [Option.map_some]
    congr 1
    apply Prod.ext
    · simp
    · simp only
      omega
theorem text_len (s : ByteArray) (d : Nat) (r : List UInt8) (h : (by' s).drop d = r) : r.length = s.size - d := by rw [← h, List.length_drop, by_size]
def textR (s : ByteArray) : Int × List UInt8 × Bool := match qt ((by' s).drop 1) with
  | none => (0, [], false)
  | some p => ((p.2 + 1 : Nat), p.1, true)
theorem ix_calls (s : ByteArray) (c : Int) (w : World) : Calls Tryd.prog 22 #[.string s, .int .u8 c] w fun e w' => e = .returned (.int .i64 (Lib.indexByte (by' s) c.toNat.toUInt8)) ∧ w' = w :=
  Any.strings_IndexByte Tryd.lays137 s c w
theorem ix34 (s : ByteArray) (w : World) : Calls Tryd.prog 22 #[.string s, .int .u8 34] w fun e w' => e = .returned (.int .i64 (Lib.indexByte (by' s) 34)) ∧ w' = w := ix_calls s 34 w
set_option maxHeartbeats 8000000 in
set_option maxRecDepth 100000 in
theorem text_calls (s : ByteArray) (w : World) (hs : 1 ≤ s.size) (hs2 : s.size ≤ 100000) :
    Calls Tryd.prog 29 #[.string s] w fun e w' => e = .returned (.tuple #[.int .i64 (textR s).1, .string ⟨(textR s).2.1.toArray⟩, .bool (textR s).2.2]) ∧ Below w.heap.size w w' := by
  have HS := Aside0.mk hs2
  have hb := Below.refl w.heap.size w
  have HB := Aside0.mk hb
  clear hb
  go_enter Tryd.func29, Tryd.ntmps29
  go_wp2_with (fail)
  go_loopg [5, 6] (s.size + 1) (fun kq v5 v6 w' => ∃ (o : ByteArray) (a : Nat), v5 = .string o ∧ v6 = .int .i64 (a : Int) ∧ Aside0 (1 ≤ a ∧ a ≤ s.size ∧ o.size ≤ a) ∧ Aside0 (s.size + 2 ≤ kq + a) ∧ Aside0 (qt ((by' s).drop 1) = (qt ((by' s).drop a)).map (fun p => (by' o ++ p.1, a - 1 + p.2))) ∧ Aside0 (Below w.heap.size w w'))
  case atStart =>
    refine ⟨⟨#[]⟩, 1, rfl, rfl, ⟨by omega, hs, by simp [ByteArray.size]⟩, ⟨by omega⟩, ⟨?_⟩, HB⟩
    cases hq : qt ((by' s).drop 1) <;> simp [by']
  case round =>
    clear HB
    obtain ⟨o, a, rfl, rfl, HA, HK, HQ, HB⟩ := hrel
    cases gk with
    | zero => exact absurd HK.out (by have := HA.out; omega)
    | succ k1 =>
      have ha1 : a ≤ s.size := HA.out.2.1
      have ha2 : (0 : Int) ≤ (a : Int) := by omega
      have ha3 : (a : Int) ≤ (s.size : Int) := by omega
      go_wp2_with (fail)
      refine (ix34 (s.extract a s.size) _).mono ?_
      rintro e_ w2 ⟨rfl, rfl⟩
      dsimp only
      rw [by_from]
      by_cases hix : Lib.indexByte ((by' s).drop a) 34 = -1
      · have hn := qt_none _ hix
        have hR : textR s = (0, [], false) := by
          unfold textR
          rw [HQ.out, hn]
          rfl
        have HR := Aside0.mk hR
        clear hR hn
        rw [hix]
        have f0 : decide ((-1 : Int) < 0) = true := rfl
        go_wp2
        go_ret3
        rw [HR.out]
        exact ⟨rfl, HB.out⟩
      · obtain ⟨m, hm⟩ : ∃ m : Nat, Lib.indexByte ((by' s).drop a) 34 = (m : Int) := ⟨(Lib.indexByte ((by' s).drop a) 34).toNat, by have := Lib.indexByte_ge ((by' s).drop a) 34; omega⟩
        obtain ⟨⟨r, hr⟩, hml, hq⟩ := qt_skip _ m hm
        rw [hm]
        rw [List.length_drop, by_size] at hml
        rw [List.drop_drop] at hr
        have hq2 := HQ.out
        rw [hq, List.drop_drop, hr] at hq2
        have hd1 : (by' s).drop (a + (m + 1)) = r := by
          have : (by' s).drop (a + m + 1) = ((by' s).drop (a + m)).drop 1 := by rw [List.drop_drop]
          rw [show a + (m + 1) = a + m + 1 by omega, this, hr]
          rfl
        have HQ2 := Aside0.mk hq2
        have HR := Aside0.mk hr
        have HD1 := Aside0.mk hd1
        have HML := Aside0.mk hml
        have HM := Aside0.mk (by_mid s a m)
        clear hix hm hq hq2 hr hd1 hml
        have f1 : decide ((m : Int) < 0) = false := decide_eq_false (by omega)
        have f2 : ¬ (m : Int) < 0 := by omega
        obtain ⟨b, hb⟩ : ∃ b : Nat, b = a + m := ⟨_, rfl⟩
        obtain ⟨c, hc⟩ : ∃ c : Nat, c = m + 1 := ⟨_, rfl⟩
        obtain ⟨d, hd⟩ : ∃ d : Nat, d = a + c := ⟨_, rfl⟩
        have hS := HS.out
        have hM := HML.out
        have hw1 : wrap64 ((a : Int) + (m : Int)) = (b : Int) := by unfold wrap64; omega
        have hw2 : wrap64 ((m : Int) + 1) = (c : Int) := by unfold wrap64; omega
        have hw3 : wrap64 ((a : Int) + (c : Int)) = (d : Int) := by unfold wrap64; omega
        have h4 : b ≤ s.size := by omega
        have h5 : (a : Int) ≤ (b : Int) := by omega
        have h5' : a ≤ b := by omega
        have h6 : (b : Int) ≤ (s.size : Int) := by omega
        have hA3 := HA.out.2.2
        have hz : (s.extract a b).size = m := by rw [ByteArray.size_extract]; omega
        have q1 : (9223372036854775807 < o.size + (s.extract a b).size) = False := eq_false (by omega)
        have q2 : (9223372036854775807 < o.size + (b - a)) = False := eq_false (by omega)
        have q3 : (9223372036854775807 < o.size + (min b s.size - a)) = False := eq_false (by omega)
        have h7 : d ≤ s.size := by omega
        have h8 : (d : Int) ≤ (s.size : Int) := by omega
        have HO : Aside0 (by' (o ++ s.extract a b) = by' o ++ ((by' s).drop a).take m) := ⟨by rw [by_app, hb, HM.out]⟩
        have HZ : Aside0 ((o ++ s.extract a b).size ≤ b) := ⟨by rw [ByteArray.size_append]; omega⟩
        have HBB := Aside0.mk hb
        have HCC := Aside0.mk hc
        have HDD := Aside0.mk hd
        clear hb hc hd hS hM hA3 hz
        have HL := Aside0.mk (text_len s d r (by rw [HDD.out, HCC.out]; exact HD1.out))
        by_cases he : d = s.size
        · have e1 : ((d : Int) == (s.size : Int)) = true := beq_iff_eq.2 (by omega)
          have e2 : (d == s.size) = true := beq_iff_eq.2 he
          have HEQ := Aside0.mk he
          clear he
          have hR : textR s = ((d : Int), by' (o ++ s.extract a b), true) := by
            have hr0 : r = [] := List.eq_nil_of_length_eq_zero (by have h1 := HL.out; have h2 := HEQ.out; omega)
            unfold textR
            rw [HQ2.out, hr0, qt_end [] (fun _ _ h => by cases h)]
            simp only [Option.map_some, HO.out, List.append_nil]
            have h1 := HA.out.1
            have h2 := HDD.out
            have h3 := HCC.out
            congr 1
            omega
          have HR := Aside0.mk hR
          clear hR
          go_wp2
          go_ret3
          rw [HR.out, ← ba_eq _ _ rfl]
          exact ⟨rfl, HB.out⟩
        · have hd' : d < s.size := by omega
          have e1 : ((d : Int) == (s.size : Int)) = false := beq_eq_false_iff_ne.2 (by omega)
          have e2 : (d == s.size) = false := beq_eq_false_iff_ne.2 he
          have e3 : (d : Int) < (s.size : Int) := by omega
          have e4 : (0 : Int) ≤ (d : Int) := by omega
          obtain ⟨r', hr'⟩ : ∃ r', r = s[d] :: r' := ⟨(by' s).drop (d + 1), by rw [← byte_at s d hd', HDD.out, HCC.out]; exact HD1.out.symm⟩
          have HR' := Aside0.mk hr'
          clear hr'
          by_cases hx : (s[d]'hd').toNat = 34
          · have x1 : (((s[d]'hd').toNat : Int) != 34) = false := by simp [hx]
            have q4 : (9223372036854775807 < o.size + (b - a) + 1) = False := eq_false (by have h1 := HS.out; have h2 := HA.out; omega)
            have q5 : (9223372036854775807 < o.size + (min b s.size - a) + 1) = False := eq_false (by have h1 := HS.out; have h2 := HA.out; omega)
            have hx' : s[d]'hd' = 34 := u8_of _ 34 hx
            have HX := Aside0.mk (hx' ▸ HR'.out : r = 34 :: r')
            clear hx'
            go_wp2
            go_roundg k1
            case measure => have := HK.out; have := HA.out; omega
            case rel =>
              refine ⟨_, d + 1, rfl, cast_1 d, ⟨text_b (o ++ s.extract a b) s.size b d HZ.out h4 hd' (by rw [HDD.out, HCC.out, HBB.out]; omega)⟩, ⟨text_k k1 a d m s.size HK.out (by rw [HDD.out, HCC.out])⟩, ⟨?_⟩, HB⟩
              have hdr : (by' s).drop (d + 1) = r' := by
                have e : (by' s).drop d = r := by rw [HDD.out, HCC.out]; exact HD1.out
                rw [show d + 1 = d + 1 from rfl, ← List.drop_drop, e, HX.out]
                rfl
              rw [HQ2.out, HX.out, qt_two, hdr, by_app, HO.out]
              exact text_q _ _ a m d (qt r') HA.out.1 (by rw [HDD.out, HCC.out])
          · have x1 : (((s[d]'hd').toNat : Int) != 34) = true := bne_iff_ne.2 (by omega)
            have hR : textR s = ((d : Int), by' (o ++ s.extract a b), true) := by
              unfold textR
              rw [HQ2.out, HR'.out, qt_end _ (fun d' r2 h => by
                injection h with h1 h2
                intro e
                apply hx
                rw [h1, e]
                rfl)]
              simp only [Option.map_some, HO.out, List.append_nil]
              have h1 := HA.out.1
              have h2 := HDD.out
              have h3 := HCC.out
              congr 1
              omega
            have HR := Aside0.mk hR
            clear hR
            go_wp2
            go_ret3
            rw [HR.out, ← ba_eq _ _ rfl]
            exact ⟨rfl, HB.out⟩
end Go.Proofs.YthnehdimjadliaaDoor.PAll
