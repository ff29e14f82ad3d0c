import Derived.Test.YthnehdimjadliaaDoorPAllx3
import Derived.Test.YthnehdimjadliaaDoorShelf
import Derived.Lib.OthersKept
/- Letters and digits; how many bytes of a text, from its beginning on, are such. -/
namespace Go.Proofs.YthnehdimjadliaaDoor.PAll
open Go Go.Proofs Go.RowKit Go.Shelf Go.Proofs.YthnehdimjadliaaDoorW.PrintWords Go.Proofs.YthnehdimjadliaaDoorW.PrintLast Go.Proofs.YthnehdimjadliaaDoorW.PrintMore
attribute [local go_sem] Oper.semAt_some
set_option linter.unusedVariables false
set_option linter.unusedSimpArgs false
def pL (r : Int) : Bool := (decide (97 ≤ r) && decide (r ≤ 122)) || (decide (65 ≤ r) && decide (r ≤ 90)) || r == 95
def pD (r : Int) : Bool := decide (48 ≤ r) && decide (r ≤ 57)
def pLD (r : Int) : Bool := pL r || pD r
theorem letter_p (r : Int) : lex_letter.f r = some (pL r) := by
  unfold lex_letter.f pL
  split <;> split <;> (try split) <;> (try split) <;> simp <;> omega
theorem digit_p (r : Int) : lex_digit.f r = some (pD r) := by
  unfold lex_digit.f pD
  split <;> simp <;> omega
def runL (pr : Int → Bool) : List UInt8 → Nat
  | [] => 0
  | c :: l => if pr (c.toNat : Int) = true then runL pr l + 1 else 0
theorem runL_le (pr : Int → Bool) : ∀ l : List UInt8, runL pr l ≤ l.length
  | [] => Nat.le_refl _
  | c :: l => by
    have := runL_le pr l
    simp only [runL, List.length_cons]
    split <;> omega
theorem byte_at (s : ByteArray) (pos : Nat) (h : pos < s.size) : s.data.toList.drop pos = s[pos] :: s.data.toList.drop (pos + 1) := by
  rw [List.drop_eq_getElem_cons (by simpa using h)]
  rfl
theorem small_high (pr : Int → Bool) (hpr : ∀ r : Int, 128 ≤ r → pr r = false) (s : ByteArray) (pos : Nat) (h : pos < s.size) (hc : ¬ (s[pos]'h).toNat < 128) : runL pr (s.data.toList.drop pos) = 0 := by
  rw [byte_at s pos h]
  unfold runL
  rw [if_neg]
  rw [hpr _ (by omega)]
  decide
theorem hi_pL (r : Int) (h : 128 ≤ r) : pL r = false := by unfold pL; simp; omega
theorem hi_pD (r : Int) (h : 128 ≤ r) : pD r = false := by unfold pD; simp; omega
theorem hi_pLD (r : Int) (h : 128 ≤ r) : pLD r = false := by unfold pLD; rw [hi_pL r h, hi_pD r h]; rfl

theorem pred_25 (r : Int) (w : World) : Calls Tryd.prog 25 #[.int .i32 r] w fun e w' => e = .returned (.bool (pLD r)) ∧ Drawn0 w w' := by
  go_enter Tryd.func25, Tryd.ntmps25
  go_wp2_with (fail)
  refine (lex_letter.calls r (pL r) _ (letter_p r)).mono ?_
  rintro e W1 ⟨rfl, m1, rfl⟩
  dsimp only
  cases h1 : pL r with
  | true =>
    go_wp2
    go_ret
    exact ⟨by simp [pLD, h1], m1, rfl⟩
  | false =>
    go_wp2_with (fail)
    refine (lex_digit.calls r (pD r) _ (digit_p r)).mono ?_
    rintro e W2 ⟨rfl, m2, rfl⟩
    dsimp only
    go_wp2
    go_ret
    exact ⟨by simp [pLD, h1], m1 + m2, rfl⟩
set_option maxHeartbeats 4000000 in
set_option maxRecDepth 1000000 in
theorem run_25 (s : ByteArray) (w : World) : Calls Tryd.prog 24 #[.string s, .func (.func 25) #[] #[]] w fun e w' => e = .returned (.int .i64 (runL pLD s.data.toList : Nat)) ∧ Below w.heap.size w w' := by
  have hsz : s.data.toList.length = s.size := by simp
  have HSZ := Aside0.mk hsz
  clear hsz
  go_enter Tryd.func24, Tryd.ntmps24
  go_wp2
  go_loopw [] (fun wr => ∃ (pos : Nat), wr.heap[w.heap.size]? = some (.stringIter s pos) ∧ Below w.heap.size w wr ∧ Aside0 (runL pLD s.data.toList = pos + runL pLD (s.data.toList.drop pos)) ∧ Aside0 (pos ≤ s.size)) (fun wr => s.size - wr.iterPos w.heap.size)
  case atStart =>
    refine ⟨0, ?_, (Below.refl _ w).alloc (Nat.le_refl _) _, ⟨by simp⟩, ⟨Nat.zero_le _⟩⟩
    have := World.iter_heap w s 0
    simpa using this
  case round =>
    obtain ⟨pos, hit, hbw, HR, HP⟩ := hrel
    have hbw' := Aside0.mk hbw
    have hit' := Aside0.mk hit
    clear hbw
    by_cases hp : pos < s.size
    · by_cases ha : (s[pos]'hp).toNat < 128
      · have hnx : ∀ ty, (Instr.next (.pointer (some ⟨w.heap.size, 0, none⟩)) true ty).run Tryd.prog wr = _ := fun ty => Lib.run_next_ascii_at wr w.heap.size s pos ty hit hp ha
        have hit2 := Lib.iterAt_heap wr w.heap.size s pos (pos + 1) hit
        have hbw2 := Lib.below_iterAt hbw'.out (k := w.heap.size) (Nat.le_refl _) s (pos + 1)
        have HIT := Aside0.mk hit2
        have HBW := Aside0.mk hbw2
        clear hit hit2 hbw2
        go_wp2_with (fail)
        refine (pred_25 _ _).mono ?_
        rintro e W1 ⟨rfl, m, rfl⟩
        dsimp only
        have hb := byte_at s pos hp
        generalize s[pos]'hp = c at hb ha hnx ⊢
        cases hq : pLD (c.toNat : Int) with
        | false =>
          have hn : runL pLD s.data.toList = pos := by rw [HR.out, hb]; simp [runL, hq]
          go_wp2
          go_ret
          rw [hn]
          exact ⟨rfl, pw_below_drewN HBW.out m⟩
        | true =>
          have hn : runL pLD s.data.toList = pos + 1 + runL pLD (s.data.toList.drop (pos + 1)) := by
            have h1 := HR.out
            rw [hb] at h1
            simp only [runL, hq, if_true] at h1
            omega
          have HN := Aside0.mk hn
          clear hn hb
          go_wp2
          go_roundw
          case rel => exact ⟨pos + 1, HIT.out, pw_below_drewN HBW.out m, HN, ⟨hp⟩⟩
          case measure =>
            have e1 : (World.drewN (wr.iterAt w.heap.size s (pos + 1)) m).iterPos w.heap.size = pos + 1 := by
              have : (World.drewN (wr.iterAt w.heap.size s (pos + 1)) m).heap[w.heap.size]? = some (.stringIter s (pos + 1)) := HIT.out
              simp only [World.iterPos, this]
            have e2 : wr.iterPos w.heap.size = pos := by simp only [World.iterPos, hit'.out]
            rw [e1, e2]
            omega
      · have hnx : ∀ ty, (Instr.next (.pointer (some ⟨w.heap.size, 0, none⟩)) true ty).run Tryd.prog wr = _ := fun ty => Lib.run_next_any_at wr w.heap.size s pos ty hit hp
        have hbw2 := Lib.below_iterAt hbw'.out (k := w.heap.size) (Nat.le_refl _) s (pos + (Utf8.decode s pos).2)
        have HBW := Aside0.mk hbw2
        have hd := (decode_high s pos hp (by omega)).1
        have hq : pLD (((Utf8.decode s pos).1 : Nat) : Int) = false := hi_pLD _ (by omega)
        have hz := small_high pLD hi_pLD s pos hp ha
        have hn : runL pLD s.data.toList = pos := by have := HR.out; omega
        have HN := Aside0.mk hn
        clear hit hbw2 hz hn
        go_wp2_with (fail)
        refine (pred_25 _ _).mono ?_
        rintro e W1 ⟨rfl, m, rfl⟩
        dsimp only
        rw [hq]
        go_wp2
        go_ret
        rw [HN.out]
        exact ⟨rfl, pw_below_drewN HBW.out m⟩
    · have hnx : ∀ ty, (Instr.next (.pointer (some ⟨w.heap.size, 0, none⟩)) true ty).run Tryd.prog wr = _ := fun ty => Lib.run_next_end_at wr w.heap.size s pos ty hit hp
      have hn : runL pLD s.data.toList = s.size := by
        have h1 := HR.out
        have h2 := HP.out
        have h3 := HSZ.out
        rw [List.drop_eq_nil_of_le (by omega)] at h1
        simp only [runL] at h1
        omega
      have HN := Aside0.mk hn
      clear hn hit
      go_wp2
      go_ret
      rw [HN.out]
      exact ⟨rfl, hbw'.out⟩

theorem pred_26 (r : Int) (w : World) : Calls Tryd.prog 26 #[.int .i32 r] w fun e w' => e = .returned (.bool (pD r)) ∧ Drawn0 w w' := by
  exact lex_digit.calls r (pD r) w (digit_p r)
set_option maxHeartbeats 4000000 in
set_option maxRecDepth 1000000 in
theorem run_26 (s : ByteArray) (w : World) : Calls Tryd.prog 24 #[.string s, .func (.func 26) #[] #[]] w fun e w' => e = .returned (.int .i64 (runL pD s.data.toList : Nat)) ∧ Below w.heap.size w w' := by
  have hsz : s.data.toList.length = s.size := by simp
  have HSZ := Aside0.mk hsz
  clear hsz
  go_enter Tryd.func24, Tryd.ntmps24
  go_wp2
  go_loopw [] (fun wr => ∃ (pos : Nat), wr.heap[w.heap.size]? = some (.stringIter s pos) ∧ Below w.heap.size w wr ∧ Aside0 (runL pD s.data.toList = pos + runL pD (s.data.toList.drop pos)) ∧ Aside0 (pos ≤ s.size)) (fun wr => s.size - wr.iterPos w.heap.size)
  case atStart =>
    refine ⟨0, ?_, (Below.refl _ w).alloc (Nat.le_refl _) _, ⟨by simp⟩, ⟨Nat.zero_le _⟩⟩
    have := World.iter_heap w s 0
    simpa using this
  case round =>
    obtain ⟨pos, hit, hbw, HR, HP⟩ := hrel
    have hbw' := Aside0.mk hbw
    have hit' := Aside0.mk hit
    clear hbw
    by_cases hp : pos < s.size
    · by_cases ha : (s[pos]'hp).toNat < 128
      · have hnx : ∀ ty, (Instr.next (.pointer (some ⟨w.heap.size, 0, none⟩)) true ty).run Tryd.prog wr = _ := fun ty => Lib.run_next_ascii_at wr w.heap.size s pos ty hit hp ha
        have hit2 := Lib.iterAt_heap wr w.heap.size s pos (pos + 1) hit
        have hbw2 := Lib.below_iterAt hbw'.out (k := w.heap.size) (Nat.le_refl _) s (pos + 1)
        have HIT := Aside0.mk hit2
        have HBW := Aside0.mk hbw2
        clear hit hit2 hbw2
        go_wp2_with (fail)
        refine (pred_26 _ _).mono ?_
        rintro e W1 ⟨rfl, m, rfl⟩
        dsimp only
        have hb := byte_at s pos hp
        generalize s[pos]'hp = c at hb ha hnx ⊢
        cases hq : pD (c.toNat : Int) with
        | false =>
          have hn : runL pD s.data.toList = pos := by rw [HR.out, hb]; simp [runL, hq]
          go_wp2
          go_ret
          rw [hn]
          exact ⟨rfl, pw_below_drewN HBW.out m⟩
        | true =>
          have hn : runL pD s.data.toList = pos + 1 + runL pD (s.data.toList.drop (pos + 1)) := by
            have h1 := HR.out
            rw [hb] at h1
            simp only [runL, hq, if_true] at h1
            omega
          have HN := Aside0.mk hn
          clear hn hb
          go_wp2
          go_roundw
          case rel => exact ⟨pos + 1, HIT.out, pw_below_drewN HBW.out m, HN, ⟨hp⟩⟩
          case measure =>
            have e1 : (World.drewN (wr.iterAt w.heap.size s (pos + 1)) m).iterPos w.heap.size = pos + 1 := by
              have : (World.drewN (wr.iterAt w.heap.size s (pos + 1)) m).heap[w.heap.size]? = some (.stringIter s (pos + 1)) := HIT.out
              simp only [World.iterPos, this]
            have e2 : wr.iterPos w.heap.size = pos := by simp only [World.iterPos, hit'.out]
            rw [e1, e2]
            omega
      · have hnx : ∀ ty, (Instr.next (.pointer (some ⟨w.heap.size, 0, none⟩)) true ty).run Tryd.prog wr = _ := fun ty => Lib.run_next_any_at wr w.heap.size s pos ty hit hp
        have hbw2 := Lib.below_iterAt hbw'.out (k := w.heap.size) (Nat.le_refl _) s (pos + (Utf8.decode s pos).2)
        have HBW := Aside0.mk hbw2
        have hd := (decode_high s pos hp (by omega)).1
        have hq : pD (((Utf8.decode s pos).1 : Nat) : Int) = false := hi_pD _ (by omega)
        have hz := small_high pD hi_pD s pos hp ha
        have hn : runL pD s.data.toList = pos := by have := HR.out; omega
        have HN := Aside0.mk hn
        clear hit hbw2 hz hn
        go_wp2_with (fail)
        refine (pred_26 _ _).mono ?_
        rintro e W1 ⟨rfl, m, rfl⟩
        dsimp only
        rw [hq]
        go_wp2
        go_ret
        rw [HN.out]
        exact ⟨rfl, pw_below_drewN HBW.out m⟩
    · have hnx : ∀ ty, (Instr.next (.pointer (some ⟨w.heap.size, 0, none⟩)) true ty).run Tryd.prog wr = _ := fun ty => Lib.run_next_end_at wr w.heap.size s pos ty hit hp
      have hn : runL pD s.data.toList = s.size := by
        have h1 := HR.out
        have h2 := HP.out
        have h3 := HSZ.out
        rw [List.drop_eq_nil_of_le (by omega)] at h1
        simp only [runL] at h1
        omega
      have HN := Aside0.mk hn
      clear hn hit
      go_wp2
      go_ret
      rw [HN.out]
      exact ⟨rfl, hbw'.out⟩

theorem pred_38 (r : Int) (w : World) : Calls Tryd.prog 38 #[.int .i32 r] w fun e w' => e = .returned (.bool (pLD r)) ∧ Drawn0 w w' := by
  go_enter Tryd.func38, Tryd.ntmps38
  go_wp2_with (fail)
  refine (lex_letter.calls r (pL r) _ (letter_p r)).mono ?_
  rintro e W1 ⟨rfl, m1, rfl⟩
  dsimp only
  cases h1 : pL r with
  | true =>
    go_wp2
    go_ret
    exact ⟨by simp [pLD, h1], m1, rfl⟩
  | false =>
    go_wp2_with (fail)
    refine (lex_digit.calls r (pD r) _ (digit_p r)).mono ?_
    rintro e W2 ⟨rfl, m2, rfl⟩
    dsimp only
    go_wp2
    go_ret
    exact ⟨by simp [pLD, h1], m1 + m2, rfl⟩
set_option maxHeartbeats 4000000 in
set_option maxRecDepth 1000000 in
theorem run_38 (s : ByteArray) (w : World) : Calls Tryd.prog 24 #[.string s, .func (.func 38) #[] #[]] w fun e w' => e = .returned (.int .i64 (runL pLD s.data.toList : Nat)) ∧ Below w.heap.size w w' := by
  have hsz : s.data.toList.length = s.size := by simp
  have HSZ := Aside0.mk hsz
  clear hsz
  go_enter Tryd.func24, Tryd.ntmps24
  go_wp2
  go_loopw [] (fun wr => ∃ (pos : Nat), wr.heap[w.heap.size]? = some (.stringIter s pos) ∧ Below w.heap.size w wr ∧ Aside0 (runL pLD s.data.toList = pos + runL pLD (s.data.toList.drop pos)) ∧ Aside0 (pos ≤ s.size)) (fun wr => s.size - wr.iterPos w.heap.size)
  case atStart =>
    refine ⟨0, ?_, (Below.refl _ w).alloc (Nat.le_refl _) _, ⟨by simp⟩, ⟨Nat.zero_le _⟩⟩
    have := World.iter_heap w s 0
    simpa using this
  case round =>
    obtain ⟨pos, hit, hbw, HR, HP⟩ := hrel
    have hbw' := Aside0.mk hbw
    have hit' := Aside0.mk hit
    clear hbw
    by_cases hp : pos < s.size
    · by_cases ha : (s[pos]'hp).toNat < 128
      · have hnx : ∀ ty, (Instr.next (.pointer (some ⟨w.heap.size, 0, none⟩)) true ty).run Tryd.prog wr = _ := fun ty => Lib.run_next_ascii_at wr w.heap.size s pos ty hit hp ha
        have hit2 := Lib.iterAt_heap wr w.heap.size s pos (pos + 1) hit
        have hbw2 := Lib.below_iterAt hbw'.out (k := w.heap.size) (Nat.le_refl _) s (pos + 1)
        have HIT := Aside0.mk hit2
        have HBW := Aside0.mk hbw2
        clear hit hit2 hbw2
        go_wp2_with (fail)
        refine (pred_38 _ _).mono ?_
        rintro e W1 ⟨rfl, m, rfl⟩
        dsimp only
        have hb := byte_at s pos hp
        generalize s[pos]'hp = c at hb ha hnx ⊢
        cases hq : pLD (c.toNat : Int) with
        | false =>
          have hn : runL pLD s.data.toList = pos := by rw [HR.out, hb]; simp [runL, hq]
          go_wp2
          go_ret
          rw [hn]
          exact ⟨rfl, pw_below_drewN HBW.out m⟩
        | true =>
          have hn : runL pLD s.data.toList = pos + 1 + runL pLD (s.data.toList.drop (pos + 1)) := by
            have h1 := HR.out
            rw [hb] at h1
            simp only [runL, hq, if_true] at h1
            omega
          have HN := Aside0.mk hn
          clear hn hb
          go_wp2
          go_roundw
          case rel => exact ⟨pos + 1, HIT.out, pw_below_drewN HBW.out m, HN, ⟨hp⟩⟩
          case measure =>
            have e1 : (World.drewN (wr.iterAt w.heap.size s (pos + 1)) m).iterPos w.heap.size = pos + 1 := by
              have : (World.drewN (wr.iterAt w.heap.size s (pos + 1)) m).heap[w.heap.size]? = some (.stringIter s (pos + 1)) := HIT.out
              simp only [World.iterPos, this]
            have e2 : wr.iterPos w.heap.size = pos := by simp only [World.iterPos, hit'.out]
            rw [e1, e2]
            omega
      · have hnx : ∀ ty, (Instr.next (.pointer (some ⟨w.heap.size, 0, none⟩)) true ty).run Tryd.prog wr = _ := fun ty => Lib.run_next_any_at wr w.heap.size s pos ty hit hp
        have hbw2 := Lib.below_iterAt hbw'.out (k := w.heap.size) (Nat.le_refl _) s (pos + (Utf8.decode s pos).2)
        have HBW := Aside0.mk hbw2
        have hd := (decode_high s pos hp (by omega)).1
        have hq : pLD (((Utf8.decode s pos).1 : Nat) : Int) = false := hi_pLD _ (by omega)
        have hz := small_high pLD hi_pLD s pos hp ha
        have hn : runL pLD s.data.toList = pos := by have := HR.out; omega
        have HN := Aside0.mk hn
        clear hit hbw2 hz hn
        go_wp2_with (fail)
        refine (pred_38 _ _).mono ?_
        rintro e W1 ⟨rfl, m, rfl⟩
        dsimp only
        rw [hq]
        go_wp2
        go_ret
        rw [HN.out]
        exact ⟨rfl, pw_below_drewN HBW.out m⟩
    · have hnx : ∀ ty, (Instr.next (.pointer (some ⟨w.heap.size, 0, none⟩)) true ty).run Tryd.prog wr = _ := fun ty => Lib.run_next_end_at wr w.heap.size s pos ty hit hp
      have hn : runL pLD s.data.toList = s.size := by
        have h1 := HR.out
        have h2 := HP.out
        have h3 := HSZ.out
        rw [List.drop_eq_nil_of_le (by omega)] at h1
        simp only [runL] at h1
        omega
      have HN := Aside0.mk hn
      clear hn hit
      go_wp2
      go_ret
      rw [HN.out]
      exact ⟨rfl, hbw'.out⟩
end Go.Proofs.YthnehdimjadliaaDoor.PAll
