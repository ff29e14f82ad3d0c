import Derived.Test.YthnehdimjadliaaDoorHExt
import Derived.Test.YthnehdimjadliaaDoorHLexB
import Derived.Deep.QuietTactic
import Derived.BigQuiet
/- LexBlanks walked. -/
namespace Go.Proofs.YthnehdimjadliaaDoor.PAll
open Go Go.Proofs Go.RowKit Go.Shelf Go.Proofs.YthnehdimjadliaaDoorW.PrintWords Go.Proofs.YthnehdimjadliaaDoorW.PrintLast Go.Proofs.YthnehdimjadliaaDoorW.PrintMore Go.Proofs.YthnehdimjadliaaDoor.Bx
attribute [local go_sem] Oper.semAt_some
set_option linter.unusedVariables false
set_option linter.unusedSimpArgs false
def bwords : List ByteArray := [⟨#[119, 104, 105, 108, 101]⟩, ⟨#[97, 98, 99]⟩, ⟨#[65, 98, 99]⟩, ⟨#[120, 95, 49]⟩, ⟨#[52, 50]⟩, ⟨#[60, 61]⟩, ⟨#[40]⟩, ⟨#[34, 65, 32, 98, 34]⟩, ⟨#[42, 37]⟩, ⟨#[45]⟩, ⟨#[45, 62]⟩, ⟨#[119, 104, 105, 108, 101, 49]⟩]
def btexts : List ByteArray := [⟨#[119, 104, 105, 108, 101]⟩, ⟨#[97, 98, 99]⟩, ⟨#[65, 98, 99]⟩, ⟨#[120, 95, 49]⟩, ⟨#[52, 50]⟩, ⟨#[60, 61]⟩, ⟨#[40]⟩, ⟨#[65, 32, 98]⟩, ⟨#[42, 37]⟩, ⟨#[45]⟩, ⟨#[45, 62]⟩, ⟨#[119, 104, 105, 108, 101, 49]⟩]
def bgaps : List ByteArray := [⟨#[32]⟩, ⟨#[9, 32]⟩, ⟨#[10]⟩, ⟨#[32, 35, 110, 111, 116, 101, 10]⟩, ⟨#[13, 10, 35, 10, 32]⟩, ⟨#[32, 32, 32]⟩]
def bkinds : List Int := [2, 1, 1, 1, 3, 5, 5, 4, 5, 5, 5, 1]
def strs (l : List ByteArray) : Array Value := (l.map Value.string).toArray
theorem strs_cell {w : World} {l : List ByteArray} {g : Nat} {t : TypeId} {fr : Nat × Nat} (h : w.heap[g]? = some (.cells (strs l) t fr)) (j : Nat) (x : ByteArray) (hx : l[j]? = some x) : w.cell? ⟨g, j, none⟩ = some (.string x) := by
  unfold World.cell?
  rw [h]
  show (strs l)[j]? = _
  unfold strs
  rw [List.getElem?_toArray, List.getElem?_map, hx]
  rfl
theorem idx_get (l : List ByteArray) (i : Nat) (h : i < l.length) : l[i]? = some (l.getD i ⟨#[]⟩) := by
  rw [List.getD_eq_getElem?_getD, List.getElem?_eq_getElem h]; rfl
theorem getD_size (n : Nat) (l : List ByteArray) (h : ∀ x ∈ l, x.size ≤ n) (i : Nat) : (l.getD i ⟨#[]⟩).size ≤ n := by
  rw [List.getD_eq_getElem?_getD]
  rcases e : l[i]? with _ | x
  · exact Nat.zero_le _
  · exact h x (List.mem_of_getElem? e)
theorem three_push {α : Type} (h : Array α) (a b c : α) : (((h.push a).push b).push c)[h.size]? = some a ∧ (((h.push a).push b).push c)[h.size + 1]? = some b ∧ (((h.push a).push b).push c)[h.size + 1 + 1]? = some c ∧ (((h.push a).push b).push c).size = h.size + 3 := by
  have p : ∀ (x : Array α) (v : α) (i : Nat), (x.push v)[i]? = if i = x.size then some v else x[i]? := fun x v i => Array.getElem?_push
  refine ⟨?_, ?_, ?_, ?_⟩
  · rw [p, if_neg (by simp only [Array.size_push]; omega), p, if_neg (by simp only [Array.size_push]; omega), p, if_pos rfl]
  · rw [p, if_neg (by simp only [Array.size_push]; omega), p, if_pos (by simp only [Array.size_push])]
  · rw [p, if_pos (by simp only [Array.size_push])]
  · simp only [Array.size_push]
theorem three_blocks (w1 : World) (a b c : Obj) : (((w1.alloc a).alloc b).alloc c).heap[w1.heap.size]? = some a ∧ (((w1.alloc a).alloc b).alloc c).heap[w1.heap.size + 1]? = some b ∧ (((w1.alloc a).alloc b).alloc c).heap[w1.heap.size + 1 + 1]? = some c ∧ (((w1.alloc a).alloc b).alloc c).heap.size = w1.heap.size + 3 :=
  three_push w1.heap a b c
theorem wf_u8 (y : Int) (h : (Lit.int .u8 y).wf = true) : ∃ c : Nat, y = (c : Int) ∧ c < 256 := by
  have : 0 ≤ y ∧ y < 256 := by
    simp only [Lit.wf, Bool.and_eq_true, decide_eq_true_eq] at h
    have h1 : IntKind.u8.min = 0 := rfl
    have h2 : IntKind.u8.max = 255 := rfl
    omega
  exact ⟨y.toNat, by omega, by omega⟩
theorem rd_mem (l : List Int) (i : Nat) (h : i < l.length) : rd l (i : Int) ∈ l := by
  unfold rd
  rw [Int.toNat_natCast, List.getD_eq_getElem?_getD, List.getElem?_eq_getElem h]
  exact List.getElem_mem h
def wi (l0 : List Int) (i : Nat) : Nat := (rd l0 (i : Int)).toNat % 12
def gi (l1 : List Int) (i : Nat) : Nat := if i < l1.length then (rd l1 (i : Int)).toNat % 6 else 0
/-- the source behind so many words -/
def bsrc (l0 l1 : List Int) : Nat → List UInt8
  | 0 => []
  | i + 1 => bsrc l0 l1 i ++ by' (bwords.getD (wi l0 i) ⟨#[]⟩) ++ by' (bgaps.getD (gi l1 i) ⟨#[]⟩)
theorem in_signs (x : ByteArray) (h : signs.any (fun y => decide (y = x)) = true) : x ∈ signs := by
  obtain ⟨y, hy, e⟩ := List.any_eq_true.1 h
  exact (of_decide_eq_true e) ▸ hy
/-- the word of this number, as a token -/
def btok (j : Nat) : S28 := ⟨bkinds.getD j 0, btexts.getD j ⟨#[]⟩, 0⟩
theorem btok_good (j : Nat) (h : j < 12) : Good (btok j) := by
  have : j = 0 ∨ j = 1 ∨ j = 2 ∨ j = 3 ∨ j = 4 ∨ j = 5 ∨ j = 6 ∨ j = 7 ∨ j = 8 ∨ j = 9 ∨ j = 10 ∨ j = 11 := by omega
  rcases this with rfl | rfl | rfl | rfl | rfl | rfl | rfl | rfl | rfl | rfl | rfl | rfl
  · exact .inl ⟨_, _, rfl, by decide +kernel, by decide +kernel, by decide +kernel⟩
  · exact .inl ⟨_, _, rfl, by decide +kernel, by decide +kernel, by decide +kernel⟩
  · exact .inl ⟨_, _, rfl, by decide +kernel, by decide +kernel, by decide +kernel⟩
  · exact .inl ⟨_, _, rfl, by decide +kernel, by decide +kernel, by decide +kernel⟩
  · exact .inr (.inl ⟨rfl, _, _, rfl, by decide +kernel, by decide +kernel, by decide +kernel⟩)
  · exact .inr (.inr (.inr ⟨rfl, in_signs _ (by decide +kernel)⟩))
  · exact .inr (.inr (.inr ⟨rfl, in_signs _ (by decide +kernel)⟩))
  · exact .inr (.inr (.inl rfl))
  · exact .inr (.inr (.inr ⟨rfl, in_signs _ (by decide +kernel)⟩))
  · exact .inr (.inr (.inr ⟨rfl, in_signs _ (by decide +kernel)⟩))
  · exact .inr (.inr (.inr ⟨rfl, in_signs _ (by decide +kernel)⟩))
  · exact .inl ⟨_, _, rfl, by decide +kernel, by decide +kernel, by decide +kernel⟩
theorem bword_wr : ∀ j : Fin 12, by' (bwords.getD j ⟨#[]⟩) = wr (btok j) := by decide +kernel
theorem lx_note (l : List UInt8) (n a : Nat) (acc : List S28) (h : Lib.indexByte (35 :: l) 10 = (n : Int)) : lx (35 :: l) a acc = lx ((35 :: l).drop n) (a + n) acc := by
  have hp := ix_pos l 35 (by decide) (by rw [h]; omega)
  rw [h, Int.toNat_natCast] at hp
  have hf : lexGo (l.length + 1) ((35 :: l).drop n) (a + n) acc = lx ((35 :: l).drop n) (a + n) acc := lex_lx _ _ _ _ (by simp only [List.length_drop, List.length_cons]; omega)
  rw [← hf]
  unfold lx
  rw [List.length_cons, lexGo, if_neg (by decide), if_pos rfl, if_neg (by rw [h]; omega), h, Int.toNat_natCast]
theorem bgap_gap (j : Nat) (h : j < 6) : Gap (by' (bgaps.getD j ⟨#[]⟩)) := by
  have : j = 0 ∨ j = 1 ∨ j = 2 ∨ j = 3 ∨ j = 4 ∨ j = 5 := by omega
  have bl : ∀ g : List UInt8, g ≠ [] → g.all isB = true → Gap g := fun g h1 h2 => gap_blanks g h1 (fun c hc => List.all_eq_true.1 h2 c hc)
  rcases this with rfl | rfl | rfl | rfl | rfl | rfl
  · exact bl [32] (by decide) (by decide)
  · exact bl [9, 32] (by decide) (by decide)
  · exact bl [10] (by decide) (by decide)
  · refine ⟨⟨32, _, rfl, by decide⟩, fun r a acc => ?_⟩
    show lx (32 :: 35 :: 110 :: 111 :: 116 :: 101 :: 10 :: r) a acc = lx r (a + 7) acc
    rw [lx_blank _ _ _ _ (by decide), lx_note _ 5 _ _ (by simp [Lib.indexByte])]
    show lx (10 :: r) _ acc = _
    rw [lx_blank _ _ _ _ (by decide)]
  · refine ⟨⟨13, _, rfl, by decide⟩, fun r a acc => ?_⟩
    show lx (13 :: 10 :: 35 :: 10 :: 32 :: r) a acc = lx r (a + 5) acc
    rw [lx_blank _ _ _ _ (by decide), lx_blank _ _ _ _ (by decide), lx_note _ 1 _ _ (by simp [Lib.indexByte])]
    show lx (10 :: 32 :: r) _ acc = _
    rw [lx_blank _ _ _ _ (by decide), lx_blank _ _ _ _ (by decide)]
  · exact bl [32, 32, 32] (by decide) (by decide)
theorem wi_lt (l0 : List Int) (i : Nat) : wi l0 i < 12 := Nat.mod_lt _ (by decide)
theorem gi_lt (l1 : List Int) (i : Nat) : gi l1 i < 6 := by
  unfold gi
  split
  · exact Nat.mod_lt _ (by decide)
  · decide
def bps (l0 l1 : List Int) (n : Nat) : List (S28 × List UInt8) := (List.range n).map (fun i => (btok (wi l0 i), by' (bgaps.getD (gi l1 i) ⟨#[]⟩)))
theorem bsrc_ps (l0 l1 : List Int) : ∀ n, bsrc l0 l1 n = (bps l0 l1 n).flatMap (fun p => wr p.1 ++ p.2)
  | 0 => rfl
  | n + 1 => by
    have e := bword_wr ⟨wi l0 n, wi_lt l0 n⟩
    unfold bps
    rw [List.range_succ, List.map_append, List.flatMap_append]
    show bsrc l0 l1 n ++ by' (bwords.getD (wi l0 n) ⟨#[]⟩) ++ by' (bgaps.getD (gi l1 n) ⟨#[]⟩) = _
    rw [bsrc_ps l0 l1 n, List.append_assoc, show by' (bwords.getD (wi l0 n) ⟨#[]⟩) = wr (btok (wi l0 n)) from e]
    simp [bps]
theorem blanks_tok (l0 l1 : List Int) (t : ByteArray) (n : Nat) (h : by' t = bsrc l0 l1 n) (hz : t.size ≤ 4096) :
    ∃ T : List S28, lex_Tokens.f t = some (T, 0, 0) ∧ T.length = n + 1 ∧ (∀ i, i < n → (rd_T28 T (i : Int)).f1 = btexts.getD (wi l0 i) ⟨#[]⟩ ∧ (rd_T28 T (i : Int)).f0 = bkinds.getD (wi l0 i) 0) ∧ rd_T28 T (n : Int) = ⟨0, ⟨#[]⟩, (t.size : Int)⟩ := by
  obtain ⟨us, hu, hr⟩ := lx_row (bps l0 l1 n) [] 0 [] (fun p hp => by
    obtain ⟨i, _, rfl⟩ := List.mem_map.1 hp
    exact ⟨btok_good _ (wi_lt l0 i), bgap_gap _ (gi_lt l1 i)⟩)
  have hlen : (bsrc l0 l1 n).length = t.size := by rw [← h, by_size]
  rw [← bsrc_ps, List.append_nil, ← h, lx_end, by_size, List.nil_append, Nat.zero_add] at hr
  have hul : us.length = n := by
    have := congrArg List.length hu
    unfold bps at this
    simpa using this
  refine ⟨us ++ [tk 0 [] t.size], by rw [tok_lx t hz, hr]; rfl, by simp [hul], fun i hi => ?_, ?_⟩
  · have hg : rd_T28 (us ++ [tk 0 [] t.size]) (i : Int) = us[i]'(by omega) := by
      unfold rd_T28
      rw [Int.toNat_natCast, List.getD_eq_getElem?_getD, List.getElem?_append_left (by omega), List.getElem?_eq_getElem (by omega)]; rfl
    have hk : kt (us[i]'(by omega)) = kt (btok (wi l0 i)) := by
      have e := congrArg (fun l => l[i]?) hu
      simp only [List.getElem?_map] at e
      rw [List.getElem?_eq_getElem (by omega)] at e
      unfold bps at e
      rw [List.getElem?_map, List.getElem?_range hi] at e
      exact Option.some.inj e
    rw [hg]
    exact ⟨congrArg Prod.snd hk, congrArg Prod.fst hk⟩
  · unfold rd_T28
    rw [Int.toNat_natCast, List.getD_eq_getElem?_getD, ← hul, List.getElem?_append_right (Nat.le_refl _), Nat.sub_self]; rfl
theorem bkind_2 : ∀ j : Fin 12, (bkinds.getD j 0 == 2) = ((j : Nat) == 0) := by decide +kernel
set_option maxHeartbeats 8000000 in
set_option maxRecDepth 100000 in
theorem blanks_walk (l0 l1 : List Int) (A0 A1 : Option Addr) (c0 c1 : Nat) (w : World) (hr0 : Kd.C (Kd.int .u8) w A0 l0.length l0) (hr1 : Kd.C (Kd.int .u8) w A1 l1.length l1) (hl1 : l1.length ≤ maxLen) (hb0 : ∀ y ∈ l0, (Lit.int .u8 y).wf = true) (hb1 : ∀ y ∈ l1, (Lit.int .u8 y).wf = true) (mx : MX w) :
    Calls Tryd.prog 4 #[.slice A0 l0.length c0, .slice A1 l1.length c1] w fun e w' => e = .returned (.bool true) ∧ Below w.heap.size w w' := by
  have HR0 := Aside0.mk hr0
  have HR1 := Aside0.mk hr1
  have HB0 := Aside0.mk hb0
  have HB1 := Aside0.mk hb1
  have HL1 := Aside0.mk hl1
  clear hr0 hr1 hb0 hb1 hl1
  by_cases h60 : l0.length ≤ 60
  rotate_left
  · have d1 : decide ((l0.length : Int) > 60) = true := decide_eq_true (by omega)
    have d2 : decide ((60 : Int) < (l0.length : Int)) = true := decide_eq_true (by omega)
    have d3 : decide (60 < l0.length) = true := decide_eq_true (by omega)
    have d4 : 60 < l0.length := by omega
    go_enter Tryd.func4, Tryd.ntmps4
    go_wp2_with (fail)
    refine (known_h _ mx).mono ?_
    rintro e_ w1 ⟨rfl, hb⟩
    dsimp only
    have HB := Aside0.mk hb
    clear hb
    go_wp2
    go_ret
    exact ⟨rfl, HB.out⟩
  · have d1 : decide ((l0.length : Int) > 60) = false := decide_eq_false (by omega)
    have d2 : decide ((60 : Int) < (l0.length : Int)) = false := decide_eq_false (by omega)
    have d3 : decide (60 < l0.length) = false := decide_eq_false (by omega)
    have d4 : ¬ 60 < l0.length := by omega
    have H60 := Aside0.mk h60
    go_enter Tryd.func4, Tryd.ntmps4
    go_wp2_with (fail)
    refine (known_h _ mx).mono ?_
    rintro e_ w1 ⟨rfl, hb⟩
    dsimp only
    have HB := Aside0.mk hb
    clear hb
    go_wp2
    obtain ⟨w3, hw3⟩ : ∃ w3, w3 = (((w1.alloc (Obj.cells #[.string ⟨#[119, 104, 105, 108, 101]⟩, .string ⟨#[97, 98, 99]⟩, .string ⟨#[65, 98, 99]⟩, .string ⟨#[120, 95, 49]⟩, .string ⟨#[52, 50]⟩, .string ⟨#[60, 61]⟩, .string ⟨#[40]⟩, .string ⟨#[34, 65, 32, 98, 34]⟩, .string ⟨#[42, 37]⟩, .string ⟨#[45]⟩, .string ⟨#[45, 62]⟩, .string ⟨#[119, 104, 105, 108, 101, 49]⟩] 32)).alloc (Obj.cells #[.string ⟨#[119, 104, 105, 108, 101]⟩, .string ⟨#[97, 98, 99]⟩, .string ⟨#[65, 98, 99]⟩, .string ⟨#[120, 95, 49]⟩, .string ⟨#[52, 50]⟩, .string ⟨#[60, 61]⟩, .string ⟨#[40]⟩, .string ⟨#[65, 32, 98]⟩, .string ⟨#[42, 37]⟩, .string ⟨#[45]⟩, .string ⟨#[45, 62]⟩, .string ⟨#[119, 104, 105, 108, 101, 49]⟩] 32)).alloc (Obj.cells #[.string ⟨#[32]⟩, .string ⟨#[9, 32]⟩, .string ⟨#[10]⟩, .string ⟨#[32, 35, 110, 111, 116, 101, 10]⟩, .string ⟨#[13, 10, 35, 10, 32]⟩, .string ⟨#[32, 32, 32]⟩] 33)) := ⟨_, rfl⟩
    obtain ⟨b5, b6, b7, bz⟩ := three_blocks w1 (Obj.cells (strs bwords) 32) (Obj.cells (strs btexts) 32) (Obj.cells (strs bgaps) 33)
    have hw4 : w3 = (((w1.alloc (Obj.cells (strs bwords) 32)).alloc (Obj.cells (strs btexts) 32)).alloc (Obj.cells (strs bgaps) 33)) := hw3
    rw [← hw4] at b5 b6 b7 bz
    rw [← hw3]
    have HB3 : Aside0 (Below w.heap.size w w3) := ⟨by rw [hw4]; exact ((HB.out.alloc HB.out.size _).alloc ((HB.out.alloc HB.out.size _).size) _).alloc (((HB.out.alloc HB.out.size _).alloc ((HB.out.alloc HB.out.size _).size) _).size) _⟩
    have hz3 : w.heap.size ≤ w3.heap.size := HB3.out.size
    have H5 : Aside0 (∀ j x, bwords[j]? = some x → w3.cell? ⟨w1.heap.size, j, none⟩ = some (.string x)) := ⟨strs_cell b5⟩
    have H6 : Aside0 (∀ j x, btexts[j]? = some x → w3.cell? ⟨w1.heap.size + 1, j, none⟩ = some (.string x)) := ⟨strs_cell b6⟩
    have H7 : Aside0 (∀ j x, bgaps[j]? = some x → w3.cell? ⟨w1.heap.size + 1 + 1, j, none⟩ = some (.string x)) := ⟨strs_cell b7⟩
    have L5 : Aside0 (w1.heap.size < w3.heap.size) := ⟨by omega⟩
    have L6 : Aside0 (w1.heap.size + 1 < w3.heap.size) := ⟨by omega⟩
    have L7 : Aside0 (w1.heap.size + 1 + 1 < w3.heap.size) := ⟨by omega⟩
    have HZ3 := Aside0.mk hz3
    clear b5 b6 b7 bz hw3 hw4 hz3
    obtain ⟨g5, hg5⟩ : ∃ g, g = w1.heap.size := ⟨_, rfl⟩
    obtain ⟨g6, hg6⟩ : ∃ g, g = w1.heap.size + 1 := ⟨_, rfl⟩
    obtain ⟨g7, hg7⟩ : ∃ g, g = w1.heap.size + 1 + 1 := ⟨_, rfl⟩
    rw [← hg7] at H7 L7
    rw [← hg6] at H6 L6
    rw [← hg5] at H5 L5
    rw [← hg7, ← hg6, ← hg5]
    clear hg5 hg6 hg7 HB
    go_loopg [8, 9] (l0.length + 1) (fun kq v8 v9 w' => ∃ (t : ByteArray) (i : Nat), v8 = .string t ∧ v9 = .int .i64 (i : Int) ∧ Aside0 (i ≤ l0.length) ∧ Aside0 (kq + i = l0.length + 1) ∧ Aside0 (by' t = bsrc l0 l1 i) ∧ Aside0 (t.size ≤ 20 * i) ∧ Aside0 (Below w3.heap.size w3 w'))
    case atStart => exact ⟨⟨#[]⟩, 0, rfl, rfl, ⟨Nat.zero_le _⟩, ⟨rfl⟩, ⟨rfl⟩, ⟨Nat.le_refl _⟩, ⟨Below.refl _ _⟩⟩
    case round =>
      obtain ⟨t, i, rfl, rfl, HI, HK, HT, HTZ, HB⟩ := hrel
      cases gk with
      | zero => exact absurd HK.out (by have := HI.out; omega)
      | succ k2 =>
        by_cases hi : i < l0.length
        case pos =>
          have i1 : decide ((i : Int) < (l0.length : Int)) = true := decide_eq_true (by omega)
          have i2 : (i : Int) < (l0.length : Int) := by omega
          have i3 : (0 : Int) ≤ (i : Int) := by omega
          have i4 : i < l0.length := hi
          obtain ⟨c, hc, hc256⟩ := wf_u8 _ (HB0.out _ (rd_mem l0 i hi))
          obtain ⟨ad0, e0, hx0⟩ := Kd.at_int HR0.out (i : Int) i3 i2
          cases e0
          rw [hc, Int.toNat_natCast] at hx0
          have hx0' := (HB3.out.cell (World.block_lt_of_cell? w _ hx0)).trans hx0
          have hx := (HB.out.cell (World.block_lt_of_cell? w3 _ hx0')).trans hx0'
          clear hx0 hx0'
          have hwi : wi l0 i = c % 12 := by unfold wi; rw [hc, Int.toNat_natCast]
          obtain ⟨Wd, hWd⟩ : ∃ x, x = bwords.getD (wi l0 i) ⟨#[]⟩ := ⟨_, rfl⟩
          have hcw : wr.cell? ⟨g5, c % 12, none⟩ = some (.string Wd) := (HB.out.cell L5.out).trans (H5.out _ _ (by rw [hWd, hwi]; exact idx_get _ _ (Nat.mod_lt _ (by decide))))
          have hWz : Wd.size ≤ 6 := by rw [hWd]; exact getD_size 6 bwords (by decide) _
          have HWD := Aside0.mk hWd
          have q1 : (0 : Int) ≤ (c : Int) % 12 := by omega
          have q2 : (c : Int) % 12 < 12 := by omega
          have q3 : ((c : Int) % 12).toNat = c % 12 := by omega
          have z1 : (9223372036854775807 < t.size + Wd.size) = False := eq_false (by have := HTZ.out; have := H60.out; omega)
          clear hWd hwi
          by_cases hk : i < l1.length
          case pos =>
            have k1 : decide ((i : Int) < (l1.length : Int)) = true := decide_eq_true (by omega)
            have kk2 : (i : Int) < (l1.length : Int) := by omega
            have k4 : i < l1.length := hk
            obtain ⟨d, hd, hd256⟩ := wf_u8 _ (HB1.out _ (rd_mem l1 i hk))
            obtain ⟨ad1, e1, hy0⟩ := Kd.at_int HR1.out (i : Int) i3 kk2
            cases e1
            rw [hd, Int.toNat_natCast] at hy0
            have hy0' := (HB3.out.cell (World.block_lt_of_cell? w _ hy0)).trans hy0
            have hy := (HB.out.cell (World.block_lt_of_cell? w3 _ hy0')).trans hy0'
            clear hy0 hy0'
            obtain ⟨Gp, hGp⟩ : ∃ x, x = bgaps.getD (gi l1 i) ⟨#[]⟩ := ⟨_, rfl⟩
            have hgi : gi l1 i = d % 6 := by unfold gi; rw [if_pos hk, hd, Int.toNat_natCast]
            have hcg : wr.cell? ⟨g7, d % 6, none⟩ = some (.string Gp) := (HB.out.cell L7.out).trans (H7.out _ _ (by rw [hGp, hgi]; exact idx_get _ _ (Nat.mod_lt _ (by decide))))
            have hGz : Gp.size ≤ 7 := by rw [hGp]; exact getD_size 7 bgaps (by decide) _
            have HGP := Aside0.mk hGp
            have z2 : (9223372036854775807 < t.size + Wd.size + Gp.size) = False := eq_false (by have := HTZ.out; have := H60.out; omega)
            have z3 : (9223372036854775807 < (t ++ Wd).size + Gp.size) = False := eq_false (by rw [ByteArray.size_append]; have := HTZ.out; have := H60.out; omega)
            clear hGp hgi
            have r1 : (0 : Int) ≤ (d : Int) % 6 := by omega
            have r2 : (d : Int) % 6 < 6 := by omega
            have r3 : ((d : Int) % 6).toNat = d % 6 := by omega
            go_wp2
            repeat (go_quiet (fail); try go_wp2)
            go_roundg k2
            case measure => omega
            case rel => exact ⟨t ++ Wd ++ Gp, i + 1, rfl, rfl, ⟨hi⟩, ⟨by have := HK.out; omega⟩, ⟨by rw [by_app, by_app, HT.out, HWD.out, HGP.out]; rfl⟩, ⟨by rw [ByteArray.size_append, ByteArray.size_append]; have := HTZ.out; omega⟩, ⟨pw_below_drewN HB.out _⟩⟩
          case neg =>
            have k1 : decide ((i : Int) < (l1.length : Int)) = false := decide_eq_false (by omega)
            have kk2 : ¬ (i : Int) < (l1.length : Int) := by omega
            obtain ⟨Gp, hGp⟩ : ∃ x, x = bgaps.getD (gi l1 i) ⟨#[]⟩ := ⟨_, rfl⟩
            have hgi : gi l1 i = 0 := by unfold gi; rw [if_neg hk]
            have hcg : wr.cell? ⟨g7, 0, none⟩ = some (.string Gp) := (HB.out.cell L7.out).trans (H7.out _ _ (by rw [hGp, hgi]; exact idx_get _ _ (by decide)))
            have hGz : Gp.size ≤ 7 := by rw [hGp]; exact getD_size 7 bgaps (by decide) _
            have HGP := Aside0.mk hGp
            have z2 : (9223372036854775807 < t.size + Wd.size + Gp.size) = False := eq_false (by have := HTZ.out; have := H60.out; omega)
            have z3 : (9223372036854775807 < (t ++ Wd).size + Gp.size) = False := eq_false (by rw [ByteArray.size_append]; have := HTZ.out; have := H60.out; omega)
            clear hGp hgi
            go_wp2
            repeat (go_quiet (fail); try go_wp2)
            go_roundg k2
            case measure => omega
            case rel => exact ⟨t ++ Wd ++ Gp, i + 1, rfl, rfl, ⟨hi⟩, ⟨by have := HK.out; omega⟩, ⟨by rw [by_app, by_app, HT.out, HWD.out, HGP.out]; rfl⟩, ⟨by rw [ByteArray.size_append, ByteArray.size_append]; have := HTZ.out; omega⟩, ⟨pw_below_drewN HB.out _⟩⟩
        case neg =>
          have hin : i = l0.length := by have := HI.out; omega
          subst hin
          obtain ⟨T, hTf, hTl, hTi, hTn⟩ := blanks_tok l0 l1 t l0.length HT.out (by have := HTZ.out; have := H60.out; omega)
          have HTF := Aside0.mk hTf
          have HTL := Aside0.mk hTl
          have HTI := Aside0.mk hTi
          have HTN := Aside0.mk hTn
          clear hTf hTl hTi hTn
          have i1 : decide ((l0.length : Int) < (l0.length : Int)) = false := decide_eq_false (by omega)
          have i2 : ((T.length : Int) != (l0.length : Int) + 1) = false := by rw [HTL.out]; simp
          have i3 : ((T.length : Int) == (l0.length : Int) + 1) = true := by rw [HTL.out]; simp
          have i4 : T.length = l0.length + 1 := HTL.out
          go_wp2_with (fail)
          refine (lex_Tokens.calls t T 0 0 _ HTF.out).mono ?_
          rintro e_ w5 ⟨v, rfl, hR, hb⟩
          dsimp only
          obtain ⟨Ao, co, eo⟩ := Kd.R_slice hR
          subst eo
          have HRT : Aside0 (Kd.R k28 28 w5 w.heap.size (fun _ => True) (.slice Ao T.length co) T) := ⟨Kd.R_lower (Kd.R_mono (ok' := fun k_ => True) hR (fun _ hk_ => trivial)) (by have := HZ3.out; have := HB.out.size; omega)⟩
          have HB5 : Aside0 (Below w3.heap.size w3 w5) := ⟨HB.out.trans (hb.mono HB.out.size)⟩
          clear hR hb HB
          go_wp2
          go_loopg [14] (l0.length + 1) (fun kq v14 w' => ∃ (i : Nat), v14 = .int .i64 (i : Int) ∧ Aside0 (i ≤ l0.length) ∧ Aside0 (kq + i = l0.length + 1) ∧ Aside0 (Kd.R k28 28 w' w.heap.size (fun _ => True) (.slice Ao T.length co) T) ∧ Aside0 (Below w3.heap.size w3 w'))
          case atStart => exact ⟨0, rfl, ⟨Nat.zero_le _⟩, ⟨rfl⟩, HRT, HB5⟩
          case round =>
            clear HRT HB5
            obtain ⟨i, rfl, HI, HK, HRT, HB⟩ := hrel
            cases gk with
            | zero => exact absurd HK.out (by have := HI.out; omega)
            | succ k2 =>
              by_cases hi : i < l0.length
              case pos =>
                have j1 : decide ((i : Int) < (l0.length : Int)) = true := decide_eq_true (by omega)
                have j2 : (i : Int) < (l0.length : Int) := by omega
                have j3 : (0 : Int) ≤ (i : Int) := by omega
                have j4 : i < l0.length := hi
                have j5 : (i : Int) < (T.length : Int) := by omega
                have j6 : i < T.length := by omega
                obtain ⟨c, hc, hc256⟩ := wf_u8 _ (HB0.out _ (rd_mem l0 i hi))
                obtain ⟨ad0, e0, hx0⟩ := Kd.at_int HR0.out (i : Int) j3 j2
                cases e0
                rw [hc, Int.toNat_natCast] at hx0
                have hx0' := (HB3.out.cell (World.block_lt_of_cell? w _ hx0)).trans hx0
                have hx := (HB.out.cell (World.block_lt_of_cell? w3 _ hx0')).trans hx0'
                clear hx0 hx0'
                have hwi : wi l0 i = c % 12 := by unfold wi; rw [hc, Int.toNat_natCast]
                obtain ⟨f1, f0⟩ := HTI.out i hi
                obtain ⟨adT, eT, t0, t1, t2⟩ := at_T28 (Kd.R_reads' HRT.out).2.2 (i : Int) j3 j5
                subst eT
                obtain ⟨Td, hTd⟩ : ∃ x, x = btexts.getD (wi l0 i) ⟨#[]⟩ := ⟨_, rfl⟩
                obtain ⟨K, hK⟩ : ∃ x, x = bkinds.getD (wi l0 i) 0 := ⟨_, rfl⟩
                have hct : wr.cell? ⟨g6, c % 12, none⟩ = some (.string Td) := (HB.out.cell L6.out).trans (H6.out _ _ (by rw [hTd, hwi]; exact idx_get _ _ (Nat.mod_lt _ (by decide))))
                rw [f1, ← hTd, Int.toNat_natCast] at t1
                rw [f0, ← hK, Int.toNat_natCast] at t0
                rw [Int.toNat_natCast] at t2
                have hkk : (K == 2) = (((c : Int) % 12) == 0) := by
                  have := bkind_2 ⟨wi l0 i, wi_lt l0 i⟩
                  simp only at this
                  rw [hK, this, hwi]
                  rcases Nat.eq_zero_or_pos (c % 12) with h | h
                  · rw [h, show ((c : Int) % 12) = 0 by omega]; rfl
                  · rw [beq_eq_false_iff_ne.2 (by omega : ¬ c % 12 = 0), beq_eq_false_iff_ne.2 (by omega : ¬ (c : Int) % 12 = 0)]
                obtain ⟨bq, hb1⟩ : ∃ b : Bool, b = (((c : Int) % 12) == 0) := ⟨_, rfl⟩
                rw [← hb1] at hkk
                have hb2 := hb1.symm
                have q1 : (0 : Int) ≤ (c : Int) % 12 := by omega
                have q2 : (c : Int) % 12 < 12 := by omega
                have q3 : ((c : Int) % 12).toNat = c % 12 := by omega
                clear hTd hK hwi f0 f1 hb1
                go_wp2
                repeat (go_quiet (fail); try go_wp2)
                go_roundg k2
                case measure => omega
                case rel => exact ⟨i + 1, rfl, ⟨hi⟩, ⟨by have := HK.out; omega⟩, ⟨by rw [i4]; (with_reducible repeat (first | apply Kd.R_alloc | apply Kd.R_drewN | apply Kd.R_drew)); have := HRT.out; rwa [i4] at this⟩, ⟨pw_below_drewN HB.out _⟩⟩
              case neg =>
                have hin : i = l0.length := by have := HI.out; omega
                subst hin
                have j1 : decide ((l0.length : Int) < (l0.length : Int)) = false := decide_eq_false (by omega)
                have j3 : (0 : Int) ≤ (l0.length : Int) := by omega
                have j5 : (l0.length : Int) < (T.length : Int) := by omega
                have j6 : l0.length < T.length := by omega
                obtain ⟨adT, eT, t0, t1, t2⟩ := at_T28 (Kd.R_reads' HRT.out).2.2 (l0.length : Int) j3 j5
                subst eT
                rw [HTN.out, Int.toNat_natCast] at t0 t1 t2
                go_wp2
                repeat (go_quiet (fail); try go_wp2)
                go_ret
                exact ⟨rfl, HB3.out.trans (HB.out.mono HZ3.out)⟩
end Go.Proofs.YthnehdimjadliaaDoor.PAll
