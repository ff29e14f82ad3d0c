import Derived.Test.YtnekehlghkfbdaaDoorHFew
/- Plain laws of PortsOnce: what is asked is kept once, and told the same ever after. -/
namespace Go.Proofs.YtnekehlghkfbdaaDoor.PAll
open Go Go.Proofs Go.RowKit Go.Shelf Go.Proofs.YtnekehlghkfbdaaDoorW.PrintWords Go.Proofs.YtnekehlghkfbdaaDoorW.PrintLast Go.Proofs.YtnekehlghkfbdaaDoorW.PrintMore Go.Proofs.YtnekehlghkfbdaaDoor.Bx
set_option linter.unusedVariables false
set_option linter.unusedSimpArgs false
abbrev DLs := List (S33 × ByteArray)
def both (l : List S33) : DLs × List ByteArray := l.foldl (fun st c => (askD st.1 c, st.2 ++ [askA st.1 c])) ([], [])
def told (l : List S33) : List ByteArray := (both l).2
theorem both_fst (l : List S33) : ∀ (D : DLs) (F : List ByteArray), (l.foldl (fun st c => (askD st.1 c, st.2 ++ [askA st.1 c])) (D, F)).1 = l.foldl askD D := by
  induction l with
  | nil => intro D F; rfl
  | cons c l ih => intro D F; exact ih _ _
theorem told_nil : told [] = [] := rfl
theorem told_next (l : List S33) (j : Nat) (p : S33) (h : l[j]? = some p) : told (l.take (j + 1)) = told (l.take j) ++ [askA (asked (l.take j)) p] := by
  unfold told both asked
  rw [List.take_add_one, h]
  simp only [Option.toList_some, List.foldl_append, List.foldl_cons, List.foldl_nil]
  rw [both_fst]
theorem told_length (l : List S33) : ∀ j, j ≤ l.length → (told (l.take j)).length = j
  | 0, _ => rfl
  | j + 1, hj => by
    rw [told_next l j _ (List.getElem?_eq_getElem (by omega)), List.length_append, told_length l j (by omega)]
    rfl
def Inv (D : DLs) : Prop := D.Pairwise (fun p q => ¬ (q.1.f0 = p.1.f0 ∧ q.1.f1 = p.1.f1)) ∧ ∀ p ∈ D, p.2.size ≤ 64
theorem look_none (k : Int × Int) : ∀ (D : DLs), look k (mapL D) = none → ∀ p ∈ D, ¬ (k.1 = p.1.f0 ∧ k.2 = p.1.f1)
  | [], _, p, hp => by simp at hp
  | q :: D, h, p, hp => by
    have h' : (if (k.1 == q.1.f0 && k.2 == q.1.f1) = true then some q.2 else look k (mapL D)) = none := h
    split at h'
    · cases h'
    · rename_i hq
      rcases List.mem_cons.1 hp with rfl | hp
      · intro e
        apply hq
        simp [e.1, e.2]
      · exact look_none k D h' p hp
theorem look_app (k : Int × Int) (a : ByteArray) (L2 : KL) : ∀ (L : KL), look k L = some a → look k (L ++ L2) = some a
  | [], h => by cases h
  | p :: L, h => by
    have h' : (if (k.1 == p.1.1 && k.2 == p.1.2) = true then some p.2 else look k L) = some a := h
    show (if (k.1 == p.1.1 && k.2 == p.1.2) = true then some p.2 else look k (L ++ L2)) = some a
    split at h'
    · rename_i hq
      rw [if_pos hq]
      exact h'
    · rename_i hq
      rw [if_neg hq]
      exact look_app k a L2 L h'
theorem look_last (k : Int × Int) (a : ByteArray) : ∀ (L : KL), look k L = none → look k (L ++ [(k, a)]) = some a
  | [], _ => by simp [look]
  | p :: L, h => by
    have h' : (if (k.1 == p.1.1 && k.2 == p.1.2) = true then some p.2 else look k L) = none := h
    show (if (k.1 == p.1.1 && k.2 == p.1.2) = true then some p.2 else look k (L ++ [(k, a)])) = some a
    split at h'
    · cases h'
    · rename_i hq
      rw [if_neg hq]
      exact look_last k a L h'
theorem cut64_size (s : ByteArray) : (cut64 s).size ≤ 64 := by
  unfold cut64
  split
  · rw [ByteArray.size_extract]; omega
  · omega
theorem inv_ask (D : DLs) (c : S33) (h : Inv D) : Inv (askD D c) := by
  unfold askD
  cases hl : look (c.f0, c.f1) (mapL D) with
  | some a => exact h
  | none =>
    refine ⟨List.pairwise_append.2 ⟨h.1, List.pairwise_singleton _ _, fun p hp q hq => ?_⟩, fun p hp => ?_⟩
    · rw [List.mem_singleton.1 hq]
      exact look_none _ D hl p hp
    · rcases List.mem_append.1 hp with hp | hp
      · exact h.2 p hp
      · rw [List.mem_singleton.1 hp]
        exact cut64_size _
theorem inv_asked (l : List S33) : ∀ D : DLs, Inv D → Inv (l.foldl askD D) := by
  induction l with
  | nil => intro D h; exact h
  | cons c l ih => intro D h; exact ih _ (inv_ask D c h)
theorem inv_l (l : List S33) : Inv (asked l) := inv_asked l [] ⟨List.Pairwise.nil, by simp⟩
theorem look_ask (D : DLs) (c : S33) (k : Int × Int) (a : ByteArray) (h : look k (mapL D) = some a) : look k (mapL (askD D c)) = some a := by
  unfold askD
  split
  · exact h
  · rw [mapL_add]; exact look_app k a _ _ h
theorem look_self (D : DLs) (c : S33) : look (c.f0, c.f1) (mapL (askD D c)) = some (askA D c) := by
  unfold askD askA
  cases hl : look (c.f0, c.f1) (mapL D) with
  | some a => exact hl
  | none => simp only [mapL_add]; exact look_last _ _ _ hl
theorem told_look (l : List S33) : ∀ (j : Nat), j ≤ l.length → ∀ (i : Nat) (p : S33), i < j → l[i]? = some p → ∃ a, (told (l.take j))[i]? = some a ∧ look (p.f0, p.f1) (mapL (asked (l.take j))) = some a
  | 0, _, i, p, hi, _ => by omega
  | j + 1, hj, i, p, hi, hp => by
    have hq : l[j]? = some l[j] := List.getElem?_eq_getElem (by omega)
    rw [told_next l j _ hq, asked_next l j _ hq]
    by_cases e : i = j
    · subst e
      rw [hq] at hp
      cases hp
      refine ⟨_, ?_, look_self _ _⟩
      have := told_length l i (by omega)
      rw [List.getElem?_append_right (by omega), this]
      simp
    · obtain ⟨a, h1, h2⟩ := told_look l j (by omega) i p (by omega) hp
      refine ⟨a, ?_, look_ask _ _ _ _ h2⟩
      rw [List.getElem?_append_left (by rw [told_length l j (by omega)]; omega)]
      exact h1
theorem look_size (k : Int × Int) (a : ByteArray) : ∀ (D : DLs), (∀ p ∈ D, p.2.size ≤ 64) → look k (mapL D) = some a → a.size ≤ 64
  | [], _, h => by cases h
  | q :: D, hD, h => by
    have h' : (if (k.1 == q.1.f0 && k.2 == q.1.f1) = true then some q.2 else look k (mapL D)) = some a := h
    split at h'
    · cases h'
      exact hD q (by simp)
    · exact look_size k a D (fun p hp => hD p (by simp [hp])) h'
/-- How many calls of a row have this id. -/
def cnt (c : S33) : List S33 → Nat
  | [] => 0
  | d :: l => (if (d.f0 == c.f0 && d.f1 == c.f1) = true then 1 else 0) + cnt c l
theorem cnt_next (c : S33) : ∀ (l : List S33) (j : Nat) (d : S33), l[j]? = some d → cnt c (l.take (j + 1)) = cnt c (l.take j) + (if (d.f0 == c.f0 && d.f1 == c.f1) = true then 1 else 0)
  | [], j, d, h => by simp at h
  | e :: l, 0, d, h => by
    simp only [List.getElem?_cons_zero, Option.some.injEq] at h
    subst h
    simp [cnt]
  | e :: l, j + 1, d, h => by
    have := cnt_next c l j d (by simpa using h)
    simp only [List.take_succ_cons, cnt]
    omega
theorem cnt_le (c : S33) : ∀ (l : List S33), cnt c l ≤ l.length
  | [] => Nat.le_refl _
  | d :: l => by
    have := cnt_le c l
    simp only [cnt, List.length_cons]
    split <;> omega
theorem cnt_zero (c : S33) : ∀ (D : DLs), (∀ p ∈ D, ¬ (p.1.f0 = c.f0 ∧ p.1.f1 = c.f1)) → cnt c (callsL D) = 0
  | [], _ => rfl
  | q :: D, h => by
    have h1 := h q (by simp)
    have h2 := cnt_zero c D (fun p hp => h p (by simp [hp]))
    show (if (q.1.f0 == c.f0 && q.1.f1 == c.f1) = true then 1 else 0) + cnt c (callsL D) = 0
    rw [if_neg (fun e => h1 (by simpa using e)), h2]
theorem cnt_one (c : S33) (a : ByteArray) : ∀ (D : DLs), Inv D → look (c.f0, c.f1) (mapL D) = some a → cnt c (callsL D) = 1
  | [], _, h => by cases h
  | q :: D, hI, h => by
    have hc := List.pairwise_cons.1 hI.1
    have h' : (if (c.f0 == q.1.f0 && c.f1 == q.1.f1) = true then some q.2 else look (c.f0, c.f1) (mapL D)) = some a := h
    show (if (q.1.f0 == c.f0 && q.1.f1 == c.f1) = true then 1 else 0) + cnt c (callsL D) = 1
    split at h'
    · rename_i hq
      have hq' : c.f0 = q.1.f0 ∧ c.f1 = q.1.f1 := by simpa using hq
      rw [if_pos (by simp [hq'.1, hq'.2]), cnt_zero c D (fun p hp => by rw [hq'.1, hq'.2]; exact hc.1 p hp)]
    · rename_i hq
      rw [if_neg (fun e => hq (by have : q.1.f0 = c.f0 ∧ q.1.f1 = c.f1 := by simpa using e
                                  simp [this.1, this.2])), cnt_one c a D ⟨hc.2, fun p hp => hI.2 p (by simp [hp])⟩ h']
theorem apart_at (D : DLs) (h : Inv D) (i k : Nat) (p q : S33) (hk : k < i) (hp : (callsL D)[i]? = some p) (hq : (callsL D)[k]? = some q) : ¬ (p.f0 = q.f0 ∧ p.f1 = q.f1) := by
  simp only [callsL, List.getElem?_map, Option.map_eq_some_iff] at hp hq
  obtain ⟨p', hp', rfl⟩ := hp
  obtain ⟨q', hq', rfl⟩ := hq
  obtain ⟨h1, e1⟩ := List.getElem?_eq_some_iff.1 hp'
  obtain ⟨h2, e2⟩ := List.getElem?_eq_some_iff.1 hq'
  have := List.pairwise_iff_getElem.1 h.1 k i h2 h1 hk
  rw [e1, e2] at this
  exact this
section
variable {w W : World} {bs : List Bx} {ms : ML} {cl : CL} {tl : TL}
theorem Pv.tcell (h : Pv w W bs ms cl tl) (i : Nat) {ad : Addr} {n c : Nat} {xs : List ByteArray} (hi : tl[i]? = some (.slice (some ad) n c, xs)) (j : Nat) (p : ByteArray) (hj : xs[j]? = some p) : W.cell? (ad.add j) = some (.string p) := by
  obtain ⟨rfl, _, hC⟩ := Kd.N_reads' (h.rt i hi)
  obtain ⟨ad', e, hc⟩ := at_s hC j p hj
  cases e
  exact hc
theorem Pv.tsome (h : Pv w W bs ms cl tl) (i : Nat) {v : Value} {xs : List ByteArray} (hi : tl[i]? = some (v, xs)) (hx : 0 < xs.length) : ∃ ad c, v = .slice (some ad) xs.length c := by
  obtain ⟨g, cap, e, _⟩ := Kd.N_form (h.rt i hi) hx
  exact ⟨_, _, e⟩
theorem Pv.csome (h : Pv w W bs ms cl tl) (i : Nat) {v : Value} {xs : List S33} (hi : cl[i]? = some (v, xs)) (hx : 0 < xs.length) : ∃ ad c, v = .slice (some ad) xs.length c := by
  obtain ⟨g, cap, e, _⟩ := Kd.N_form (h.rc i hi) hx
  exact ⟨_, _, e⟩
theorem Pv.ccells (h : Pv w W bs ms cl tl) (i : Nat) {ad : Addr} {n c : Nat} {xs : List S33} (hi : cl[i]? = some (.slice (some ad) n c, xs)) (j : Nat) (p : S33) (hj : xs[j]? = some p) : W.cell? (ad.add (j * 4)) = some (.int .i64 p.f0) ∧ W.cell? ⟨(ad.add (j * 4)).block, (ad.add (j * 4)).off + 1, none⟩ = some (.int .i64 p.f1) := by
  obtain ⟨rfl, _, hC⟩ := Kd.N_reads' (h.rc i hi)
  obtain ⟨ad', e, h0, h1, _⟩ := at_c hC j p hj
  cases e
  exact ⟨h0, h1⟩
end
/-- An element of a row of bytes that came in. -/
theorem at_b {w : World} {A : Option Addr} {n : Nat} {xs : List Int} (h : Kd.C (Kd.int .u8) w A n xs) (j : Nat) (p : Int) (hp : xs[j]? = some p) : ∃ ad, A = some ad ∧ w.cell? (ad.add j) = some (.int .u8 p) := by
  obtain ⟨hj, he⟩ := List.getElem?_eq_some_iff.1 hp
  have hl : xs.length = n := h.1
  obtain ⟨ad, c, e, _, hK, hc0⟩ := Kd.C_get h 0 (j : Int) (by omega) (by omega)
  have hr : xs.getD (j : Int).toNat 0 = p := by simp [List.getD_eq_getElem?_getD, hp]
  rw [hr] at hK
  have hK' : c = [.int .u8 p] := hK
  subst hK'
  have := hc0 0 _ rfl
  have hz : j * (Kd.int .u8).sz + 0 = j := Nat.mul_one j
  rw [Int.toNat_natCast, hz] at this
  exact ⟨ad, e, this⟩
theorem askA_of {D : DLs} {c : S33} {a : ByteArray} (h : look (c.f0, c.f1) (mapL D) = some a) : askA D c = a := by unfold askA; rw [h]
theorem askD_of {D : DLs} {c : S33} {a : ByteArray} (h : look (c.f0, c.f1) (mapL D) = some a) : askD D c = D := by unfold askD; rw [h]
end Go.Proofs.YtnekehlghkfbdaaDoor.PAll
