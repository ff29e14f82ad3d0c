import Derived.Test.YtnekehlghkfbdaaDoorHNew
/- (*ports.Service).Ask: an answer is told again, or it is told anew and kept. -/
namespace Go.Proofs.YtnekehlghkfbdaaDoor.PAll
open Go Go.Proofs Go.RowKit Go.Shelf Go.Proofs.YtnekehlghkfbdaaDoorW.PrintWords Go.Proofs.YtnekehlghkfbdaaDoorW.PrintLast Go.Proofs.YtnekehlghkfbdaaDoorW.PrintMore Go.Proofs.YtnekehlghkfbdaaDoor.Bx
attribute [local go_sem] Oper.semAt_some
set_option linter.unusedVariables false
set_option linter.unusedSimpArgs false
theorem inf46 : (Tryd.prog.info? 46).map (·.size) = some 2 := by kernel_rfl
abbrev TAB (w : World) : Prop := Lib.TabIs Tryd.prog w "internal/strconv.uint64pow10" .u64 Lib.pow10Tab
def ansOf (c : S33) (n : Int) : ByteArray := cut64 (num (dec n) c.f2 c.f3)
def mapL (D : List (S33 × ByteArray)) : KL := D.map fun p => ((p.1.f0, p.1.f1), p.2)
def callsL (D : List (S33 × ByteArray)) : List S33 := D.map (·.1)
def textsL (D : List (S33 × ByteArray)) : List ByteArray := D.map (·.2)
def small (c : S33) : Prop := c.f2.size ≤ 200 ∧ c.f3.size ≤ 200
abbrev cellsOf (c : S33) : Value := .agg #[.int .i64 c.f0, .int .i64 c.f1, .string c.f2, .string c.f3]
theorem tabAt {w W : World} (ht : TAB w) (h : Below w.heap.size w W) : ∀ W', Below W.heap.size W W' → TAB W' := fun W' hb => Lib.tabBelow_of_tabIs ht W' (h.trans (hb.mono h.size))
section
variable {w W : World} {bs : List Bx} {ms : ML} {cl : CL} {tl : TL} {s B : Nat} {v : Value}
theorem c_ans (h : Pv w W bs ms cl tl) (c : S33) (n : Int) (h0 : -9223372036854775808 ≤ n) (h1 : n ≤ 9223372036854775807) (hs : small c) (ht : TAB w) :
    Calls Tryd.prog 11 #[cellsOf c, .int .i64 n] W fun e W' => e = .returned (.string (ansOf c n)) ∧ Pv w W' bs ms cl tl :=
  (pans.calls c.f0 c.f1 c.f2 c.f3 n W h0 h1 hs.1 hs.2 (tabAt ht h.below)).mono fun e W' hw => ⟨hw.1, h.call hw.2⟩
theorem c_rans (h : Pv w W bs ms cl tl) (c : S33) (n : Int) (h0 : -9223372036854775808 ≤ n) (h1 : n ≤ 9223372036854775807) (hs : small c) :
    Calls Tryd.prog 12 #[cellsOf c, .int .i64 n] W fun e W' => e = .returned (.string (ansOf c n)) ∧ Pv w W' bs ms cl tl :=
  (rans.calls c.f0 c.f1 c.f2 c.f3 n W h0 h1 hs.1 hs.2).mono fun e W' hw => ⟨hw.1, h.call hw.2⟩
end
def ask.T2 : Bool × List (List Nat × List Nat) := (true, [([], []), ([0], [0]), ([1], [1]), ([2], [2]), ([], []), ([3, 4], [3, 4]), ([5], [5]), ([6], [6]), ([6], [6]), ([7, 0, 1, 2, 3, 4, 5, 6, 7], [7]), ([8, 9, 0, 1, 2, 3, 4, 5, 6, 7, 8, 9], [8])])
def ask.B2 : List Nat := [0, 1, 3, 7, 0, 31, 63, 127, 127, 255, 1023]
theorem ask.tab2 : rtab .any (opsOf Tryd.f9 2) = ask.T2 := by kernel_rfl
theorem ask.bits2 : waitsOk ask.T2.2 ask.B2 = true := by kernel_rfl
def ask.T5 : Bool × List (List Nat × List Nat) := (true, [([], []), ([], []), ([1], [1]), ([2], [2]), ([3], [3]), ([4], [4]), ([0, 5], [0, 5]), ([6, 6, 0, 1, 2, 3, 4, 5, 6], [6])])
def ask.B5 : List Nat := [0, 0, 2, 6, 14, 30, 63, 127]
theorem ask.tab5 : rtab .any (opsOf Tryd.f9 5) = ask.T5 := by kernel_rfl
theorem ask.bits5 : waitsOk ask.T5.2 ask.B5 = true := by kernel_rfl
def ask.T6 : Bool × List (List Nat × List Nat) := (true, [([], []), ([0], [0]), ([1], [1]), ([2], [2]), ([], []), ([], []), ([3, 4, 5, 0, 1, 2, 3, 4, 5], [3, 4, 5])])
def ask.B6 : List Nat := [0, 1, 3, 7, 0, 0, 63]
theorem ask.tab6 : rtab .any (opsOf Tryd.f9 6) = ask.T6 := by kernel_rfl
theorem ask.bits6 : waitsOk ask.T6.2 ask.B6 = true := by kernel_rfl
def ask.T7 : Bool × List (List Nat × List Nat) := (true, [([], []), ([], []), ([1], [1]), ([2], [2]), ([3], [3]), ([], []), ([5], [5]), ([4, 6], [4, 6]), ([0, 0, 1, 2, 3, 4, 5, 6, 7], [0]), ([8, 0, 1, 2, 3, 4, 5, 6, 7], [8]), ([9, 7, 7, 0, 1, 2, 3, 4, 5, 6, 7], [7, 9])])
def ask.B7 : List Nat := [0, 0, 2, 6, 14, 0, 32, 126, 255, 511, 1023]
theorem ask.tab7 : rtab .any (opsOf Tryd.f9 7) = ask.T7 := by kernel_rfl
theorem ask.bits7 : waitsOk ask.T7.2 ask.B7 = true := by kernel_rfl
set_option maxHeartbeats 8000000 in
set_option maxRecDepth 100000 in
theorem ask_old {w W : World} {bs : List Bx} {ms : ML} {cl : CL} {tl : TL} {s B : Nat} {v : Value} {KS : List S33} {L : KL} (c : S33) (a : ByteArray) (h : Pv w W ((s, #[.map (some B), v], 44) :: bs) ((B, L) :: ms) ((v, KS) :: cl) tl) (hl : look (c.f0, c.f1) L = some a) :
    Calls Tryd.prog 9 #[.pointer (some ⟨s, 0, none⟩), cellsOf c] W fun e W' => e = .returned (.string a) ∧ Pv w W' ((s, #[.map (some B), v], 44) :: bs) ((B, L) :: ms) ((v, KS) :: cl) tl := by
  have hu44 := Tryd.underlying44
  have hu33 := Tryd.underlying33
  have hu46 := Tryd.underlying46
  obtain ⟨A, cc, rfl, hcc, hC⟩ := Kd.N_reads (h.rc 0 rfl)
  clear hcc hC
  have HE := Aside0.mk h
  clear h
  have HL : Aside0 (∀ W' : World, MapC W' B L → (Instr.lookup 42 (.map (some B)) (.agg #[.int .i64 c.f0, .int .i64 c.f1]) true).run Tryd.prog W' = .ok (.tuple #[.string a, .bool true]) W') := ⟨fun W' hm => by have := hm.look (c.f0, c.f1); rw [hl] at this; exact this⟩
  have HN := Aside0.mk hl
  clear hl
  go_enter Tryd.func9, Tryd.ntmps9
  have z_s_0 : W.cell? ⟨s, 0, none⟩ = some (.map (some B)) := HE.out.cell 0 0 rfl rfl
  have z_s_1 : W.cell? ⟨s, 1, none⟩ = some (.slice A KS.length cc) := HE.out.cell 0 1 rfl rfl
  go_upto_region 2 with (first | ((with_reducible refine gate_dst (N := 3) rfl ?_); refine box_event ?hg (N := 3) ?hd (cs := #[.int .i64 c.f0, .int .i64 c.f1, .string c.f2, .string c.f3]) (t := 33) ?hr ?_; (case hd => rfl); (case hg => rfl); (case hr => first | (go_simp; done) | (go_simp; rfl)); intro gc hg_ X1 hbx_ hb_; have n_ := Aside0.mk (HE.out.box hg_ hbx_ hb_); clear HE hg_ hbx_ hb_; (try clear z_s_0); (try clear z_s_1); (try clear y_s_0); (try clear y_s_1); have HE := n_; clear n_; have z_gc_0 : X1.cell? ⟨gc, 0, none⟩ = some (.int .i64 c.f0) := HE.out.cell 0 0 rfl rfl; have z_gc_1 : X1.cell? ⟨gc, 1, none⟩ = some (.int .i64 c.f1) := HE.out.cell 0 1 rfl rfl; have z_gc_2 : X1.cell? ⟨gc, 2, none⟩ = some (.string c.f2) := HE.out.cell 0 2 rfl rfl; have z_gc_3 : X1.cell? ⟨gc, 3, none⟩ = some (.string c.f3) := HE.out.cell 0 3 rfl rfl; have z_s_0 : X1.cell? ⟨s, 0, none⟩ = some (.map (some B)) := HE.out.cell 1 0 rfl rfl; have z_s_1 : X1.cell? ⟨s, 1, none⟩ = some (.slice A KS.length cc) := HE.out.cell 1 1 rfl rfl) | ((with_reducible refine gate_dst (N := 5) rfl ?_); refine box_event ?hg (N := 5) ?hd (cs := #[.int .i64 0, .int .i64 0]) (t := 46) ?hr ?_; (case hd => rfl); (case hg => rfl); (case hr => first | (go_simp; done) | (go_simp; rfl)); intro gi hg_ X2 hbx_ hb_; have n_ := Aside0.mk (HE.out.box hg_ hbx_ hb_); clear HE hg_ hbx_ hb_; (try clear z_gc_0); (try clear z_gc_1); (try clear z_gc_2); (try clear z_gc_3); (try clear y_gc_0); (try clear y_gc_1); (try clear y_gc_2); (try clear y_gc_3); (try clear z_s_0); (try clear z_s_1); (try clear y_s_0); (try clear y_s_1); have HE := n_; clear n_; have z_gi_0 : X2.cell? ⟨gi, 0, none⟩ = some (.int .i64 0) := HE.out.cell 0 0 rfl rfl; have z_gi_1 : X2.cell? ⟨gi, 1, none⟩ = some (.int .i64 0) := HE.out.cell 0 1 rfl rfl; have z_gc_0 : X2.cell? ⟨gc, 0, none⟩ = some (.int .i64 c.f0) := HE.out.cell 1 0 rfl rfl; have z_gc_1 : X2.cell? ⟨gc, 1, none⟩ = some (.int .i64 c.f1) := HE.out.cell 1 1 rfl rfl; have z_gc_2 : X2.cell? ⟨gc, 2, none⟩ = some (.string c.f2) := HE.out.cell 1 2 rfl rfl; have z_gc_3 : X2.cell? ⟨gc, 3, none⟩ = some (.string c.f3) := HE.out.cell 1 3 rfl rfl; have z_s_0 : X2.cell? ⟨s, 0, none⟩ = some (.map (some B)) := HE.out.cell 2 0 rfl rfl; have z_s_1 : X2.cell? ⟨s, 1, none⟩ = some (.slice A KS.length cc) := HE.out.cell 2 1 rfl rfl) | ((with_reducible refine gate_store (t := 46) (p := 5) rfl ?_); refine store_event (w1 := X2.setRow gi #[.int .i64 c.f0, .int .i64 c.f1]) rfl rfl rfl (run_row rfl rfl rfl (HE.out.at 0 rfl).2 inf46 rfl (by first | rfl | simp [Value.oneCell'])) ?_; intro X3 hw_; have n_ : Aside0 (Pv w X3 ((gi, #[.int .i64 c.f0, .int .i64 c.f1], 46) :: (gc, #[.int .i64 c.f0, .int .i64 c.f1, .string c.f2, .string c.f3], 33) :: (s, #[.map (some B), .slice A KS.length cc], 44) :: bs) ((B, L) :: ms) ((.slice A KS.length cc, KS) :: cl) tl) := ⟨by rw [hw_]; exact HE.out.row 0 rfl #[.int .i64 c.f0, .int .i64 c.f1]⟩; clear HE hw_; (try clear z_gi_0); (try clear z_gi_1); (try clear y_gi_0); (try clear y_gi_1); (try clear z_gc_0); (try clear z_gc_1); (try clear z_gc_2); (try clear z_gc_3); (try clear y_gc_0); (try clear y_gc_1); (try clear y_gc_2); (try clear y_gc_3); (try clear z_s_0); (try clear z_s_1); (try clear y_s_0); (try clear y_s_1); have HE := n_; clear n_; have z_gi_0 : X3.cell? ⟨gi, 0, none⟩ = some (.int .i64 c.f0) := HE.out.cell 0 0 rfl rfl; have z_gi_1 : X3.cell? ⟨gi, 1, none⟩ = some (.int .i64 c.f1) := HE.out.cell 0 1 rfl rfl; have z_gc_0 : X3.cell? ⟨gc, 0, none⟩ = some (.int .i64 c.f0) := HE.out.cell 1 0 rfl rfl; have z_gc_1 : X3.cell? ⟨gc, 1, none⟩ = some (.int .i64 c.f1) := HE.out.cell 1 1 rfl rfl; have z_gc_2 : X3.cell? ⟨gc, 2, none⟩ = some (.string c.f2) := HE.out.cell 1 2 rfl rfl; have z_gc_3 : X3.cell? ⟨gc, 3, none⟩ = some (.string c.f3) := HE.out.cell 1 3 rfl rfl; have z_s_0 : X3.cell? ⟨s, 0, none⟩ = some (.map (some B)) := HE.out.cell 2 0 rfl rfl; have z_s_1 : X3.cell? ⟨s, 1, none⟩ = some (.slice A KS.length cc) := HE.out.cell 2 1 rfl rfl))
  skip
  (try clear z_gi_0)
  (try clear z_gi_1)
  (try clear y_gi_0)
  (try clear y_gi_1)
  (try clear z_gc_0)
  (try clear z_gc_1)
  (try clear z_gc_2)
  (try clear z_gc_3)
  (try clear y_gc_0)
  (try clear y_gc_1)
  (try clear y_gc_2)
  (try clear y_gc_3)
  (try clear z_s_0)
  (try clear z_s_1)
  (try clear y_s_0)
  (try clear y_s_1)
  have n_ := Aside0.mk (HE.out.call (below_drew (Below.refl _ _)))
  clear HE
  have HE := n_
  clear n_
  refine start_ (n := 11) (S := fun w' => w'.cell? ⟨s, 0, none⟩ = some (.map (some B)) ∧ w'.cell? ⟨gi, 0, none⟩ = some (.int .i64 c.f0) ∧ w'.cell? ⟨gi, 1, none⟩ = some (.int .i64 c.f1) ∧ (Instr.lookup 42 (.map (some B)) (.agg #[.int .i64 c.f0, .int .i64 c.f1]) true).run Tryd.prog w' = .ok (.tuple #[.string a, .bool true]) w') (ds := []) #[false, false, false, false, false, false, false, false, false, false, false] (by kernel_rfl) rfl rfl ⟨HE.out.cell 2 0 rfl rfl, HE.out.cell 0 0 rfl rfl, HE.out.cell 0 1 rfl rfl, HL.out _ (HE.out.map 0 rfl)⟩ (fun hHeld => ?_)
  refine with_tabW ask.tab2 ask.bits2 (fun HT_ HW_ => ?_)
  generalize X3.drew = wq at HE hHeld ⊢
  refine pure_ (i := 0) (N := some 15) (v := ?_) (a' := ?_) #[true, false, false, false, false, false, false, false, false, false, false] rfl rfl (any_of HT_.out (by kernel_rfl)) (fun _ _ _ h => h) (Or.inl ⟨by rfl, ?_⟩) ?_ ?_
  rotate_left
  · intro w'
    go_simp
    with_reducible rfl
  rotate_left
  · simp only [Act.put, List.setIfInBounds_toArray, List.set_cons_zero, List.set_cons_succ, i64_w, i32_w]
    rfl
  refine pure_ (i := 1) (N := some 16) (v := ?_) (a' := ?_) #[true, true, false, false, false, false, false, false, false, false, false] rfl rfl (any_of HT_.out (by kernel_rfl)) (fun _ _ _ h => h) (Or.inl ⟨by rfl, ?_⟩) ?_ ?_
  rotate_left
  · intro w'
    go_simp
    with_reducible rfl
  rotate_left
  · simp only [Act.put, List.setIfInBounds_toArray, List.set_cons_zero, List.set_cons_succ, i64_w, i32_w]
    rfl
  refine pure_ (i := 2) (N := some 17) (v := ?_) (a' := ?_) #[true, true, true, false, false, false, false, false, false, false, false] rfl rfl (any_of HT_.out (by kernel_rfl)) (fun _ _ _ h => h) (Or.inl ⟨by rfl, ?_⟩) ?_ ?_
  rotate_left
  · intro w'
    go_simp
    with_reducible rfl
  rotate_left
  · simp only [Act.put, List.setIfInBounds_toArray, List.set_cons_zero, List.set_cons_succ, i64_w, i32_w]
    rfl
  refine take_ (i := 3) (N := some 18) (v := ?_) (a' := ?_) #[true, true, true, true, false, false, false, false, false, false, false] rfl rfl (take_ofW HT_.out HW_.out (by kernel_rfl)) (fun _ _ _ h => h) (Or.inl ⟨by rfl, ?_⟩) hHeld ?_ ?_
  rotate_left
  · rintro w' ⟨s0, s1, s2, s3⟩
    go_simp
    with_reducible rfl
  rotate_left
  · simp only [Act.put, List.setIfInBounds_toArray, List.set_cons_zero, List.set_cons_succ, i64_w, i32_w]
    rfl
  refine take_ (i := 4) (N := some 19) (v := ?_) (a' := ?_) #[true, true, true, true, true, false, false, false, false, false, false] rfl rfl (take_ofW HT_.out HW_.out (by kernel_rfl)) (fun _ _ _ h => h) (Or.inl ⟨by rfl, ?_⟩) hHeld ?_ ?_
  rotate_left
  · rintro w' ⟨s0, s1, s2, s3⟩
    go_simp
    with_reducible rfl
  rotate_left
  · simp only [Act.put, List.setIfInBounds_toArray, List.set_cons_zero, List.set_cons_succ, i64_w, i32_w]
    rfl
  refine take_ (i := 5) (N := some 20) (v := ?_) (a' := ?_) #[true, true, true, true, true, true, false, false, false, false, false] rfl rfl (take_ofW HT_.out HW_.out (by kernel_rfl)) (fun _ _ _ h => h) (Or.inl ⟨by rfl, ?_⟩) hHeld ?_ ?_
  rotate_left
  · rintro w' ⟨s0, s1, s2, s3⟩
    go_simp
    with_reducible rfl
  rotate_left
  · simp only [Act.put, List.setIfInBounds_toArray, List.set_cons_zero, List.set_cons_succ, i64_w, i32_w]
    rfl
  refine pure_ (i := 6) (N := some 14) (v := ?_) (a' := ?_) #[true, true, true, true, true, true, true, false, false, false, false] rfl rfl (any_of HT_.out (by kernel_rfl)) (fun _ _ _ h => h) (Or.inl ⟨by rfl, ?_⟩) ?_ ?_
  rotate_left
  · intro w'
    go_simp
    with_reducible rfl
  rotate_left
  · simp only [Act.put, List.setIfInBounds_toArray, List.set_cons_zero, List.set_cons_succ, i64_w, i32_w]
    rfl
  refine pure_ (i := 7) (N := some 21) (v := ?_) (a' := ?_) #[true, true, true, true, true, true, true, true, false, false, false] rfl rfl (any_of HT_.out (by kernel_rfl)) (fun _ _ _ h => h) (Or.inl ⟨by rfl, ?_⟩) ?_ ?_
  rotate_left
  · intro w'
    go_simp
    with_reducible rfl
  rotate_left
  · simp only [Act.put, List.setIfInBounds_toArray, List.set_cons_zero, List.set_cons_succ, i64_w, i32_w]
    rfl
  refine pure_ (i := 8) (N := some 22) (v := ?_) (a' := ?_) #[true, true, true, true, true, true, true, true, true, false, false] rfl rfl (any_of HT_.out (by kernel_rfl)) (fun _ _ _ h => h) (Or.inl ⟨by rfl, ?_⟩) ?_ ?_
  rotate_left
  · intro w'
    go_simp
    with_reducible rfl
  rotate_left
  · simp only [Act.put, List.setIfInBounds_toArray, List.set_cons_zero, List.set_cons_succ, i64_w, i32_w]
    rfl
  refine pure_ (i := 9) (N := some 6) (v := ?_) (a' := ?_) #[true, true, true, true, true, true, true, true, true, true, false] rfl rfl (any_of HT_.out (by kernel_rfl)) (fun _ _ _ h => h) (Or.inl ⟨by rfl, ?_⟩) ?_ ?_
  rotate_left
  · intro w'
    go_simp
    with_reducible rfl
  rotate_left
  · simp only [Act.put, List.setIfInBounds_toArray, List.set_cons_zero, List.set_cons_succ, i64_w, i32_w]
    rfl
  refine pure_ (i := 10) (N := some 7) (v := ?_) (a' := ?_) #[true, true, true, true, true, true, true, true, true, true, true] rfl rfl (any_of HT_.out (by kernel_rfl)) (fun _ _ _ h => h) (Or.inl ⟨by rfl, ?_⟩) ?_ ?_
  rotate_left
  · intro w'
    go_simp
    with_reducible rfl
  rotate_left
  · simp only [Act.put, List.setIfInBounds_toArray, List.set_cons_zero, List.set_cons_succ, i64_w, i32_w]
    rfl
  refine done_ (done_of HT_.out (by kernel_rfl)) ?_
  
  (try clear hHeld)
  go_wp2
  go_ret
  exact ⟨rfl, HE.out.sub (by repeat (first | exact List.Sublist.refl _ | apply List.Sublist.cons))⟩
set_option maxHeartbeats 8000000 in
set_option maxRecDepth 100000 in
theorem ask_new {w W : World} {bs : List Bx} {ms : ML} {cl : CL} {tl : TL} {s B : Nat} {v : Value} {KS : List S33} {L : KL} (c : S33) (h : Pv w W ((s, #[.map (some B), v], 44) :: bs) ((B, L) :: ms) ((v, KS) :: cl) tl) (hl : look (c.f0, c.f1) L = none) (hK : KS.length ≤ 1000) (hs : small c) (ht : TAB w) :
    Calls Tryd.prog 9 #[.pointer (some ⟨s, 0, none⟩), cellsOf c] W fun e W' => e = .returned (.string (ansOf c KS.length)) ∧ ∃ v', Pv w W' ((s, #[.map (some B), v'], 44) :: bs) ((B, L ++ [((c.f0, c.f1), ansOf c KS.length)]) :: ms) ((v', KS ++ [c]) :: cl) tl := by
  have hu44 := Tryd.underlying44
  have hu33 := Tryd.underlying33
  have hu46 := Tryd.underlying46
  obtain ⟨A, cc, rfl, hcc, hC⟩ := Kd.N_reads (h.rc 0 rfl)
  clear hcc hC
  have HE := Aside0.mk h
  clear h
  have HK := Aside0.mk hK
  have HS := Aside0.mk hs
  have HT := Aside0.mk ht
  clear hK hs ht
  skip
  have HL : Aside0 (∀ W' : World, MapC W' B L → (Instr.lookup 42 (.map (some B)) (.agg #[.int .i64 c.f0, .int .i64 c.f1]) true).run Tryd.prog W' = .ok (.tuple #[.string (⟨#[]⟩ : ByteArray), .bool false]) W') := ⟨fun W' hm => by have := hm.look (c.f0, c.f1); rw [hl] at this; exact this⟩
  have HN := Aside0.mk hl
  clear hl
  go_enter Tryd.func9, Tryd.ntmps9
  have z_s_0 : W.cell? ⟨s, 0, none⟩ = some (.map (some B)) := HE.out.cell 0 0 rfl rfl
  have z_s_1 : W.cell? ⟨s, 1, none⟩ = some (.slice A KS.length cc) := HE.out.cell 0 1 rfl rfl
  go_upto_region 2 with (first | ((with_reducible refine gate_dst (N := 3) rfl ?_); refine box_event ?hg (N := 3) ?hd (cs := #[.int .i64 c.f0, .int .i64 c.f1, .string c.f2, .string c.f3]) (t := 33) ?hr ?_; (case hd => rfl); (case hg => rfl); (case hr => first | (go_simp; done) | (go_simp; rfl)); intro gc hg_ X4 hbx_ hb_; have n_ := Aside0.mk (HE.out.box hg_ hbx_ hb_); clear HE hg_ hbx_ hb_; (try clear z_s_0); (try clear z_s_1); (try clear y_s_0); (try clear y_s_1); have HE := n_; clear n_; have z_gc_0 : X4.cell? ⟨gc, 0, none⟩ = some (.int .i64 c.f0) := HE.out.cell 0 0 rfl rfl; have z_gc_1 : X4.cell? ⟨gc, 1, none⟩ = some (.int .i64 c.f1) := HE.out.cell 0 1 rfl rfl; have z_gc_2 : X4.cell? ⟨gc, 2, none⟩ = some (.string c.f2) := HE.out.cell 0 2 rfl rfl; have z_gc_3 : X4.cell? ⟨gc, 3, none⟩ = some (.string c.f3) := HE.out.cell 0 3 rfl rfl; have z_s_0 : X4.cell? ⟨s, 0, none⟩ = some (.map (some B)) := HE.out.cell 1 0 rfl rfl; have z_s_1 : X4.cell? ⟨s, 1, none⟩ = some (.slice A KS.length cc) := HE.out.cell 1 1 rfl rfl) | ((with_reducible refine gate_dst (N := 5) rfl ?_); refine box_event ?hg (N := 5) ?hd (cs := #[.int .i64 0, .int .i64 0]) (t := 46) ?hr ?_; (case hd => rfl); (case hg => rfl); (case hr => first | (go_simp; done) | (go_simp; rfl)); intro gi hg_ X5 hbx_ hb_; have n_ := Aside0.mk (HE.out.box hg_ hbx_ hb_); clear HE hg_ hbx_ hb_; (try clear z_gc_0); (try clear z_gc_1); (try clear z_gc_2); (try clear z_gc_3); (try clear y_gc_0); (try clear y_gc_1); (try clear y_gc_2); (try clear y_gc_3); (try clear z_s_0); (try clear z_s_1); (try clear y_s_0); (try clear y_s_1); have HE := n_; clear n_; have z_gi_0 : X5.cell? ⟨gi, 0, none⟩ = some (.int .i64 0) := HE.out.cell 0 0 rfl rfl; have z_gi_1 : X5.cell? ⟨gi, 1, none⟩ = some (.int .i64 0) := HE.out.cell 0 1 rfl rfl; have z_gc_0 : X5.cell? ⟨gc, 0, none⟩ = some (.int .i64 c.f0) := HE.out.cell 1 0 rfl rfl; have z_gc_1 : X5.cell? ⟨gc, 1, none⟩ = some (.int .i64 c.f1) := HE.out.cell 1 1 rfl rfl; have z_gc_2 : X5.cell? ⟨gc, 2, none⟩ = some (.string c.f2) := HE.out.cell 1 2 rfl rfl; have z_gc_3 : X5.cell? ⟨gc, 3, none⟩ = some (.string c.f3) := HE.out.cell 1 3 rfl rfl; have z_s_0 : X5.cell? ⟨s, 0, none⟩ = some (.map (some B)) := HE.out.cell 2 0 rfl rfl; have z_s_1 : X5.cell? ⟨s, 1, none⟩ = some (.slice A KS.length cc) := HE.out.cell 2 1 rfl rfl) | ((with_reducible refine gate_store (t := 46) (p := 5) rfl ?_); refine store_event (w1 := X5.setRow gi #[.int .i64 c.f0, .int .i64 c.f1]) rfl rfl rfl (run_row rfl rfl rfl (HE.out.at 0 rfl).2 inf46 rfl (by first | rfl | simp [Value.oneCell'])) ?_; intro X6 hw_; have n_ : Aside0 (Pv w X6 ((gi, #[.int .i64 c.f0, .int .i64 c.f1], 46) :: (gc, #[.int .i64 c.f0, .int .i64 c.f1, .string c.f2, .string c.f3], 33) :: (s, #[.map (some B), .slice A KS.length cc], 44) :: bs) ((B, L) :: ms) ((.slice A KS.length cc, KS) :: cl) tl) := ⟨by rw [hw_]; exact HE.out.row 0 rfl #[.int .i64 c.f0, .int .i64 c.f1]⟩; clear HE hw_; (try clear z_gi_0); (try clear z_gi_1); (try clear y_gi_0); (try clear y_gi_1); (try clear z_gc_0); (try clear z_gc_1); (try clear z_gc_2); (try clear z_gc_3); (try clear y_gc_0); (try clear y_gc_1); (try clear y_gc_2); (try clear y_gc_3); (try clear z_s_0); (try clear z_s_1); (try clear y_s_0); (try clear y_s_1); have HE := n_; clear n_; have z_gi_0 : X6.cell? ⟨gi, 0, none⟩ = some (.int .i64 c.f0) := HE.out.cell 0 0 rfl rfl; have z_gi_1 : X6.cell? ⟨gi, 1, none⟩ = some (.int .i64 c.f1) := HE.out.cell 0 1 rfl rfl; have z_gc_0 : X6.cell? ⟨gc, 0, none⟩ = some (.int .i64 c.f0) := HE.out.cell 1 0 rfl rfl; have z_gc_1 : X6.cell? ⟨gc, 1, none⟩ = some (.int .i64 c.f1) := HE.out.cell 1 1 rfl rfl; have z_gc_2 : X6.cell? ⟨gc, 2, none⟩ = some (.string c.f2) := HE.out.cell 1 2 rfl rfl; have z_gc_3 : X6.cell? ⟨gc, 3, none⟩ = some (.string c.f3) := HE.out.cell 1 3 rfl rfl; have z_s_0 : X6.cell? ⟨s, 0, none⟩ = some (.map (some B)) := HE.out.cell 2 0 rfl rfl; have z_s_1 : X6.cell? ⟨s, 1, none⟩ = some (.slice A KS.length cc) := HE.out.cell 2 1 rfl rfl))
  skip
  (try clear z_gi_0)
  (try clear z_gi_1)
  (try clear y_gi_0)
  (try clear y_gi_1)
  (try clear z_gc_0)
  (try clear z_gc_1)
  (try clear z_gc_2)
  (try clear z_gc_3)
  (try clear y_gc_0)
  (try clear y_gc_1)
  (try clear y_gc_2)
  (try clear y_gc_3)
  (try clear z_s_0)
  (try clear z_s_1)
  (try clear y_s_0)
  (try clear y_s_1)
  have n_ := Aside0.mk (HE.out.call (below_drew (Below.refl _ _)))
  clear HE
  have HE := n_
  clear n_
  refine start_ (n := 11) (S := fun w' => w'.cell? ⟨s, 0, none⟩ = some (.map (some B)) ∧ w'.cell? ⟨gi, 0, none⟩ = some (.int .i64 c.f0) ∧ w'.cell? ⟨gi, 1, none⟩ = some (.int .i64 c.f1) ∧ (Instr.lookup 42 (.map (some B)) (.agg #[.int .i64 c.f0, .int .i64 c.f1]) true).run Tryd.prog w' = .ok (.tuple #[.string (⟨#[]⟩ : ByteArray), .bool false]) w') (ds := []) #[false, false, false, false, false, false, false, false, false, false, false] (by kernel_rfl) rfl rfl ⟨HE.out.cell 2 0 rfl rfl, HE.out.cell 0 0 rfl rfl, HE.out.cell 0 1 rfl rfl, HL.out _ (HE.out.map 0 rfl)⟩ (fun hHeld => ?_)
  refine with_tabW ask.tab2 ask.bits2 (fun HT_ HW_ => ?_)
  generalize X6.drew = wq at HE hHeld ⊢
  refine pure_ (i := 0) (N := some 15) (v := ?_) (a' := ?_) #[true, false, false, false, false, false, false, false, false, false, false] rfl rfl (any_of HT_.out (by kernel_rfl)) (fun _ _ _ h => h) (Or.inl ⟨by rfl, ?_⟩) ?_ ?_
  rotate_left
  · intro w'
    go_simp
    with_reducible rfl
  rotate_left
  · simp only [Act.put, List.setIfInBounds_toArray, List.set_cons_zero, List.set_cons_succ, i64_w, i32_w]
    rfl
  refine pure_ (i := 1) (N := some 16) (v := ?_) (a' := ?_) #[true, true, false, false, false, false, false, false, false, false, false] rfl rfl (any_of HT_.out (by kernel_rfl)) (fun _ _ _ h => h) (Or.inl ⟨by rfl, ?_⟩) ?_ ?_
  rotate_left
  · intro w'
    go_simp
    with_reducible rfl
  rotate_left
  · simp only [Act.put, List.setIfInBounds_toArray, List.set_cons_zero, List.set_cons_succ, i64_w, i32_w]
    rfl
  refine pure_ (i := 2) (N := some 17) (v := ?_) (a' := ?_) #[true, true, true, false, false, false, false, false, false, false, false] rfl rfl (any_of HT_.out (by kernel_rfl)) (fun _ _ _ h => h) (Or.inl ⟨by rfl, ?_⟩) ?_ ?_
  rotate_left
  · intro w'
    go_simp
    with_reducible rfl
  rotate_left
  · simp only [Act.put, List.setIfInBounds_toArray, List.set_cons_zero, List.set_cons_succ, i64_w, i32_w]
    rfl
  refine take_ (i := 3) (N := some 18) (v := ?_) (a' := ?_) #[true, true, true, true, false, false, false, false, false, false, false] rfl rfl (take_ofW HT_.out HW_.out (by kernel_rfl)) (fun _ _ _ h => h) (Or.inl ⟨by rfl, ?_⟩) hHeld ?_ ?_
  rotate_left
  · rintro w' ⟨s0, s1, s2, s3⟩
    go_simp
    with_reducible rfl
  rotate_left
  · simp only [Act.put, List.setIfInBounds_toArray, List.set_cons_zero, List.set_cons_succ, i64_w, i32_w]
    rfl
  refine take_ (i := 4) (N := some 19) (v := ?_) (a' := ?_) #[true, true, true, true, true, false, false, false, false, false, false] rfl rfl (take_ofW HT_.out HW_.out (by kernel_rfl)) (fun _ _ _ h => h) (Or.inl ⟨by rfl, ?_⟩) hHeld ?_ ?_
  rotate_left
  · rintro w' ⟨s0, s1, s2, s3⟩
    go_simp
    with_reducible rfl
  rotate_left
  · simp only [Act.put, List.setIfInBounds_toArray, List.set_cons_zero, List.set_cons_succ, i64_w, i32_w]
    rfl
  refine take_ (i := 5) (N := some 20) (v := ?_) (a' := ?_) #[true, true, true, true, true, true, false, false, false, false, false] rfl rfl (take_ofW HT_.out HW_.out (by kernel_rfl)) (fun _ _ _ h => h) (Or.inl ⟨by rfl, ?_⟩) hHeld ?_ ?_
  rotate_left
  · rintro w' ⟨s0, s1, s2, s3⟩
    go_simp
    with_reducible rfl
  rotate_left
  · simp only [Act.put, List.setIfInBounds_toArray, List.set_cons_zero, List.set_cons_succ, i64_w, i32_w]
    rfl
  refine pure_ (i := 6) (N := some 14) (v := ?_) (a' := ?_) #[true, true, true, true, true, true, true, false, false, false, false] rfl rfl (any_of HT_.out (by kernel_rfl)) (fun _ _ _ h => h) (Or.inl ⟨by rfl, ?_⟩) ?_ ?_
  rotate_left
  · intro w'
    go_simp
    with_reducible rfl
  rotate_left
  · simp only [Act.put, List.setIfInBounds_toArray, List.set_cons_zero, List.set_cons_succ, i64_w, i32_w]
    rfl
  refine pure_ (i := 7) (N := some 21) (v := ?_) (a' := ?_) #[true, true, true, true, true, true, true, true, false, false, false] rfl rfl (any_of HT_.out (by kernel_rfl)) (fun _ _ _ h => h) (Or.inl ⟨by rfl, ?_⟩) ?_ ?_
  rotate_left
  · intro w'
    go_simp
    with_reducible rfl
  rotate_left
  · simp only [Act.put, List.setIfInBounds_toArray, List.set_cons_zero, List.set_cons_succ, i64_w, i32_w]
    rfl
  refine pure_ (i := 8) (N := some 22) (v := ?_) (a' := ?_) #[true, true, true, true, true, true, true, true, true, false, false] rfl rfl (any_of HT_.out (by kernel_rfl)) (fun _ _ _ h => h) (Or.inl ⟨by rfl, ?_⟩) ?_ ?_
  rotate_left
  · intro w'
    go_simp
    with_reducible rfl
  rotate_left
  · simp only [Act.put, List.setIfInBounds_toArray, List.set_cons_zero, List.set_cons_succ, i64_w, i32_w]
    rfl
  refine pure_ (i := 9) (N := some 6) (v := ?_) (a' := ?_) #[true, true, true, true, true, true, true, true, true, true, false] rfl rfl (any_of HT_.out (by kernel_rfl)) (fun _ _ _ h => h) (Or.inl ⟨by rfl, ?_⟩) ?_ ?_
  rotate_left
  · intro w'
    go_simp
    with_reducible rfl
  rotate_left
  · simp only [Act.put, List.setIfInBounds_toArray, List.set_cons_zero, List.set_cons_succ, i64_w, i32_w]
    rfl
  refine pure_ (i := 10) (N := some 7) (v := ?_) (a' := ?_) #[true, true, true, true, true, true, true, true, true, true, true] rfl rfl (any_of HT_.out (by kernel_rfl)) (fun _ _ _ h => h) (Or.inl ⟨by rfl, ?_⟩) ?_ ?_
  rotate_left
  · intro w'
    go_simp
    with_reducible rfl
  rotate_left
  · simp only [Act.put, List.setIfInBounds_toArray, List.set_cons_zero, List.set_cons_succ, i64_w, i32_w]
    rfl
  refine done_ (done_of HT_.out (by kernel_rfl)) ?_
  
  (try clear hHeld)
  have z_s_0 : wq.cell? ⟨s, 0, none⟩ = some (.map (some B)) := HE.out.cell 2 0 rfl rfl
  have z_s_1 : wq.cell? ⟨s, 1, none⟩ = some (.slice A KS.length cc) := HE.out.cell 2 1 rfl rfl
  go_upto_region 5 with (fail)
  (try clear z_gi_0)
  (try clear z_gi_1)
  (try clear y_gi_0)
  (try clear y_gi_1)
  (try clear z_gc_0)
  (try clear z_gc_1)
  (try clear z_gc_2)
  (try clear z_gc_3)
  (try clear y_gc_0)
  (try clear y_gc_1)
  (try clear y_gc_2)
  (try clear y_gc_3)
  (try clear z_s_0)
  (try clear z_s_1)
  (try clear y_s_0)
  (try clear y_s_1)
  have n_ := Aside0.mk (HE.out.call (below_drew (Below.refl _ _)))
  clear HE
  have HE := n_
  clear n_
  refine start_ (n := 8) (S := fun w' => w'.cell? ⟨gc, 0, none⟩ = some (.int .i64 c.f0) ∧ w'.cell? ⟨gc, 1, none⟩ = some (.int .i64 c.f1) ∧ w'.cell? ⟨gc, 2, none⟩ = some (.string c.f2) ∧ w'.cell? ⟨gc, 3, none⟩ = some (.string c.f3) ∧ w'.cell? ⟨s, 1, none⟩ = some (.slice A KS.length cc)) (ds := []) #[false, false, false, false, false, false, false, false] (by kernel_rfl) rfl rfl ⟨HE.out.cell 1 0 rfl rfl, HE.out.cell 1 1 rfl rfl, HE.out.cell 1 2 rfl rfl, HE.out.cell 1 3 rfl rfl, HE.out.cell 2 1 rfl rfl⟩ (fun hHeld => ?_)
  refine with_tabW ask.tab5 ask.bits5 (fun HT_ HW_ => ?_)
  generalize wq.drew = wq5 at HE hHeld ⊢
  refine pure_ (i := 1) (N := some 26) (v := ?_) (a' := ?_) #[false, true, false, false, false, false, false, false] rfl rfl (any_of HT_.out (by kernel_rfl)) (fun _ _ _ h => h) (Or.inl ⟨by rfl, ?_⟩) ?_ ?_
  rotate_left
  · intro w'
    go_simp
    with_reducible rfl
  rotate_left
  · simp only [Act.put, List.setIfInBounds_toArray, List.set_cons_zero, List.set_cons_succ, i64_w, i32_w]
    rfl
  refine pure_ (i := 2) (N := some 27) (v := ?_) (a' := ?_) #[false, true, true, false, false, false, false, false] rfl rfl (any_of HT_.out (by kernel_rfl)) (fun _ _ _ h => h) (Or.inl ⟨by rfl, ?_⟩) ?_ ?_
  rotate_left
  · intro w'
    go_simp
    with_reducible rfl
  rotate_left
  · simp only [Act.put, List.setIfInBounds_toArray, List.set_cons_zero, List.set_cons_succ, i64_w, i32_w]
    rfl
  refine pure_ (i := 3) (N := some 28) (v := ?_) (a' := ?_) #[false, true, true, true, false, false, false, false] rfl rfl (any_of HT_.out (by kernel_rfl)) (fun _ _ _ h => h) (Or.inl ⟨by rfl, ?_⟩) ?_ ?_
  rotate_left
  · intro w'
    go_simp
    with_reducible rfl
  rotate_left
  · simp only [Act.put, List.setIfInBounds_toArray, List.set_cons_zero, List.set_cons_succ, i64_w, i32_w]
    rfl
  refine take_ (i := 0) (N := some 25) (v := ?_) (a' := ?_) #[true, true, true, true, false, false, false, false] rfl rfl (take_ofW HT_.out HW_.out (by kernel_rfl)) (fun _ _ _ h => h) (Or.inl ⟨by rfl, ?_⟩) hHeld ?_ ?_
  rotate_left
  · rintro w' ⟨s0, s1, s2, s3, s4⟩
    go_simp
    with_reducible rfl
  rotate_left
  · simp only [Act.put, List.setIfInBounds_toArray, List.set_cons_zero, List.set_cons_succ, i64_w, i32_w]
    rfl
  refine take_ (i := 4) (N := some 29) (v := ?_) (a' := ?_) #[true, true, true, true, true, false, false, false] rfl rfl (take_ofW HT_.out HW_.out (by kernel_rfl)) (fun _ _ _ h => h) (Or.inl ⟨by rfl, ?_⟩) hHeld ?_ ?_
  rotate_left
  · rintro w' ⟨s0, s1, s2, s3, s4⟩
    go_simp
    with_reducible rfl
  rotate_left
  · simp only [Act.put, List.setIfInBounds_toArray, List.set_cons_zero, List.set_cons_succ, i64_w, i32_w]
    rfl
  refine pure_ (i := 5) (N := some 30) (v := ?_) (a' := ?_) #[true, true, true, true, true, true, false, false] rfl rfl (any_of HT_.out (by kernel_rfl)) (fun _ _ _ h => h) (Or.inl ⟨by rfl, ?_⟩) ?_ ?_
  rotate_left
  · intro w'
    go_simp
    with_reducible rfl
  rotate_left
  · simp only [Act.put, List.setIfInBounds_toArray, List.set_cons_zero, List.set_cons_succ, i64_w, i32_w]
    rfl
  refine one_ (i := 6) (N := some 31) #[true, true, true, true, true, true, true, false] rfl rfl (one_of HT_.out (by kernel_rfl)) (by decide) (fun K hK => ?_)
  refine goes_ Tryd.func11 (by kernel_rfl) rfl #[cellsOf c, .int .i64 KS.length] (by rfl) rfl rfl (by simp only [List.map_toArray, List.map_cons, List.map_nil]; rfl) ?_
  refine (c_ans HE.out c KS.length (by have := HK.out; omega) (by have := HK.out; omega) HS.out HT.out).mono ?_
  rintro e_ w3 ⟨rfl, hp_⟩
  refine ⟨_, rfl, ?_⟩
  clear HE
  have HE := Aside0.mk hp_
  clear hp_
  refine hK.out _ _ ⟨HE.out.cell 1 0 rfl rfl, HE.out.cell 1 1 rfl rfl, HE.out.cell 1 2 rfl rfl, HE.out.cell 1 3 rfl rfl, HE.out.cell 2 1 rfl rfl⟩ (fun hHeld => ?_)
  clear hK K
  refine norm_ (a' := ?_) ?_ ?_
  rotate_left
  · show Act.put _ (some 31) _ = _
    simp only [Act.put, List.setIfInBounds_toArray, List.set_cons_zero, List.set_cons_succ, i64_w, i32_w]
    rfl
  refine pure_ (i := 7) (N := some 8) (v := ?_) (a' := ?_) #[true, true, true, true, true, true, true, true] rfl rfl (any_of HT_.out (by kernel_rfl)) (fun _ _ _ h => h) (Or.inl ⟨by rfl, ?_⟩) ?_ ?_
  rotate_left
  · intro w'
    go_simp
    with_reducible rfl
  rotate_left
  · simp only [Act.put, List.setIfInBounds_toArray, List.set_cons_zero, List.set_cons_succ, i64_w, i32_w]
    rfl
  refine done_ (done_of HT_.out (by kernel_rfl)) ?_
  
  (try clear hHeld)
  go_upto_region 6 with (fail)
  (try clear z_gi_0)
  (try clear z_gi_1)
  (try clear y_gi_0)
  (try clear y_gi_1)
  (try clear z_gc_0)
  (try clear z_gc_1)
  (try clear z_gc_2)
  (try clear z_gc_3)
  (try clear y_gc_0)
  (try clear y_gc_1)
  (try clear y_gc_2)
  (try clear y_gc_3)
  (try clear z_s_0)
  (try clear z_s_1)
  (try clear y_s_0)
  (try clear y_s_1)
  have n_ := Aside0.mk (HE.out.call (below_drew (Below.refl _ _)))
  clear HE
  have HE := n_
  clear n_
  refine start_ (n := 7) (S := fun w' => w'.cell? ⟨s, 0, none⟩ = some (.map (some B)) ∧ w'.cell? ⟨gi, 0, none⟩ = some (.int .i64 c.f0) ∧ w'.cell? ⟨gi, 1, none⟩ = some (.int .i64 c.f1)) (ds := [6]) #[false, false, false, false, false, false, false] (by kernel_rfl) rfl rfl ⟨HE.out.cell 2 0 rfl rfl, HE.out.cell 0 0 rfl rfl, HE.out.cell 0 1 rfl rfl⟩ (fun hHeld => ?_)
  refine with_tabW ask.tab6 ask.bits6 (fun HT_ HW_ => ?_)
  generalize w3.drew = wq6 at HE hHeld ⊢
  refine pure_ (i := 0) (N := some 32) (v := ?_) (a' := ?_) #[true, false, false, false, false, false, false] rfl rfl (any_of HT_.out (by kernel_rfl)) (fun _ _ _ h => h) (Or.inl ⟨by rfl, ?_⟩) ?_ ?_
  rotate_left
  · intro w'
    go_simp
    with_reducible rfl
  rotate_left
  · simp only [Act.put, List.setIfInBounds_toArray, List.set_cons_zero, List.set_cons_succ, i64_w, i32_w]
    rfl
  refine pure_ (i := 1) (N := some 33) (v := ?_) (a' := ?_) #[true, true, false, false, false, false, false] rfl rfl (any_of HT_.out (by kernel_rfl)) (fun _ _ _ h => h) (Or.inl ⟨by rfl, ?_⟩) ?_ ?_
  rotate_left
  · intro w'
    go_simp
    with_reducible rfl
  rotate_left
  · simp only [Act.put, List.setIfInBounds_toArray, List.set_cons_zero, List.set_cons_succ, i64_w, i32_w]
    rfl
  refine pure_ (i := 2) (N := some 34) (v := ?_) (a' := ?_) #[true, true, true, false, false, false, false] rfl rfl (any_of HT_.out (by kernel_rfl)) (fun _ _ _ h => h) (Or.inl ⟨by rfl, ?_⟩) ?_ ?_
  rotate_left
  · intro w'
    go_simp
    with_reducible rfl
  rotate_left
  · simp only [Act.put, List.setIfInBounds_toArray, List.set_cons_zero, List.set_cons_succ, i64_w, i32_w]
    rfl
  refine pure_ (i := 5) (N := some 37) (v := ?_) (a' := ?_) #[true, true, true, false, false, true, false] rfl rfl (any_of HT_.out (by kernel_rfl)) (fun _ _ _ h => h) (Or.inl ⟨by rfl, ?_⟩) ?_ ?_
  rotate_left
  · intro w'
    go_simp
    with_reducible rfl
  rotate_left
  · simp only [Act.put, List.setIfInBounds_toArray, List.set_cons_zero, List.set_cons_succ, i64_w, i32_w]
    rfl
  refine take_ (i := 3) (N := some 35) (v := ?_) (a' := ?_) #[true, true, true, true, false, true, false] rfl rfl (take_ofW HT_.out HW_.out (by kernel_rfl)) (fun _ _ _ h => h) (Or.inl ⟨by rfl, ?_⟩) hHeld ?_ ?_
  rotate_left
  · rintro w' ⟨s0, s1, s2⟩
    go_simp
    with_reducible rfl
  rotate_left
  · simp only [Act.put, List.setIfInBounds_toArray, List.set_cons_zero, List.set_cons_succ, i64_w, i32_w]
    rfl
  refine take_ (i := 4) (N := some 36) (v := ?_) (a' := ?_) #[true, true, true, true, true, true, false] rfl rfl (take_ofW HT_.out HW_.out (by kernel_rfl)) (fun _ _ _ h => h) (Or.inl ⟨by rfl, ?_⟩) hHeld ?_ ?_
  rotate_left
  · rintro w' ⟨s0, s1, s2⟩
    go_simp
    with_reducible rfl
  rotate_left
  · simp only [Act.put, List.setIfInBounds_toArray, List.set_cons_zero, List.set_cons_succ, i64_w, i32_w]
    rfl
  refine last_ (i := 6) (N := none) #[true, true, true, true, true, true, true] rfl rfl (one_of HT_.out (by kernel_rfl)) (by decide) (fun K hK => ?_)
  obtain ⟨o_, hrun_, _, hm_⟩ := (HE.out.map 0 rfl).put (c.f0, c.f1) (ansOf c KS.length) HN.out
  have hrun1_ : (Instr.mapUpdate 42 (.map (some B)) (.agg #[.int .i64 c.f0, .int .i64 c.f1]) (.string (ansOf c KS.length))).run Tryd.prog wq6 = .ok () (wq6.putObj B o_) := hrun_
  refine skip_ (w1 := ?_) (by rfl) rfl ?_ ?_
  rotate_left
  · go_simp
    rfl
  have n_ := Aside0.mk (HE.out.obj rfl hm_)
  clear HE hrun_ hrun1_ hm_
  have HE := n_
  clear n_
  generalize wq6.putObj B o_ = w4 at HE ⊢
  refine hK.out _ _ ?_
  clear hK K
  refine done_ (done_of HT_.out (by kernel_rfl)) ?_
  
  (try clear hHeld)
  go_upto_region 7 with (fail)
  (try clear z_gi_0)
  (try clear z_gi_1)
  (try clear y_gi_0)
  (try clear y_gi_1)
  (try clear z_gc_0)
  (try clear z_gc_1)
  (try clear z_gc_2)
  (try clear z_gc_3)
  (try clear y_gc_0)
  (try clear y_gc_1)
  (try clear y_gc_2)
  (try clear y_gc_3)
  (try clear z_s_0)
  (try clear z_s_1)
  (try clear y_s_0)
  (try clear y_s_1)
  have n_ := Aside0.mk (HE.out.call (below_drew (Below.refl _ _)))
  clear HE
  have HE := n_
  clear n_
  refine start_ (n := 11) (S := fun w' => w'.cell? ⟨gc, 0, none⟩ = some (.int .i64 c.f0) ∧ w'.cell? ⟨gc, 1, none⟩ = some (.int .i64 c.f1) ∧ w'.cell? ⟨gc, 2, none⟩ = some (.string c.f2) ∧ w'.cell? ⟨gc, 3, none⟩ = some (.string c.f3) ∧ w'.cell? ⟨s, 1, none⟩ = some (.slice A KS.length cc)) (ds := [10]) #[false, false, false, false, false, false, false, false, false, false, false] (by kernel_rfl) rfl rfl ⟨HE.out.cell 1 0 rfl rfl, HE.out.cell 1 1 rfl rfl, HE.out.cell 1 2 rfl rfl, HE.out.cell 1 3 rfl rfl, HE.out.cell 2 1 rfl rfl⟩ (fun hHeld => ?_)
  refine with_tabW ask.tab7 ask.bits7 (fun HT_ HW_ => ?_)
  generalize w4.drew = wq7 at HE hHeld ⊢
  refine pure_ (i := 0) (N := some 38) (v := ?_) (a' := ?_) #[true, false, false, false, false, false, false, false, false, false, false] rfl rfl (any_of HT_.out (by kernel_rfl)) (fun _ _ _ h => h) (Or.inl ⟨by rfl, ?_⟩) ?_ ?_
  rotate_left
  · intro w'
    go_simp
    with_reducible rfl
  rotate_left
  · simp only [Act.put, List.setIfInBounds_toArray, List.set_cons_zero, List.set_cons_succ, i64_w, i32_w]
    rfl
  refine pure_ (i := 1) (N := some 39) (v := ?_) (a' := ?_) #[true, true, false, false, false, false, false, false, false, false, false] rfl rfl (any_of HT_.out (by kernel_rfl)) (fun _ _ _ h => h) (Or.inl ⟨by rfl, ?_⟩) ?_ ?_
  rotate_left
  · intro w'
    go_simp
    with_reducible rfl
  rotate_left
  · simp only [Act.put, List.setIfInBounds_toArray, List.set_cons_zero, List.set_cons_succ, i64_w, i32_w]
    rfl
  refine pure_ (i := 2) (N := some 40) (v := ?_) (a' := ?_) #[true, true, true, false, false, false, false, false, false, false, false] rfl rfl (any_of HT_.out (by kernel_rfl)) (fun _ _ _ h => h) (Or.inl ⟨by rfl, ?_⟩) ?_ ?_
  rotate_left
  · intro w'
    go_simp
    with_reducible rfl
  rotate_left
  · simp only [Act.put, List.setIfInBounds_toArray, List.set_cons_zero, List.set_cons_succ, i64_w, i32_w]
    rfl
  refine pure_ (i := 3) (N := some 41) (v := ?_) (a' := ?_) #[true, true, true, true, false, false, false, false, false, false, false] rfl rfl (any_of HT_.out (by kernel_rfl)) (fun _ _ _ h => h) (Or.inl ⟨by rfl, ?_⟩) ?_ ?_
  rotate_left
  · intro w'
    go_simp
    with_reducible rfl
  rotate_left
  · simp only [Act.put, List.setIfInBounds_toArray, List.set_cons_zero, List.set_cons_succ, i64_w, i32_w]
    rfl
  refine take_ (i := 4) (N := some 42) (v := ?_) (a' := ?_) #[true, true, true, true, true, false, false, false, false, false, false] rfl rfl (take_ofW HT_.out HW_.out (by kernel_rfl)) (fun _ _ _ h => h) (Or.inl ⟨by rfl, ?_⟩) hHeld ?_ ?_
  rotate_left
  · rintro w' ⟨s0, s1, s2, s3, s4⟩
    go_simp
    with_reducible rfl
  rotate_left
  · simp only [Act.put, List.setIfInBounds_toArray, List.set_cons_zero, List.set_cons_succ, i64_w, i32_w]
    rfl
  refine take_ (i := 5) (N := some 43) (v := ?_) (a' := ?_) #[true, true, true, true, true, true, false, false, false, false, false] rfl rfl (take_ofW HT_.out HW_.out (by kernel_rfl)) (fun _ _ _ h => h) (Or.inl ⟨by rfl, ?_⟩) hHeld ?_ ?_
  rotate_left
  · rintro w' ⟨s0, s1, s2, s3, s4⟩
    go_simp
    with_reducible rfl
  rotate_left
  · simp only [Act.put, List.setIfInBounds_toArray, List.set_cons_zero, List.set_cons_succ, i64_w, i32_w]
    rfl
  refine one_ (i := 6) (N := some 44) #[true, true, true, true, true, true, true, false, false, false, false] rfl rfl (one_of HT_.out (by kernel_rfl)) (by decide) (fun K hK => ?_)
  refine value_ (w1 := ?_) (v := ?_) (by rfl) rfl ?_ ?_
  rotate_left 2
  · go_simp
    constructor
    · rfl
    · rfl
  refine hK.out _ _ ⟨(World.cell?_alloc_lt _ _ _ (World.block_lt_of_cell? _ _ (HE.out.cell 1 0 rfl rfl))).trans (HE.out.cell 1 0 rfl rfl), (World.cell?_alloc_lt _ _ _ (World.block_lt_of_cell? _ _ (HE.out.cell 1 1 rfl rfl))).trans (HE.out.cell 1 1 rfl rfl), (World.cell?_alloc_lt _ _ _ (World.block_lt_of_cell? _ _ (HE.out.cell 1 2 rfl rfl))).trans (HE.out.cell 1 2 rfl rfl), (World.cell?_alloc_lt _ _ _ (World.block_lt_of_cell? _ _ (HE.out.cell 1 3 rfl rfl))).trans (HE.out.cell 1 3 rfl rfl), (World.cell?_alloc_lt _ _ _ (World.block_lt_of_cell? _ _ (HE.out.cell 2 1 rfl rfl))).trans (HE.out.cell 2 1 rfl rfl)⟩ (fun hHeld => ?_)
  clear hK K
  refine norm_ (a' := ?_) ?_ ?_
  rotate_left
  · show Act.put _ (some 44) _ = _
    simp only [Act.put, List.setIfInBounds_toArray, List.set_cons_zero, List.set_cons_succ, i64_w, i32_w]
    rfl
  refine one_ (i := 7) (N := some 45) #[true, true, true, true, true, true, true, true, false, false, false] rfl rfl (one_of HT_.out (by kernel_rfl)) (by decide) (fun K hK => ?_)
  refine Kd.N_append_step k33 (w0 := w) w.heap.size (by rfl) (.tmp 42) (.tmp 44) 22 33 (.agg #[.int .i64 0, .int .i64 0, .string ⟨#[]⟩, .string ⟨#[]⟩]) 48 rfl Tryd.underlying22 k33info rfl (by decide) (by omega) (.slice A KS.length cc) KS c [.int .i64 c.f0, .int .i64 c.f1, .string c.f2, .string c.f3] (fun k => some k = Value.ownBlock (.slice A KS.length cc) ∨ wq7.heap.size ≤ k) (fun _ => False) rfl rfl (fun _ _ => k33_mk _ _) (fun _ hk => hk.elim) (fun _ hk => .inr hk) (Kd.N_mono (HE.out.rc 0 rfl) (fun _ hk => .inl hk)) HE.out.below HE.out.size (by have := HK.out; omega) ?_
  intro v1 w5 hN hb hg hat
  obtain ⟨A1, n1, c1, rfl⟩ : ∃ A n c, v1 = Value.slice A n c := (Kd.N_slice hN).imp fun A h => ⟨_, h⟩
  have n_ := Aside0.mk (HE.out.growC hN hg hat)
  clear HE hN hb hg hat
  have HE := n_
  clear n_
  refine hK.out _ _ ⟨HE.out.cell 1 0 rfl rfl, HE.out.cell 1 1 rfl rfl, HE.out.cell 1 2 rfl rfl, HE.out.cell 1 3 rfl rfl, HE.out.cell 2 1 rfl rfl⟩ (fun hHeld => ?_)
  clear hK K
  refine norm_ (a' := ?_) ?_ ?_
  rotate_left
  · show Act.put _ (some 45) _ = _
    simp only [Act.put, List.setIfInBounds_toArray, List.set_cons_zero, List.set_cons_succ, i64_w, i32_w]
    rfl
  refine pure_ (i := 8) (N := some 46) (v := ?_) (a' := ?_) #[true, true, true, true, true, true, true, true, true, false, false] rfl rfl (any_of HT_.out (by kernel_rfl)) (fun _ _ _ h => h) (Or.inl ⟨by rfl, ?_⟩) ?_ ?_
  rotate_left
  · intro w'
    go_simp
    with_reducible rfl
  rotate_left
  · simp only [Act.put, List.setIfInBounds_toArray, List.set_cons_zero, List.set_cons_succ, i64_w, i32_w]
    rfl
  refine pure_ (i := 9) (N := some 47) (v := ?_) (a' := ?_) #[true, true, true, true, true, true, true, true, true, true, false] rfl rfl (any_of HT_.out (by kernel_rfl)) (fun _ _ _ h => h) (Or.inl ⟨by rfl, ?_⟩) ?_ ?_
  rotate_left
  · intro w'
    go_simp
    with_reducible rfl
  rotate_left
  · simp only [Act.put, List.setIfInBounds_toArray, List.set_cons_zero, List.set_cons_succ, i64_w, i32_w]
    rfl
  refine last_ (i := 10) (N := none) #[true, true, true, true, true, true, true, true, true, true, true] rfl rfl (one_of HT_.out (by kernel_rfl)) (by decide) (fun K hK => ?_)
  have hc_ : w5.cell? ⟨s, 1, none⟩ = some (.slice A KS.length cc) := HE.out.cell 2 1 rfl rfl
  have hf_ : w5.frozen? ⟨s, 1, none⟩ = false := HE.out.frz 2 1 rfl
  refine skip_ (w1 := ?_) (by rfl) rfl ?_ ?_
  rotate_left
  · go_simp
    rfl
  have n_ := Aside0.mk (HE.out.set 2 rfl 1 (.slice A1 n1 c1))
  clear HE hc_ hf_
  have HE := n_
  clear n_
  refine hK.out _ _ ?_
  clear hK K
  refine done_ (done_of HT_.out (by kernel_rfl)) ?_
  
  (try clear hHeld)
  go_wp2
  go_ret
  exact ⟨rfl, _, HE.out.sub (by repeat (first | exact List.Sublist.refl _ | apply List.Sublist.cons))⟩
end Go.Proofs.YtnekehlghkfbdaaDoor.PAll
