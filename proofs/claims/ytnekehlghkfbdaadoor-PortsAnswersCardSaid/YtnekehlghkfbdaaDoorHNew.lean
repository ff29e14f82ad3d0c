import Derived.Test.YtnekehlghkfbdaaDoorHPv
/- ports.New and ports.Done. -/
namespace Go.Proofs.YtnekehlghkfbdaaDoor.PAll
open Go Go.Proofs Go.RowKit Go.Shelf Go.Proofs.YtnekehlghkfbdaaDoorW.PrintWords Go.Proofs.YtnekehlghkfbdaaDoorW.PrintLast Go.Proofs.YtnekehlghkfbdaaDoorW.PrintMore Go.Proofs.YtnekehlghkfbdaaDoor.Bx
set_option linter.unusedVariables false
set_option linter.unusedSimpArgs false
variable {w W : World} {bs : List Bx} {ms : ML} {cl : CL} {tl : TL} {s B : Nat} {v : Value}
set_option maxHeartbeats 1000000 in
set_option maxRecDepth 100000 in
theorem new_calls (h : Pv w W bs ms cl tl) : Calls Tryd.prog 8 #[] W fun e W' => ∃ s B, e = .returned (.pointer (some ⟨s, 0, none⟩)) ∧ Pv w W' ((s, #[.map (some B), .slice none 0 0], 44) :: bs) ((B, []) :: ms) ((.slice none 0 0, []) :: cl) tl := by
  have HE := Aside0.mk h
  clear h
  have hu44 := Tryd.underlying44
  go_enter Tryd.func8, Tryd.ntmps8
  have hmk : (Instr.makeMap 42 none).run Tryd.prog W = .ok (.map (some W.heap.size)) (W.alloc (.map #[] 0)) := by kernel_rfl
  go_wp2
  go_ret
  have hq : Pv w ((W.alloc (.map #[] 0)).alloc (.cells #[.map (some W.heap.size), .slice none 0 0] 44)) (((W.alloc (.map #[] 0)).heap.size, #[.map (some W.heap.size), .slice none 0 0], 44) :: bs) ((W.heap.size, []) :: ms) ((.slice none 0 0, []) :: cl) tl :=
    (HE.out.mapNew.box rfl (World.alloc_heap_new _ _) (below_alloc (Below.refl _ _) _)).nilC
  have es : (W.alloc (.map #[] 0)).heap.size = W.heap.size + 1 := by simp
  rw [es] at hq
  exact ⟨_, _, rfl, hq⟩
theorem k33info : (Tryd.prog.info? 33).map (fun i => (i.zero, i.size, i.bytes)) = some (some (.agg #[.int .i64 0, .int .i64 0, .string ⟨#[]⟩, .string ⟨#[]⟩]), 4, 48) := by kernel_rfl
set_option maxHeartbeats 1000000 in
set_option maxRecDepth 100000 in
theorem done_calls (i k : Nat) {D : List S33} (h : Pv w W bs ms cl tl) (hi : bs[i]? = some (s, #[.map (some B), v], 44)) (hk : cl[k]? = some (v, D)) (hl : D.length ≤ 1000) :
    Calls Tryd.prog 14 #[.pointer (some ⟨s, 0, none⟩)] W fun e W' => ∃ v', e = .returned v' ∧ Pv w W' bs ms ((v', D) :: cl) tl := by
  obtain ⟨A, c, rfl, hc, hC⟩ := Kd.N_reads (h.rc k hk)
  have hF : Kd.F k33 W (fun _ => True) A D.length D := Kd.F_mono (Kd.N_F (h.rc k hk)) (fun _ _ => trivial)
  have hz := h.cell i 1 hi rfl
  have HE := Aside0.mk h
  have HF := Aside0.mk hF
  have HL := Aside0.mk hl
  clear h hF hl hC hc
  go_enter Tryd.func14, Tryd.ntmps14
  go_wp2_with ((with_reducible refine gate_builtin (b := .append) (xs := #[.const (.slice none 0 0), .tmp 6]) rfl ?_); at_builtin; refine Kd.N_append_rows k33 (w0 := W) W.heap.size rfl (.const (.slice none 0 0)) (.tmp 6) 22 33 (.agg #[.int .i64 0, .int .i64 0, .string ⟨#[]⟩, .string ⟨#[]⟩]) 48 rfl Tryd.underlying22 k33info rfl (by decide) (by omega) (.slice none 0 0) [] D A D.length c (fun _ => True) (fun _ => True) rfl rfl (Kd.N_nil _ _ _ _ _) HF.out (fun k _ => ⟨trivial, by simp [Value.ownBlock]⟩) (fun _ _ => trivial) (Below.refl _ _) (Nat.le_refl _) (by have := HL.out; simp; omega) ?_; intro v1 w1 hN hb hg hat; have hP := Aside0.mk (HE.out.addC HE.out.size hN hb (hat.imp (fun h => by rw [h]; rfl) id)); clear hN hb hg hat)
  go_ret
  exact ⟨_, rfl, by have := hP.out; rwa [List.nil_append] at this⟩
end Go.Proofs.YtnekehlghkfbdaaDoor.PAll
