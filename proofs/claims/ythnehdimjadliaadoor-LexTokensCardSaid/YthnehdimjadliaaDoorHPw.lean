import Derived.Test.YthnehdimjadliaaDoorHText
import Derived.Test.YthnehdimjadliaaDoorEnv
import Derived.Test.YthnehdimjadliaaDoorPAllx11
/- A call's boxes, its maps, its rows of calls and of texts, all in one word. -/
namespace Go.Proofs.YthnehdimjadliaaDoor.PAll
open Go Go.Proofs Go.RowKit Go.Shelf Go.Proofs.YthnehdimjadliaaDoorW.PrintWords Go.Proofs.YthnehdimjadliaaDoorW.PrintLast Go.Proofs.YthnehdimjadliaaDoorW.PrintMore Go.Proofs.YthnehdimjadliaaDoor.Bx
set_option linter.unusedVariables false
set_option linter.unusedSimpArgs false
abbrev CL := List (Value × List S28)
abbrev TL := List (Value × List ByteArray)
theorem Kd.own_of {α : Type} {d : Kd α} (hf : ∀ W W' x c, d.K W x c → d.K W' x c) {e : Nat} {W : World} {base : Nat} {ok : Nat → Prop} {v : Value} {xs : List α} (h : Kd.N d e W base ok v xs) : Kd.N d e W base (fun k => some k = v.ownBlock) v xs := by
  obtain ⟨_, rows, hl, hR, hF⟩ := h
  exact ⟨fun k hk => hk.symm, rows, hl, hR, fun j x c hx hc W' _ => hf _ _ _ _ (Kd.FK_now (hF j x c hx hc))⟩
theorem flat28 (W W' : World) (x : S28) (c : List Value) (h : k28.K W x c) : k28.K W' x c := by
  rw [k28_open h]
  exact k28_mk _ _
theorem flatS (W W' : World) (x : ByteArray) (c : List Value) (h : Kd.string.K W x c) : Kd.string.K W' x c := h
structure Rws {α : Type} (d : Kd α) (e : Nat) (w W : World) (bs : List Bx) (l : List (Value × List α)) : Prop where
  own : ∀ p ∈ l, Kd.N d e W w.heap.size (fun k => some k = p.1.ownBlock) p.1 p.2
  apart : l.Pairwise (fun p q => ∀ k, p.1.ownBlock = some k → q.1.ownBlock ≠ some k)
  off : ∀ p ∈ l, ∀ k, p.1.ownBlock = some k → k ∉ bs.map (·.1)
section
variable {α : Type} {d : Kd α} {e : Nat} {w W W1 : World} {bs bs' : List Bx} {l l' : List (Value × List α)}
theorem Rws.nil : Rws d e w W bs ([] : List (Value × List α)) := ⟨by simp, List.Pairwise.nil, by simp⟩
theorem Rws.lt (h : Rws d e w W bs l) {p : Value × List α} (hp : p ∈ l) {k : Nat} (hk : p.1.ownBlock = some k) : k < W.heap.size := Kd.N_lt (h.own p hp) k hk
theorem Rws.step (h : Rws d e w W bs l) (hm : ∀ p ∈ l, ∀ k, p.1.ownBlock = some k → W1.heap[k]? = W.heap[k]?) (hb : ∀ p ∈ l, ∀ k, p.1.ownBlock = some k → k ∉ bs'.map (·.1)) : Rws d e w W1 bs' l :=
  ⟨fun p hp => Kd.N_step (h.own p hp) (fun k hk _ => hm p hp k hk.symm), h.apart, hb⟩
theorem Rws.call (h : Rws d e w W bs l) (hb : Below W.heap.size W W1) : Rws d e w W1 bs l := h.step (fun p hp k hk => hb.block k (h.lt hp hk)) h.off
theorem Rws.sub (h : Rws d e w W bs l) (hs : l'.Sublist l) : Rws d e w W bs l' := ⟨fun p hp => h.own p (hs.subset hp), h.apart.sublist hs, fun p hp => h.off p (hs.subset hp)⟩
theorem Rws.perm (h : Rws d e w W bs l) (hs : l'.Perm l) : Rws d e w W bs l' :=
  ⟨fun p hp => h.own p (hs.subset hp), (List.Perm.pairwise_iff (fun {a b} hab k hk hk' => hab k hk' hk) hs).2 h.apart, fun p hp => h.off p (hs.subset hp)⟩
theorem Rws.typed (h : Rws d e w W bs l) {p : Value × List α} (hp : p ∈ l) {k : Nat} (hk : p.1.ownBlock = some k) : ∃ cells, W.heap[k]? = some (.cells cells e (0, 0)) := Kd.N_typed (h.own p hp) k hk
theorem Rws.base (h : Rws d e w W bs l) {p : Value × List α} (hp : p ∈ l) {k : Nat} (hk : p.1.ownBlock = some k) : w.heap.size ≤ k := Kd.N_base (h.own p hp) k hk
/-- Another row of this call has grown. -/
theorem Rws.grown (h : Rws d e w W bs l) {row : Option Nat} (hg : W.grownBy W1 row) (hr : ∀ p ∈ l, ∀ k, p.1.ownBlock = some k → row ≠ some k) : Rws d e w W1 bs l :=
  h.step (fun p hp k hk => hg.block k (h.lt hp hk) (fun e => hr p hp k hk e.symm)) h.off
/-- The head has grown. -/
theorem Rws.head {v v1 : Value} {xs ys : List α} (hf : ∀ W W' x c, d.K W x c → d.K W' x c) (h : Rws d e w W bs ((v, xs) :: l)) (he : ∀ b ∈ bs, b.1 < W.heap.size) {ok : Nat → Prop} (hN : Kd.N d e W1 w.heap.size ok v1 ys) (hg : W.grownBy W1 v.ownBlock) (hat : v1.ownBlock = v.ownBlock ∨ ∃ b, v1.ownBlock = some b ∧ W.heap.size ≤ b) : Rws d e w W1 bs ((v1, ys) :: l) := by
  have ht : Rws d e w W1 bs l := by
    refine (h.sub (List.sublist_cons_self _ _)).grown hg (fun p hp k hk e => ?_)
    exact (List.pairwise_cons.1 h.apart).1 p hp k e hk
  refine ⟨fun p hp => ?_, List.pairwise_cons.2 ⟨fun p hp k hk hk' => ?_, ht.apart⟩, fun p hp k hk => ?_⟩
  · rcases List.mem_cons.1 hp with rfl | hp
    · exact Kd.own_of hf hN
    · exact ht.own p hp
  · rcases hat with hat | ⟨b, hb, hle⟩
    · exact (List.pairwise_cons.1 h.apart).1 p hp k (hat ▸ hk) hk'
    · rw [hb] at hk
      injection hk with hk
      have := h.lt (List.mem_cons_of_mem _ hp) hk'
      omega
  · rcases List.mem_cons.1 hp with rfl | hp
    · rcases hat with hat | ⟨b, hb, hle⟩
      · exact h.off (v, xs) (by simp) k (hat ▸ hk)
      · intro hm
        obtain ⟨q, hq, rfl⟩ := List.mem_map.1 hm
        have hlt := he q hq
        simp only [hb, Option.some.injEq] at hk
        omega
    · exact ht.off p hp k hk
/-- A row that was made just now. -/
theorem Rws.add {v1 : Value} {ys : List α} (hf : ∀ W W' x c, d.K W x c → d.K W' x c) (h : Rws d e w W bs l) (he : ∀ b ∈ bs, b.1 < W.heap.size) {ok : Nat → Prop} {base : Nat} (hbase : w.heap.size ≤ base) (hN : Kd.N d e W1 base ok v1 ys) (hb : Below W.heap.size W W1) (hat : v1.ownBlock = none ∨ ∃ b, v1.ownBlock = some b ∧ W.heap.size ≤ b) : Rws d e w W1 bs ((v1, ys) :: l) := by
  have ht := h.call hb
  refine ⟨fun p hp => ?_, List.pairwise_cons.2 ⟨fun p hp k hk hk' => ?_, ht.apart⟩, fun p hp k hk => ?_⟩
  · rcases List.mem_cons.1 hp with rfl | hp
    · exact Kd.N_lower (Kd.own_of hf hN) hbase
    · exact ht.own p hp
  · rcases hat with hat | ⟨b, hb', hle⟩
    · rw [hat] at hk; cases hk
    · rw [hb'] at hk
      injection hk with hk
      have := h.lt hp hk'
      omega
  · rcases List.mem_cons.1 hp with rfl | hp
    · rcases hat with hat | ⟨b, hb', hle⟩
      · simp only [hat] at hk; cases hk
      · intro hm
        obtain ⟨q, hq, rfl⟩ := List.mem_map.1 hm
        have hlt := he q hq
        simp only [hb', Option.some.injEq] at hk
        omega
    · exact ht.off p hp k hk
end
structure Pw (w W : World) (bs : List Bx) (cl : CL) (tl : TL) : Prop where
  env : Env w W bs
  cs : Rws k28 28 w W bs cl
  ts : Rws Kd.string 9 w W bs tl
section
variable {w W W1 : World} {bs : List Bx} {cl : CL} {tl : TL} {g j i : Nat} {cs : Array Value} {t : TypeId} {v : Value}
theorem Pw.start (w : World) : Pw w w [] [] [] := ⟨Env.start w, Rws.nil, Rws.nil⟩
theorem Pw.below (h : Pw w W bs cl tl) : Below w.heap.size w W := h.env.below
theorem Pw.size (h : Pw w W bs cl tl) : w.heap.size ≤ W.heap.size := h.env.size
theorem Pw.at (h : Pw w W bs cl tl) (i : Nat) (hi : bs[i]? = some (g, cs, t)) : w.heap.size ≤ g ∧ W.heap[g]? = some (.cells cs t (0, 0)) := h.env.at i hi
theorem Pw.cell (h : Pw w W bs cl tl) (i j : Nat) (hi : bs[i]? = some (g, cs, t)) (hj : cs[j]? = some v) : W.cell? ⟨g, j, none⟩ = some v := h.env.cell i j hi hj
theorem Pw.frz (h : Pw w W bs cl tl) (i j : Nat) (hi : bs[i]? = some (g, cs, t)) : W.frozen? ⟨g, j, none⟩ = false := h.env.frz i j hi
theorem Pw.old (h : Pw w W bs cl tl) {a : Addr} (hc : w.cell? a = some v) : W.cell? a = some v := h.env.old hc
theorem Pw.load (h : Pw w W bs cl tl) {P : Program} (i : Nat) (hi : bs[i]? = some (g, cs, t)) (ty off : Nat) {d : TypeDesc} (hu : P.underlying ty = some d) (hd : d.isRow = true) (vs : List Value) (hn : (P.info? ty).map (·.size) = some vs.length) (hv : (cs.toList.drop off).take vs.length = vs) :
    (Instr.loadAt ty (.pointer (some ⟨g, off, none⟩))).run P W = .ok (.agg vs.toArray) W := h.env.load i hi ty off hu hd vs hn hv
theorem Pw.call (h : Pw w W bs cl tl) (hb : Below W.heap.size W W1) : Pw w W1 bs cl tl :=
  ⟨h.env.call hb, h.cs.call hb, h.ts.call hb⟩
theorem Pw.box (h : Pw w W bs cl tl) (hg : g = W.heap.size) (hx : W1.heap[g]? = some (.cells cs t (0, 0))) (hb : Below W.heap.size W W1) : Pw w W1 ((g, cs, t) :: bs) cl tl := by
  have hc := h.call hb
  refine ⟨h.env.box hg hx hb, ⟨hc.cs.own, hc.cs.apart, fun p hp k hk hm => ?_⟩, ⟨hc.ts.own, hc.ts.apart, fun p hp k hk hm => ?_⟩⟩
  · simp only [List.map_cons, List.mem_cons] at hm
    rcases hm with hm | hm
    · have := h.cs.lt hp hk; omega
    · exact h.cs.off p hp k hk hm
  · simp only [List.map_cons, List.mem_cons] at hm
    rcases hm with hm | hm
    · have := h.ts.lt hp hk; omega
    · exact h.ts.off p hp k hk hm
theorem Pw.turn (h : Pw w W bs cl tl) {bs' : List Bx} (he : Env w W1 bs') (hm : bs'.map (·.1) = bs.map (·.1)) {g : Nat} (hg : g ∈ bs.map (·.1)) (hk : ∀ k, k ≠ g → W1.heap[k]? = W.heap[k]?) : Pw w W1 bs' cl tl :=
  ⟨he, h.cs.step (fun p hp k hb => hk k (fun e => h.cs.off p hp k hb (e ▸ hg))) (fun p hp k hb => hm ▸ h.cs.off p hp k hb), h.ts.step (fun p hp k hb => hk k (fun e => h.ts.off p hp k hb (e ▸ hg))) (fun p hp k hb => hm ▸ h.ts.off p hp k hb)⟩
theorem Pw.set (h : Pw w W bs cl tl) (i : Nat) (hi : bs[i]? = some (g, cs, t)) (j : Nat) (v : Value) : Pw w (W.setCell ⟨g, j, none⟩ v) (bs.set i (g, cs.setIfInBounds j v, t)) cl tl :=
  h.turn (h.env.set i hi j v) (set_fst bs i g (cs, t) (cs.setIfInBounds j v, t) hi) (List.mem_map.2 ⟨_, List.mem_of_getElem? hi, rfl⟩) (fun k hk => Below.heap_setCell W ⟨g, j, none⟩ v k hk)
theorem Pw.row (h : Pw w W bs cl tl) (i : Nat) (hi : bs[i]? = some (g, cs, t)) (cs' : Array Value) : Pw w (W.setRow g cs') (bs.set i (g, cs', t)) cl tl :=
  h.turn (h.env.row i hi cs') (set_fst bs i g (cs, t) (cs', t) hi) (List.mem_map.2 ⟨_, List.mem_of_getElem? hi, rfl⟩) (fun k hk => setRow_other W g k cs' hk)
theorem Pw.sub (h : Pw w W bs cl tl) {bs' : List Bx} (hs : bs'.Sublist bs) : Pw w W bs' cl tl :=
  have ha : ∀ k, k ∉ bs.map (·.1) → k ∉ bs'.map (·.1) := fun k hk hm => hk ((hs.map _).subset hm)
  ⟨h.env.sub hs, ⟨h.cs.own, h.cs.apart, fun p hp k hk => ha k (h.cs.off p hp k hk)⟩, ⟨h.ts.own, h.ts.apart, fun p hp k hk => ha k (h.ts.off p hp k hk)⟩⟩
theorem Pw.perm (h : Pw w W bs cl tl) {bs' : List Bx} (hs : bs'.Perm bs) : Pw w W bs' cl tl :=
  have ha : ∀ k, k ∉ bs.map (·.1) → k ∉ bs'.map (·.1) := fun k hk hm => hk ((hs.map _).subset hm)
  ⟨⟨h.env.below, fun b hb => h.env.blk b (hs.subset hb), (hs.map _).nodup_iff.2 h.env.nd⟩, ⟨h.cs.own, h.cs.apart, fun p hp k hk => ha k (h.cs.off p hp k hk)⟩, ⟨h.ts.own, h.ts.apart, fun p hp k hk => ha k (h.ts.off p hp k hk)⟩⟩
theorem Pw.rows (h : Pw w W bs cl tl) {cl' : CL} {tl' : TL} (hc : cl'.Perm cl) (ht : tl'.Perm tl) : Pw w W bs cl' tl' := ⟨h.env, h.cs.perm hc, h.ts.perm ht⟩
theorem Pw.less (h : Pw w W bs cl tl) {cl' : CL} {tl' : TL} (hc : cl'.Sublist cl) (ht : tl'.Sublist tl) : Pw w W bs cl' tl' := ⟨h.env, h.cs.sub hc, h.ts.sub ht⟩
theorem Env.grow (h : Env w W bs) {row : Option Nat} (hg : W.grownBy W1 row) (hr : ∀ r, row = some r → w.heap.size ≤ r ∧ r ∉ bs.map (·.1)) : Env w W1 bs :=
  ⟨h.below.grown hg h.size (fun k e => (hr k e).1), fun b hm => ⟨(h.blk b hm).1, (hg.block b.1 (h.mem hm) (fun e => (hr b.1 e.symm).2 (List.mem_map.2 ⟨b, hm, rfl⟩))).trans (h.blk b hm).2⟩, h.nd⟩
/-- The first row of calls has grown. -/
theorem Pw.growC {xs : List S28} (h : Pw w W bs ((v, xs) :: cl) tl) {v1 : Value} {ys : List S28} {ok : Nat → Prop} (hN : Kd.N k28 28 W1 w.heap.size ok v1 ys) (hg : W.grownBy W1 v.ownBlock) (hat : v1.ownBlock = v.ownBlock ∨ ∃ b, v1.ownBlock = some b ∧ W.heap.size ≤ b) : Pw w W1 bs ((v1, ys) :: cl) tl := by
  have he := Env.grow h.env hg (fun r e => ⟨h.cs.base (p := (v, xs)) (by simp) e, h.cs.off (v, xs) (by simp) r e⟩)
  refine ⟨he, h.cs.head flat28 (fun b hb => h.env.mem hb) hN hg hat, h.ts.grown hg (fun p hp k hk e => ?_)⟩
  obtain ⟨c1, h1⟩ := h.ts.typed hp hk
  obtain ⟨c2, h2⟩ := h.cs.typed (p := (v, xs)) (by simp) e
  rw [h1] at h2
  simp at h2
/-- The first row of texts has grown. -/
theorem Pw.growT {xs : List ByteArray} (h : Pw w W bs cl ((v, xs) :: tl)) {v1 : Value} {ys : List ByteArray} {ok : Nat → Prop} (hN : Kd.N Kd.string 9 W1 w.heap.size ok v1 ys) (hg : W.grownBy W1 v.ownBlock) (hat : v1.ownBlock = v.ownBlock ∨ ∃ b, v1.ownBlock = some b ∧ W.heap.size ≤ b) : Pw w W1 bs cl ((v1, ys) :: tl) := by
  have he := Env.grow h.env hg (fun r e => ⟨h.ts.base (p := (v, xs)) (by simp) e, h.ts.off (v, xs) (by simp) r e⟩)
  refine ⟨he, h.cs.grown hg (fun p hp k hk e => ?_), h.ts.head flatS (fun b hb => h.env.mem hb) hN hg hat⟩
  obtain ⟨c1, h1⟩ := h.cs.typed hp hk
  obtain ⟨c2, h2⟩ := h.ts.typed (p := (v, xs)) (by simp) e
  rw [h1] at h2
  simp at h2
theorem Pw.addC (h : Pw w W bs cl tl) {v1 : Value} {ys : List S28} {ok : Nat → Prop} {base : Nat} (hbase : w.heap.size ≤ base) (hN : Kd.N k28 28 W1 base ok v1 ys) (hb : Below W.heap.size W W1) (hat : v1.ownBlock = none ∨ ∃ b, v1.ownBlock = some b ∧ W.heap.size ≤ b) : Pw w W1 bs ((v1, ys) :: cl) tl :=
  have hc := h.call hb
  ⟨hc.env, h.cs.add flat28 (fun b hb => h.env.mem hb) hbase hN hb hat, hc.ts⟩
theorem Pw.nilC (h : Pw w W bs cl tl) : Pw w W bs ((.slice none 0 0, []) :: cl) tl :=
  h.addC (Nat.le_refl _) (Kd.N_nil k28 28 W w.heap.size (fun _ => True)) (Below.refl _ _) (.inl rfl)
theorem Pw.nilT (h : Pw w W bs cl tl) : Pw w W bs cl ((.slice none 0 0, []) :: tl) :=
  ⟨h.env, h.cs, h.ts.add flatS (fun b hb => h.env.mem hb) (Nat.le_refl _) (Kd.N_nil Kd.string 9 W w.heap.size (fun _ => True)) (Below.refl _ _) (.inl rfl)⟩
theorem Pw.rc (h : Pw w W bs cl tl) (i : Nat) {xs : List S28} (hi : cl[i]? = some (v, xs)) : Kd.N k28 28 W w.heap.size (fun k => some k = v.ownBlock) v xs := h.cs.own _ (List.mem_of_getElem? hi)
theorem Pw.rt (h : Pw w W bs cl tl) (i : Nat) {xs : List ByteArray} (hi : tl[i]? = some (v, xs)) : Kd.N Kd.string 9 W w.heap.size (fun k => some k = v.ownBlock) v xs := h.ts.own _ (List.mem_of_getElem? hi)
end
end Go.Proofs.YthnehdimjadliaaDoor.PAll
