import Derived.Test.YtnekehlghkfbdaaDoorHMp
/- A call's boxes, its maps, its rows of calls and of texts, all in one word. -/
namespace Go.Proofs.YtnekehlghkfbdaaDoor.PAll
open Go Go.Proofs Go.RowKit Go.Shelf Go.Proofs.YtnekehlghkfbdaaDoorW.PrintWords Go.Proofs.YtnekehlghkfbdaaDoorW.PrintLast Go.Proofs.YtnekehlghkfbdaaDoorW.PrintMore Go.Proofs.YtnekehlghkfbdaaDoor.Bx
set_option linter.unusedVariables false
set_option linter.unusedSimpArgs false
abbrev ML := List (Nat × KL)
abbrev CL := List (Value × List S33)
abbrev TL := List (Value × List ByteArray)
theorem Kd.own_of {α : Type} {d : Kd α} (hf : ∀ W W' x c, d.K W x c → d.K W' x c) {e : Nat} {W : World} {base : Nat} {ok : Nat → Prop} {v : Value} {xs : List α} (h : Kd.N d e W base ok v xs) : Kd.N d e W base (fun k => some k = v.ownBlock) v xs := by
  obtain ⟨_, rows, hl, hR, hF⟩ := h
  exact ⟨fun k hk => hk.symm, rows, hl, hR, fun j x c hx hc W' _ => hf _ _ _ _ (Kd.FK_now (hF j x c hx hc))⟩
theorem flat33 (W W' : World) (x : S33) (c : List Value) (h : k33.K W x c) : k33.K W' x c := by
  rw [k33_open h]
  exact k33_mk _ _
theorem flatS (W W' : World) (x : ByteArray) (c : List Value) (h : Kd.string.K W x c) : Kd.string.K W' x c := h
structure Rws {α : Type} (d : Kd α) (e : Nat) (w W : World) (bs : List Bx) (l : List (Value × List α)) : Prop where
  own : ∀ p ∈ l, Kd.N d e W w.heap.size (fun k => some k = p.1.ownBlock) p.1 p.2
  apart : l.Pairwise (fun p q => ∀ k, p.1.ownBlock = some k → q.1.ownBlock ≠ some k)
  off : ∀ p ∈ l, ∀ k, p.1.ownBlock = some k → k ∉ bs.map (·.1)
section
variable {α : Type} {d : Kd α} {e : Nat} {w W W1 : World} {bs bs' : List Bx} {l l' : List (Value × List α)}
theorem Rws.nil : Rws d e w W bs ([] : List (Value × List α)) := ⟨by simp, List.Pairwise.nil, by simp⟩
theorem Rws.lt (h : Rws d e w W bs l) {p : Value × List α} (hp : p ∈ l) {k : Nat} (hk : p.1.ownBlock = some k) : k < W.heap.size := Kd.N_lt (h.own p hp) k hk
theorem Rws.step (h : Rws d e w W bs l) (hm : ∀ p ∈ l, ∀ k, p.1.ownBlock = some k → W1.heap[k]? = W.heap[k]?) (hb : ∀ p ∈ l, ∀ k, p.1.ownBlock = some k → k ∉ bs'.map (·.1)) : Rws d e w W1 bs' l :=
  ⟨fun p hp => Kd.N_step (h.own p hp) (fun k hk _ => hm p hp k hk.symm), h.apart, hb⟩
theorem Rws.call (h : Rws d e w W bs l) (hb : Below W.heap.size W W1) : Rws d e w W1 bs l := h.step (fun p hp k hk => hb.block k (h.lt hp hk)) h.off
theorem Rws.sub (h : Rws d e w W bs l) (hs : l'.Sublist l) : Rws d e w W bs l' := ⟨fun p hp => h.own p (hs.subset hp), h.apart.sublist hs, fun p hp => h.off p (hs.subset hp)⟩
theorem Rws.perm (h : Rws d e w W bs l) (hs : l'.Perm l) : Rws d e w W bs l' :=
  ⟨fun p hp => h.own p (hs.subset hp), (List.Perm.pairwise_iff (fun {a b} hab k hk hk' => hab k hk' hk) hs).2 h.apart, fun p hp => h.off p (hs.subset hp)⟩
theorem Rws.typed (h : Rws d e w W bs l) {p : Value × List α} (hp : p ∈ l) {k : Nat} (hk : p.1.ownBlock = some k) : ∃ cells, W.heap[k]? = some (.cells cells e (0, 0)) := Kd.N_typed (h.own p hp) k hk
theorem Rws.base (h : Rws d e w W bs l) {p : Value × List α} (hp : p ∈ l) {k : Nat} (hk : p.1.ownBlock = some k) : w.heap.size ≤ k := Kd.N_base (h.own p hp) k hk
/-- Another row of this call has grown. -/
theorem Rws.grown (h : Rws d e w W bs l) {row : Option Nat} (hg : W.grownBy W1 row) (hr : ∀ p ∈ l, ∀ k, p.1.ownBlock = some k → row ≠ some k) : Rws d e w W1 bs l :=
  h.step (fun p hp k hk => hg.block k (h.lt hp hk) (fun e => hr p hp k hk e.symm)) h.off
/-- The head has grown. -/
theorem Rws.head {v v1 : Value} {xs ys : List α} (hf : ∀ W W' x c, d.K W x c → d.K W' x c) (h : Rws d e w W bs ((v, xs) :: l)) (he : ∀ b ∈ bs, b.1 < W.heap.size) {ok : Nat → Prop} (hN : Kd.N d e W1 w.heap.size ok v1 ys) (hg : W.grownBy W1 v.ownBlock) (hat : v1.ownBlock = v.ownBlock ∨ ∃ b, v1.ownBlock = some b ∧ W.heap.size ≤ b) : Rws d e w W1 bs ((v1, ys) :: l) := by
  have ht : Rws d e w W1 bs l := by
    refine (h.sub (List.sublist_cons_self _ _)).grown hg (fun p hp k hk e => ?_)
    exact (List.pairwise_cons.1 h.apart).1 p hp k e hk
  refine ⟨fun p hp => ?_, List.pairwise_cons.2 ⟨fun p hp k hk hk' => ?_, ht.apart⟩, fun p hp k hk => ?_⟩
  · rcases List.mem_cons.1 hp with rfl | hp
    · exact Kd.own_of hf hN
    · exact ht.own p hp
  · rcases hat with hat | ⟨b, hb, hle⟩
    · exact (List.pairwise_cons.1 h.apart).1 p hp k (hat ▸ hk) hk'
    · rw [hb] at hk
      injection hk with hk
      have := h.lt (List.mem_cons_of_mem _ hp) hk'
      omega
  · rcases List.mem_cons.1 hp with rfl | hp
    · rcases hat with hat | ⟨b, hb, hle⟩
      · exact h.off (v, xs) (by simp) k (hat ▸ hk)
      · intro hm
        obtain ⟨q, hq, rfl⟩ := List.mem_map.1 hm
        have hlt := he q hq
        simp only [hb, Option.some.injEq] at hk
        omega
    · exact ht.off p hp k hk
/-- A row that was made just now. -/
theorem Rws.add {v1 : Value} {ys : List α} (hf : ∀ W W' x c, d.K W x c → d.K W' x c) (h : Rws d e w W bs l) (he : ∀ b ∈ bs, b.1 < W.heap.size) {ok : Nat → Prop} {base : Nat} (hbase : w.heap.size ≤ base) (hN : Kd.N d e W1 base ok v1 ys) (hb : Below W.heap.size W W1) (hat : v1.ownBlock = none ∨ ∃ b, v1.ownBlock = some b ∧ W.heap.size ≤ b) : Rws d e w W1 bs ((v1, ys) :: l) := by
  have ht := h.call hb
  refine ⟨fun p hp => ?_, List.pairwise_cons.2 ⟨fun p hp k hk hk' => ?_, ht.apart⟩, fun p hp k hk => ?_⟩
  · rcases List.mem_cons.1 hp with rfl | hp
    · exact Kd.N_lower (Kd.own_of hf hN) hbase
    · exact ht.own p hp
  · rcases hat with hat | ⟨b, hb', hle⟩
    · rw [hat] at hk; cases hk
    · rw [hb'] at hk
      injection hk with hk
      have := h.lt hp hk'
      omega
  · rcases List.mem_cons.1 hp with rfl | hp
    · rcases hat with hat | ⟨b, hb', hle⟩
      · simp only [hat] at hk; cases hk
      · intro hm
        obtain ⟨q, hq, rfl⟩ := List.mem_map.1 hm
        have hlt := he q hq
        simp only [hb', Option.some.injEq] at hk
        omega
    · exact ht.off p hp k hk
end
structure Pv (w W : World) (bs : List Bx) (ms : ML) (cl : CL) (tl : TL) : Prop where
  env : Env w W bs
  mp : ∀ p ∈ ms, w.heap.size ≤ p.1 ∧ MapC W p.1 p.2
  mnd : (ms.map (·.1)).Nodup
  cs : Rws k33 33 w W bs cl
  ts : Rws Kd.string 9 w W bs tl
section
variable {w W W1 : World} {bs : List Bx} {ms : ML} {cl : CL} {tl : TL} {g j i : Nat} {cs : Array Value} {t : TypeId} {v : Value}
theorem Pv.start (w : World) : Pv w w [] [] [] [] := ⟨Env.start w, by simp, by simp, Rws.nil, Rws.nil⟩
theorem Pv.below (h : Pv w W bs ms cl tl) : Below w.heap.size w W := h.env.below
theorem Pv.size (h : Pv w W bs ms cl tl) : w.heap.size ≤ W.heap.size := h.env.size
theorem Pv.at (h : Pv w W bs ms cl tl) (i : Nat) (hi : bs[i]? = some (g, cs, t)) : w.heap.size ≤ g ∧ W.heap[g]? = some (.cells cs t (0, 0)) := h.env.at i hi
theorem Pv.cell (h : Pv w W bs ms cl tl) (i j : Nat) (hi : bs[i]? = some (g, cs, t)) (hj : cs[j]? = some v) : W.cell? ⟨g, j, none⟩ = some v := h.env.cell i j hi hj
theorem Pv.frz (h : Pv w W bs ms cl tl) (i j : Nat) (hi : bs[i]? = some (g, cs, t)) : W.frozen? ⟨g, j, none⟩ = false := h.env.frz i j hi
theorem Pv.old (h : Pv w W bs ms cl tl) {a : Addr} (hc : w.cell? a = some v) : W.cell? a = some v := h.env.old hc
theorem Pv.load (h : Pv w W bs ms cl tl) {P : Program} (i : Nat) (hi : bs[i]? = some (g, cs, t)) (ty off : Nat) {d : TypeDesc} (hu : P.underlying ty = some d) (hd : d.isRow = true) (vs : List Value) (hn : (P.info? ty).map (·.size) = some vs.length) (hv : (cs.toList.drop off).take vs.length = vs) :
    (Instr.loadAt ty (.pointer (some ⟨g, off, none⟩))).run P W = .ok (.agg vs.toArray) W := h.env.load i hi ty off hu hd vs hn hv
theorem Pv.call (h : Pv w W bs ms cl tl) (hb : Below W.heap.size W W1) : Pv w W1 bs ms cl tl :=
  ⟨h.env.call hb, fun p hp => ⟨(h.mp p hp).1, (h.mp p hp).2.block (hb.block p.1 (h.mp p hp).2.lt)⟩, h.mnd, h.cs.call hb, h.ts.call hb⟩
theorem Pv.box (h : Pv w W bs ms cl tl) (hg : g = W.heap.size) (hx : W1.heap[g]? = some (.cells cs t (0, 0))) (hb : Below W.heap.size W W1) : Pv w W1 ((g, cs, t) :: bs) ms cl tl := by
  have hc := h.call hb
  refine ⟨h.env.box hg hx hb, hc.mp, h.mnd, ⟨hc.cs.own, hc.cs.apart, fun p hp k hk hm => ?_⟩, ⟨hc.ts.own, hc.ts.apart, fun p hp k hk hm => ?_⟩⟩
  · simp only [List.map_cons, List.mem_cons] at hm
    rcases hm with hm | hm
    · have := h.cs.lt hp hk; omega
    · exact h.cs.off p hp k hk hm
  · simp only [List.map_cons, List.mem_cons] at hm
    rcases hm with hm | hm
    · have := h.ts.lt hp hk; omega
    · exact h.ts.off p hp k hk hm
theorem Pv.turn (h : Pv w W bs ms cl tl) {bs' : List Bx} (he : Env w W1 bs') (hm : bs'.map (·.1) = bs.map (·.1)) {g : Nat} (hg : g ∈ bs.map (·.1)) (hk : ∀ k, k ≠ g → W1.heap[k]? = W.heap[k]?) : Pv w W1 bs' ms cl tl := by
  refine ⟨he, fun p hp => ⟨(h.mp p hp).1, (h.mp p hp).2.block (hk _ (fun e => ?_))⟩, h.mnd, h.cs.step (fun p hp k hb => hk k (fun e => h.cs.off p hp k hb (e ▸ hg))) (fun p hp k hb => hm ▸ h.cs.off p hp k hb), h.ts.step (fun p hp k hb => hk k (fun e => h.ts.off p hp k hb (e ▸ hg))) (fun p hp k hb => hm ▸ h.ts.off p hp k hb)⟩
  obtain ⟨b, hb, e'⟩ := List.mem_map.1 hg
  exact (h.mp p hp).2.ne (h.env.blk b hb).2 (e.trans e'.symm)
theorem Pv.set (h : Pv w W bs ms cl tl) (i : Nat) (hi : bs[i]? = some (g, cs, t)) (j : Nat) (v : Value) : Pv w (W.setCell ⟨g, j, none⟩ v) (bs.set i (g, cs.setIfInBounds j v, t)) ms cl tl :=
  h.turn (h.env.set i hi j v) (set_fst bs i g (cs, t) (cs.setIfInBounds j v, t) hi) (List.mem_map.2 ⟨_, List.mem_of_getElem? hi, rfl⟩) (fun k hk => Below.heap_setCell W ⟨g, j, none⟩ v k hk)
theorem Pv.row (h : Pv w W bs ms cl tl) (i : Nat) (hi : bs[i]? = some (g, cs, t)) (cs' : Array Value) : Pv w (W.setRow g cs') (bs.set i (g, cs', t)) ms cl tl :=
  h.turn (h.env.row i hi cs') (set_fst bs i g (cs, t) (cs', t) hi) (List.mem_map.2 ⟨_, List.mem_of_getElem? hi, rfl⟩) (fun k hk => setRow_other W g k cs' hk)
theorem Pv.sub (h : Pv w W bs ms cl tl) {bs' : List Bx} (hs : bs'.Sublist bs) : Pv w W bs' ms cl tl :=
  have ha : ∀ k, k ∉ bs.map (·.1) → k ∉ bs'.map (·.1) := fun k hk hm => hk ((hs.map _).subset hm)
  ⟨h.env.sub hs, h.mp, h.mnd, ⟨h.cs.own, h.cs.apart, fun p hp k hk => ha k (h.cs.off p hp k hk)⟩, ⟨h.ts.own, h.ts.apart, fun p hp k hk => ha k (h.ts.off p hp k hk)⟩⟩
theorem Pv.perm (h : Pv w W bs ms cl tl) {bs' : List Bx} (hs : bs'.Perm bs) : Pv w W bs' ms cl tl :=
  have ha : ∀ k, k ∉ bs.map (·.1) → k ∉ bs'.map (·.1) := fun k hk hm => hk ((hs.map _).subset hm)
  ⟨⟨h.env.below, fun b hb => h.env.blk b (hs.subset hb), (hs.map _).nodup_iff.2 h.env.nd⟩, h.mp, h.mnd, ⟨h.cs.own, h.cs.apart, fun p hp k hk => ha k (h.cs.off p hp k hk)⟩, ⟨h.ts.own, h.ts.apart, fun p hp k hk => ha k (h.ts.off p hp k hk)⟩⟩
theorem Pv.rows (h : Pv w W bs ms cl tl) {cl' : CL} {tl' : TL} (hc : cl'.Perm cl) (ht : tl'.Perm tl) : Pv w W bs ms cl' tl' := ⟨h.env, h.mp, h.mnd, h.cs.perm hc, h.ts.perm ht⟩
theorem Pv.less (h : Pv w W bs ms cl tl) {cl' : CL} {tl' : TL} (hc : cl'.Sublist cl) (ht : tl'.Sublist tl) : Pv w W bs ms cl' tl' := ⟨h.env, h.mp, h.mnd, h.cs.sub hc, h.ts.sub ht⟩
/-- A map is put into. -/
theorem Pv.obj (h : Pv w W bs ms cl tl) {B : Nat} {L L' : KL} {ms' : ML} (hm : ms = (B, L) :: ms') {o : Obj} (ho : MapC (W.putObj B o) B L') : Pv w (W.putObj B o) bs ((B, L') :: ms') cl tl := by
  subst hm
  have hB := h.mp (B, L) (by simp)
  have hk : ∀ k, k ≠ B → (W.putObj B o).heap[k]? = W.heap[k]? := fun k hk => World.putObj_heap_other hk
  obtain ⟨ob, hob, hc⟩ := hB.2.obj
  have hne : ∀ k cells e q, W.heap[k]? = some (.cells cells e q) → k ≠ B := fun k cells e q h1 e1 => hB.2.ne h1 e1.symm
  refine ⟨h.env.obj hB.1 hob hc o, fun p hp => ?_, h.mnd, h.cs.step (fun p hp k hb => ?_) h.cs.off, h.ts.step (fun p hp k hb => ?_) h.ts.off⟩
  · rcases List.mem_cons.1 hp with rfl | hp
    · exact ⟨hB.1, ho⟩
    · have hp' := h.mp p (List.mem_cons_of_mem _ hp)
      refine ⟨hp'.1, hp'.2.block (hk _ (fun e => ?_))⟩
      have := (List.nodup_cons.1 h.mnd).1
      exact this (List.mem_map.2 ⟨p, hp, e⟩)
  · obtain ⟨cells, h1⟩ := h.cs.typed hp hb
    exact hk k (hne k _ _ _ h1)
  · obtain ⟨cells, h1⟩ := h.ts.typed hp hb
    exact hk k (hne k _ _ _ h1)
/-- A map is made. -/
theorem Pv.mapNew (h : Pv w W bs ms cl tl) : Pv w (W.alloc (.map #[] 0)) bs ((W.heap.size, []) :: ms) cl tl := by
  have hc := h.call (below_alloc (Below.refl _ W) (.map #[] 0))
  refine ⟨hc.env, fun p hp => ?_, List.nodup_cons.2 ⟨fun hm => ?_, h.mnd⟩, hc.cs, hc.ts⟩
  · rcases List.mem_cons.1 hp with rfl | hp
    · exact ⟨h.size, MapC.make W⟩
    · exact hc.mp p hp
  · obtain ⟨p, hp, e⟩ := List.mem_map.1 hm
    have := (h.mp p hp).2.lt
    simp only at e
    omega
theorem Env.grow (h : Env w W bs) {row : Option Nat} (hg : W.grownBy W1 row) (hr : ∀ r, row = some r → w.heap.size ≤ r ∧ r ∉ bs.map (·.1)) : Env w W1 bs :=
  ⟨h.below.grown hg h.size (fun k e => (hr k e).1), fun b hm => ⟨(h.blk b hm).1, (hg.block b.1 (h.mem hm) (fun e => (hr b.1 e.symm).2 (List.mem_map.2 ⟨b, hm, rfl⟩))).trans (h.blk b hm).2⟩, h.nd⟩
theorem Pv.grow0 (h : Pv w W bs ms cl tl) {row : Option Nat} (hg : W.grownBy W1 row) (hr : ∀ r, row = some r → w.heap.size ≤ r ∧ r ∉ bs.map (·.1) ∧ ∃ cells e, W.heap[r]? = some (.cells cells e (0, 0))) : Env w W1 bs ∧ ∀ p ∈ ms, w.heap.size ≤ p.1 ∧ MapC W1 p.1 p.2 :=
  ⟨Env.grow h.env hg (fun r e => ⟨(hr r e).1, (hr r e).2.1⟩), fun p hp => ⟨(h.mp p hp).1, (h.mp p hp).2.block (hg.block p.1 (h.mp p hp).2.lt (fun e => by
    obtain ⟨_, _, cells, e', h1⟩ := hr p.1 e.symm
    exact (h.mp p hp).2.ne h1 rfl))⟩⟩
/-- The first row of calls has grown. -/
theorem Pv.growC {xs : List S33} (h : Pv w W bs ms ((v, xs) :: cl) tl) {v1 : Value} {ys : List S33} {ok : Nat → Prop} (hN : Kd.N k33 33 W1 w.heap.size ok v1 ys) (hg : W.grownBy W1 v.ownBlock) (hat : v1.ownBlock = v.ownBlock ∨ ∃ b, v1.ownBlock = some b ∧ W.heap.size ≤ b) : Pv w W1 bs ms ((v1, ys) :: cl) tl := by
  have hm : ∀ r, v.ownBlock = some r → w.heap.size ≤ r ∧ r ∉ bs.map (·.1) ∧ ∃ cells e, W.heap[r]? = some (.cells cells e (0, 0)) := fun r e =>
    ⟨h.cs.base (p := (v, xs)) (by simp) e, h.cs.off (v, xs) (by simp) r e, (h.cs.typed (p := (v, xs)) (by simp) e).imp fun c hc => ⟨33, hc⟩⟩
  obtain ⟨he, hmp⟩ := h.grow0 hg hm
  refine ⟨he, hmp, h.mnd, h.cs.head flat33 (fun b hb => h.env.mem hb) hN hg hat, h.ts.grown hg (fun p hp k hk e => ?_)⟩
  obtain ⟨c1, h1⟩ := h.ts.typed hp hk
  obtain ⟨c2, h2⟩ := h.cs.typed (p := (v, xs)) (by simp) e
  rw [h1] at h2
  simp at h2
/-- The first row of texts has grown. -/
theorem Pv.growT {xs : List ByteArray} (h : Pv w W bs ms cl ((v, xs) :: tl)) {v1 : Value} {ys : List ByteArray} {ok : Nat → Prop} (hN : Kd.N Kd.string 9 W1 w.heap.size ok v1 ys) (hg : W.grownBy W1 v.ownBlock) (hat : v1.ownBlock = v.ownBlock ∨ ∃ b, v1.ownBlock = some b ∧ W.heap.size ≤ b) : Pv w W1 bs ms cl ((v1, ys) :: tl) := by
  have hm : ∀ r, v.ownBlock = some r → w.heap.size ≤ r ∧ r ∉ bs.map (·.1) ∧ ∃ cells e, W.heap[r]? = some (.cells cells e (0, 0)) := fun r e =>
    ⟨h.ts.base (p := (v, xs)) (by simp) e, h.ts.off (v, xs) (by simp) r e, (h.ts.typed (p := (v, xs)) (by simp) e).imp fun c hc => ⟨9, hc⟩⟩
  obtain ⟨he, hmp⟩ := h.grow0 hg hm
  refine ⟨he, hmp, h.mnd, h.cs.grown hg (fun p hp k hk e => ?_), h.ts.head flatS (fun b hb => h.env.mem hb) hN hg hat⟩
  obtain ⟨c1, h1⟩ := h.cs.typed hp hk
  obtain ⟨c2, h2⟩ := h.ts.typed (p := (v, xs)) (by simp) e
  rw [h1] at h2
  simp at h2
theorem Pv.addC (h : Pv w W bs ms cl tl) {v1 : Value} {ys : List S33} {ok : Nat → Prop} {base : Nat} (hbase : w.heap.size ≤ base) (hN : Kd.N k33 33 W1 base ok v1 ys) (hb : Below W.heap.size W W1) (hat : v1.ownBlock = none ∨ ∃ b, v1.ownBlock = some b ∧ W.heap.size ≤ b) : Pv w W1 bs ms ((v1, ys) :: cl) tl :=
  have hc := h.call hb
  ⟨hc.env, hc.mp, hc.mnd, h.cs.add flat33 (fun b hb => h.env.mem hb) hbase hN hb hat, hc.ts⟩
theorem Pv.nilC (h : Pv w W bs ms cl tl) : Pv w W bs ms ((.slice none 0 0, []) :: cl) tl :=
  h.addC (Nat.le_refl _) (Kd.N_nil k33 33 W w.heap.size (fun _ => True)) (Below.refl _ _) (.inl rfl)
theorem Pv.nilT (h : Pv w W bs ms cl tl) : Pv w W bs ms cl ((.slice none 0 0, []) :: tl) :=
  ⟨h.env, h.mp, h.mnd, h.cs, h.ts.add flatS (fun b hb => h.env.mem hb) (Nat.le_refl _) (Kd.N_nil Kd.string 9 W w.heap.size (fun _ => True)) (Below.refl _ _) (.inl rfl)⟩
theorem Pv.rc (h : Pv w W bs ms cl tl) (i : Nat) {xs : List S33} (hi : cl[i]? = some (v, xs)) : Kd.N k33 33 W w.heap.size (fun k => some k = v.ownBlock) v xs := h.cs.own _ (List.mem_of_getElem? hi)
theorem Pv.rt (h : Pv w W bs ms cl tl) (i : Nat) {xs : List ByteArray} (hi : tl[i]? = some (v, xs)) : Kd.N Kd.string 9 W w.heap.size (fun k => some k = v.ownBlock) v xs := h.ts.own _ (List.mem_of_getElem? hi)
theorem Pv.map (h : Pv w W bs ms cl tl) (i : Nat) {B : Nat} {L : KL} (hi : ms[i]? = some (B, L)) : MapC W B L := (h.mp _ (List.mem_of_getElem? hi)).2
end
end Go.Proofs.YtnekehlghkfbdaaDoor.PAll
