/-
  What the code's and the reference's Text compute. Conditions: the bytes are bytes, and no more than a slice may have.
-/
import Derived.Test.YthbnblmnamckmaaPAllx19
import Derived.Test.YthbnblmnamckmaaPAllx20
import Derived.Test.YthbnblmnamckmaaPAllx31
import Derived.Test.YthbnblmnamckmaaQb
import Derived.Test.YthbnblmnamckmaaQv
namespace Go.Proofs.Ythbnblmnamckmaa.Q
open Go.RowKit Go.Proofs.Ythbnblmnamckmaa.PAll Go.Proofs.YthbnblmnamckmaaW.PrintWords Go.Proofs.YthbnblmnamckmaaW.PrintLast Go.Proofs.YthbnblmnamckmaaW.PrintMore
set_option linter.unusedVariables false
set_option linter.unusedSimpArgs false

def resT (most : Int) (l : List Int) : Option (Int × Nat) → ByteArray × Int × Int
  | none => ((⟨#[]⟩ : ByteArray), 0, 20)
  | some r => if r.1 > most then ((⟨#[]⟩ : ByteArray), 0, 21) else if r.1 > (l.length : Int) - r.2 then ((⟨#[]⟩ : ByteArray), 0, 20) else (strOfNums ((l.take (r.2 + r.1.toNat)).drop r.2), (r.2 : Int) + r.1, 0)

theorem strOf_size (l : List Int) : (strOfNums l).size = l.length := by simp [strOfNums, ByteArray.size]
theorem strOf_bytesOf (s : ByteArray) : strOfNums (bytesOf s) = s := by
  unfold strOfNums bytesOf
  apply ByteArray.ext
  simp only [List.map_map]
  apply Array.ext'
  simp only
  conv => rhs; rw [← List.map_id s.data.toList]
  apply List.map_congr_left
  intro b _
  simp

theorem ev_codec_Text {l : List Int} (hb : Bytes l) (hl : l.length ≤ 140737488351232) : Ev (fun k => codec_Text.f k l) (resT 64 l (decU 0 l)) := by
  unfold codec_Text.f
  refine Ev.bind (ev_codec_Uint hb) ?_
  cases h : decU 0 l with
  | none =>
    simp only [resU_none, if_neg (show ¬ ((20 : Int) = 0) by decide)]
    exact Ev.now _
  | some r =>
    obtain ⟨n, len⟩ := r
    have hbd := decU_top hb h
    simp only [resU_some, if_true]
    unfold resT
    by_cases h1 : n > 64
    · simp only [if_pos h1]; exact Ev.now _
    · simp only [if_neg h1, w64_id (n := n) (by omega) (by omega), w64_id (n := (l.length : Int) - (len : Int)) (by omega) (by omega), w64_id (n := (len : Int) + n) (by omega) (by omega), w64_id (n := (len : Int) + n - n) (by omega) (by omega)]
      by_cases h2 : n > (l.length : Int) - len
      · simp only [if_pos h2]; exact Ev.now _
      · have e1 : ((len : Int) + n).toNat = len + n.toNat := by omega
        have e2 : ((len : Int) + n - n).toNat = len := by omega
        simp only [if_neg h2, if_pos (show (0 : Int) ≤ (len : Int) + n - n by omega), if_pos (show (len : Int) + n - n ≤ (len : Int) + n by omega), if_pos (show (len : Int) + n ≤ (l.length : Int) by omega), e1, e2]
        unfold strings_Clone.f stringslite_Clone.f
        simp only [strOf_size, if_pos (show ((l.take (len + n.toNat)).drop len).length ≤ 281474976710656 by simp; omega), Option.bind_some]
        exact Ev.now _
theorem ev_ref_text {l : List Int} (hb : Bytes l) (hl : l.length ≤ 140737488351232) {most : Int} (hm : most ≤ 1000) : Ev (fun k => windlassref2_text.f k l most) (resT most l (decU 0 l)) := by
  unfold windlassref2_text.f
  refine Ev.bind (ev_ref_Uint hb) ?_
  cases h : decU 0 l with
  | none =>
    simp only [resU_none, if_neg (show ¬ ((20 : Int) = 0) by decide)]
    exact Ev.now _
  | some r =>
    obtain ⟨n, len⟩ := r
    have hbd := decU_top hb h
    simp only [resU_some, if_true]
    unfold resT
    by_cases h1 : n > most
    · simp only [if_pos h1]; exact Ev.now _
    · simp only [if_neg h1, w64_id (n := n) (by omega) (by omega), w64_id (n := (l.length : Int) - (len : Int)) (by omega) (by omega), u64_id (n := (l.length : Int) - (len : Int)) (by omega) (by omega), w64_id (n := (len : Int) + n) (by omega) (by omega)]
      by_cases h2 : n > (l.length : Int) - len
      · simp only [if_pos h2]; exact Ev.now _
      · have e1 : ((len : Int) + n).toNat = len + n.toNat := by omega
        have e2 : ((len : Nat) : Int).toNat = len := by omega
        simp only [if_neg h2, if_pos (show (0 : Int) ≤ (len : Int) by omega), if_pos (show (len : Int) ≤ (len : Int) + n by omega), if_pos (show (len : Int) + n ≤ (l.length : Int) by omega), e1, e2]
        exact Ev.now _
theorem resT_put {s : ByteArray} (hs : s.size ≤ 140737488351232) (more : List Int) : resT 64 (putU s.size ++ bytesOf s ++ more) (decU 0 (putU s.size ++ bytesOf s ++ more)) = if s.size > 64 then ((⟨#[]⟩ : ByteArray), 0, 21) else (s, ((putU s.size ++ bytesOf s).length : Int), 0) := by
  rw [List.append_assoc, decU_put (by omega)]
  unfold resT
  simp only [List.length_append, bytesOf_length]
  by_cases h : s.size > 64
  · rw [if_pos (by omega), if_pos h]
  · rw [if_neg (by omega), if_neg (by omega), if_neg h]
    have e : ((putU s.size ++ (bytesOf s ++ more)).take ((putU s.size).length + ((s.size : Int)).toNat)).drop (putU s.size).length = bytesOf s := by
      rw [Int.toNat_natCast, List.take_append, List.take_of_length_le (by omega), Nat.add_sub_cancel_left, List.drop_append, List.drop_of_length_le (Nat.le_refl _), Nat.sub_self, List.drop_zero, List.nil_append, List.take_append, ← bytesOf_length, List.take_length, Nat.sub_self, List.take_zero, List.append_nil]
    rw [e, strOf_bytesOf]
    simp
end Go.Proofs.Ythbnblmnamckmaa.Q
