-- Laid by a program of this seat (wip/merge.py): HPlw, HKnw.
import Derived.Test.YtnokieaebnmljaaMHeapPlays0
import Derived.Test.YtnokieaebnmljaaMHeapPlays4
import Derived.Test.YtnokieaebnmljaaMHeapPlays1
namespace Go.Proofs.Ytnokieaebnmljaa.PAll
open Go Go.Proofs Go.RowKit Go.Shelf Go.Proofs.YtnokieaebnmljaaW.PrintWords Go.Proofs.YtnokieaebnmljaaW.PrintLast Go.Proofs.YtnokieaebnmljaaW.PrintMore Go.Proofs.Ytnokieaebnmljaa.Bx
attribute [local go_sem] Oper.semAt_some
set_option linter.unusedVariables false
set_option linter.unusedSimpArgs false
theorem inf47 : (Try.prog.info? 47).map (·.size) = some 12:=by kernel_rfl
theorem inf27 : (Try.prog.info? 27).map (·.size) = some 1:=by kernel_rfl
theorem hp_next (j : Nat) (h : j ≤ 1000) : Value.int .i64 (wrap64 ((j : Int) + 1)) = .int .i64 ((j + 1 : Nat) : Int):=by rw [wrap_s j (by omega)]
def hp.T5 : Bool × List (List Nat × List Nat):=(true,[([],[]),([0,0],[0]),([1],[1]),([],[]),([3,3],[3]),([4],[4]),([],[]),([],[]),([6,2,0,1,2,6,7],[2,6]),([7,5,8,0,1,2,3,4,5,6,7,8],[5,7])])
def hp.B5 : List Nat:=[0,1,3,0,8,24,0,0,199,511]
theorem hp.tab5 : rtab .any (opsOf Try.f4 5) = hp.T5:=by kernel_rfl
theorem hp.bits5 : waitsOk hp.T5.2 hp.B5 = true:=by kernel_rfl
def hp.T6 : Bool × List (List Nat × List Nat):=(true,[([],[]),([0],[0]),([],[]),([],[]),([],[]),([3,1,1,0,1,3,4],[1,3]),([4,2,5,0,1,2,3,4,5],[2,4])])
def hp.B6 : List Nat:=[0,1,0,0,0,27,63]
theorem hp.tab6 : rtab .any (opsOf Try.f4 6) = hp.T6:=by kernel_rfl
theorem hp.bits6 : waitsOk hp.T6.2 hp.B6 = true:=by kernel_rfl
def hp.T21 : Bool × List (List Nat × List Nat):=(true,[([],[]),([],[]),([0,0],[0]),([1,2,0,1,2],[1])])
def hp.B21 : List Nat:=[0,0,1,7]
theorem hp.tab21 : rtab .any (opsOf Try.f4 21) = hp.T21:=by kernel_rfl
theorem hp.bits21 : waitsOk hp.T21.2 hp.B21 = true:=by kernel_rfl
def hp.T23 : Bool × List (List Nat × List Nat):=(true,[([],[]),([],[]),([1],[1]),([],[]),([3],[3]),([0,2,4],[0,2,4]),([],[]),([],[]),([7],[7]),([],[]),([9],[9]),([6,8,10,5],[6,8,10]),([5,11,0,1,2,3,4,5],[5]),([11,12,0,1,2,3,4,5,6,7,8,9,10,11,12],[11])])
def hp.B23 : List Nat:=[0,0,2,0,8,31,0,0,128,0,512,2047,4095,8191]
theorem hp.tab23 : rtab .any (opsOf Try.f4 23) = hp.T23:=by kernel_rfl
theorem hp.bits23 : waitsOk hp.T23.2 hp.B23 = true:=by kernel_rfl
def hp.T25 : Bool × List (List Nat × List Nat):=(true,[([],[]),([],[]),([1],[1]),([0,2,0],[0]),([2,3,0,1,2,3],[2])])
def hp.B25 : List Nat:=[0,0,2,7,15]
theorem hp.tab25 : rtab .any (opsOf Try.f4 25) = hp.T25:=by kernel_rfl
theorem hp.bits25 : waitsOk hp.T25.2 hp.B25 = true:=by kernel_rfl
/-- A walk cut in parts: what is left to show at the cut, and that it is enough. -/
structure plays_walk.Cut (G : Prop) where
 P : Prop
 ok : P → G
def plays_walk.cut_mk {G P : Prop} (h : Aside0 P → G) : plays_walk.Cut G:=⟨P,fun p => h (Aside0.mk p)⟩
set_option maxHeartbeats 16000000 in
set_option maxRecDepth 100000 in
noncomputable def plays_walk.p0 (aa : Int) (x1 : List S47) (AA : Option Addr) (c1 : Nat) (w : World) : plays_walk.Cut (∀ (hknown : ∀ w,Calls Try.prog 9 #[] w fun e w' => e = .returned (.bool true) ∧ Below w.heap.size w w') (hl : x1.length ≤ 4611686018427387904) (r1 : Kd.C k47 w AA x1.length x1) (m1 : x1.length ≤ c1),Calls Try.prog 4 #[.int .i64 aa, .slice AA x1.length c1] w fun e w' => e = .returned (.bool true) ∧ Below w.heap.size w w'):=by
 apply plays_walk.cut_mk
 focus
  intro hcutP hknown hl r1 m1
  have hu27:=Try.underlying27
  have hu35:=Try.underlying35
  have hu47:=Try.underlying47
  generalize hA_ : AA = A1 at r1 ⊢
  generalize ha_ : aa = a0 at ⊢
  have R1:=Aside0.mk r1
  have M1:=Aside0.mk m1
  obtain ⟨fb,hfb,hfew⟩:=plays_few x1 hl
  have FB:=Aside0.mk hfb
  have FW:=Aside0.mk hfew
  have HL:=Aside0.mk hl
  clear r1 m1 hfb hfew hl
  go_enter Try.func4,Try.ntmps4
  go_wp2_with (fail)
  refine (hknown _).mono ?_
  rintro e_ w1 ⟨rfl,hb1⟩
  dsimp only
  have HB:=Aside0.mk hb1
  clear hb1
  by_cases h0 : a0 < 0
  case pos =>
   have hd1 : decide (a0 < 0) = true:=decide_eq_true h0
   clear h0
   go_wp2
   refine bodyPost_ret (results_tmp rfl _ _ _) rfl ?_
   exact ⟨rfl,HB.out⟩
  case neg =>
   by_cases h5 : a0 > 5
   case pos =>
    have hd1 : decide (a0 < 0) = false:=decide_eq_false h0
    have hd2 : decide (5 < a0) = true:=decide_eq_true h5
    have hd3 : decide (a0 > 5) = true:=decide_eq_true h5
    clear h0 h5
    go_wp2
    refine bodyPost_ret (results_tmp rfl _ _ _) rfl ?_
    exact ⟨rfl,HB.out⟩
   case neg =>
    have hd1 : decide (a0 < 0) = false:=decide_eq_false h0
    have hd2 : decide (5 < a0) = false:=decide_eq_false h5
    have hd3 : decide (a0 > 5) = false:=decide_eq_false h5
    obtain ⟨n0,hn0,hn5⟩ : ∃ n : Nat,a0 = (n : Int) ∧ n ≤ 5:=⟨a0.toNat,by omega,by omega⟩
    subst hn0
    have HN5:=Aside0.mk hn5
    clear h0 h5 hn5
    cases fb
    case false =>
     go_wp2_with (first|(go_at_call 16;refine (windlasslaw4_few.calls (301 + x1.length) A1 c1 x1 false _ (Kd.C_below R1.out HB.out) M1.out FB.out).mono ?_;rintro e_ w2 ⟨rfl,hb2⟩;have n0_:=Aside0.mk (HB.out.trans (hb2.mono HB.out.size));clear HB hb2;have HB:=n0_;clear n0_))
     refine bodyPost_ret (results_tmp rfl _ _ _) rfl ?_
     exact ⟨rfl,HB.out⟩
    case true =>
     obtain ⟨hl60,hxd⟩:=FW.out rfl
     have HL60:=Aside0.mk hl60
     have HXD:=Aside0.mk hxd
     clear hl60 hxd FW
     go_wp2_with (first|(go_at_call 16;refine (windlasslaw4_few.calls (301 + x1.length) A1 c1 x1 true _ (Kd.C_below R1.out HB.out) M1.out FB.out).mono ?_;rintro e_ w2 ⟨rfl,hb2⟩;have n0_:=Aside0.mk (HB.out.trans (hb2.mono HB.out.size));clear HB hb2;have HB:=n0_;clear n0_))
     obtain ⟨S0,hS0⟩ : ∃ S : List (List S82),S = List.replicate n0 []:=⟨_,rfl⟩
     have HS0:=Aside0.mk hS0
     have GS0 : Aside0 (Good S0):=⟨hS0 ▸ good_start n0 HN5.out⟩
     clear hS0
     try go_wp2
     have HE : Aside0 (Pl w w2.drew [] [] []):=⟨⟨Env.start w |>.call (below_drew1 HB.out),by simp,by simp⟩⟩
     clear HB
     refine start_ (n:=10) (S:=fun w' => True) (ds:=[]) #[fF,fF,fF,fF,fF,fF,fF,fF,fF,fF] (by kernel_rfl) rfl rfl trivial (fun hHeld => ?_)
     refine with_tabW hp.tab5 hp.bits5 (fun HT_ HW_ => ?_)
     generalize w2.drew = wq at HE hHeld ⊢
     refine pU 0 (some 40) HT_ rfl ?_
     refine pU 3 (some 43) HT_ rfl ?_
     refine join_ (σ:=(Option Addr × Nat) × (Option Addr × Nat) × Nat × Nat) 1 #[tT,tT,tT,tT,tT,tT,tT,tT,tT,fF] (fun s_ => [(41, .slice s_.1.1 S0.length s_.1.2),(42, .agg #[.slice s_.1.1 S0.length s_.1.2]),(44, .slice s_.2.1.1 S0.length s_.2.1.2),(45, .agg #[.slice s_.2.1.1 S0.length s_.2.1.2]),(5, .pointer (some ⟨s_.2.2.1,0,none⟩)),(6, .pointer (some ⟨s_.2.2.2,0,none⟩))]) (fun s_ w' => Pl w w' [(s_.2.2.2,#[.slice none 0 0],27),(s_.2.2.1,#[.slice s_.1.1 S0.length s_.1.2],27)] [(.slice s_.2.1.1 S0.length s_.2.1.2,S0),(.slice s_.1.1 S0.length s_.1.2,S0)] []) ?_ ?_
     rotate_left
     ·intro hJ1_4_6_7_8
      refine join_ (σ:=(Option Addr × Nat) × (Option Addr × Nat) × Nat × Nat) 2 #[tT,tT,tT,tT,tT,tT,tT,tT,fF,fF] (fun s_ => [(41, .slice s_.1.1 S0.length s_.1.2),(42, .agg #[.slice s_.1.1 S0.length s_.1.2]),(44, .slice s_.2.1.1 S0.length s_.2.1.2),(45, .agg #[.slice s_.2.1.1 S0.length s_.2.1.2]),(5, .pointer (some ⟨s_.2.2.1,0,none⟩)),(6, .pointer (some ⟨s_.2.2.2,0,none⟩))]) (fun s_ w' => Pl w w' [(s_.2.2.2,#[.slice none 0 0],27),(s_.2.2.1,#[.slice none 0 0],27)] [(.slice s_.2.1.1 S0.length s_.2.1.2,S0),(.slice s_.1.1 S0.length s_.1.2,S0)] []) ?_ ?_
      rotate_left
      ·intro hJ1_4_6_7
       refine join_ (σ:=(Option Addr × Nat) × Nat × Nat) 3 #[tT,tT,tT,tT,fF,fF,tT,tT,tT,fF] (fun s_ => [(41, .slice s_.1.1 S0.length s_.1.2),(42, .agg #[.slice s_.1.1 S0.length s_.1.2]),(5, .pointer (some ⟨s_.2.1,0,none⟩)),(6, .pointer (some ⟨s_.2.2,0,none⟩))]) (fun s_ w' => Pl w w' [(s_.2.2,#[.slice none 0 0],27),(s_.2.1,#[.slice s_.1.1 S0.length s_.1.2],27)] [(.slice s_.1.1 S0.length s_.1.2,S0)] []) ?_ ?_
       rotate_left
       ·intro hJ1_6_7_8
        refine join_ (σ:=(Option Addr × Nat) × (Option Addr × Nat) × Nat) 3 #[tT,tT,tT,tT,tT,tT,tT,fF,fF,fF] (fun s_ => [(41, .slice s_.1.1 S0.length s_.1.2),(42, .agg #[.slice s_.1.1 S0.length s_.1.2]),(44, .slice s_.2.1.1 S0.length s_.2.1.2),(45, .agg #[.slice s_.2.1.1 S0.length s_.2.1.2]),(5, .pointer (some ⟨s_.2.2,0,none⟩))]) (fun s_ w' => Pl w w' [(s_.2.2,#[.slice none 0 0],27)] [(.slice s_.2.1.1 S0.length s_.2.1.2,S0),(.slice s_.1.1 S0.length s_.1.2,S0)] []) ?_ ?_
        rotate_left
        ·intro hJ1_4_6
         refine join_ (σ:=(Option Addr × Nat) × (Option Addr × Nat) × Nat) 3 #[tT,tT,tT,tT,tT,tT,fF,tT,fF,fF] (fun s_ => [(41, .slice s_.1.1 S0.length s_.1.2),(42, .agg #[.slice s_.1.1 S0.length s_.1.2]),(44, .slice s_.2.1.1 S0.length s_.2.1.2),(45, .agg #[.slice s_.2.1.1 S0.length s_.2.1.2]),(6, .pointer (some ⟨s_.2.2,0,none⟩))]) (fun s_ w' => Pl w w' [(s_.2.2,#[.slice none 0 0],27)] [(.slice s_.2.1.1 S0.length s_.2.1.2,S0),(.slice s_.1.1 S0.length s_.1.2,S0)] []) ?_ ?_
         rotate_left
         ·intro hJ1_4_7
          refine join_ (σ:=(Option Addr × Nat) × Nat × Nat) 4 #[tT,tT,tT,tT,fF,fF,tT,tT,fF,fF] (fun s_ => [(41, .slice s_.1.1 S0.length s_.1.2),(42, .agg #[.slice s_.1.1 S0.length s_.1.2]),(5, .pointer (some ⟨s_.2.1,0,none⟩)),(6, .pointer (some ⟨s_.2.2,0,none⟩))]) (fun s_ w' => Pl w w' [(s_.2.2,#[.slice none 0 0],27),(s_.2.1,#[.slice none 0 0],27)] [(.slice s_.1.1 S0.length s_.1.2,S0)] []) ?_ ?_
          rotate_left
          ·intro hJ1_6_7
           refine join_ (σ:=(Option Addr × Nat) × Nat × Nat) 4 #[tT,fF,fF,tT,tT,tT,tT,tT,fF,fF] (fun s_ => [(44, .slice s_.1.1 S0.length s_.1.2),(45, .agg #[.slice s_.1.1 S0.length s_.1.2]),(5, .pointer (some ⟨s_.2.1,0,none⟩)),(6, .pointer (some ⟨s_.2.2,0,none⟩))]) (fun s_ w' => Pl w w' [(s_.2.2,#[.slice none 0 0],27),(s_.2.1,#[.slice none 0 0],27)] [(.slice s_.1.1 S0.length s_.1.2,S0)] []) ?_ ?_
           rotate_left
           ·intro hJ4_6_7
            refine join_ (σ:=(Option Addr × Nat) × (Option Addr × Nat)) 4 #[tT,tT,tT,tT,tT,tT,fF,fF,fF,fF] (fun s_ => [(41, .slice s_.1.1 S0.length s_.1.2),(42, .agg #[.slice s_.1.1 S0.length s_.1.2]),(44, .slice s_.2.1 S0.length s_.2.2),(45, .agg #[.slice s_.2.1 S0.length s_.2.2])]) (fun s_ w' => Pl w w' [] [(.slice s_.2.1 S0.length s_.2.2,S0),(.slice s_.1.1 S0.length s_.1.2,S0)] []) ?_ ?_
            rotate_left
            ·intro hJ1_4
             refine join_ (σ:=(Option Addr × Nat) × Nat) 5 #[tT,tT,tT,tT,fF,fF,tT,fF,fF,fF] (fun s_ => [(41, .slice s_.1.1 S0.length s_.1.2),(42, .agg #[.slice s_.1.1 S0.length s_.1.2]),(5, .pointer (some ⟨s_.2,0,none⟩))]) (fun s_ w' => Pl w w' [(s_.2,#[.slice none 0 0],27)] [(.slice s_.1.1 S0.length s_.1.2,S0)] []) ?_ ?_
             rotate_left
             ·intro hJ1_6
              refine join_ (σ:=(Option Addr × Nat) × Nat) 5 #[tT,tT,tT,tT,fF,fF,fF,tT,fF,fF] (fun s_ => [(41, .slice s_.1.1 S0.length s_.1.2),(42, .agg #[.slice s_.1.1 S0.length s_.1.2]),(6, .pointer (some ⟨s_.2,0,none⟩))]) (fun s_ w' => Pl w w' [(s_.2,#[.slice none 0 0],27)] [(.slice s_.1.1 S0.length s_.1.2,S0)] []) ?_ ?_
              rotate_left
              ·intro hJ1_7
               refine join_ (σ:=(Option Addr × Nat) × Nat) 5 #[tT,fF,fF,tT,tT,tT,tT,fF,fF,fF] (fun s_ => [(44, .slice s_.1.1 S0.length s_.1.2),(45, .agg #[.slice s_.1.1 S0.length s_.1.2]),(5, .pointer (some ⟨s_.2,0,none⟩))]) (fun s_ w' => Pl w w' [(s_.2,#[.slice none 0 0],27)] [(.slice s_.1.1 S0.length s_.1.2,S0)] []) ?_ ?_
               rotate_left
               ·intro hJ4_6
                refine join_ (σ:=(Option Addr × Nat) × Nat) 5 #[tT,fF,fF,tT,tT,tT,fF,tT,fF,fF] (fun s_ => [(44, .slice s_.1.1 S0.length s_.1.2),(45, .agg #[.slice s_.1.1 S0.length s_.1.2]),(6, .pointer (some ⟨s_.2,0,none⟩))]) (fun s_ w' => Pl w w' [(s_.2,#[.slice none 0 0],27)] [(.slice s_.1.1 S0.length s_.1.2,S0)] []) ?_ ?_
                rotate_left
                ·intro hJ4_7
                 refine join_ (σ:=Nat × Nat) 6 #[tT,fF,fF,tT,fF,fF,tT,tT,fF,fF] (fun s_ => [(5, .pointer (some ⟨s_.1,0,none⟩)),(6, .pointer (some ⟨s_.2,0,none⟩))]) (fun s_ w' => Pl w w' [(s_.2,#[.slice none 0 0],27),(s_.1,#[.slice none 0 0],27)] [] []) ?_ ?_
                 rotate_left
                 ·intro hJ6_7
                  refine join_ (σ:=(Option Addr × Nat)) 6 #[tT,tT,tT,tT,fF,fF,fF,fF,fF,fF] (fun s_ => [(41, .slice s_.1 S0.length s_.2),(42, .agg #[.slice s_.1 S0.length s_.2])]) (fun s_ w' => Pl w w' [] [(.slice s_.1 S0.length s_.2,S0)] []) ?_ ?_
                  rotate_left
                  ·intro hJ1
                   refine join_ (σ:=(Option Addr × Nat)) 6 #[tT,fF,fF,tT,tT,tT,fF,fF,fF,fF] (fun s_ => [(44, .slice s_.1 S0.length s_.2),(45, .agg #[.slice s_.1 S0.length s_.2])]) (fun s_ w' => Pl w w' [] [(.slice s_.1 S0.length s_.2,S0)] []) ?_ ?_
                   rotate_left
                   ·intro hJ4
                    refine join_ (σ:=Nat) 7 #[tT,fF,fF,tT,fF,fF,tT,fF,fF,fF] (fun s_ => [(5, .pointer (some ⟨s_,0,none⟩))]) (fun s_ w' => Pl w w' [(s_,#[.slice none 0 0],27)] [] []) ?_ ?_
                    rotate_left
                    ·intro hJ6
                     refine join_ (σ:=Nat) 7 #[tT,fF,fF,tT,fF,fF,fF,tT,fF,fF] (fun s_ => [(6, .pointer (some ⟨s_,0,none⟩))]) (fun s_ w' => Pl w w' [(s_,#[.slice none 0 0],27)] [] []) ?_ ?_
                     rotate_left
                     ·intro hJ7
                      refine four_ (i:=1) (j:=4) (k:=6) (m:=7) (Ni:=some 41) (Nj:=some 44) (Nk:=some 5) (Nm:=some 6) #[tT,tT,fF,tT,fF,fF,fF,fF,fF,fF] #[tT,fF,fF,tT,tT,fF,fF,fF,fF,fF] #[tT,fF,fF,tT,fF,fF,tT,fF,fF,fF] #[tT,fF,fF,tT,fF,fF,fF,tT,fF,fF] rfl rfl rfl rfl rfl rfl rfl rfl (four_of HT_.out (by kernel_rfl)) (by decide) (by decide) (by decide) (by decide) (fun K hK => ?_) (fun K hK => ?_) (fun K hK => ?_) (fun K hK => ?_)
                      ·skip
                       refine Kd.N_make_step (Kd.slice 82 k82) _ 41 (by rfl) (N':=41) rfl 25 _ _ rfl (n0 : Int) rfl rfl Try.underlying25 (.slice none 0 0) 24 info41 rfl (by decide) (by omega) [] (ok:=fun k_ => wq.heap.size ≤ k_) (okp:=fun _ => False) (Kd.FK_slice_mk (Nat.le_refl _) (Kd.F_nil _ _ _)) (fun _ hk => hk.elim) (Nat.le_refl _) (by omega) (by have:=HN5.out;omega) (Below.refl _ _) (Nat.le_refl _) ?_
                       intro v_ w3 ho_ hb_ hg_ hnew_
                       clear hg_ hnew_
                       rw [Int.toNat_natCast,← HS0.out] at ho_
                       have hV_:=Kd.N_V (base':=0) ho_
                       obtain ⟨A1v,c1v,rfl⟩:=Kd.V_slice hV_
                       have n_:=Aside0.mk ((HE.out.call hb_).addV hV_ (fun k hk => HE.out.fresh k hk))
                       clear HE hV_ ho_ hb_
                       have HE:=n_
                       clear n_
                       refine hK.out _ _ trivial (fun hHeld => ?_)
                       clear hK K
                       refine nO ?_
                       refine pU 2 (some 42) HT_ rfl ?_
                       exact nJ (hJ1 (A1v,c1v) _ HE.out)
                      ·skip
                       refine Kd.N_make_step (Kd.slice 82 k82) _ 41 (by rfl) (N':=44) rfl 25 _ _ rfl (n0 : Int) rfl rfl Try.underlying25 (.slice none 0 0) 24 info41 rfl (by decide) (by omega) [] (ok:=fun k_ => wq.heap.size ≤ k_) (okp:=fun _ => False) (Kd.FK_slice_mk (Nat.le_refl _) (Kd.F_nil _ _ _)) (fun _ hk => hk.elim) (Nat.le_refl _) (by omega) (by have:=HN5.out;omega) (Below.refl _ _) (Nat.le_refl _) ?_
                       intro v_ w3 ho_ hb_ hg_ hnew_
                       clear hg_ hnew_
                       rw [Int.toNat_natCast,← HS0.out] at ho_
                       have hV_:=Kd.N_V (base':=0) ho_
                       obtain ⟨A4v,c4v,rfl⟩:=Kd.V_slice hV_
                       have n_:=Aside0.mk ((HE.out.call hb_).addV hV_ (fun k hk => HE.out.fresh k hk))
                       clear HE hV_ ho_ hb_
                       have HE:=n_
                       clear n_
                       refine hK.out _ _ trivial (fun hHeld => ?_)
                       clear hK K
                       refine nO ?_
                       refine pU 5 (some 45) HT_ rfl ?_
                       exact nJ (hJ4 (A4v,c4v) _ HE.out)
                      ·skip
                       refine box_step ?hg (N:=5) ?hd (cs:=#[.slice none 0 0]) (t:=27) ?hr ?_;(case hd => rfl);(case hg => rfl);(case hr => first|(go_simp;done)|(go_simp;rfl))
                       intro gs hg_ w3 hbx_ hb_
                       have n_:=Aside0.mk (HE.out.box hg_ hbx_ hb_)
                       clear HE hg_ hbx_ hb_
                       have HE:=n_
                       clear n_
                       refine hK.out _ _ trivial (fun hHeld => ?_)
                       clear hK K
                       refine nO ?_
                       exact nJ (hJ6 gs _ HE.out)
                      skip
                      refine box_step ?hg (N:=6) ?hd (cs:=#[.slice none 0 0]) (t:=27) ?hr ?_;(case hd => rfl);(case hg => rfl);(case hr => first|(go_simp;done)|(go_simp;rfl))
                      intro gr hg_ w3 hbx_ hb_
                      have n_:=Aside0.mk (HE.out.box hg_ hbx_ hb_)
                      clear HE hg_ hbx_ hb_
                      have HE:=n_
                      clear n_
                      refine hK.out _ _ trivial (fun hHeld => ?_)
                      clear hK K
                      refine nO ?_
                      exact nJ (hJ7 gr _ HE.out)
                     skip
                     (try clear HE)
                     (try clear hHeld)
                     rintro gr w9 hF_
                     (try dsimp only at hF_)
                     (try dsimp only)
                     have HE:=Aside0.mk hF_
                     clear hF_
                     have hHeld : True:=trivial
                     refine nQ ?_
                     refine three_ (i:=1) (j:=4) (k:=6) (Ni:=some 41) (Nj:=some 44) (Nk:=some 5) #[tT,tT,fF,tT,fF,fF,fF,tT,fF,fF] #[tT,fF,fF,tT,tT,fF,fF,tT,fF,fF] #[tT,fF,fF,tT,fF,fF,tT,tT,fF,fF] rfl rfl rfl rfl rfl rfl (three_of HT_.out (by kernel_rfl)) (by decide) (by decide) (by decide) (fun K hK => ?_) (fun K hK => ?_) (fun K hK => ?_)
                     ·skip
                      refine Kd.N_make_step (Kd.slice 82 k82) _ 41 (by rfl) (N':=41) rfl 25 _ _ rfl (n0 : Int) rfl rfl Try.underlying25 (.slice none 0 0) 24 info41 rfl (by decide) (by omega) [] (ok:=fun k_ => w9.heap.size ≤ k_) (okp:=fun _ => False) (Kd.FK_slice_mk (Nat.le_refl _) (Kd.F_nil _ _ _)) (fun _ hk => hk.elim) (Nat.le_refl _) (by omega) (by have:=HN5.out;omega) (Below.refl _ _) (Nat.le_refl _) ?_
                      intro v_ w3 ho_ hb_ hg_ hnew_
                      clear hg_ hnew_
                      rw [Int.toNat_natCast,← HS0.out] at ho_
                      have hV_:=Kd.N_V (base':=0) ho_
                      obtain ⟨A1v,c1v,rfl⟩:=Kd.V_slice hV_
                      have n_:=Aside0.mk ((HE.out.call hb_).addV hV_ (fun k hk => HE.out.fresh k hk))
                      clear HE hV_ ho_ hb_
                      have HE:=n_
                      clear n_
                      refine hK.out _ _ trivial (fun hHeld => ?_)
                      clear hK K
                      refine nO ?_
                      refine pU 2 (some 42) HT_ rfl ?_
                      exact nJ (hJ1_7 ((A1v,c1v),gr) _ HE.out)
                     ·skip
                      refine Kd.N_make_step (Kd.slice 82 k82) _ 41 (by rfl) (N':=44) rfl 25 _ _ rfl (n0 : Int) rfl rfl Try.underlying25 (.slice none 0 0) 24 info41 rfl (by decide) (by omega) [] (ok:=fun k_ => w9.heap.size ≤ k_) (okp:=fun _ => False) (Kd.FK_slice_mk (Nat.le_refl _) (Kd.F_nil _ _ _)) (fun _ hk => hk.elim) (Nat.le_refl _) (by omega) (by have:=HN5.out;omega) (Below.refl _ _) (Nat.le_refl _) ?_
                      intro v_ w3 ho_ hb_ hg_ hnew_
                      clear hg_ hnew_
                      rw [Int.toNat_natCast,← HS0.out] at ho_
                      have hV_:=Kd.N_V (base':=0) ho_
                      obtain ⟨A4v,c4v,rfl⟩:=Kd.V_slice hV_
                      have n_:=Aside0.mk ((HE.out.call hb_).addV hV_ (fun k hk => HE.out.fresh k hk))
                      clear HE hV_ ho_ hb_
                      have HE:=n_
                      clear n_
                      refine hK.out _ _ trivial (fun hHeld => ?_)
                      clear hK K
                      refine nO ?_
                      refine pU 5 (some 45) HT_ rfl ?_
                      exact nJ (hJ4_7 ((A4v,c4v),gr) _ HE.out)
                     skip
                     refine box_step ?hg (N:=5) ?hd (cs:=#[.slice none 0 0]) (t:=27) ?hr ?_;(case hd => rfl);(case hg => rfl);(case hr => first|(go_simp;done)|(go_simp;rfl))
                     intro gs hg_ w3 hbx_ hb_
                     have n_:=Aside0.mk (HE.out.box hg_ hbx_ hb_)
                     clear HE hg_ hbx_ hb_
                     have HE:=n_
                     clear n_
                     refine hK.out _ _ trivial (fun hHeld => ?_)
                     clear hK K
                     refine nO ?_
                     exact nJ (hJ6_7 (gs,gr) _ (HE.out.perm (List.Perm.swap _ _ _)))
                    skip
                    (try clear HE)
                    (try clear hHeld)
                    rintro gs w9 hF_
                    (try dsimp only at hF_)
                    (try dsimp only)
                    have HE:=Aside0.mk hF_
                    clear hF_
                    have hHeld : True:=trivial
                    refine nQ ?_
                    refine three_ (i:=1) (j:=4) (k:=7) (Ni:=some 41) (Nj:=some 44) (Nk:=some 6) #[tT,tT,fF,tT,fF,fF,tT,fF,fF,fF] #[tT,fF,fF,tT,tT,fF,tT,fF,fF,fF] #[tT,fF,fF,tT,fF,fF,tT,tT,fF,fF] rfl rfl rfl rfl rfl rfl (three_of HT_.out (by kernel_rfl)) (by decide) (by decide) (by decide) (fun K hK => ?_) (fun K hK => ?_) (fun K hK => ?_)
                    ·skip
                     refine Kd.N_make_step (Kd.slice 82 k82) _ 41 (by rfl) (N':=41) rfl 25 _ _ rfl (n0 : Int) rfl rfl Try.underlying25 (.slice none 0 0) 24 info41 rfl (by decide) (by omega) [] (ok:=fun k_ => w9.heap.size ≤ k_) (okp:=fun _ => False) (Kd.FK_slice_mk (Nat.le_refl _) (Kd.F_nil _ _ _)) (fun _ hk => hk.elim) (Nat.le_refl _) (by omega) (by have:=HN5.out;omega) (Below.refl _ _) (Nat.le_refl _) ?_
                     intro v_ w3 ho_ hb_ hg_ hnew_
                     clear hg_ hnew_
                     rw [Int.toNat_natCast,← HS0.out] at ho_
                     have hV_:=Kd.N_V (base':=0) ho_
                     obtain ⟨A1v,c1v,rfl⟩:=Kd.V_slice hV_
                     have n_:=Aside0.mk ((HE.out.call hb_).addV hV_ (fun k hk => HE.out.fresh k hk))
                     clear HE hV_ ho_ hb_
                     have HE:=n_
                     clear n_
                     refine hK.out _ _ trivial (fun hHeld => ?_)
                     clear hK K
                     refine nO ?_
                     refine pU 2 (some 42) HT_ rfl ?_
                     exact nJ (hJ1_6 ((A1v,c1v),gs) _ HE.out)
                    ·skip
                     refine Kd.N_make_step (Kd.slice 82 k82) _ 41 (by rfl) (N':=44) rfl 25 _ _ rfl (n0 : Int) rfl rfl Try.underlying25 (.slice none 0 0) 24 info41 rfl (by decide) (by omega) [] (ok:=fun k_ => w9.heap.size ≤ k_) (okp:=fun _ => False) (Kd.FK_slice_mk (Nat.le_refl _) (Kd.F_nil _ _ _)) (fun _ hk => hk.elim) (Nat.le_refl _) (by omega) (by have:=HN5.out;omega) (Below.refl _ _) (Nat.le_refl _) ?_
                     intro v_ w3 ho_ hb_ hg_ hnew_
                     clear hg_ hnew_
                     rw [Int.toNat_natCast,← HS0.out] at ho_
                     have hV_:=Kd.N_V (base':=0) ho_
                     obtain ⟨A4v,c4v,rfl⟩:=Kd.V_slice hV_
                     have n_:=Aside0.mk ((HE.out.call hb_).addV hV_ (fun k hk => HE.out.fresh k hk))
                     clear HE hV_ ho_ hb_
                     have HE:=n_
                     clear n_
                     refine hK.out _ _ trivial (fun hHeld => ?_)
                     clear hK K
                     refine nO ?_
                     refine pU 5 (some 45) HT_ rfl ?_
                     exact nJ (hJ4_6 ((A4v,c4v),gs) _ HE.out)
                    skip
                    refine box_step ?hg (N:=6) ?hd (cs:=#[.slice none 0 0]) (t:=27) ?hr ?_;(case hd => rfl);(case hg => rfl);(case hr => first|(go_simp;done)|(go_simp;rfl))
                    intro gr hg_ w3 hbx_ hb_
                    have n_:=Aside0.mk (HE.out.box hg_ hbx_ hb_)
                    clear HE hg_ hbx_ hb_
                    have HE:=n_
                    clear n_
                    refine hK.out _ _ trivial (fun hHeld => ?_)
                    clear hK K
                    refine nO ?_
                    exact nJ (hJ6_7 (gs,gr) _ HE.out)
                   skip
                   (try clear HE)
                   (try clear hHeld)
                   rintro ⟨A4v,c4v⟩ w9 hF_
                   (try dsimp only at hF_)
                   (try dsimp only)
                   have HE:=Aside0.mk hF_
                   clear hF_
                   have hHeld : True:=trivial
                   refine nQ ?_
                   refine three_ (i:=1) (j:=6) (k:=7) (Ni:=some 41) (Nj:=some 5) (Nk:=some 6) #[tT,tT,fF,tT,tT,tT,fF,fF,fF,fF] #[tT,fF,fF,tT,tT,tT,tT,fF,fF,fF] #[tT,fF,fF,tT,tT,tT,fF,tT,fF,fF] rfl rfl rfl rfl rfl rfl (three_of HT_.out (by kernel_rfl)) (by decide) (by decide) (by decide) (fun K hK => ?_) (fun K hK => ?_) (fun K hK => ?_)
                   ·skip
                    refine Kd.N_make_step (Kd.slice 82 k82) _ 41 (by rfl) (N':=41) rfl 25 _ _ rfl (n0 : Int) rfl rfl Try.underlying25 (.slice none 0 0) 24 info41 rfl (by decide) (by omega) [] (ok:=fun k_ => w9.heap.size ≤ k_) (okp:=fun _ => False) (Kd.FK_slice_mk (Nat.le_refl _) (Kd.F_nil _ _ _)) (fun _ hk => hk.elim) (Nat.le_refl _) (by omega) (by have:=HN5.out;omega) (Below.refl _ _) (Nat.le_refl _) ?_
                    intro v_ w3 ho_ hb_ hg_ hnew_
                    clear hg_ hnew_
                    rw [Int.toNat_natCast,← HS0.out] at ho_
                    have hV_:=Kd.N_V (base':=0) ho_
                    obtain ⟨A1v,c1v,rfl⟩:=Kd.V_slice hV_
                    have n_:=Aside0.mk ((HE.out.call hb_).addV hV_ (fun k hk => HE.out.fresh k hk))
                    clear HE hV_ ho_ hb_
                    have HE:=n_
                    clear n_
                    refine hK.out _ _ trivial (fun hHeld => ?_)
                    clear hK K
                    refine nO ?_
                    refine pU 2 (some 42) HT_ rfl ?_
                    exact nJ (hJ1_4 ((A1v,c1v),(A4v,c4v)) _ (HE.out.re (fun p hp => by simp only [List.mem_cons,List.not_mem_nil,or_false] at hp ⊢;rcases hp with h|h <;> simp [h]) (fun p hp => hp)))
                   ·skip
                    refine box_step ?hg (N:=5) ?hd (cs:=#[.slice none 0 0]) (t:=27) ?hr ?_;(case hd => rfl);(case hg => rfl);(case hr => first|(go_simp;done)|(go_simp;rfl))
                    intro gs hg_ w3 hbx_ hb_
                    have n_:=Aside0.mk (HE.out.box hg_ hbx_ hb_)
                    clear HE hg_ hbx_ hb_
                    have HE:=n_
                    clear n_
                    refine hK.out _ _ trivial (fun hHeld => ?_)
                    clear hK K
                    refine nO ?_
                    exact nJ (hJ4_6 ((A4v,c4v),gs) _ HE.out)
                   skip
                   refine box_step ?hg (N:=6) ?hd (cs:=#[.slice none 0 0]) (t:=27) ?hr ?_;(case hd => rfl);(case hg => rfl);(case hr => first|(go_simp;done)|(go_simp;rfl))
                   intro gr hg_ w3 hbx_ hb_
                   have n_:=Aside0.mk (HE.out.box hg_ hbx_ hb_)
                   clear HE hg_ hbx_ hb_
                   have HE:=n_
                   clear n_
                   refine hK.out _ _ trivial (fun hHeld => ?_)
                   clear hK K
                   refine nO ?_
                   exact nJ (hJ4_7 ((A4v,c4v),gr) _ HE.out)
                  skip
                  (try clear HE)
                  (try clear hHeld)
                  rintro ⟨A1v,c1v⟩ w9 hF_
                  (try dsimp only at hF_)
                  (try dsimp only)
                  have HE:=Aside0.mk hF_
                  clear hF_
                  have hHeld : True:=trivial
                  refine nQ ?_
                  refine three_ (i:=4) (j:=6) (k:=7) (Ni:=some 44) (Nj:=some 5) (Nk:=some 6) #[tT,tT,tT,tT,tT,fF,fF,fF,fF,fF] #[tT,tT,tT,tT,fF,fF,tT,fF,fF,fF] #[tT,tT,tT,tT,fF,fF,fF,tT,fF,fF] rfl rfl rfl rfl rfl rfl (three_of HT_.out (by kernel_rfl)) (by decide) (by decide) (by decide) (fun K hK => ?_) (fun K hK => ?_) (fun K hK => ?_)
                  ·skip
                   refine Kd.N_make_step (Kd.slice 82 k82) _ 41 (by rfl) (N':=44) rfl 25 _ _ rfl (n0 : Int) rfl rfl Try.underlying25 (.slice none 0 0) 24 info41 rfl (by decide) (by omega) [] (ok:=fun k_ => w9.heap.size ≤ k_) (okp:=fun _ => False) (Kd.FK_slice_mk (Nat.le_refl _) (Kd.F_nil _ _ _)) (fun _ hk => hk.elim) (Nat.le_refl _) (by omega) (by have:=HN5.out;omega) (Below.refl _ _) (Nat.le_refl _) ?_
                   intro v_ w3 ho_ hb_ hg_ hnew_
                   clear hg_ hnew_
                   rw [Int.toNat_natCast,← HS0.out] at ho_
                   have hV_:=Kd.N_V (base':=0) ho_
                   obtain ⟨A4v,c4v,rfl⟩:=Kd.V_slice hV_
                   have n_:=Aside0.mk ((HE.out.call hb_).addV hV_ (fun k hk => HE.out.fresh k hk))
                   clear HE hV_ ho_ hb_
                   have HE:=n_
                   clear n_
                   refine hK.out _ _ trivial (fun hHeld => ?_)
                   clear hK K
                   refine nO ?_
                   refine pU 5 (some 45) HT_ rfl ?_
                   exact nJ (hJ1_4 ((A1v,c1v),(A4v,c4v)) _ HE.out)
                  ·skip
                   refine box_step ?hg (N:=5) ?hd (cs:=#[.slice none 0 0]) (t:=27) ?hr ?_;(case hd => rfl);(case hg => rfl);(case hr => first|(go_simp;done)|(go_simp;rfl))
                   intro gs hg_ w3 hbx_ hb_
                   have n_:=Aside0.mk (HE.out.box hg_ hbx_ hb_)
                   clear HE hg_ hbx_ hb_
                   have HE:=n_
                   clear n_
                   refine hK.out _ _ trivial (fun hHeld => ?_)
                   clear hK K
                   refine nO ?_
                   exact nJ (hJ1_6 ((A1v,c1v),gs) _ HE.out)
                  skip
                  refine box_step ?hg (N:=6) ?hd (cs:=#[.slice none 0 0]) (t:=27) ?hr ?_;(case hd => rfl);(case hg => rfl);(case hr => first|(go_simp;done)|(go_simp;rfl))
                  intro gr hg_ w3 hbx_ hb_
                  have n_:=Aside0.mk (HE.out.box hg_ hbx_ hb_)
                  clear HE hg_ hbx_ hb_
                  have HE:=n_
                  clear n_
                  refine hK.out _ _ trivial (fun hHeld => ?_)
                  clear hK K
                  refine nO ?_
                  exact nJ (hJ1_7 ((A1v,c1v),gr) _ HE.out)
                 skip
                 (try clear HE)
                 (try clear hHeld)
                 rintro ⟨gs,gr⟩ w9 hF_
                 (try dsimp only at hF_)
                 (try dsimp only)
                 have HE:=Aside0.mk hF_
                 clear hF_
                 have hHeld : True:=trivial
                 refine nQ ?_
                 refine two_ (i:=1) (j:=4) (Ni:=some 41) (Nj:=some 44) #[tT,tT,fF,tT,fF,fF,tT,tT,fF,fF] #[tT,fF,fF,tT,tT,fF,tT,tT,fF,fF] rfl rfl rfl rfl (two_of HT_.out (by kernel_rfl)) (by decide) (by decide) (fun K hK => ?_) (fun K hK => ?_)
                 ·skip
                  refine Kd.N_make_step (Kd.slice 82 k82) _ 41 (by rfl) (N':=41) rfl 25 _ _ rfl (n0 : Int) rfl rfl Try.underlying25 (.slice none 0 0) 24 info41 rfl (by decide) (by omega) [] (ok:=fun k_ => w9.heap.size ≤ k_) (okp:=fun _ => False) (Kd.FK_slice_mk (Nat.le_refl _) (Kd.F_nil _ _ _)) (fun _ hk => hk.elim) (Nat.le_refl _) (by omega) (by have:=HN5.out;omega) (Below.refl _ _) (Nat.le_refl _) ?_
                  intro v_ w3 ho_ hb_ hg_ hnew_
                  clear hg_ hnew_
                  rw [Int.toNat_natCast,← HS0.out] at ho_
                  have hV_:=Kd.N_V (base':=0) ho_
                  obtain ⟨A1v,c1v,rfl⟩:=Kd.V_slice hV_
                  have n_:=Aside0.mk ((HE.out.call hb_).addV hV_ (fun k hk => HE.out.fresh k hk))
                  clear HE hV_ ho_ hb_
                  have HE:=n_
                  clear n_
                  refine hK.out _ _ trivial (fun hHeld => ?_)
                  clear hK K
                  refine nO ?_
                  refine pU 2 (some 42) HT_ rfl ?_
                  exact nJ (hJ1_6_7 ((A1v,c1v),gs,gr) _ HE.out)
                 skip
                 refine Kd.N_make_step (Kd.slice 82 k82) _ 41 (by rfl) (N':=44) rfl 25 _ _ rfl (n0 : Int) rfl rfl Try.underlying25 (.slice none 0 0) 24 info41 rfl (by decide) (by omega) [] (ok:=fun k_ => w9.heap.size ≤ k_) (okp:=fun _ => False) (Kd.FK_slice_mk (Nat.le_refl _) (Kd.F_nil _ _ _)) (fun _ hk => hk.elim) (Nat.le_refl _) (by omega) (by have:=HN5.out;omega) (Below.refl _ _) (Nat.le_refl _) ?_
                 intro v_ w3 ho_ hb_ hg_ hnew_
                 clear hg_ hnew_
                 rw [Int.toNat_natCast,← HS0.out] at ho_
                 have hV_:=Kd.N_V (base':=0) ho_
                 obtain ⟨A4v,c4v,rfl⟩:=Kd.V_slice hV_
                 have n_:=Aside0.mk ((HE.out.call hb_).addV hV_ (fun k hk => HE.out.fresh k hk))
                 clear HE hV_ ho_ hb_
                 have HE:=n_
                 clear n_
                 refine hK.out _ _ trivial (fun hHeld => ?_)
                 clear hK K
                 refine nO ?_
                 refine pU 5 (some 45) HT_ rfl ?_
                 exact nJ (hJ4_6_7 ((A4v,c4v),gs,gr) _ HE.out)
                skip
                (try clear HE)
                (try clear hHeld)
                rintro ⟨⟨A4v,c4v⟩,gr⟩ w9 hF_
                (try dsimp only at hF_)
                (try dsimp only)
                have HE:=Aside0.mk hF_
                clear hF_
                have hHeld : True:=trivial
                refine nQ ?_
                refine two_ (i:=1) (j:=6) (Ni:=some 41) (Nj:=some 5) #[tT,tT,fF,tT,tT,tT,fF,tT,fF,fF] #[tT,fF,fF,tT,tT,tT,tT,tT,fF,fF] rfl rfl rfl rfl (two_of HT_.out (by kernel_rfl)) (by decide) (by decide) (fun K hK => ?_) (fun K hK => ?_)
                ·skip
                 refine Kd.N_make_step (Kd.slice 82 k82) _ 41 (by rfl) (N':=41) rfl 25 _ _ rfl (n0 : Int) rfl rfl Try.underlying25 (.slice none 0 0) 24 info41 rfl (by decide) (by omega) [] (ok:=fun k_ => w9.heap.size ≤ k_) (okp:=fun _ => False) (Kd.FK_slice_mk (Nat.le_refl _) (Kd.F_nil _ _ _)) (fun _ hk => hk.elim) (Nat.le_refl _) (by omega) (by have:=HN5.out;omega) (Below.refl _ _) (Nat.le_refl _) ?_
                 intro v_ w3 ho_ hb_ hg_ hnew_
                 clear hg_ hnew_
                 rw [Int.toNat_natCast,← HS0.out] at ho_
                 have hV_:=Kd.N_V (base':=0) ho_
                 obtain ⟨A1v,c1v,rfl⟩:=Kd.V_slice hV_
                 have n_:=Aside0.mk ((HE.out.call hb_).addV hV_ (fun k hk => HE.out.fresh k hk))
                 clear HE hV_ ho_ hb_
                 have HE:=n_
                 clear n_
                 refine hK.out _ _ trivial (fun hHeld => ?_)
                 clear hK K
                 refine nO ?_
                 refine pU 2 (some 42) HT_ rfl ?_
                 exact nJ (hJ1_4_7 ((A1v,c1v),(A4v,c4v),gr) _ (HE.out.re (fun p hp => by simp only [List.mem_cons,List.not_mem_nil,or_false] at hp ⊢;rcases hp with h|h <;> simp [h]) (fun p hp => hp)))
                skip
                refine box_step ?hg (N:=5) ?hd (cs:=#[.slice none 0 0]) (t:=27) ?hr ?_;(case hd => rfl);(case hg => rfl);(case hr => first|(go_simp;done)|(go_simp;rfl))
                intro gs hg_ w3 hbx_ hb_
                have n_:=Aside0.mk (HE.out.box hg_ hbx_ hb_)
                clear HE hg_ hbx_ hb_
                have HE:=n_
                clear n_
                refine hK.out _ _ trivial (fun hHeld => ?_)
                clear hK K
                refine nO ?_
                exact nJ (hJ4_6_7 ((A4v,c4v),gs,gr) _ (HE.out.perm (List.Perm.swap _ _ _)))
               skip
               (try clear HE)
               (try clear hHeld)
               rintro ⟨⟨A4v,c4v⟩,gs⟩ w9 hF_
               (try dsimp only at hF_)
               (try dsimp only)
               have HE:=Aside0.mk hF_
               clear hF_
               have hHeld : True:=trivial
               refine nQ ?_
               refine two_ (i:=1) (j:=7) (Ni:=some 41) (Nj:=some 6) #[tT,tT,fF,tT,tT,tT,tT,fF,fF,fF] #[tT,fF,fF,tT,tT,tT,tT,tT,fF,fF] rfl rfl rfl rfl (two_of HT_.out (by kernel_rfl)) (by decide) (by decide) (fun K hK => ?_) (fun K hK => ?_)
               ·skip
                refine Kd.N_make_step (Kd.slice 82 k82) _ 41 (by rfl) (N':=41) rfl 25 _ _ rfl (n0 : Int) rfl rfl Try.underlying25 (.slice none 0 0) 24 info41 rfl (by decide) (by omega) [] (ok:=fun k_ => w9.heap.size ≤ k_) (okp:=fun _ => False) (Kd.FK_slice_mk (Nat.le_refl _) (Kd.F_nil _ _ _)) (fun _ hk => hk.elim) (Nat.le_refl _) (by omega) (by have:=HN5.out;omega) (Below.refl _ _) (Nat.le_refl _) ?_
                intro v_ w3 ho_ hb_ hg_ hnew_
                clear hg_ hnew_
                rw [Int.toNat_natCast,← HS0.out] at ho_
                have hV_:=Kd.N_V (base':=0) ho_
                obtain ⟨A1v,c1v,rfl⟩:=Kd.V_slice hV_
                have n_:=Aside0.mk ((HE.out.call hb_).addV hV_ (fun k hk => HE.out.fresh k hk))
                clear HE hV_ ho_ hb_
                have HE:=n_
                clear n_
                refine hK.out _ _ trivial (fun hHeld => ?_)
                clear hK K
                refine nO ?_
                refine pU 2 (some 42) HT_ rfl ?_
                exact nJ (hJ1_4_6 ((A1v,c1v),(A4v,c4v),gs) _ (HE.out.re (fun p hp => by simp only [List.mem_cons,List.not_mem_nil,or_false] at hp ⊢;rcases hp with h|h <;> simp [h]) (fun p hp => hp)))
               skip
               refine box_step ?hg (N:=6) ?hd (cs:=#[.slice none 0 0]) (t:=27) ?hr ?_;(case hd => rfl);(case hg => rfl);(case hr => first|(go_simp;done)|(go_simp;rfl))
               intro gr hg_ w3 hbx_ hb_
               have n_:=Aside0.mk (HE.out.box hg_ hbx_ hb_)
               clear HE hg_ hbx_ hb_
               have HE:=n_
               clear n_
               refine hK.out _ _ trivial (fun hHeld => ?_)
               clear hK K
               refine nO ?_
               exact nJ (hJ4_6_7 ((A4v,c4v),gs,gr) _ HE.out)
              skip
              (try clear HE)
              (try clear hHeld)
              rintro ⟨⟨A1v,c1v⟩,gr⟩ w9 hF_
              (try dsimp only at hF_)
              (try dsimp only)
              have HE:=Aside0.mk hF_
              clear hF_
              have hHeld : True:=trivial
              refine nQ ?_
              refine two_ (i:=4) (j:=6) (Ni:=some 44) (Nj:=some 5) #[tT,tT,tT,tT,tT,fF,fF,tT,fF,fF] #[tT,tT,tT,tT,fF,fF,tT,tT,fF,fF] rfl rfl rfl rfl (two_of HT_.out (by kernel_rfl)) (by decide) (by decide) (fun K hK => ?_) (fun K hK => ?_)
              ·skip
               refine Kd.N_make_step (Kd.slice 82 k82) _ 41 (by rfl) (N':=44) rfl 25 _ _ rfl (n0 : Int) rfl rfl Try.underlying25 (.slice none 0 0) 24 info41 rfl (by decide) (by omega) [] (ok:=fun k_ => w9.heap.size ≤ k_) (okp:=fun _ => False) (Kd.FK_slice_mk (Nat.le_refl _) (Kd.F_nil _ _ _)) (fun _ hk => hk.elim) (Nat.le_refl _) (by omega) (by have:=HN5.out;omega) (Below.refl _ _) (Nat.le_refl _) ?_
               intro v_ w3 ho_ hb_ hg_ hnew_
               clear hg_ hnew_
               rw [Int.toNat_natCast,← HS0.out] at ho_
               have hV_:=Kd.N_V (base':=0) ho_
               obtain ⟨A4v,c4v,rfl⟩:=Kd.V_slice hV_
               have n_:=Aside0.mk ((HE.out.call hb_).addV hV_ (fun k hk => HE.out.fresh k hk))
               clear HE hV_ ho_ hb_
               have HE:=n_
               clear n_
               refine hK.out _ _ trivial (fun hHeld => ?_)
               clear hK K
               refine nO ?_
               refine pU 5 (some 45) HT_ rfl ?_
               exact nJ (hJ1_4_7 ((A1v,c1v),(A4v,c4v),gr) _ HE.out)
              skip
              refine box_step ?hg (N:=5) ?hd (cs:=#[.slice none 0 0]) (t:=27) ?hr ?_;(case hd => rfl);(case hg => rfl);(case hr => first|(go_simp;done)|(go_simp;rfl))
              intro gs hg_ w3 hbx_ hb_
              have n_:=Aside0.mk (HE.out.box hg_ hbx_ hb_)
              clear HE hg_ hbx_ hb_
              have HE:=n_
              clear n_
              refine hK.out _ _ trivial (fun hHeld => ?_)
              clear hK K
              refine nO ?_
              exact nJ (hJ1_6_7 ((A1v,c1v),gs,gr) _ (HE.out.perm (List.Perm.swap _ _ _)))
             skip
             (try clear HE)
             (try clear hHeld)
             rintro ⟨⟨A1v,c1v⟩,gs⟩ w9 hF_
             (try dsimp only at hF_)
             (try dsimp only)
             have HE:=Aside0.mk hF_
             clear hF_
             have hHeld : True:=trivial
             refine nQ ?_
             refine two_ (i:=4) (j:=7) (Ni:=some 44) (Nj:=some 6) #[tT,tT,tT,tT,tT,fF,tT,fF,fF,fF] #[tT,tT,tT,tT,fF,fF,tT,tT,fF,fF] rfl rfl rfl rfl (two_of HT_.out (by kernel_rfl)) (by decide) (by decide) (fun K hK => ?_) (fun K hK => ?_)
             ·skip
              refine Kd.N_make_step (Kd.slice 82 k82) _ 41 (by rfl) (N':=44) rfl 25 _ _ rfl (n0 : Int) rfl rfl Try.underlying25 (.slice none 0 0) 24 info41 rfl (by decide) (by omega) [] (ok:=fun k_ => w9.heap.size ≤ k_) (okp:=fun _ => False) (Kd.FK_slice_mk (Nat.le_refl _) (Kd.F_nil _ _ _)) (fun _ hk => hk.elim) (Nat.le_refl _) (by omega) (by have:=HN5.out;omega) (Below.refl _ _) (Nat.le_refl _) ?_
              intro v_ w3 ho_ hb_ hg_ hnew_
              clear hg_ hnew_
              rw [Int.toNat_natCast,← HS0.out] at ho_
              have hV_:=Kd.N_V (base':=0) ho_
              obtain ⟨A4v,c4v,rfl⟩:=Kd.V_slice hV_
              have n_:=Aside0.mk ((HE.out.call hb_).addV hV_ (fun k hk => HE.out.fresh k hk))
              clear HE hV_ ho_ hb_
              have HE:=n_
              clear n_
              refine hK.out _ _ trivial (fun hHeld => ?_)
              clear hK K
              refine nO ?_
              refine pU 5 (some 45) HT_ rfl ?_
              exact nJ (hJ1_4_6 ((A1v,c1v),(A4v,c4v),gs) _ HE.out)
             skip
             refine box_step ?hg (N:=6) ?hd (cs:=#[.slice none 0 0]) (t:=27) ?hr ?_;(case hd => rfl);(case hg => rfl);(case hr => first|(go_simp;done)|(go_simp;rfl))
             intro gr hg_ w3 hbx_ hb_
             have n_:=Aside0.mk (HE.out.box hg_ hbx_ hb_)
             clear HE hg_ hbx_ hb_
             have HE:=n_
             clear n_
             refine hK.out _ _ trivial (fun hHeld => ?_)
             clear hK K
             refine nO ?_
             exact nJ (hJ1_6_7 ((A1v,c1v),gs,gr) _ HE.out)
            skip
            (try clear HE)
            (try clear hHeld)
            rintro ⟨⟨A1v,c1v⟩,⟨A4v,c4v⟩⟩ w9 hF_
            (try dsimp only at hF_)
            (try dsimp only)
            have HE:=Aside0.mk hF_
            clear hF_
            have hHeld : True:=trivial
            refine nQ ?_
            refine two_ (i:=6) (j:=7) (Ni:=some 5) (Nj:=some 6) #[tT,tT,tT,tT,tT,tT,tT,fF,fF,fF] #[tT,tT,tT,tT,tT,tT,fF,tT,fF,fF] rfl rfl rfl rfl (two_of HT_.out (by kernel_rfl)) (by decide) (by decide) (fun K hK => ?_) (fun K hK => ?_)
            ·skip
             refine box_step ?hg (N:=5) ?hd (cs:=#[.slice none 0 0]) (t:=27) ?hr ?_;(case hd => rfl);(case hg => rfl);(case hr => first|(go_simp;done)|(go_simp;rfl))
             intro gs hg_ w3 hbx_ hb_
             have n_:=Aside0.mk (HE.out.box hg_ hbx_ hb_)
             clear HE hg_ hbx_ hb_
             have HE:=n_
             clear n_
             refine hK.out _ _ trivial (fun hHeld => ?_)
             clear hK K
             refine nO ?_
             exact nJ (hJ1_4_6 ((A1v,c1v),(A4v,c4v),gs) _ HE.out)
            skip
            refine box_step ?hg (N:=6) ?hd (cs:=#[.slice none 0 0]) (t:=27) ?hr ?_;(case hd => rfl);(case hg => rfl);(case hr => first|(go_simp;done)|(go_simp;rfl))
            intro gr hg_ w3 hbx_ hb_
            have n_:=Aside0.mk (HE.out.box hg_ hbx_ hb_)
            clear HE hg_ hbx_ hb_
            have HE:=n_
            clear n_
            refine hK.out _ _ trivial (fun hHeld => ?_)
            clear hK K
            refine nO ?_
            exact nJ (hJ1_4_7 ((A1v,c1v),(A4v,c4v),gr) _ HE.out)
           skip
           (try clear HE)
           (try clear hHeld)
           rintro ⟨⟨A4v,c4v⟩,gs,gr⟩ w9 hF_
           (try dsimp only at hF_)
           (try dsimp only)
           have HE:=Aside0.mk hF_
           clear hF_
           have hHeld : True:=trivial
           refine nQ ?_
           refine oN 1 (some 41) HT_ rfl (fun K hK => ?_)
           refine Kd.N_make_step (Kd.slice 82 k82) _ 41 (by rfl) (N':=41) rfl 25 _ _ rfl (n0 : Int) rfl rfl Try.underlying25 (.slice none 0 0) 24 info41 rfl (by decide) (by omega) [] (ok:=fun k_ => w9.heap.size ≤ k_) (okp:=fun _ => False) (Kd.FK_slice_mk (Nat.le_refl _) (Kd.F_nil _ _ _)) (fun _ hk => hk.elim) (Nat.le_refl _) (by omega) (by have:=HN5.out;omega) (Below.refl _ _) (Nat.le_refl _) ?_
           intro v_ w3 ho_ hb_ hg_ hnew_
           clear hg_ hnew_
           rw [Int.toNat_natCast,← HS0.out] at ho_
           have hV_:=Kd.N_V (base':=0) ho_
           obtain ⟨A1v,c1v,rfl⟩:=Kd.V_slice hV_
           have n_:=Aside0.mk ((HE.out.call hb_).addV hV_ (fun k hk => HE.out.fresh k hk))
           clear HE hV_ ho_ hb_
           have HE:=n_
           clear n_
           refine hK.out _ _ trivial (fun hHeld => ?_)
           clear hK K
           refine nO ?_
           refine pU 2 (some 42) HT_ rfl ?_
           exact nJ (hJ1_4_6_7 ((A1v,c1v),(A4v,c4v),gs,gr) _ (HE.out.re (fun p hp => by simp only [List.mem_cons,List.not_mem_nil,or_false] at hp ⊢;rcases hp with h|h <;> simp [h]) (fun p hp => hp)))
          skip
          (try clear HE)
          (try clear hHeld)
          rintro ⟨⟨A1v,c1v⟩,gs,gr⟩ w9 hF_
          (try dsimp only at hF_)
          (try dsimp only)
          have HE:=Aside0.mk hF_
          clear hF_
          have hHeld : True:=trivial
          refine nQ ?_
          refine two_ (i:=4) (j:=8) (Ni:=some 44) (Nj:=none) #[tT,tT,tT,tT,tT,fF,tT,tT,fF,fF] #[tT,tT,tT,tT,fF,fF,tT,tT,tT,fF] rfl rfl rfl rfl (two_of HT_.out (by kernel_rfl)) (by decide) (by decide) (fun K hK => ?_) (fun K hK => ?_)
          ·skip
           refine Kd.N_make_step (Kd.slice 82 k82) _ 41 (by rfl) (N':=44) rfl 25 _ _ rfl (n0 : Int) rfl rfl Try.underlying25 (.slice none 0 0) 24 info41 rfl (by decide) (by omega) [] (ok:=fun k_ => w9.heap.size ≤ k_) (okp:=fun _ => False) (Kd.FK_slice_mk (Nat.le_refl _) (Kd.F_nil _ _ _)) (fun _ hk => hk.elim) (Nat.le_refl _) (by omega) (by have:=HN5.out;omega) (Below.refl _ _) (Nat.le_refl _) ?_
           intro v_ w3 ho_ hb_ hg_ hnew_
           clear hg_ hnew_
           rw [Int.toNat_natCast,← HS0.out] at ho_
           have hV_:=Kd.N_V (base':=0) ho_
           obtain ⟨A4v,c4v,rfl⟩:=Kd.V_slice hV_
           have n_:=Aside0.mk ((HE.out.call hb_).addV hV_ (fun k hk => HE.out.fresh k hk))
           clear HE hV_ ho_ hb_
           have HE:=n_
           clear n_
           refine hK.out _ _ trivial (fun hHeld => ?_)
           clear hK K
           refine nO ?_
           refine pU 5 (some 45) HT_ rfl ?_
           exact nJ (hJ1_4_6_7 ((A1v,c1v),(A4v,c4v),gs,gr) _ HE.out)
          skip
          have hc_ : w9.cell? ⟨gs,0,none⟩ = some (.slice none 0 0):=HE.out.cell 1 0 rfl rfl
          have hf_ : w9.frozen? ⟨gs,0,none⟩ = false:=HE.out.frz 1 0 rfl
          refine skip_ (w1:=?_) (by rfl) rfl ?_ ?_
          rotate_left
          ·go_simp
           rfl
          have n_:=Aside0.mk (HE.out.set 1 rfl 0 (.slice A1v S0.length c1v))
          clear HE hc_ hf_
          have HE:=n_
          clear n_
          refine hK.out _ _ trivial (fun hHeld => ?_)
          clear hK K
          exact nJ (hJ1_6_7_8 ((A1v,c1v),gs,gr) _ HE.out)
         skip
         (try clear HE)
         (try clear hHeld)
         rintro ⟨⟨A1v,c1v⟩,⟨A4v,c4v⟩,gr⟩ w9 hF_
         (try dsimp only at hF_)
         (try dsimp only)
         have HE:=Aside0.mk hF_
         clear hF_
         have hHeld : True:=trivial
         refine nQ ?_
         refine oN 6 (some 5) HT_ rfl (fun K hK => ?_)
         refine box_step ?hg (N:=5) ?hd (cs:=#[.slice none 0 0]) (t:=27) ?hr ?_;(case hd => rfl);(case hg => rfl);(case hr => first|(go_simp;done)|(go_simp;rfl))
         intro gs hg_ w3 hbx_ hb_
         have n_:=Aside0.mk (HE.out.box hg_ hbx_ hb_)
         clear HE hg_ hbx_ hb_
         have HE:=n_
         clear n_
         refine hK.out _ _ trivial (fun hHeld => ?_)
         clear hK K
         refine nO ?_
         exact nJ (hJ1_4_6_7 ((A1v,c1v),(A4v,c4v),gs,gr) _ (HE.out.perm (List.Perm.swap _ _ _)))
        skip
        (try clear HE)
        (try clear hHeld)
        rintro ⟨⟨A1v,c1v⟩,⟨A4v,c4v⟩,gs⟩ w9 hF_
        (try dsimp only at hF_)
        (try dsimp only)
        have HE:=Aside0.mk hF_
        clear hF_
        have hHeld : True:=trivial
        refine nQ ?_
        refine oN 7 (some 6) HT_ rfl (fun K hK => ?_)
        refine box_step ?hg (N:=6) ?hd (cs:=#[.slice none 0 0]) (t:=27) ?hr ?_;(case hd => rfl);(case hg => rfl);(case hr => first|(go_simp;done)|(go_simp;rfl))
        intro gr hg_ w3 hbx_ hb_
        have n_:=Aside0.mk (HE.out.box hg_ hbx_ hb_)
        clear HE hg_ hbx_ hb_
        have HE:=n_
        clear n_
        refine hK.out _ _ trivial (fun hHeld => ?_)
        clear hK K
        refine nO ?_
        exact nJ (hJ1_4_6_7 ((A1v,c1v),(A4v,c4v),gs,gr) _ HE.out)
       skip
       (try clear HE)
       (try clear hHeld)
       rintro ⟨⟨A1v,c1v⟩,gs,gr⟩ w9 hF_
       (try dsimp only at hF_)
       (try dsimp only)
       have HE:=Aside0.mk hF_
       clear hF_
       have hHeld : True:=trivial
       refine nQ ?_
       refine oN 4 (some 44) HT_ rfl (fun K hK => ?_)
       refine Kd.N_make_step (Kd.slice 82 k82) _ 41 (by rfl) (N':=44) rfl 25 _ _ rfl (n0 : Int) rfl rfl Try.underlying25 (.slice none 0 0) 24 info41 rfl (by decide) (by omega) [] (ok:=fun k_ => w9.heap.size ≤ k_) (okp:=fun _ => False) (Kd.FK_slice_mk (Nat.le_refl _) (Kd.F_nil _ _ _)) (fun _ hk => hk.elim) (Nat.le_refl _) (by omega) (by have:=HN5.out;omega) (Below.refl _ _) (Nat.le_refl _) ?_
       intro v_ w3 ho_ hb_ hg_ hnew_
       clear hg_ hnew_
       rw [Int.toNat_natCast,← HS0.out] at ho_
       have hV_:=Kd.N_V (base':=0) ho_
       obtain ⟨A4v,c4v,rfl⟩:=Kd.V_slice hV_
       have n_:=Aside0.mk ((HE.out.call hb_).addV hV_ (fun k hk => HE.out.fresh k hk))
       clear HE hV_ ho_ hb_
       have HE:=n_
       clear n_
       refine hK.out _ _ trivial (fun hHeld => ?_)
       clear hK K
       refine nO ?_
       refine pU 5 (some 45) HT_ rfl ?_
       exact nJ (hJ1_4_6_7_8 ((A1v,c1v),(A4v,c4v),gs,gr) _ HE.out)
      skip
      (try clear HE)
      (try clear hHeld)
      rintro ⟨⟨A1v,c1v⟩,⟨A4v,c4v⟩,gs,gr⟩ w9 hF_
      (try dsimp only at hF_)
      (try dsimp only)
      have HE:=Aside0.mk hF_
      clear hF_
      have hHeld : True:=trivial
      refine nQ ?_
      refine oN 8 (none) HT_ rfl (fun K hK => ?_)
      have hc_ : w9.cell? ⟨gs,0,none⟩ = some (.slice none 0 0):=HE.out.cell 1 0 rfl rfl
      have hf_ : w9.frozen? ⟨gs,0,none⟩ = false:=HE.out.frz 1 0 rfl
      refine skip_ (w1:=?_) (by rfl) rfl ?_ ?_
      rotate_left
      ·go_simp
       rfl
      have n_:=Aside0.mk (HE.out.set 1 rfl 0 (.slice A1v S0.length c1v))
      clear HE hc_ hf_
      have HE:=n_
      clear n_
      refine hK.out _ _ trivial (fun hHeld => ?_)
      clear hK K
      exact nJ (hJ1_4_6_7_8 ((A1v,c1v),(A4v,c4v),gs,gr) _ HE.out)
     (try clear HE)
     (try clear hHeld)
     rintro ⟨⟨A1v,c1v⟩,⟨A4v,c4v⟩,gs,gr⟩ w9 hF_
     (try dsimp only at hF_)
     (try dsimp only)
     have HE:=Aside0.mk hF_
     clear hF_
     have hHeld : True:=trivial
     refine nQ ?_
     refine oN 9 (none) HT_ rfl (fun K hK => ?_)
     have hc_ : w9.cell? ⟨gr,0,none⟩ = some (.slice none 0 0):=HE.out.cell 0 0 rfl rfl
     have hf_ : w9.frozen? ⟨gr,0,none⟩ = false:=HE.out.frz 0 0 rfl
     refine skip_ (w1:=?_) (by rfl) rfl ?_ ?_
     rotate_left
     ·go_simp
      rfl
     have n_:=Aside0.mk (HE.out.set 0 rfl 0 (.slice A4v S0.length c4v))
     clear HE hc_ hf_
     have HE:=n_
     clear n_
     refine hK.out _ _ trivial (fun hHeld => ?_)
     clear hK K
     refine done_ (done_of HT_.out (by kernel_rfl)) ?_
    
     generalize (w9.setCell ⟨gr,0,none⟩ (.slice A4v S0.length c4v)) = wa at HE ⊢
     (try clear hHeld)
     have z_gr_0 : wa.cell? ⟨gr,0,none⟩ = some (.slice A4v S0.length c4v):=HE.out.cell 0 0 rfl rfl
     have z_gs_0 : wa.cell? ⟨gs,0,none⟩ = some (.slice A1v S0.length c1v):=HE.out.cell 1 0 rfl rfl
     go_wp2
     (try clear z_gr_0)
     (try clear y_gr_0)
     (try clear z_gs_0)
     (try clear y_gs_0)
     have n_:=Aside0.mk (HE.out.call (below_drew (Below.refl _ _)))
     clear HE
     have HE:=n_
     clear n_
     refine start_ (n:=7) (S:=fun w' => w'.cell? ⟨gr,0,none⟩ = some (.slice A4v S0.length c4v) ∧ w'.cell? ⟨gs,0,none⟩ = some (.slice A1v S0.length c1v)) (ds:=[6]) #[fF,fF,fF,fF,fF,fF,fF] (by kernel_rfl) rfl rfl ⟨HE.out.cell 0 0 rfl rfl,HE.out.cell 1 0 rfl rfl⟩ (fun hHeld => ?_)
     refine with_tabW hp.tab6 hp.bits6 (fun HT_ HW_ => ?_)
     generalize wa.drew = wq at HE hHeld ⊢
     refine tA 0 (some 46) HT_ HW_ hHeld rfl ?_
     refine tA 2 (some 48) HT_ HW_ hHeld rfl ?_
     refine join_ (σ:=(Option Addr × Nat × Nat) × Nat × Nat) 2 #[tT,tT,tT,tT,tT,fF,fF] (fun s_ => [(47, .agg #[.slice s_.1.1 s_.1.2.1 s_.1.2.2]),(7, .pointer (some ⟨s_.2.1,0,none⟩)),(8, .pointer (some ⟨s_.2.2,0,none⟩))]) (fun s_ w' => Pl w w' [(s_.2.2,#[.slice none 0 0],27),(s_.2.1,#[.slice none 0 0],27),(gr,#[.slice A4v S0.length c4v],27),(gs,#[.slice A1v S0.length c1v],27)] [(.slice s_.1.1 s_.1.2.1 s_.1.2.2,S0),(.slice A4v S0.length c4v,S0),(.slice A1v S0.length c1v,S0)] []) ?_ ?_
     rotate_left
     ·intro hJ1_3_4
      refine join_ (σ:=(Option Addr × Nat × Nat) × Nat) 3 #[tT,tT,tT,tT,fF,fF,fF] (fun s_ => [(47, .agg #[.slice s_.1.1 s_.1.2.1 s_.1.2.2]),(7, .pointer (some ⟨s_.2,0,none⟩))]) (fun s_ w' => Pl w w' [(s_.2,#[.slice none 0 0],27),(gr,#[.slice A4v S0.length c4v],27),(gs,#[.slice A1v S0.length c1v],27)] [(.slice s_.1.1 s_.1.2.1 s_.1.2.2,S0),(.slice A4v S0.length c4v,S0),(.slice A1v S0.length c1v,S0)] []) ?_ ?_
      rotate_left
      ·intro hJ1_3
       refine join_ (σ:=(Option Addr × Nat × Nat) × Nat) 3 #[tT,tT,tT,fF,tT,fF,fF] (fun s_ => [(47, .agg #[.slice s_.1.1 s_.1.2.1 s_.1.2.2]),(8, .pointer (some ⟨s_.2,0,none⟩))]) (fun s_ w' => Pl w w' [(s_.2,#[.slice none 0 0],27),(gr,#[.slice A4v S0.length c4v],27),(gs,#[.slice A1v S0.length c1v],27)] [(.slice s_.1.1 s_.1.2.1 s_.1.2.2,S0),(.slice A4v S0.length c4v,S0),(.slice A1v S0.length c1v,S0)] []) ?_ ?_
       rotate_left
       ·intro hJ1_4
        refine join_ (σ:=Nat × Nat) 3 #[tT,fF,tT,tT,tT,fF,fF] (fun s_ => [(7, .pointer (some ⟨s_.1,0,none⟩)),(8, .pointer (some ⟨s_.2,0,none⟩))]) (fun s_ w' => Pl w w' [(s_.2,#[.slice none 0 0],27),(s_.1,#[.slice none 0 0],27),(gr,#[.slice A4v S0.length c4v],27),(gs,#[.slice A1v S0.length c1v],27)] [(.slice A4v S0.length c4v,S0),(.slice A1v S0.length c1v,S0)] []) ?_ ?_
        rotate_left
        ·intro hJ3_4
         refine join_ (σ:=(Option Addr × Nat × Nat)) 4 #[tT,tT,tT,fF,fF,fF,fF] (fun s_ => [(47, .agg #[.slice s_.1 s_.2.1 s_.2.2])]) (fun s_ w' => Pl w w' [(gr,#[.slice A4v S0.length c4v],27),(gs,#[.slice A1v S0.length c1v],27)] [(.slice s_.1 s_.2.1 s_.2.2,S0),(.slice A4v S0.length c4v,S0),(.slice A1v S0.length c1v,S0)] []) ?_ ?_
         rotate_left
         ·intro hJ1
          refine join_ (σ:=Nat) 4 #[tT,fF,tT,tT,fF,fF,fF] (fun s_ => [(7, .pointer (some ⟨s_,0,none⟩))]) (fun s_ w' => Pl w w' [(s_,#[.slice none 0 0],27),(gr,#[.slice A4v S0.length c4v],27),(gs,#[.slice A1v S0.length c1v],27)] [(.slice A4v S0.length c4v,S0),(.slice A1v S0.length c1v,S0)] []) ?_ ?_
          rotate_left
          ·intro hJ3
           refine join_ (σ:=Nat) 4 #[tT,fF,tT,fF,tT,fF,fF] (fun s_ => [(8, .pointer (some ⟨s_,0,none⟩))]) (fun s_ w' => Pl w w' [(s_,#[.slice none 0 0],27),(gr,#[.slice A4v S0.length c4v],27),(gs,#[.slice A1v S0.length c1v],27)] [(.slice A4v S0.length c4v,S0),(.slice A1v S0.length c1v,S0)] []) ?_ ?_
           rotate_left
           ·intro hJ4
            refine three_ (i:=1) (j:=3) (k:=4) (Ni:=some 47) (Nj:=some 7) (Nk:=some 8) #[tT,tT,tT,fF,fF,fF,fF] #[tT,fF,tT,tT,fF,fF,fF] #[tT,fF,tT,fF,tT,fF,fF] rfl rfl rfl rfl rfl rfl (three_of HT_.out (by kernel_rfl)) (by decide) (by decide) (by decide) (fun K hK => ?_) (fun K hK => ?_) (fun K hK => ?_)
            ·skip
             refine goes_ Try.func17 (by kernel_rfl) rfl #[.agg #[.slice A4v S0.length c4v]] (by rfl) rfl rfl (by simp only [List.map_toArray,List.map_cons,List.map_nil];rfl) ?_
             with_reducible refine (c_copy HE.out 0 rfl GS0.out).mono ?_
             rintro e_ w3 ⟨Aw,nw,cw,rfl,hp_⟩
             refine ⟨_,rfl,?_⟩
             clear HE
             have HE:=Aside0.mk hp_
             clear hp_
             refine hK.out _ _ ⟨HE.out.cell 0 0 rfl rfl,HE.out.cell 1 0 rfl rfl⟩ (fun hHeld => ?_)
             clear hK K
             refine nO ?_
             exact nJ (hJ1 (Aw,nw,cw) _ HE.out)
            ·skip
             refine box_step ?hg (N:=7) ?hd (cs:=#[.slice none 0 0]) (t:=27) ?hr ?_;(case hd => rfl);(case hg => rfl);(case hr => first|(go_simp;done)|(go_simp;rfl))
             intro gw hg_ w3 hbx_ hb_
             have n_:=Aside0.mk (HE.out.box hg_ hbx_ hb_)
             clear HE hg_ hbx_ hb_
             have HE:=n_
             clear n_
             refine hK.out _ _ ⟨HE.out.cell 1 0 rfl rfl,HE.out.cell 2 0 rfl rfl⟩ (fun hHeld => ?_)
             clear hK K
             refine nO ?_
             exact nJ (hJ3 gw _ HE.out)
            skip
            refine box_step ?hg (N:=8) ?hd (cs:=#[.slice none 0 0]) (t:=27) ?hr ?_;(case hd => rfl);(case hg => rfl);(case hr => first|(go_simp;done)|(go_simp;rfl))
            intro go hg_ w3 hbx_ hb_
            have n_:=Aside0.mk (HE.out.box hg_ hbx_ hb_)
            clear HE hg_ hbx_ hb_
            have HE:=n_
            clear n_
            refine hK.out _ _ ⟨HE.out.cell 1 0 rfl rfl,HE.out.cell 2 0 rfl rfl⟩ (fun hHeld => ?_)
            clear hK K
            refine nO ?_
            exact nJ (hJ4 go _ HE.out)
           skip
           (try clear HE)
           (try clear hHeld)
           rintro go w9 hF_
           (try dsimp only at hF_)
           (try dsimp only)
           have HE:=Aside0.mk hF_
           clear hF_
           have hHeld : w9.cell? ⟨gr,0,none⟩ = some (.slice A4v S0.length c4v) ∧ w9.cell? ⟨gs,0,none⟩ = some (.slice A1v S0.length c1v):=⟨HE.out.cell 1 0 rfl rfl,HE.out.cell 2 0 rfl rfl⟩
           refine nQ ?_
           refine two_ (i:=1) (j:=3) (Ni:=some 47) (Nj:=some 7) #[tT,tT,tT,fF,tT,fF,fF] #[tT,fF,tT,tT,tT,fF,fF] rfl rfl rfl rfl (two_of HT_.out (by kernel_rfl)) (by decide) (by decide) (fun K hK => ?_) (fun K hK => ?_)
           ·skip
            refine goes_ Try.func17 (by kernel_rfl) rfl #[.agg #[.slice A4v S0.length c4v]] (by rfl) rfl rfl (by simp only [List.map_toArray,List.map_cons,List.map_nil];rfl) ?_
            with_reducible refine (c_copy HE.out 0 rfl GS0.out).mono ?_
            rintro e_ w3 ⟨Aw,nw,cw,rfl,hp_⟩
            refine ⟨_,rfl,?_⟩
            clear HE
            have HE:=Aside0.mk hp_
            clear hp_
            refine hK.out _ _ ⟨HE.out.cell 1 0 rfl rfl,HE.out.cell 2 0 rfl rfl⟩ (fun hHeld => ?_)
            clear hK K
            refine nO ?_
            exact nJ (hJ1_4 ((Aw,nw,cw),go) _ HE.out)
           skip
           refine box_step ?hg (N:=7) ?hd (cs:=#[.slice none 0 0]) (t:=27) ?hr ?_;(case hd => rfl);(case hg => rfl);(case hr => first|(go_simp;done)|(go_simp;rfl))
           intro gw hg_ w3 hbx_ hb_
           have n_:=Aside0.mk (HE.out.box hg_ hbx_ hb_)
           clear HE hg_ hbx_ hb_
           have HE:=n_
           clear n_
           refine hK.out _ _ ⟨HE.out.cell 2 0 rfl rfl,HE.out.cell 3 0 rfl rfl⟩ (fun hHeld => ?_)
           clear hK K
           refine nO ?_
           exact nJ (hJ3_4 (gw,go) _ (HE.out.perm (List.Perm.swap _ _ _)))
          skip
          (try clear HE)
          (try clear hHeld)
          rintro gw w9 hF_
          (try dsimp only at hF_)
          (try dsimp only)
          have HE:=Aside0.mk hF_
          clear hF_
          have hHeld : w9.cell? ⟨gr,0,none⟩ = some (.slice A4v S0.length c4v) ∧ w9.cell? ⟨gs,0,none⟩ = some (.slice A1v S0.length c1v):=⟨HE.out.cell 1 0 rfl rfl,HE.out.cell 2 0 rfl rfl⟩
          refine nQ ?_
          refine two_ (i:=1) (j:=4) (Ni:=some 47) (Nj:=some 8) #[tT,tT,tT,tT,fF,fF,fF] #[tT,fF,tT,tT,tT,fF,fF] rfl rfl rfl rfl (two_of HT_.out (by kernel_rfl)) (by decide) (by decide) (fun K hK => ?_) (fun K hK => ?_)
          ·skip
           refine goes_ Try.func17 (by kernel_rfl) rfl #[.agg #[.slice A4v S0.length c4v]] (by rfl) rfl rfl (by simp only [List.map_toArray,List.map_cons,List.map_nil];rfl) ?_
           with_reducible refine (c_copy HE.out 0 rfl GS0.out).mono ?_
           rintro e_ w3 ⟨Aw,nw,cw,rfl,hp_⟩
           refine ⟨_,rfl,?_⟩
           clear HE
           have HE:=Aside0.mk hp_
           clear hp_
           refine hK.out _ _ ⟨HE.out.cell 1 0 rfl rfl,HE.out.cell 2 0 rfl rfl⟩ (fun hHeld => ?_)
           clear hK K
           refine nO ?_
           exact nJ (hJ1_3 ((Aw,nw,cw),gw) _ HE.out)
          skip
          refine box_step ?hg (N:=8) ?hd (cs:=#[.slice none 0 0]) (t:=27) ?hr ?_;(case hd => rfl);(case hg => rfl);(case hr => first|(go_simp;done)|(go_simp;rfl))
          intro go hg_ w3 hbx_ hb_
          have n_:=Aside0.mk (HE.out.box hg_ hbx_ hb_)
          clear HE hg_ hbx_ hb_
          have HE:=n_
          clear n_
          refine hK.out _ _ ⟨HE.out.cell 2 0 rfl rfl,HE.out.cell 3 0 rfl rfl⟩ (fun hHeld => ?_)
          clear hK K
          refine nO ?_
          exact nJ (hJ3_4 (gw,go) _ HE.out)
         skip
         (try clear HE)
         (try clear hHeld)
         rintro ⟨Aw,nw,cw⟩ w9 hF_
         (try dsimp only at hF_)
         (try dsimp only)
         have HE:=Aside0.mk hF_
         clear hF_
         have hHeld : w9.cell? ⟨gr,0,none⟩ = some (.slice A4v S0.length c4v) ∧ w9.cell? ⟨gs,0,none⟩ = some (.slice A1v S0.length c1v):=⟨HE.out.cell 0 0 rfl rfl,HE.out.cell 1 0 rfl rfl⟩
         refine nQ ?_
         refine two_ (i:=3) (j:=4) (Ni:=some 7) (Nj:=some 8) #[tT,tT,tT,tT,fF,fF,fF] #[tT,tT,tT,fF,tT,fF,fF] rfl rfl rfl rfl (two_of HT_.out (by kernel_rfl)) (by decide) (by decide) (fun K hK => ?_) (fun K hK => ?_)
         ·skip
          refine box_step ?hg (N:=7) ?hd (cs:=#[.slice none 0 0]) (t:=27) ?hr ?_;(case hd => rfl);(case hg => rfl);(case hr => first|(go_simp;done)|(go_simp;rfl))
          intro gw hg_ w3 hbx_ hb_
          have n_:=Aside0.mk (HE.out.box hg_ hbx_ hb_)
          clear HE hg_ hbx_ hb_
          have HE:=n_
          clear n_
          refine hK.out _ _ ⟨HE.out.cell 1 0 rfl rfl,HE.out.cell 2 0 rfl rfl⟩ (fun hHeld => ?_)
          clear hK K
          refine nO ?_
          exact nJ (hJ1_3 ((Aw,nw,cw),gw) _ HE.out)
         skip
         refine box_step ?hg (N:=8) ?hd (cs:=#[.slice none 0 0]) (t:=27) ?hr ?_;(case hd => rfl);(case hg => rfl);(case hr => first|(go_simp;done)|(go_simp;rfl))
         intro go hg_ w3 hbx_ hb_
         have n_:=Aside0.mk (HE.out.box hg_ hbx_ hb_)
         clear HE hg_ hbx_ hb_
         have HE:=n_
         clear n_
         refine hK.out _ _ ⟨HE.out.cell 1 0 rfl rfl,HE.out.cell 2 0 rfl rfl⟩ (fun hHeld => ?_)
         clear hK K
         refine nO ?_
         exact nJ (hJ1_4 ((Aw,nw,cw),go) _ HE.out)
        skip
        (try clear HE)
        (try clear hHeld)
        rintro ⟨gw,go⟩ w9 hF_
        (try dsimp only at hF_)
        (try dsimp only)
        have HE:=Aside0.mk hF_
        clear hF_
        have hHeld : w9.cell? ⟨gr,0,none⟩ = some (.slice A4v S0.length c4v) ∧ w9.cell? ⟨gs,0,none⟩ = some (.slice A1v S0.length c1v):=⟨HE.out.cell 2 0 rfl rfl,HE.out.cell 3 0 rfl rfl⟩
        refine nQ ?_
        refine oN 1 (some 47) HT_ rfl (fun K hK => ?_)
        refine goes_ Try.func17 (by kernel_rfl) rfl #[.agg #[.slice A4v S0.length c4v]] (by rfl) rfl rfl (by simp only [List.map_toArray,List.map_cons,List.map_nil];rfl) ?_
        with_reducible refine (c_copy HE.out 0 rfl GS0.out).mono ?_
        rintro e_ w3 ⟨Aw,nw,cw,rfl,hp_⟩
        refine ⟨_,rfl,?_⟩
        clear HE
        have HE:=Aside0.mk hp_
        clear hp_
        refine hK.out _ _ ⟨HE.out.cell 2 0 rfl rfl,HE.out.cell 3 0 rfl rfl⟩ (fun hHeld => ?_)
        clear hK K
        refine nO ?_
        exact nJ (hJ1_3_4 ((Aw,nw,cw),gw,go) _ HE.out)
       skip
       (try clear HE)
       (try clear hHeld)
       rintro ⟨⟨Aw,nw,cw⟩,go⟩ w9 hF_
       (try dsimp only at hF_)
       (try dsimp only)
       have HE:=Aside0.mk hF_
       clear hF_
       have hHeld : w9.cell? ⟨gr,0,none⟩ = some (.slice A4v S0.length c4v) ∧ w9.cell? ⟨gs,0,none⟩ = some (.slice A1v S0.length c1v):=⟨HE.out.cell 1 0 rfl rfl,HE.out.cell 2 0 rfl rfl⟩
       refine nQ ?_
       refine oN 3 (some 7) HT_ rfl (fun K hK => ?_)
       refine box_step ?hg (N:=7) ?hd (cs:=#[.slice none 0 0]) (t:=27) ?hr ?_;(case hd => rfl);(case hg => rfl);(case hr => first|(go_simp;done)|(go_simp;rfl))
       intro gw hg_ w3 hbx_ hb_
       have n_:=Aside0.mk (HE.out.box hg_ hbx_ hb_)
       clear HE hg_ hbx_ hb_
       have HE:=n_
       clear n_
       refine hK.out _ _ ⟨HE.out.cell 2 0 rfl rfl,HE.out.cell 3 0 rfl rfl⟩ (fun hHeld => ?_)
       clear hK K
       refine nO ?_
       exact nJ (hJ1_3_4 ((Aw,nw,cw),gw,go) _ (HE.out.perm (List.Perm.swap _ _ _)))
      skip
      (try clear HE)
      (try clear hHeld)
      rintro ⟨⟨Aw,nw,cw⟩,gw⟩ w9 hF_
      (try dsimp only at hF_)
      (try dsimp only)
      have HE:=Aside0.mk hF_
      clear hF_
      have hHeld : w9.cell? ⟨gr,0,none⟩ = some (.slice A4v S0.length c4v) ∧ w9.cell? ⟨gs,0,none⟩ = some (.slice A1v S0.length c1v):=⟨HE.out.cell 1 0 rfl rfl,HE.out.cell 2 0 rfl rfl⟩
      refine nQ ?_
      refine oN 4 (some 8) HT_ rfl (fun K hK => ?_)
      refine box_step ?hg (N:=8) ?hd (cs:=#[.slice none 0 0]) (t:=27) ?hr ?_;(case hd => rfl);(case hg => rfl);(case hr => first|(go_simp;done)|(go_simp;rfl))
      intro go hg_ w3 hbx_ hb_
      have n_:=Aside0.mk (HE.out.box hg_ hbx_ hb_)
      clear HE hg_ hbx_ hb_
      have HE:=n_
      clear n_
      refine hK.out _ _ ⟨HE.out.cell 2 0 rfl rfl,HE.out.cell 3 0 rfl rfl⟩ (fun hHeld => ?_)
      clear hK K
      refine nO ?_
      exact nJ (hJ1_3_4 ((Aw,nw,cw),gw,go) _ HE.out)
     (try clear HE)
     (try clear hHeld)
     rintro ⟨⟨Aw,nw,cw⟩,gw,go⟩ w9 hF_
     (try dsimp only at hF_)
     (try dsimp only)
     have HE:=Aside0.mk hF_
     clear hF_
     have hHeld : w9.cell? ⟨gr,0,none⟩ = some (.slice A4v S0.length c4v) ∧ w9.cell? ⟨gs,0,none⟩ = some (.slice A1v S0.length c1v):=⟨HE.out.cell 2 0 rfl rfl,HE.out.cell 3 0 rfl rfl⟩
     refine nQ ?_
     refine oN 5 (none) HT_ rfl (fun K hK => ?_)
     have hc_ : w9.cell? ⟨gw,0,none⟩ = some (.slice none 0 0):=HE.out.cell 1 0 rfl rfl
     have hf_ : w9.frozen? ⟨gw,0,none⟩ = false:=HE.out.frz 1 0 rfl
     refine skip_ (w1:=?_) (by rfl) rfl ?_ ?_
     rotate_left
     ·go_simp
      rfl
     have n_:=Aside0.mk (HE.out.set 1 rfl 0 (.slice Aw nw cw))
     clear HE hc_ hf_
     have HE:=n_
     clear n_
     generalize (w9.setCell ⟨gw,0,none⟩ (.slice Aw nw cw)) = wb at HE ⊢
     refine hK.out _ _ ⟨HE.out.cell 2 0 rfl rfl,HE.out.cell 3 0 rfl rfl⟩ (fun hHeld => ?_)
     clear hK K
     refine last_ (i:=6) (N:=none) #[tT,tT,tT,tT,tT,tT,tT] rfl rfl (one_of HT_.out (by kernel_rfl)) (by decide) (fun K hK => ?_)
     have hc_ : wb.cell? ⟨go,0,none⟩ = some (.slice none 0 0):=HE.out.cell 0 0 rfl rfl
     have hf_ : wb.frozen? ⟨go,0,none⟩ = false:=HE.out.frz 0 0 rfl
     refine skip_ (w1:=?_) (by rfl) rfl ?_ ?_
     rotate_left
     ·go_simp
      rfl
     have n_:=Aside0.mk (HE.out.set 0 rfl 0 (.slice A1v S0.length c1v))
     clear HE hc_ hf_
     have HE:=n_
     clear n_
     refine hK.out _ _ ?_
     clear hK K
     refine done_ (done_of HT_.out (by kernel_rfl)) ?_
    
     generalize (wb.setCell ⟨go,0,none⟩ (.slice A1v S0.length c1v)) = wc at HE ⊢
     (try clear hHeld)
     rename_i ic00_ ic01_ ic02_ ic03_ ic04_ ic05_ ic06_ ic07_
     revert hknown hu27 hu35 hu47 A1 hA_ R1 M1 HL ic00_ w1 n0 ha_ hd1 hd2 hd3 HN5 FB HL60 HXD w2 S0 HS0 GS0 ic01_ ic02_ ic03_ A1v c1v A4v c4v gs gr ic04_ ic05_ wa ic06_ ic07_ HT_ HW_ wq Aw nw cw gw go w9 hHeld wb wc HE
     exact hcutP.out
set_option maxHeartbeats 16000000 in
set_option maxRecDepth 100000 in
noncomputable def plays_walk.p1 (aa : Int) (x1 : List S47) (AA : Option Addr) (c1 : Nat) (w : World) : plays_walk.Cut ((plays_walk.p0 aa x1 AA c1 w).P):=by
 apply plays_walk.cut_mk
 focus
  intro hcutP hknown hu27 hu35 hu47 A1 hA_ R1 M1 HL ic00_ w1 n0 ha_ hd1 hd2 hd3 HN5 FB HL60 HXD w2 S0 HS0 GS0 ic01_ ic02_ ic03_ A1v c1v A4v c4v gs gr ic04_ ic05_ wa ic06_ ic07_ HT_ HW_ wq Aw nw cw gw go w9 hHeld wb wc HE
  go_wp2
  go_loopg [9] x1.length (fun kq v9 w' => ∃ (i : Nat) (S O : List (List S82)) (As : Option Addr) (ns cs : Nat) (Ar : Option Addr) (nr cr : Nat) (Aw : Option Addr) (nw cw : Nat) (Ao : Option Addr) (no co : Nat),v9 = .int .i64 (i : Int) ∧ Aside0 (i + kq = x1.length) ∧ Aside0 (Good S) ∧ Aside0 (Good O) ∧ Aside0 (Pl w w' [(go,#[.slice Ao no co],27),(gw,#[.slice Aw nw cw],27),(gr,#[.slice Ar nr cr],27),(gs,#[.slice As ns cs],27)] [(.slice As ns cs,S),(.slice Ar nr cr,S),(.slice Aw nw cw,O),(.slice Ao no co,O)] []))
  case atStart => exact ⟨0,S0,S0,A1v,_,c1v,A4v,_,c4v,Aw,nw,cw,A1v,_,c1v,rfl,⟨by omega⟩,GS0,GS0,⟨HE.out.re (fun p hp => by simp only [List.mem_cons,List.not_mem_nil,or_false] at hp ⊢;rcases hp with h|h|h|h <;> simp [h]) (fun p hp => by simp at hp)⟩⟩
  case round =>
   clear HE
   clear GS0
   obtain ⟨i,S,O,As,ns,cs,Ar,nr,cr,Aw,nw,cw,Ao,no,co,rfl,HI,GS,GO,HE⟩:=hrel
   by_cases hlt : i < x1.length
   case neg =>
    have hdi : decide ((i : Int) < (x1.length : Int)) = false:=decide_eq_false (by omega)
    have hdj : decide (i < x1.length) = false:=decide_eq_false hlt
    go_wp2
    refine bodyPost_ret (results_tmp rfl _ _ _) rfl ?_
    exact ⟨rfl,HE.out.below⟩
   case pos =>
    obtain ⟨k1,rfl⟩ : ∃ k1,gk = k1 + 1:=⟨gk - 1,by have:=HI.out;omega⟩
    have HI1 : Aside0 (i ≤ 1000):=⟨by have:=HL60.out;omega⟩
    have HI2 : Aside0 (i + 1 + k1 = x1.length):=⟨by have:=HI.out;omega⟩
    have hdi : decide ((i : Int) < (x1.length : Int)) = true:=decide_eq_true (by omega)
    have hdj : decide (i < x1.length) = true:=decide_eq_true hlt
    have hat:=at_T47 R1.out (i : Int) (by omega) (by omega)
    obtain ⟨x,hx⟩ : ∃ x,x = rd_T47 x1 (i : Int):=⟨_,rfl⟩
    have HXD1 : Aside0 (dw 3 x.f2 ∧ dw 3 x.f3):=⟨by rw [hx,rdS x1 i hlt];exact HXD.out _ (List.getElem_mem hlt)⟩
    rw [← hx] at hat
    obtain ⟨ad,A6,c6,A11,c11,e,hx0,hx1,hx2,hx3,hx4,hx5,hx6,hx7,hx8,hx9,hx10,hx11,hl6,hi6,hl11,hi11⟩:=hat
    cases e
    rw [Int.toNat_natCast] at hx0 hx1 hx2 hx3 hx4 hx5 hx6 hx7 hx8 hx9 hx10 hx11
    have n_:=Aside0.mk ((HE.out.arg hi11 hl11).arg hi6 hl6)
    clear HE hi6 hi11 hl6 hl11 hx
    have HE:=n_
    clear n_
    have HX0:=Aside0.mk hx0
    have HX1:=Aside0.mk hx1
    have HX2:=Aside0.mk hx2
    have HX3:=Aside0.mk hx3
    have HX4:=Aside0.mk hx4
    have HX5:=Aside0.mk hx5
    have HX6:=Aside0.mk hx6
    have HX7:=Aside0.mk hx7
    have HX8:=Aside0.mk hx8
    have HX9:=Aside0.mk hx9
    have HX10:=Aside0.mk hx10
    have HX11:=Aside0.mk hx11
    clear hx0 hx1 hx2 hx3 hx4 hx5 hx6 hx7 hx8 hx9 hx10 hx11
    have o_e0 : wr.cell? (ad.add (i * 12)) = some (.int .i64 x.f0):=HE.out.old (HX0.out)
    have o_e1 : wr.cell? ⟨(ad.add (i * 12)).block,(ad.add (i * 12)).off + 1,none⟩ = some (.int .i64 x.f1):=HE.out.old (HX1.out)
    have o_e2 : wr.cell? ⟨(ad.add (i * 12)).block,(ad.add (i * 12)).off + 2,none⟩ = some (.int .i64 x.f2.f0):=HE.out.old (HX2.out)
    have o_e3 : wr.cell? ⟨(ad.add (i * 12)).block,(ad.add (i * 12)).off + 3,none⟩ = some (.int .i64 x.f2.f1):=HE.out.old (HX3.out)
    have o_e4 : wr.cell? ⟨(ad.add (i * 12)).block,(ad.add (i * 12)).off + 4,none⟩ = some (.string x.f2.f2):=HE.out.old (HX4.out)
    have o_e5 : wr.cell? ⟨(ad.add (i * 12)).block,(ad.add (i * 12)).off + 5,none⟩ = some (.int .i64 x.f2.f3):=HE.out.old (HX5.out)
    have o_e6 : wr.cell? ⟨(ad.add (i * 12)).block,(ad.add (i * 12)).off + 6,none⟩ = some (.slice A6 x.f2.f4.length c6):=HE.out.old (HX6.out)
    have o_e7 : wr.cell? ⟨(ad.add (i * 12)).block,(ad.add (i * 12)).off + 7,none⟩ = some (.int .i64 x.f3.f0):=HE.out.old (HX7.out)
    have o_e8 : wr.cell? ⟨(ad.add (i * 12)).block,(ad.add (i * 12)).off + 8,none⟩ = some (.int .i64 x.f3.f1):=HE.out.old (HX8.out)
    have o_e9 : wr.cell? ⟨(ad.add (i * 12)).block,(ad.add (i * 12)).off + 9,none⟩ = some (.string x.f3.f2):=HE.out.old (HX9.out)
    have o_e10 : wr.cell? ⟨(ad.add (i * 12)).block,(ad.add (i * 12)).off + 10,none⟩ = some (.int .i64 x.f3.f3):=HE.out.old (HX10.out)
    have o_e11 : wr.cell? ⟨(ad.add (i * 12)).block,(ad.add (i * 12)).off + 11,none⟩ = some (.slice A11 x.f3.f4.length c11):=HE.out.old (HX11.out)
    go_upto_block 2 with (first|((with_reducible refine gate_dst (N:=10) rfl ?_);refine box_event ?hg (N:=10) ?hd (cs:=#[.int .i64 0, .int .i64 0, .int .i64 0, .int .i64 0, .string (⟨#[]⟩ : ByteArray), .int .i64 0, .slice none 0 0, .int .i64 0, .int .i64 0, .string (⟨#[]⟩ : ByteArray), .int .i64 0, .slice none 0 0]) (t:=47) ?hr ?_;(case hd => rfl);(case hg => rfl);(case hr => first|(go_simp;done)|(go_simp;rfl));intro gx hg_ X1 hbx_ hb_;have n_:=Aside0.mk (HE.out.box hg_ hbx_ hb_);clear HE hg_ hbx_ hb_;(try clear z_go_0);(try clear y_go_0);(try clear z_gw_0);(try clear y_gw_0);(try clear z_gr_0);(try clear y_gr_0);(try clear z_gs_0);(try clear y_gs_0);(try clear o_e0);(try clear o_e1);(try clear o_e2);(try clear o_e3);(try clear o_e4);(try clear o_e5);(try clear o_e6);(try clear o_e7);(try clear o_e8);(try clear o_e9);(try clear o_e10);(try clear o_e11);have HE:=n_;clear n_;have o_e0 : X1.cell? (ad.add (i * 12)) = some (.int .i64 x.f0):=HE.out.old (HX0.out);have o_e1 : X1.cell? ⟨(ad.add (i * 12)).block,(ad.add (i * 12)).off + 1,none⟩ = some (.int .i64 x.f1):=HE.out.old (HX1.out);have o_e2 : X1.cell? ⟨(ad.add (i * 12)).block,(ad.add (i * 12)).off + 2,none⟩ = some (.int .i64 x.f2.f0):=HE.out.old (HX2.out);have o_e3 : X1.cell? ⟨(ad.add (i * 12)).block,(ad.add (i * 12)).off + 3,none⟩ = some (.int .i64 x.f2.f1):=HE.out.old (HX3.out);have o_e4 : X1.cell? ⟨(ad.add (i * 12)).block,(ad.add (i * 12)).off + 4,none⟩ = some (.string x.f2.f2):=HE.out.old (HX4.out);have o_e5 : X1.cell? ⟨(ad.add (i * 12)).block,(ad.add (i * 12)).off + 5,none⟩ = some (.int .i64 x.f2.f3):=HE.out.old (HX5.out);have o_e6 : X1.cell? ⟨(ad.add (i * 12)).block,(ad.add (i * 12)).off + 6,none⟩ = some (.slice A6 x.f2.f4.length c6):=HE.out.old (HX6.out);have o_e7 : X1.cell? ⟨(ad.add (i * 12)).block,(ad.add (i * 12)).off + 7,none⟩ = some (.int .i64 x.f3.f0):=HE.out.old (HX7.out);have o_e8 : X1.cell? ⟨(ad.add (i * 12)).block,(ad.add (i * 12)).off + 8,none⟩ = some (.int .i64 x.f3.f1):=HE.out.old (HX8.out);have o_e9 : X1.cell? ⟨(ad.add (i * 12)).block,(ad.add (i * 12)).off + 9,none⟩ = some (.string x.f3.f2):=HE.out.old (HX9.out);have o_e10 : X1.cell? ⟨(ad.add (i * 12)).block,(ad.add (i * 12)).off + 10,none⟩ = some (.int .i64 x.f3.f3):=HE.out.old (HX10.out);have o_e11 : X1.cell? ⟨(ad.add (i * 12)).block,(ad.add (i * 12)).off + 11,none⟩ = some (.slice A11 x.f3.f4.length c11):=HE.out.old (HX11.out))|((with_reducible refine gate_store (t:=47) (p:=10) rfl ?_);refine store_event (w1:=X1.setRow gx #[.int .i64 x.f0, .int .i64 x.f1, .int .i64 x.f2.f0, .int .i64 x.f2.f1, .string x.f2.f2, .int .i64 x.f2.f3, .slice A6 x.f2.f4.length c6, .int .i64 x.f3.f0, .int .i64 x.f3.f1, .string x.f3.f2, .int .i64 x.f3.f3, .slice A11 x.f3.f4.length c11]) rfl rfl rfl (run_row rfl rfl rfl (HE.out.at 0 rfl).2 inf47 rfl (by first|rfl|simp [Value.oneCell'])) ?_;intro X2 hw_;have n_ : Aside0 (Pl w X2 [(gx,#[.int .i64 x.f0, .int .i64 x.f1, .int .i64 x.f2.f0, .int .i64 x.f2.f1, .string x.f2.f2, .int .i64 x.f2.f3, .slice A6 x.f2.f4.length c6, .int .i64 x.f3.f0, .int .i64 x.f3.f1, .string x.f3.f2, .int .i64 x.f3.f3, .slice A11 x.f3.f4.length c11],47),(go,#[.slice Ao no co],27),(gw,#[.slice Aw nw cw],27),(gr,#[.slice Ar nr cr],27),(gs,#[.slice As ns cs],27)] [(.slice As ns cs,S),(.slice Ar nr cr,S),(.slice Aw nw cw,O),(.slice Ao no co,O)] [(.slice A6 x.f2.f4.length c6,x.f2.f4),(.slice A11 x.f3.f4.length c11,x.f3.f4)]):=⟨by rw [hw_];exact HE.out.row 0 rfl #[.int .i64 x.f0, .int .i64 x.f1, .int .i64 x.f2.f0, .int .i64 x.f2.f1, .string x.f2.f2, .int .i64 x.f2.f3, .slice A6 x.f2.f4.length c6, .int .i64 x.f3.f0, .int .i64 x.f3.f1, .string x.f3.f2, .int .i64 x.f3.f3, .slice A11 x.f3.f4.length c11]⟩;clear HE hw_;(try clear z_gx_0);(try clear z_gx_1);(try clear z_gx_2);(try clear z_gx_3);(try clear z_gx_4);(try clear z_gx_5);(try clear z_gx_6);(try clear z_gx_7);(try clear z_gx_8);(try clear z_gx_9);(try clear z_gx_10);(try clear z_gx_11);(try clear z_go_0);(try clear y_go_0);(try clear z_gw_0);(try clear y_gw_0);(try clear z_gr_0);(try clear y_gr_0);(try clear z_gs_0);(try clear y_gs_0);have HE:=n_;clear n_;have z_gx_0 : X2.cell? ⟨gx,0,none⟩ = some (.int .i64 x.f0):=HE.out.cell 0 0 rfl rfl;have z_gx_1 : X2.cell? ⟨gx,1,none⟩ = some (.int .i64 x.f1):=HE.out.cell 0 1 rfl rfl;have z_gx_2 : X2.cell? ⟨gx,2,none⟩ = some (.int .i64 x.f2.f0):=HE.out.cell 0 2 rfl rfl;have z_gx_3 : X2.cell? ⟨gx,3,none⟩ = some (.int .i64 x.f2.f1):=HE.out.cell 0 3 rfl rfl;have z_gx_4 : X2.cell? ⟨gx,4,none⟩ = some (.string x.f2.f2):=HE.out.cell 0 4 rfl rfl;have z_gx_5 : X2.cell? ⟨gx,5,none⟩ = some (.int .i64 x.f2.f3):=HE.out.cell 0 5 rfl rfl;have z_gx_6 : X2.cell? ⟨gx,6,none⟩ = some (.slice A6 x.f2.f4.length c6):=HE.out.cell 0 6 rfl rfl))
    (try clear z_gx_0)
    (try clear z_gx_1)
    (try clear z_gx_2)
    (try clear z_gx_3)
    (try clear z_gx_4)
    (try clear z_gx_5)
    (try clear z_gx_6)
    (try clear z_gx_7)
    (try clear z_gx_8)
    (try clear z_gx_9)
    (try clear z_gx_10)
    (try clear z_gx_11)
    (try clear z_go_0)
    (try clear y_go_0)
    (try clear z_gw_0)
    (try clear y_gw_0)
    (try clear z_gr_0)
    (try clear y_gr_0)
    (try clear z_gs_0)
    (try clear y_gs_0)
    rename_i ic10_ ic11_ ic12_ ic13_ ic14_ ic15_ ic16_ ic17_ ic18_ ic19_ ic110_ ic111_ ic112_
    revert hknown hu27 hu35 hu47 M1 HL ic00_ w1 n0 ha_ hd1 hd2 hd3 HN5 FB HL60 HXD w2 S0 HS0 ic01_ ic02_ ic03_ A1v c1v A4v c4v gs gr ic04_ ic05_ wa HT_ HW_ wq ic10_ ic11_ ic12_ gw go w9 hHeld wb wc ic13_ ic14_ wr u4 u10 u11 u12 u13 u14 u15 u16 u17 u18 u19 u20 u21 u22 u23 u24 u25 u26 u49 u50 u51 u52 u53 u54 u55 u56 u57 u58 u59 u60 u61 u62 u63 u64 u65 u66 u67 u68 u69 u70 u71 u72 u73 u74 u75 u76 u77 u78 u79 u80 u81 u82 u83 u84 u85 u86 u87 u88 u89 u90 u91 u92 u93 u94 u95 u96 u97 u98 u99 u100 u101 u102 u103 u104 u105 u106 u107 u108 u109 u110 u111 u112 u113 u114 u115 u116 u117 u118 u119 u120 u121 u122 u123 u124 u125 u126 u127 u128 u129 u130 u131 u132 u133 u134 u135 u136 u137 u138 u139 u140 u141 u142 u143 u144 u145 u146 u147 u148 u149 u150 u151 u152 u153 u154 u155 u156 u157 u158 u159 u160 u161 u162 u163 u164 u165 u166 u167 u168 u169 u170 u171 u172 u173 u174 u175 u176 u177 u178 u179 u180 u181 u182 u183 u184 u185 u186 u187 u188 u189 u190 u191 u192 u193 u194 u195 u196 u197 u198 u199 u200 u201 u202 u203 u204 u205 u206 u207 u208 u209 u210 u211 u212 u213 u214 u215 u216 u217 u218 ic15_ ic16_ i S O As ns cs Ar nr cr Aw nw cw Ao no co GS GO hlt k1 ic17_ HI HI1 HI2 hdi hdj x HXD1 ad A6 c6 A11 c11 hA_ R1 ic18_ HX0 HX1 HX2 HX3 HX4 HX5 HX6 HX7 HX8 HX9 HX10 HX11 ic19_ ic110_ gx X1 o_e0 o_e1 o_e2 o_e3 o_e4 o_e5 o_e6 o_e7 o_e8 o_e9 o_e10 o_e11 X2 HE ic111_ ic112_
    exact hcutP.out
set_option maxHeartbeats 16000000 in
set_option maxRecDepth 100000 in
noncomputable def plays_walk.p2 (aa : Int) (x1 : List S47) (AA : Option Addr) (c1 : Nat) (w : World) : plays_walk.Cut ((plays_walk.p1 aa x1 AA c1 w).P):=by
 apply plays_walk.cut_mk
 focus
  intro hcutP hknown hu27 hu35 hu47 M1 HL ic00_ w1 n0 ha_ hd1 hd2 hd3 HN5 FB HL60 HXD w2 S0 HS0 ic01_ ic02_ ic03_ A1v c1v A4v c4v gs gr ic04_ ic05_ wa HT_ HW_ wq ic10_ ic11_ ic12_ gw go w9 hHeld wb wc ic13_ ic14_ wr u4 u10 u11 u12 u13 u14 u15 u16 u17 u18 u19 u20 u21 u22 u23 u24 u25 u26 u49 u50 u51 u52 u53 u54 u55 u56 u57 u58 u59 u60 u61 u62 u63 u64 u65 u66 u67 u68 u69 u70 u71 u72 u73 u74 u75 u76 u77 u78 u79 u80 u81 u82 u83 u84 u85 u86 u87 u88 u89 u90 u91 u92 u93 u94 u95 u96 u97 u98 u99 u100 u101 u102 u103 u104 u105 u106 u107 u108 u109 u110 u111 u112 u113 u114 u115 u116 u117 u118 u119 u120 u121 u122 u123 u124 u125 u126 u127 u128 u129 u130 u131 u132 u133 u134 u135 u136 u137 u138 u139 u140 u141 u142 u143 u144 u145 u146 u147 u148 u149 u150 u151 u152 u153 u154 u155 u156 u157 u158 u159 u160 u161 u162 u163 u164 u165 u166 u167 u168 u169 u170 u171 u172 u173 u174 u175 u176 u177 u178 u179 u180 u181 u182 u183 u184 u185 u186 u187 u188 u189 u190 u191 u192 u193 u194 u195 u196 u197 u198 u199 u200 u201 u202 u203 u204 u205 u206 u207 u208 u209 u210 u211 u212 u213 u214 u215 u216 u217 u218 ic15_ ic16_ i S O As ns cs Ar nr cr Aw nw cw Ao no co GS GO hlt k1 ic17_ HI HI1 HI2 hdi hdj x HXD1 ad A6 c6 A11 c11 hA_ R1 ic18_ HX0 HX1 HX2 HX3 HX4 HX5 HX6 HX7 HX8 HX9 HX10 HX11 ic19_ ic110_ gx X1 o_e0 o_e1 o_e2 o_e3 o_e4 o_e5 o_e6 o_e7 o_e8 o_e9 o_e10 o_e11 X2 HE ic111_ ic112_
  (try go_frame)
  go_cut [] (fun wc => ∃ (S O : List (List S82)) (As : Option Addr) (ns cs : Nat) (Ar : Option Addr) (nr cr : Nat) (Aw : Option Addr) (nw cw : Nat) (Ao : Option Addr) (no co : Nat),Aside0 (Good S) ∧ Aside0 (Good O) ∧ Aside0 (Pl w wc [(gx,#[.int .i64 x.f0, .int .i64 x.f1, .int .i64 x.f2.f0, .int .i64 x.f2.f1, .string x.f2.f2, .int .i64 x.f2.f3, .slice A6 x.f2.f4.length c6, .int .i64 x.f3.f0, .int .i64 x.f3.f1, .string x.f3.f2, .int .i64 x.f3.f3, .slice A11 x.f3.f4.length c11],47),(go,#[.slice Ao no co],27),(gw,#[.slice Aw nw cw],27),(gr,#[.slice Ar nr cr],27),(gs,#[.slice As ns cs],27)] [(.slice As ns cs,S),(.slice Ar nr cr,S),(.slice Aw nw cw,O),(.slice Ao no co,O)] [(.slice A6 x.f2.f4.length c6,x.f2.f4),(.slice A11 x.f3.f4.length c11,x.f3.f4)]))
  case first =>
   go_upto_if 61 with (fail)
   go_cut [61] (fun v61 wc => ∃ b : Bool,v61 = .bool b ∧ Aside0 (Pl w wc [(gx,#[.int .i64 x.f0, .int .i64 x.f1, .int .i64 x.f2.f0, .int .i64 x.f2.f1, .string x.f2.f2, .int .i64 x.f2.f3, .slice A6 x.f2.f4.length c6, .int .i64 x.f3.f0, .int .i64 x.f3.f1, .string x.f3.f2, .int .i64 x.f3.f3, .slice A11 x.f3.f4.length c11],47),(go,#[.slice Ao no co],27),(gw,#[.slice Aw nw cw],27),(gr,#[.slice Ar nr cr],27),(gs,#[.slice As ns cs],27)] [(.slice As ns cs,S),(.slice Ar nr cr,S),(.slice Aw nw cw,O),(.slice Ao no co,O)] [(.slice A6 x.f2.f4.length c6,x.f2.f4),(.slice A11 x.f3.f4.length c11,x.f3.f4)]))
   case first =>
    by_cases e0 : x.f0 = 0
    case pos =>
     have e0b : (x.f0 == 0) = true:=beq_iff_eq.mpr e0
     clear e0
     go_wp2
     go_meet
     case rel => exact ⟨_,rfl,HE⟩
    case neg =>
     have e0b : (x.f0 == 0) = false:=beq_eq_false_iff_ne.mpr e0
     by_cases e1 : x.f0 = 1
     case pos =>
      have e1b : (x.f0 == 1) = true:=beq_iff_eq.mpr e1
      clear e1
      go_wp2
      go_meet
      case rel => exact ⟨_,rfl,HE⟩
     case neg =>
      have e1b : (x.f0 == 1) = false:=beq_eq_false_iff_ne.mpr e1
      by_cases e2 : x.f0 = 2
      case pos =>
       have e2b : (x.f0 == 2) = true:=beq_iff_eq.mpr e2
       clear e2
       go_wp2
       go_meet
       case rel => exact ⟨_,rfl,HE⟩
      case neg =>
       have e2b : (x.f0 == 2) = false:=beq_eq_false_iff_ne.mpr e2
       go_wp2
       go_meet
       case rel => exact ⟨_,rfl,HE⟩
   case rest =>
    clear HE
    obtain ⟨b61,rfl,HE⟩:=hcut
    cases b61 with
    | true =>
     obtain ⟨T,rr,hp1,hp2,hT⟩:=plays_put GS.out HXD1.out.1 HXD1.out.2 x.f1
     have HP1:=Aside0.mk hp1
     have HP2:=Aside0.mk hp2
     have GT:=Aside0.mk hT
     clear hp1 hp2 hT
     have z_gx_0 : wc.cell? ⟨gx,0,none⟩ = some (.int .i64 x.f0):=HE.out.cell 0 0 rfl rfl
     have z_gx_1 : wc.cell? ⟨gx,1,none⟩ = some (.int .i64 x.f1):=HE.out.cell 0 1 rfl rfl
     have z_gx_2 : wc.cell? ⟨gx,2,none⟩ = some (.int .i64 x.f2.f0):=HE.out.cell 0 2 rfl rfl
     have z_gx_3 : wc.cell? ⟨gx,3,none⟩ = some (.int .i64 x.f2.f1):=HE.out.cell 0 3 rfl rfl
     have z_gx_4 : wc.cell? ⟨gx,4,none⟩ = some (.string x.f2.f2):=HE.out.cell 0 4 rfl rfl
     have z_gx_5 : wc.cell? ⟨gx,5,none⟩ = some (.int .i64 x.f2.f3):=HE.out.cell 0 5 rfl rfl
     have z_gx_6 : wc.cell? ⟨gx,6,none⟩ = some (.slice A6 x.f2.f4.length c6):=HE.out.cell 0 6 rfl rfl
     have z_gx_7 : wc.cell? ⟨gx,7,none⟩ = some (.int .i64 x.f3.f0):=HE.out.cell 0 7 rfl rfl
     have z_gx_8 : wc.cell? ⟨gx,8,none⟩ = some (.int .i64 x.f3.f1):=HE.out.cell 0 8 rfl rfl
     have z_gx_9 : wc.cell? ⟨gx,9,none⟩ = some (.string x.f3.f2):=HE.out.cell 0 9 rfl rfl
     have z_gx_10 : wc.cell? ⟨gx,10,none⟩ = some (.int .i64 x.f3.f3):=HE.out.cell 0 10 rfl rfl
     have z_gx_11 : wc.cell? ⟨gx,11,none⟩ = some (.slice A11 x.f3.f4.length c11):=HE.out.cell 0 11 rfl rfl
     have z_gs_0 : wc.cell? ⟨gs,0,none⟩ = some (.slice As ns cs):=HE.out.cell 4 0 rfl rfl
     go_upto_region 17 with (first|((with_reducible refine gate_callee (f:=10) rfl ?_);refine goesL_ (some 74) rfl rfl Try.func10 (by kernel_rfl) rfl #[.agg #[.slice As ns cs], .int .i64 x.f1, .agg #[.int .i64 x.f2.f0, .int .i64 x.f2.f1, .string x.f2.f2, .int .i64 x.f2.f3, .slice A6 x.f2.f4.length c6], .agg #[.int .i64 x.f3.f0, .int .i64 x.f3.f1, .string x.f3.f2, .int .i64 x.f3.f3, .slice A11 x.f3.f4.length c11]] rfl aG ?_;refine (c_put (S:=S) (key:=x.f2) (val:=x.f3) HE.out 0 0 1 rfl rfl rfl HP1.out).mono ?_;rintro e_ X3 ⟨At,nt,ct,rfl,hp_⟩;refine ⟨_,rfl,?_⟩;have n_:=Aside0.mk hp_;clear hp_ HE;(try clear z_gx_0);(try clear z_gx_1);(try clear z_gx_2);(try clear z_gx_3);(try clear z_gx_4);(try clear z_gx_5);(try clear z_gx_6);(try clear z_gx_7);(try clear z_gx_8);(try clear z_gx_9);(try clear z_gx_10);(try clear z_gx_11);(try clear z_go_0);(try clear y_go_0);(try clear z_gw_0);(try clear y_gw_0);(try clear z_gr_0);(try clear y_gr_0);(try clear z_gs_0);(try clear y_gs_0);have HE:=n_;clear n_)|((with_reducible refine gate_dst (N:=11) rfl ?_);refine box_event ?hg (N:=11) ?hd (cs:=#[.slice none 0 0]) (t:=27) ?hr ?_;(case hd => rfl);(case hg => rfl);(case hr => first|(go_simp;done)|(go_simp;rfl));intro gt hg_ X4 hbx_ hb_;have n_:=Aside0.mk (HE.out.box hg_ hbx_ hb_);clear HE hg_ hbx_ hb_;(try clear z_gx_0);(try clear z_gx_1);(try clear z_gx_2);(try clear z_gx_3);(try clear z_gx_4);(try clear z_gx_5);(try clear z_gx_6);(try clear z_gx_7);(try clear z_gx_8);(try clear z_gx_9);(try clear z_gx_10);(try clear z_gx_11);(try clear z_go_0);(try clear y_go_0);(try clear z_gw_0);(try clear y_gw_0);(try clear z_gr_0);(try clear y_gr_0);(try clear z_gs_0);(try clear y_gs_0);have HE:=n_;clear n_;have z_gt_0 : X4.cell? ⟨gt,0,none⟩ = some (.slice none 0 0):=HE.out.cell 0 0 rfl rfl;have y_gt_0 : X4.frozen? ⟨gt,0,none⟩ = false:=HE.out.frz 0 0 rfl)|((with_reducible refine gate_store (t:=27) (p:=11) rfl ?_);have y_gt_0 : X4.frozen? ⟨gt,0,none⟩ = false:=HE.out.frz 0 0 rfl;have z_gt_0 : X4.cell? ⟨gt,0,none⟩ = some (.slice none 0 0):=HE.out.cell 0 0 rfl rfl;refine store_event (w1:=(X4.setCell ⟨gt,0,none⟩ (.slice At nt ct))) rfl rfl rfl (by first|(go_simp;done)|(go_simp;rfl)) ?_;intro X5 hw_;have n_ : Aside0 (Pl w X5 [(gt,#[.slice At nt ct],27),(gx,#[.int .i64 x.f0, .int .i64 x.f1, .int .i64 x.f2.f0, .int .i64 x.f2.f1, .string x.f2.f2, .int .i64 x.f2.f3, .slice A6 x.f2.f4.length c6, .int .i64 x.f3.f0, .int .i64 x.f3.f1, .string x.f3.f2, .int .i64 x.f3.f3, .slice A11 x.f3.f4.length c11],47),(go,#[.slice Ao no co],27),(gw,#[.slice Aw nw cw],27),(gr,#[.slice Ar nr cr],27),(gs,#[.slice As ns cs],27)] [(.slice At nt ct,T),(.slice As ns cs,S),(.slice Ar nr cr,S),(.slice Aw nw cw,O),(.slice Ao no co,O)] [(.slice A6 x.f2.f4.length c6,x.f2.f4),(.slice A11 x.f3.f4.length c11,x.f3.f4)]):=⟨by rw [hw_];exact (HE.out.set 0 rfl 0 (.slice At nt ct))⟩;clear HE hw_;(try clear z_gt_0);(try clear y_gt_0);(try clear z_gx_0);(try clear z_gx_1);(try clear z_gx_2);(try clear z_gx_3);(try clear z_gx_4);(try clear z_gx_5);(try clear z_gx_6);(try clear z_gx_7);(try clear z_gx_8);(try clear z_gx_9);(try clear z_gx_10);(try clear z_gx_11);(try clear z_go_0);(try clear y_go_0);(try clear z_gw_0);(try clear y_gw_0);(try clear z_gr_0);(try clear y_gr_0);(try clear z_gs_0);(try clear y_gs_0);have HE:=n_;clear n_))
     have z_gx_0 : X5.cell? ⟨gx,0,none⟩ = some (.int .i64 x.f0):=HE.out.cell 1 0 rfl rfl
     have z_gx_1 : X5.cell? ⟨gx,1,none⟩ = some (.int .i64 x.f1):=HE.out.cell 1 1 rfl rfl
     have z_gx_2 : X5.cell? ⟨gx,2,none⟩ = some (.int .i64 x.f2.f0):=HE.out.cell 1 2 rfl rfl
     have z_gx_3 : X5.cell? ⟨gx,3,none⟩ = some (.int .i64 x.f2.f1):=HE.out.cell 1 3 rfl rfl
     have z_gx_4 : X5.cell? ⟨gx,4,none⟩ = some (.string x.f2.f2):=HE.out.cell 1 4 rfl rfl
     have z_gx_5 : X5.cell? ⟨gx,5,none⟩ = some (.int .i64 x.f2.f3):=HE.out.cell 1 5 rfl rfl
     have z_gx_6 : X5.cell? ⟨gx,6,none⟩ = some (.slice A6 x.f2.f4.length c6):=HE.out.cell 1 6 rfl rfl
     have z_gx_7 : X5.cell? ⟨gx,7,none⟩ = some (.int .i64 x.f3.f0):=HE.out.cell 1 7 rfl rfl
     have z_gx_8 : X5.cell? ⟨gx,8,none⟩ = some (.int .i64 x.f3.f1):=HE.out.cell 1 8 rfl rfl
     have z_gx_9 : X5.cell? ⟨gx,9,none⟩ = some (.string x.f3.f2):=HE.out.cell 1 9 rfl rfl
     have z_gx_10 : X5.cell? ⟨gx,10,none⟩ = some (.int .i64 x.f3.f3):=HE.out.cell 1 10 rfl rfl
     have z_gx_11 : X5.cell? ⟨gx,11,none⟩ = some (.slice A11 x.f3.f4.length c11):=HE.out.cell 1 11 rfl rfl
     have z_gr_0 : X5.cell? ⟨gr,0,none⟩ = some (.slice Ar nr cr):=HE.out.cell 4 0 rfl rfl
     go_upto_region 18 with (first|((with_reducible refine gate_callee (f:=18) rfl ?_);refine goesL_ (some 85) rfl rfl Try.func18 (by kernel_rfl) rfl #[.agg #[.slice Ar nr cr], .int .i64 x.f1, .agg #[.int .i64 x.f2.f0, .int .i64 x.f2.f1, .string x.f2.f2, .int .i64 x.f2.f3, .slice A6 x.f2.f4.length c6], .agg #[.int .i64 x.f3.f0, .int .i64 x.f3.f1, .string x.f3.f2, .int .i64 x.f3.f3, .slice A11 x.f3.f4.length c11]] rfl aG ?_;refine (c_rput (S:=S) (key:=x.f2) (val:=x.f3) HE.out 2 0 1 rfl rfl rfl HP2.out).mono ?_;rintro e_ X6 ⟨Au,nu,cu,rfl,hp_⟩;refine ⟨_,rfl,?_⟩;have n_:=Aside0.mk hp_;clear hp_ HE;(try clear z_gt_0);(try clear y_gt_0);(try clear z_gx_0);(try clear z_gx_1);(try clear z_gx_2);(try clear z_gx_3);(try clear z_gx_4);(try clear z_gx_5);(try clear z_gx_6);(try clear z_gx_7);(try clear z_gx_8);(try clear z_gx_9);(try clear z_gx_10);(try clear z_gx_11);(try clear z_go_0);(try clear y_go_0);(try clear z_gw_0);(try clear y_gw_0);(try clear z_gr_0);(try clear y_gr_0);(try clear z_gs_0);(try clear y_gs_0);have HE:=n_;clear n_)|((with_reducible refine gate_dst (N:=13) rfl ?_);refine box_event ?hg (N:=13) ?hd (cs:=#[.slice none 0 0]) (t:=27) ?hr ?_;(case hd => rfl);(case hg => rfl);(case hr => first|(go_simp;done)|(go_simp;rfl));intro gu hg_ X7 hbx_ hb_;have n_:=Aside0.mk (HE.out.box hg_ hbx_ hb_);clear HE hg_ hbx_ hb_;(try clear z_gt_0);(try clear y_gt_0);(try clear z_gx_0);(try clear z_gx_1);(try clear z_gx_2);(try clear z_gx_3);(try clear z_gx_4);(try clear z_gx_5);(try clear z_gx_6);(try clear z_gx_7);(try clear z_gx_8);(try clear z_gx_9);(try clear z_gx_10);(try clear z_gx_11);(try clear z_go_0);(try clear y_go_0);(try clear z_gw_0);(try clear y_gw_0);(try clear z_gr_0);(try clear y_gr_0);(try clear z_gs_0);(try clear y_gs_0);have HE:=n_;clear n_;have z_gu_0 : X7.cell? ⟨gu,0,none⟩ = some (.slice none 0 0):=HE.out.cell 0 0 rfl rfl;have y_gu_0 : X7.frozen? ⟨gu,0,none⟩ = false:=HE.out.frz 0 0 rfl)|((with_reducible refine gate_store (t:=27) (p:=13) rfl ?_);have y_gu_0 : X7.frozen? ⟨gu,0,none⟩ = false:=HE.out.frz 0 0 rfl;have z_gu_0 : X7.cell? ⟨gu,0,none⟩ = some (.slice none 0 0):=HE.out.cell 0 0 rfl rfl;refine store_event (w1:=(X7.setCell ⟨gu,0,none⟩ (.slice Au nu cu))) rfl rfl rfl (by first|(go_simp;done)|(go_simp;rfl)) ?_;intro X8 hw_;have n_ : Aside0 (Pl w X8 [(gu,#[.slice Au nu cu],27),(gt,#[.slice At nt ct],27),(gx,#[.int .i64 x.f0, .int .i64 x.f1, .int .i64 x.f2.f0, .int .i64 x.f2.f1, .string x.f2.f2, .int .i64 x.f2.f3, .slice A6 x.f2.f4.length c6, .int .i64 x.f3.f0, .int .i64 x.f3.f1, .string x.f3.f2, .int .i64 x.f3.f3, .slice A11 x.f3.f4.length c11],47),(go,#[.slice Ao no co],27),(gw,#[.slice Aw nw cw],27),(gr,#[.slice Ar nr cr],27),(gs,#[.slice As ns cs],27)] [(.slice Au nu cu,T),(.slice At nt ct,T),(.slice As ns cs,S),(.slice Ar nr cr,S),(.slice Aw nw cw,O),(.slice Ao no co,O)] [(.slice A6 x.f2.f4.length c6,x.f2.f4),(.slice A11 x.f3.f4.length c11,x.f3.f4)]):=⟨by rw [hw_];exact (HE.out.set 0 rfl 0 (.slice Au nu cu))⟩;clear HE hw_;(try clear z_gu_0);(try clear y_gu_0);(try clear z_gt_0);(try clear y_gt_0);(try clear z_gx_0);(try clear z_gx_1);(try clear z_gx_2);(try clear z_gx_3);(try clear z_gx_4);(try clear z_gx_5);(try clear z_gx_6);(try clear z_gx_7);(try clear z_gx_8);(try clear z_gx_9);(try clear z_gx_10);(try clear z_gx_11);(try clear z_go_0);(try clear y_go_0);(try clear z_gw_0);(try clear y_gw_0);(try clear z_gr_0);(try clear y_gr_0);(try clear z_gs_0);(try clear y_gs_0);have HE:=n_;clear n_))
     have z_gu_0 : X8.cell? ⟨gu,0,none⟩ = some (.slice Au nu cu):=HE.out.cell 0 0 rfl rfl
     have z_gt_0 : X8.cell? ⟨gt,0,none⟩ = some (.slice At nt ct):=HE.out.cell 1 0 rfl rfl
     have q1_ : (rr == rr) = true:=by simp
     have q2_ : (rr != rr) = false:=by simp
     by_cases hr0 : rr = 0
     case pos =>
      have q3_ : (rr == 0) = true:=by simpa using hr0
      subst hr0
      go_upto_region 21 with (go_at_call 19;refine (c_same HE.out 1 0 rfl rfl GT.out).mono ?_;rintro e_ X9 ⟨rfl,hp_⟩;have n_:=Aside0.mk hp_;clear hp_ HE;(try clear z_gu_0);(try clear y_gu_0);(try clear z_gt_0);(try clear y_gt_0);(try clear z_gx_0);(try clear z_gx_1);(try clear z_gx_2);(try clear z_gx_3);(try clear z_gx_4);(try clear z_gx_5);(try clear z_gx_6);(try clear z_gx_7);(try clear z_gx_8);(try clear z_gx_9);(try clear z_gx_10);(try clear z_gx_11);(try clear z_go_0);(try clear y_go_0);(try clear z_gw_0);(try clear y_gw_0);(try clear z_gr_0);(try clear y_gr_0);(try clear z_gs_0);(try clear y_gs_0);have HE:=n_;clear n_)
      clear q1_ q2_ q3_
      (try clear z_gu_0)
      (try clear y_gu_0)
      (try clear z_gt_0)
      (try clear y_gt_0)
      (try clear z_gx_0)
      (try clear z_gx_1)
      (try clear z_gx_2)
      (try clear z_gx_3)
      (try clear z_gx_4)
      (try clear z_gx_5)
      (try clear z_gx_6)
      (try clear z_gx_7)
      (try clear z_gx_8)
      (try clear z_gx_9)
      (try clear z_gx_10)
      (try clear z_gx_11)
      (try clear z_go_0)
      (try clear y_go_0)
      (try clear z_gw_0)
      (try clear y_gw_0)
      (try clear z_gr_0)
      (try clear y_gr_0)
      (try clear z_gs_0)
      (try clear y_gs_0)
      skip
      (try clear z_gu_0)
      (try clear y_gu_0)
      (try clear z_gt_0)
      (try clear y_gt_0)
      (try clear z_gx_0)
      (try clear z_gx_1)
      (try clear z_gx_2)
      (try clear z_gx_3)
      (try clear z_gx_4)
      (try clear z_gx_5)
      (try clear z_gx_6)
      (try clear z_gx_7)
      (try clear z_gx_8)
      (try clear z_gx_9)
      (try clear z_gx_10)
      (try clear z_gx_11)
      (try clear z_go_0)
      (try clear y_go_0)
      (try clear z_gw_0)
      (try clear y_gw_0)
      (try clear z_gr_0)
      (try clear y_gr_0)
      (try clear z_gs_0)
      (try clear y_gs_0)
      have n_:=Aside0.mk (HE.out.call (below_drew (Below.refl _ _)))
      clear HE
      have HE:=n_
      clear n_
      refine start_ (n:=4) (S:=fun w' => w'.cell? ⟨gt,0,none⟩ = some (.slice At nt ct) ∧ w'.cell? ⟨gu,0,none⟩ = some (.slice Au nu cu)) (ds:=[3]) #[fF,fF,fF,fF] (by kernel_rfl) rfl rfl ⟨HE.out.cell 1 0 rfl rfl,HE.out.cell 0 0 rfl rfl⟩ (fun hHeld => ?_)
      refine with_tabW hp.tab21 hp.bits21 (fun HT_ HW_ => ?_)
      generalize X9.drew = wq at HE hHeld ⊢
      refine tA 0 (some 99) HT_ HW_ hHeld rfl ?_
      refine tA 1 (some 100) HT_ HW_ hHeld rfl ?_
      refine oN 2 (none) HT_ rfl (fun K hK => ?_)
      have hc_ : wq.cell? ⟨gs,0,none⟩ = some (.slice As ns cs):=HE.out.cell 6 0 rfl rfl
      have hf_ : wq.frozen? ⟨gs,0,none⟩ = false:=HE.out.frz 6 0 rfl
      refine skip_ (w1:=?_) (by rfl) rfl ?_ ?_
      rotate_left
      ·go_simp
       rfl
      have n_:=Aside0.mk (HE.out.set 6 rfl 0 (.slice At nt ct))
      clear HE hc_ hf_
      have HE:=n_
      clear n_
      generalize (wq.setCell ⟨gs,0,none⟩ (.slice At nt ct)) = wq2 at HE ⊢
      refine hK.out _ _ ⟨HE.out.cell 1 0 rfl rfl,HE.out.cell 0 0 rfl rfl⟩ (fun hHeld => ?_)
      clear hK K
      refine last_ (i:=3) (N:=none) #[tT,tT,tT,tT] rfl rfl (one_of HT_.out (by kernel_rfl)) (by decide) (fun K hK => ?_)
      have hc_ : wq2.cell? ⟨gr,0,none⟩ = some (.slice Ar nr cr):=HE.out.cell 5 0 rfl rfl
      have hf_ : wq2.frozen? ⟨gr,0,none⟩ = false:=HE.out.frz 5 0 rfl
      refine skip_ (w1:=?_) (by rfl) rfl ?_ ?_
      rotate_left
      ·go_simp
       rfl
      have n_:=Aside0.mk (HE.out.set 5 rfl 0 (.slice Au nu cu))
      clear HE hc_ hf_
      have HE:=n_
      clear n_
      generalize (wq2.setCell ⟨gr,0,none⟩ (.slice Au nu cu)) = wq3 at HE ⊢
      refine hK.out _ _ ?_
      clear hK K
      refine done_ (done_of HT_.out (by kernel_rfl)) ?_
     
      (try clear hHeld)
      go_wp2
      go_meet
      case rel => exact ⟨T,O,At,nt,ct,Au,nu,cu,Aw,nw,cw,Ao,no,co,GT,GO,⟨(HE.out.sub (by repeat (first|exact List.Sublist.refl _|apply List.Sublist.cons))).re (fun p hp => by simp only [List.mem_cons,List.not_mem_nil,or_false] at hp ⊢;rcases hp with h|h|h|h <;> simp [h]) (fun p hp => by simp only [List.mem_cons,List.not_mem_nil,or_false] at hp ⊢;rcases hp with h|h <;> simp [h])⟩⟩
     case neg =>
      have q3_ : (rr == 0) = false:=by simpa using hr0
      clear hr0
      go_wp2_with (go_at_call 19;refine (c_same HE.out 1 0 rfl rfl GT.out).mono ?_;rintro e_ X9 ⟨rfl,hp_⟩;have n_:=Aside0.mk hp_;clear hp_ HE;(try clear z_gu_0);(try clear y_gu_0);(try clear z_gt_0);(try clear y_gt_0);(try clear z_gx_0);(try clear z_gx_1);(try clear z_gx_2);(try clear z_gx_3);(try clear z_gx_4);(try clear z_gx_5);(try clear z_gx_6);(try clear z_gx_7);(try clear z_gx_8);(try clear z_gx_9);(try clear z_gx_10);(try clear z_gx_11);(try clear z_go_0);(try clear y_go_0);(try clear z_gw_0);(try clear y_gw_0);(try clear z_gr_0);(try clear y_gr_0);(try clear z_gs_0);(try clear y_gs_0);have HE:=n_;clear n_)
      go_meet
      case rel => exact ⟨S,O,As,ns,cs,Ar,nr,cr,Aw,nw,cw,Ao,no,co,GS,GO,⟨(HE.out.sub (by repeat (first|exact List.Sublist.refl _|apply List.Sublist.cons))).re (fun p hp => by simp only [List.mem_cons,List.not_mem_nil,or_false] at hp ⊢;rcases hp with h|h|h|h <;> simp [h]) (fun p hp => by simp only [List.mem_cons,List.not_mem_nil,or_false] at hp ⊢;rcases hp with h|h <;> simp [h])⟩⟩
    | false =>
     by_cases e4 : x.f0 = 4
     case pos =>
      have e4b : (x.f0 == 4) = true:=beq_iff_eq.mpr e4
      clear e4
      obtain ⟨T,hp1,hp2,hT⟩:=plays_del GS.out HXD1.out.1 x.f1
      have HP1:=Aside0.mk hp1
      have HP2:=Aside0.mk hp2
      have GT:=Aside0.mk hT
      clear hp1 hp2 hT
      go_wp2
      (try clear z_gx_0)
      (try clear z_gx_1)
      (try clear z_gx_2)
      (try clear z_gx_3)
      (try clear z_gx_4)
      (try clear z_gx_5)
      (try clear z_gx_6)
      (try clear z_gx_7)
      (try clear z_gx_8)
      (try clear z_gx_9)
      (try clear z_gx_10)
      (try clear z_gx_11)
      (try clear z_go_0)
      (try clear y_go_0)
      (try clear z_gw_0)
      (try clear y_gw_0)
      (try clear z_gr_0)
      (try clear y_gr_0)
      (try clear z_gs_0)
      (try clear y_gs_0)
      have n_:=Aside0.mk (HE.out.call (below_drew (Below.refl _ _)))
      clear HE
      have HE:=n_
      clear n_
      refine start_ (n:=14) (S:=fun w' => w'.cell? ⟨gs,0,none⟩ = some (.slice As ns cs) ∧ w'.cell? ⟨gr,0,none⟩ = some (.slice Ar nr cr) ∧ w'.cell? ⟨gx,1,none⟩ = some (.int .i64 x.f1) ∧ w'.cell? ⟨gx,2,none⟩ = some (.int .i64 x.f2.f0) ∧ w'.cell? ⟨gx,3,none⟩ = some (.int .i64 x.f2.f1) ∧ w'.cell? ⟨gx,4,none⟩ = some (.string x.f2.f2) ∧ w'.cell? ⟨gx,5,none⟩ = some (.int .i64 x.f2.f3) ∧ w'.cell? ⟨gx,6,none⟩ = some (.slice A6 x.f2.f4.length c6)) (ds:=[12,13]) #[fF,fF,fF,fF,fF,fF,fF,fF,fF,fF,fF,fF,fF,fF] (by kernel_rfl) rfl rfl ⟨HE.out.cell 4 0 rfl rfl,HE.out.cell 3 0 rfl rfl,HE.out.cell 0 1 rfl rfl,HE.out.cell 0 2 rfl rfl,HE.out.cell 0 3 rfl rfl,HE.out.cell 0 4 rfl rfl,HE.out.cell 0 5 rfl rfl,HE.out.cell 0 6 rfl rfl⟩ (fun hHeld => ?_)
      refine with_tabW hp.tab23 hp.bits23 (fun HT_ HW_ => ?_)
      generalize wc.drew = wq at HE hHeld ⊢
      refine pU 1 (some 104) HT_ rfl ?_
      refine pU 3 (some 106) HT_ rfl ?_
      refine pU 7 (some 110) HT_ rfl ?_
      refine pU 9 (some 112) HT_ rfl ?_
      refine tA 0 (some 103) HT_ HW_ hHeld rfl ?_
      refine tA 2 (some 105) HT_ HW_ hHeld rfl ?_
      refine tA 4 (some 107) HT_ HW_ hHeld rfl ?_
      refine tA 6 (some 109) HT_ HW_ hHeld rfl ?_
      refine tA 8 (some 111) HT_ HW_ hHeld rfl ?_
      refine tA 10 (some 113) HT_ HW_ hHeld rfl ?_
      refine oN 5 (some 108) HT_ rfl (fun K hK => ?_)
      refine goes_ Try.func12 (by kernel_rfl) rfl #[.agg #[.slice As ns cs], .int .i64 x.f1, .agg #[.int .i64 x.f2.f0, .int .i64 x.f2.f1, .string x.f2.f2, .int .i64 x.f2.f3, .slice A6 x.f2.f4.length c6]] (by rfl) rfl rfl (by simp only [List.map_toArray,List.map_cons,List.map_nil];rfl) ?_
      with_reducible refine (c_del (S:=S) (key:=x.f2) HE.out 0 0 rfl rfl HP1.out).mono ?_
      rintro e_ w3 ⟨At,nt,ct,rfl,hp_⟩
      refine ⟨_,rfl,?_⟩
      clear HE
      have HE:=Aside0.mk hp_
      clear hp_
      refine hK.out _ _ ⟨HE.out.cell 4 0 rfl rfl,HE.out.cell 3 0 rfl rfl,HE.out.cell 0 1 rfl rfl,HE.out.cell 0 2 rfl rfl,HE.out.cell 0 3 rfl rfl,HE.out.cell 0 4 rfl rfl,HE.out.cell 0 5 rfl rfl,HE.out.cell 0 6 rfl rfl⟩ (fun hHeld => ?_)
      clear hK K
      refine nO ?_
      refine oN 11 (some 114) HT_ rfl (fun K hK => ?_)
      refine goes_ Try.func20 (by kernel_rfl) rfl #[.agg #[.slice Ar nr cr], .int .i64 x.f1, .agg #[.int .i64 x.f2.f0, .int .i64 x.f2.f1, .string x.f2.f2, .int .i64 x.f2.f3, .slice A6 x.f2.f4.length c6]] (by rfl) rfl rfl (by simp only [List.map_toArray,List.map_cons,List.map_nil];rfl) ?_
      with_reducible refine (c_rdel (S:=S) (key:=x.f2) HE.out 2 0 rfl rfl HP2.out).mono ?_
      rintro e_ w4 ⟨Au,nu,cu,rfl,hp_⟩
      refine ⟨_,rfl,?_⟩
      clear HE
      have HE:=Aside0.mk hp_
      clear hp_
      refine hK.out _ _ ⟨HE.out.cell 4 0 rfl rfl,HE.out.cell 3 0 rfl rfl,HE.out.cell 0 1 rfl rfl,HE.out.cell 0 2 rfl rfl,HE.out.cell 0 3 rfl rfl,HE.out.cell 0 4 rfl rfl,HE.out.cell 0 5 rfl rfl,HE.out.cell 0 6 rfl rfl⟩ (fun hHeld => ?_)
      clear hK K
      refine nO ?_
      refine last_ (i:=12) (N:=none) #[tT,tT,tT,tT,tT,tT,tT,tT,tT,tT,tT,tT,tT,fF] rfl rfl (one_of HT_.out (by kernel_rfl)) (by decide) (fun K hK => ?_)
      have hc_ : w4.cell? ⟨gs,0,none⟩ = some (.slice As ns cs):=HE.out.cell 4 0 rfl rfl
      have hf_ : w4.frozen? ⟨gs,0,none⟩ = false:=HE.out.frz 4 0 rfl
      refine skip_ (w1:=?_) (by rfl) rfl ?_ ?_
      rotate_left
      ·go_simp
       rfl
      have n_:=Aside0.mk (HE.out.set 4 rfl 0 (.slice At nt ct))
      clear HE hc_ hf_
      have HE:=n_
      clear n_
      generalize (w4.setCell ⟨gs,0,none⟩ (.slice At nt ct)) = w5 at HE ⊢
      refine hK.out _ _ ?_
      clear hK K
      refine last_ (i:=13) (N:=none) #[tT,tT,tT,tT,tT,tT,tT,tT,tT,tT,tT,tT,tT,tT] rfl rfl (one_of HT_.out (by kernel_rfl)) (by decide) (fun K hK => ?_)
      have hc_ : w5.cell? ⟨gr,0,none⟩ = some (.slice Ar nr cr):=HE.out.cell 3 0 rfl rfl
      have hf_ : w5.frozen? ⟨gr,0,none⟩ = false:=HE.out.frz 3 0 rfl
      refine skip_ (w1:=?_) (by rfl) rfl ?_ ?_
      rotate_left
      ·go_simp
       rfl
      have n_:=Aside0.mk (HE.out.set 3 rfl 0 (.slice Au nu cu))
      clear HE hc_ hf_
      have HE:=n_
      clear n_
      generalize (w5.setCell ⟨gr,0,none⟩ (.slice Au nu cu)) = w6 at HE ⊢
      refine hK.out _ _ ?_
      clear hK K
      refine done_ (done_of HT_.out (by kernel_rfl)) ?_
     
      (try clear hHeld)
      go_wp2
      go_meet
      case rel => exact ⟨T,O,At,nt,ct,Au,nu,cu,Aw,nw,cw,Ao,no,co,GT,GO,⟨(HE.out.sub (by repeat (first|exact List.Sublist.refl _|apply List.Sublist.cons))).re (fun p hp => by simp only [List.mem_cons,List.not_mem_nil,or_false] at hp ⊢;rcases hp with h|h|h|h <;> simp [h]) (fun p hp => by simp only [List.mem_cons,List.not_mem_nil,or_false] at hp ⊢;rcases hp with h|h <;> simp [h])⟩⟩
     case neg =>
      have e4b : (x.f0 == 4) = false:=beq_eq_false_iff_ne.mpr e4
      clear e4
      by_cases e5 : x.f0 = 5
      case pos =>
       have e5b : (x.f0 == 5) = true:=beq_iff_eq.mpr e5
       clear e5
       go_wp2
       (try clear z_gx_0)
       (try clear z_gx_1)
       (try clear z_gx_2)
       (try clear z_gx_3)
       (try clear z_gx_4)
       (try clear z_gx_5)
       (try clear z_gx_6)
       (try clear z_gx_7)
       (try clear z_gx_8)
       (try clear z_gx_9)
       (try clear z_gx_10)
       (try clear z_gx_11)
       (try clear z_go_0)
       (try clear y_go_0)
       (try clear z_gw_0)
       (try clear y_gw_0)
       (try clear z_gr_0)
       (try clear y_gr_0)
       (try clear z_gs_0)
       (try clear y_gs_0)
       have n_:=Aside0.mk (HE.out.call (below_drew (Below.refl _ _)))
       clear HE
       have HE:=n_
       clear n_
       refine start_ (n:=5) (S:=fun w' => w'.cell? ⟨gs,0,none⟩ = some (.slice As ns cs) ∧ w'.cell? ⟨gr,0,none⟩ = some (.slice Ar nr cr)) (ds:=[3,4]) #[fF,fF,fF,fF,fF] (by kernel_rfl) rfl rfl ⟨HE.out.cell 4 0 rfl rfl,HE.out.cell 3 0 rfl rfl⟩ (fun hHeld => ?_)
       refine with_tabW hp.tab25 hp.bits25 (fun HT_ HW_ => ?_)
       generalize wc.drew = wq at HE hHeld ⊢
       refine tA 0 (some 117) HT_ HW_ hHeld rfl ?_
       refine tA 1 (some 118) HT_ HW_ hHeld rfl ?_
       refine oN 2 (some 119) HT_ rfl (fun K hK => ?_)
       refine goes_ Try.func17 (by kernel_rfl) rfl #[.agg #[.slice Ar nr cr]] (by rfl) rfl rfl (by simp only [List.map_toArray,List.map_cons,List.map_nil];rfl) ?_
       with_reducible refine (c_copy (S:=S) HE.out 1 rfl GS.out).mono ?_
       rintro e_ w3 ⟨At,nt,ct,rfl,hp_⟩
       refine ⟨_,rfl,?_⟩
       clear HE
       have HE:=Aside0.mk hp_
       clear hp_
       refine hK.out _ _ ⟨HE.out.cell 4 0 rfl rfl,HE.out.cell 3 0 rfl rfl⟩ (fun hHeld => ?_)
       clear hK K
       refine nO ?_
       refine last_ (i:=3) (N:=none) #[tT,tT,tT,tT,fF] rfl rfl (one_of HT_.out (by kernel_rfl)) (by decide) (fun K hK => ?_)
       have hc_ : w3.cell? ⟨go,0,none⟩ = some (.slice Ao no co):=HE.out.cell 1 0 rfl rfl
       have hf_ : w3.frozen? ⟨go,0,none⟩ = false:=HE.out.frz 1 0 rfl
       refine skip_ (w1:=?_) (by rfl) rfl ?_ ?_
       rotate_left
       ·go_simp
        rfl
       have n_:=Aside0.mk (HE.out.set 1 rfl 0 (.slice As ns cs))
       clear HE hc_ hf_
       have HE:=n_
       clear n_
       generalize (w3.setCell ⟨go,0,none⟩ (.slice As ns cs)) = w5 at HE ⊢
       refine hK.out _ _ ?_
       clear hK K
       refine last_ (i:=4) (N:=none) #[tT,tT,tT,tT,tT] rfl rfl (one_of HT_.out (by kernel_rfl)) (by decide) (fun K hK => ?_)
       have hc_ : w5.cell? ⟨gw,0,none⟩ = some (.slice Aw nw cw):=HE.out.cell 2 0 rfl rfl
       have hf_ : w5.frozen? ⟨gw,0,none⟩ = false:=HE.out.frz 2 0 rfl
       refine skip_ (w1:=?_) (by rfl) rfl ?_ ?_
       rotate_left
       ·go_simp
        rfl
       have n_:=Aside0.mk (HE.out.set 2 rfl 0 (.slice At nt ct))
       clear HE hc_ hf_
       have HE:=n_
       clear n_
       generalize (w5.setCell ⟨gw,0,none⟩ (.slice At nt ct)) = w6 at HE ⊢
       refine hK.out _ _ ?_
       clear hK K
       refine done_ (done_of HT_.out (by kernel_rfl)) ?_
      
       (try clear hHeld)
       go_wp2
       go_meet
       case rel => exact ⟨S,S,As,ns,cs,Ar,nr,cr,At,nt,ct,As,ns,cs,GS,GS,⟨(HE.out.sub (by repeat (first|exact List.Sublist.refl _|apply List.Sublist.cons))).re (fun p hp => by simp only [List.mem_cons,List.not_mem_nil,or_false] at hp ⊢;rcases hp with h|h|h|h <;> simp [h]) (fun p hp => by simp only [List.mem_cons,List.not_mem_nil,or_false] at hp ⊢;rcases hp with h|h <;> simp [h])⟩⟩
      case neg =>
       have e5b : (x.f0 == 5) = false:=beq_eq_false_iff_ne.mpr e5
       clear e5
       go_wp2
       go_meet
       case rel => exact ⟨S,O,As,ns,cs,Ar,nr,cr,Aw,nw,cw,Ao,no,co,GS,GO,⟨(HE.out.sub (by repeat (first|exact List.Sublist.refl _|apply List.Sublist.cons))).re (fun p hp => by simp only [List.mem_cons,List.not_mem_nil,or_false] at hp ⊢;rcases hp with h|h|h|h <;> simp [h]) (fun p hp => by simp only [List.mem_cons,List.not_mem_nil,or_false] at hp ⊢;rcases hp with h|h <;> simp [h])⟩⟩
  case rest =>
   rename_i ic20_ ic21_ ic22_ ic23_ ic24_ ic25_ ic26_ ic27_ ic28_ ic29_ ic210_ ic211_ ic212_ ic213_ ic214_ ic215_ ic216_ ic217_ ic218_ ic219_ ic220_ ic221_ ic222_ ic223_ ic224_ ic225_ ic226_ ic227_ ic228_ ic229_ ic230_ ic231_ ic232_ ic233_ ic234_ ic235_ ic236_ ic237_ ic238_ ic239_ ic240_ ic241_ ic242_ ic243_ ic244_ ic245_ ic246_ ic247_ ic248_ ic249_ ic250_ ic251_ ic252_ ic253_ ic254_ ic255_ ic256_ ic257_ ic258_ ic259_ ic260_ ic261_ ic262_ ic263_ ic264_ ic265_ ic266_ ic267_ ic268_ ic269_ ic270_ ic271_ ic272_ ic273_ ic274_ ic275_ ic276_ ic277_ ic278_ ic279_ ic280_ ic281_ ic282_ ic283_ ic284_ ic285_ ic286_ ic287_ ic288_ ic289_ ic290_ ic291_ ic292_ ic293_ ic294_ ic295_ ic296_ ic297_ ic298_ ic299_ ic2100_ ic2101_ ic2102_ ic2103_ ic2104_ ic2105_ ic2106_ ic2107_ ic2108_ ic2109_ ic2110_ ic2111_ ic2112_ ic2113_ ic2114_ ic2115_ ic2116_ ic2117_ ic2118_ ic2119_ ic2120_ ic2121_ ic2122_ ic2123_ ic2124_ ic2125_ ic2126_ ic2127_ ic2128_ ic2129_ ic2130_ ic2131_ ic2132_ ic2133_ ic2134_ ic2135_ ic2136_ ic2137_ ic2138_ ic2139_ ic2140_ ic2141_ ic2142_ ic2143_ ic2144_ ic2145_ ic2146_ ic2147_ ic2148_ ic2149_ ic2150_ ic2151_ ic2152_ ic2153_ ic2154_ ic2155_ ic2156_ ic2157_ ic2158_ ic2159_ ic2160_ ic2161_ ic2162_ ic2163_ ic2164_ ic2165_ ic2166_ ic2167_ ic2168_ ic2169_ ic2170_ ic2171_ ic2172_ ic2173_ ic2174_
   revert hknown hu27 hu35 hu47 M1 HL ic00_ w1 n0 ha_ hd1 hd2 hd3 HN5 FB HL60 HXD w2 S0 HS0 ic01_ ic02_ ic03_ A1v c1v A4v c4v gs gr ic04_ ic05_ wa HT_ HW_ wq ic10_ ic11_ ic12_ gw go w9 hHeld wb ic20_ ic13_ ic14_ wr ic21_ u10 ic22_ ic23_ ic24_ ic25_ u15 u16 u17 u18 u19 u20 u21 u22 u23 u24 u25 u26 ic26_ ic27_ ic28_ ic29_ ic210_ ic211_ ic212_ ic213_ ic214_ ic215_ ic216_ u60 ic217_ ic218_ ic219_ ic220_ ic221_ ic222_ ic223_ ic224_ ic225_ ic226_ ic227_ ic228_ ic229_ ic230_ ic231_ ic232_ ic233_ ic234_ ic235_ ic236_ ic237_ ic238_ ic239_ ic240_ ic241_ ic242_ ic243_ ic244_ ic245_ ic246_ ic247_ ic248_ ic249_ ic250_ ic251_ ic252_ ic253_ ic254_ ic255_ ic256_ ic257_ ic258_ ic259_ ic260_ ic261_ ic262_ ic263_ ic264_ ic265_ ic266_ ic267_ ic268_ ic269_ ic270_ ic271_ ic272_ ic273_ ic274_ ic275_ ic276_ ic277_ ic278_ ic279_ ic280_ ic281_ ic282_ ic283_ ic284_ ic285_ ic286_ ic287_ ic288_ ic289_ ic290_ ic291_ ic292_ ic293_ ic294_ ic295_ ic296_ ic297_ ic298_ ic299_ ic2100_ ic2101_ ic2102_ ic2103_ ic2104_ ic2105_ ic2106_ ic2107_ ic2108_ ic2109_ ic2110_ ic2111_ ic2112_ ic2113_ ic2114_ ic2115_ ic2116_ ic2117_ ic2118_ ic2119_ ic2120_ ic2121_ ic2122_ ic2123_ ic2124_ ic2125_ ic2126_ ic2127_ ic2128_ ic2129_ ic2130_ ic2131_ ic2132_ ic2133_ ic2134_ ic2135_ ic2136_ ic2137_ ic2138_ ic2139_ ic2140_ ic2141_ ic2142_ ic2143_ ic2144_ ic2145_ ic2146_ ic2147_ ic2148_ ic2149_ ic2150_ ic2151_ ic2152_ ic2153_ ic2154_ ic2155_ ic2156_ ic2157_ ic2158_ ic2159_ ic2160_ ic2161_ ic2162_ ic2163_ ic2164_ ic2165_ ic2166_ ic2167_ ic2168_ ic2169_ ic2170_ ic2171_ ic2172_ ic2173_ ic2174_ ic15_ ic16_ i S O As ns cs Ar nr cr Aw nw cw Ao no co GS GO hlt k1 ic17_ HI HI1 HI2 hdi hdj x HXD1 ad A6 c6 A11 c11 hA_ R1 ic18_ HX0 HX1 HX2 HX3 HX4 HX5 HX6 HX7 HX8 HX9 HX10 HX11 ic19_ ic110_ gx X1 o_e0 o_e1 o_e2 o_e3 o_e4 o_e5 o_e6 o_e7 o_e8 o_e9 o_e10 o_e11 X2 HE ic111_ ic112_ wc u4 u11 u12 u13 u14 u49 u50 u51 u52 u53 u54 u55 u56 u57 u58 u59 u61 u62 u63 u64 u65 u66 u67 u68 u69 u70 u71 u72 u73 u74 u75 u76 u77 u78 u79 u80 u81 u82 u83 u84 u85 u86 u87 u88 u89 u90 u91 u92 u93 u94 u95 u96 u97 u98 u99 u100 u101 u102 u103 u104 u105 u106 u107 u108 u109 u110 u111 u112 u113 u114 u115 u116 u117 u118 u119 u120 u121 u122 u123 u124 u125 u126 u127 u128 u129 u130 u131 u132 u133 u134 u135 u136 u137 u138 u139 u140 u141 u142 u143 u144 u145 u146 u147 u148 u149 u150 u151 u152 u153 u154 u155 u156 u157 u158 u159 u160 u161 u162 u163 u164 u165 u166 u167 u168 u169 u170 u171 u172 u173 u174 u175 u176 u177 u178 u179 u180 u181 u182 u183 u184 u185 u186 u187 u188 u189 u190 u191 u192 u193 u194 u195 u196 u197 u198 u199 u200 u201 u202 u203 u204 u205 u206 u207 u208 u209 u210 u211 u212 u213 u214 u215 u216 u217 u218 hcut
   exact hcutP.out
set_option maxHeartbeats 16000000 in
set_option maxRecDepth 100000 in
theorem plays_walk.p3 (aa : Int) (x1 : List S47) (AA : Option Addr) (c1 : Nat) (w : World) : (plays_walk.p2 aa x1 AA c1 w).P:=by
 intro hknown hu27 hu35 hu47 M1 HL ic00_ w1 n0 ha_ hd1 hd2 hd3 HN5 FB HL60 HXD w2 S0 HS0 ic01_ ic02_ ic03_ A1v c1v A4v c4v gs gr ic04_ ic05_ wa HT_ HW_ wq ic10_ ic11_ ic12_ gw go w9 hHeld wb ic20_ ic13_ ic14_ wr ic21_ u10 ic22_ ic23_ ic24_ ic25_ u15 u16 u17 u18 u19 u20 u21 u22 u23 u24 u25 u26 ic26_ ic27_ ic28_ ic29_ ic210_ ic211_ ic212_ ic213_ ic214_ ic215_ ic216_ u60 ic217_ ic218_ ic219_ ic220_ ic221_ ic222_ ic223_ ic224_ ic225_ ic226_ ic227_ ic228_ ic229_ ic230_ ic231_ ic232_ ic233_ ic234_ ic235_ ic236_ ic237_ ic238_ ic239_ ic240_ ic241_ ic242_ ic243_ ic244_ ic245_ ic246_ ic247_ ic248_ ic249_ ic250_ ic251_ ic252_ ic253_ ic254_ ic255_ ic256_ ic257_ ic258_ ic259_ ic260_ ic261_ ic262_ ic263_ ic264_ ic265_ ic266_ ic267_ ic268_ ic269_ ic270_ ic271_ ic272_ ic273_ ic274_ ic275_ ic276_ ic277_ ic278_ ic279_ ic280_ ic281_ ic282_ ic283_ ic284_ ic285_ ic286_ ic287_ ic288_ ic289_ ic290_ ic291_ ic292_ ic293_ ic294_ ic295_ ic296_ ic297_ ic298_ ic299_ ic2100_ ic2101_ ic2102_ ic2103_ ic2104_ ic2105_ ic2106_ ic2107_ ic2108_ ic2109_ ic2110_ ic2111_ ic2112_ ic2113_ ic2114_ ic2115_ ic2116_ ic2117_ ic2118_ ic2119_ ic2120_ ic2121_ ic2122_ ic2123_ ic2124_ ic2125_ ic2126_ ic2127_ ic2128_ ic2129_ ic2130_ ic2131_ ic2132_ ic2133_ ic2134_ ic2135_ ic2136_ ic2137_ ic2138_ ic2139_ ic2140_ ic2141_ ic2142_ ic2143_ ic2144_ ic2145_ ic2146_ ic2147_ ic2148_ ic2149_ ic2150_ ic2151_ ic2152_ ic2153_ ic2154_ ic2155_ ic2156_ ic2157_ ic2158_ ic2159_ ic2160_ ic2161_ ic2162_ ic2163_ ic2164_ ic2165_ ic2166_ ic2167_ ic2168_ ic2169_ ic2170_ ic2171_ ic2172_ ic2173_ ic2174_ ic15_ ic16_ i S O As ns cs Ar nr cr Aw nw cw Ao no co GS GO hlt k1 ic17_ HI HI1 HI2 hdi hdj x HXD1 ad A6 c6 A11 c11 hA_ R1 ic18_ HX0 HX1 HX2 HX3 HX4 HX5 HX6 HX7 HX8 HX9 HX10 HX11 ic19_ ic110_ gx X1 o_e0 o_e1 o_e2 o_e3 o_e4 o_e5 o_e6 o_e7 o_e8 o_e9 o_e10 o_e11 X2 HE ic111_ ic112_ wc u4 u11 u12 u13 u14 u49 u50 u51 u52 u53 u54 u55 u56 u57 u58 u59 u61 u62 u63 u64 u65 u66 u67 u68 u69 u70 u71 u72 u73 u74 u75 u76 u77 u78 u79 u80 u81 u82 u83 u84 u85 u86 u87 u88 u89 u90 u91 u92 u93 u94 u95 u96 u97 u98 u99 u100 u101 u102 u103 u104 u105 u106 u107 u108 u109 u110 u111 u112 u113 u114 u115 u116 u117 u118 u119 u120 u121 u122 u123 u124 u125 u126 u127 u128 u129 u130 u131 u132 u133 u134 u135 u136 u137 u138 u139 u140 u141 u142 u143 u144 u145 u146 u147 u148 u149 u150 u151 u152 u153 u154 u155 u156 u157 u158 u159 u160 u161 u162 u163 u164 u165 u166 u167 u168 u169 u170 u171 u172 u173 u174 u175 u176 u177 u178 u179 u180 u181 u182 u183 u184 u185 u186 u187 u188 u189 u190 u191 u192 u193 u194 u195 u196 u197 u198 u199 u200 u201 u202 u203 u204 u205 u206 u207 u208 u209 u210 u211 u212 u213 u214 u215 u216 u217 u218 hcut
 clear HE GS GO
 obtain ⟨S,O,As,ns,cs,Ar,nr,cr,Aw,nw,cw,Ao,no,co,GS,GO,HE⟩:=hcut
 obtain ⟨vg,bg,hp1,hp2,hT⟩:=plays_get GS.out HXD1.out.1 x.f1
 have HAg:=Aside0.mk hp1
 have HBg:=Aside0.mk hp2
 have HDg:=Aside0.mk hT
 clear hp1 hp2 hT
 obtain ⟨vn,bn,hp1,hp2,hT⟩:=plays_next GS.out HXD1.out.1 x.f1
 have HAn:=Aside0.mk hp1
 have HBn:=Aside0.mk hp2
 have HDn:=Aside0.mk hT
 clear hp1 hp2 hT
 obtain ⟨vf,bf,hp1,hp2,hT⟩:=plays_first GS.out x.f1
 have HAf:=Aside0.mk hp1
 have HBf:=Aside0.mk hp2
 have HDf:=Aside0.mk hT
 clear hp1 hp2 hT
 skip
 have z_gx_0 : wc.cell? ⟨gx,0,none⟩ = some (.int .i64 x.f0):=HE.out.cell 0 0 rfl rfl
 have z_gx_1 : wc.cell? ⟨gx,1,none⟩ = some (.int .i64 x.f1):=HE.out.cell 0 1 rfl rfl
 have z_gx_2 : wc.cell? ⟨gx,2,none⟩ = some (.int .i64 x.f2.f0):=HE.out.cell 0 2 rfl rfl
 have z_gx_3 : wc.cell? ⟨gx,3,none⟩ = some (.int .i64 x.f2.f1):=HE.out.cell 0 3 rfl rfl
 have z_gx_4 : wc.cell? ⟨gx,4,none⟩ = some (.string x.f2.f2):=HE.out.cell 0 4 rfl rfl
 have z_gx_5 : wc.cell? ⟨gx,5,none⟩ = some (.int .i64 x.f2.f3):=HE.out.cell 0 5 rfl rfl
 have z_gx_6 : wc.cell? ⟨gx,6,none⟩ = some (.slice A6 x.f2.f4.length c6):=HE.out.cell 0 6 rfl rfl
 have z_gs_0 : wc.cell? ⟨gs,0,none⟩ = some (.slice As ns cs):=HE.out.cell 4 0 rfl rfl
 go_upto_region 27 with (first|((with_reducible refine gate_callee (f:=14) rfl ?_);refine goesL_ (some 126) rfl rfl Try.func14 (by kernel_rfl) rfl #[.agg #[.slice As ns cs], .int .i64 x.f1, .agg #[.int .i64 x.f2.f0, .int .i64 x.f2.f1, .string x.f2.f2, .int .i64 x.f2.f3, .slice A6 x.f2.f4.length c6]] rfl aG ?_;refine (c_get (S:=S) (key:=x.f2) (val:=vg) HE.out 0 0 rfl rfl HAg.out).mono ?_;rintro e_ X10 ⟨Aaq,naq,caq,rfl,hp_⟩;refine ⟨_,rfl,?_⟩;have n_:=Aside0.mk hp_;clear hp_ HE;(try clear z_gx_0);(try clear z_gx_1);(try clear z_gx_2);(try clear z_gx_3);(try clear z_gx_4);(try clear z_gx_5);(try clear z_gx_6);(try clear z_gx_7);(try clear z_gx_8);(try clear z_gx_9);(try clear z_gx_10);(try clear z_gx_11);(try clear z_go_0);(try clear y_go_0);(try clear z_gw_0);(try clear y_gw_0);(try clear z_gr_0);(try clear y_gr_0);(try clear z_gs_0);(try clear y_gs_0);have HE:=n_;clear n_)|((with_reducible refine gate_dst (N:=15) rfl ?_);refine box_event ?hg (N:=15) ?hd (cs:=#[.int .i64 0, .int .i64 0, .string (⟨#[]⟩ : ByteArray), .int .i64 0, .slice none 0 0]) (t:=35) ?hr ?_;(case hd => rfl);(case hg => rfl);(case hr => first|(go_simp;done)|(go_simp;rfl));intro ga hg_ X11 hbx_ hb_;have n_:=Aside0.mk (HE.out.box hg_ hbx_ hb_);clear HE hg_ hbx_ hb_;(try clear z_gx_0);(try clear z_gx_1);(try clear z_gx_2);(try clear z_gx_3);(try clear z_gx_4);(try clear z_gx_5);(try clear z_gx_6);(try clear z_gx_7);(try clear z_gx_8);(try clear z_gx_9);(try clear z_gx_10);(try clear z_gx_11);(try clear z_go_0);(try clear y_go_0);(try clear z_gw_0);(try clear y_gw_0);(try clear z_gr_0);(try clear y_gr_0);(try clear z_gs_0);(try clear y_gs_0);have HE:=n_;clear n_)|((with_reducible refine gate_store (t:=35) (p:=15) rfl ?_);refine store_event (w1:=X11.setRow ga #[.int .i64 vg.f0, .int .i64 vg.f1, .string vg.f2, .int .i64 vg.f3, .slice Aaq naq caq]) rfl rfl rfl (run_row rfl rfl rfl (HE.out.at 0 rfl).2 inf35 rfl (by first|rfl|simp [Value.oneCell'])) ?_;intro X12 hw_;have n_ : Aside0 (Pl w X12 [(ga,#[.int .i64 vg.f0, .int .i64 vg.f1, .string vg.f2, .int .i64 vg.f3, .slice Aaq naq caq],35),(gx,#[.int .i64 x.f0, .int .i64 x.f1, .int .i64 x.f2.f0, .int .i64 x.f2.f1, .string x.f2.f2, .int .i64 x.f2.f3, .slice A6 x.f2.f4.length c6, .int .i64 x.f3.f0, .int .i64 x.f3.f1, .string x.f3.f2, .int .i64 x.f3.f3, .slice A11 x.f3.f4.length c11],47),(go,#[.slice Ao no co],27),(gw,#[.slice Aw nw cw],27),(gr,#[.slice Ar nr cr],27),(gs,#[.slice As ns cs],27)] [(.slice As ns cs,S),(.slice Ar nr cr,S),(.slice Aw nw cw,O),(.slice Ao no co,O)] [(.slice Aaq naq caq,vg.f4),(.slice A6 x.f2.f4.length c6,x.f2.f4),(.slice A11 x.f3.f4.length c11,x.f3.f4)]):=⟨by rw [hw_];exact HE.out.row 0 rfl #[.int .i64 vg.f0, .int .i64 vg.f1, .string vg.f2, .int .i64 vg.f3, .slice Aaq naq caq]⟩;clear HE hw_;(try clear z_ga_0);(try clear z_ga_1);(try clear z_ga_2);(try clear z_ga_3);(try clear z_ga_4);(try clear z_gx_0);(try clear z_gx_1);(try clear z_gx_2);(try clear z_gx_3);(try clear z_gx_4);(try clear z_gx_5);(try clear z_gx_6);(try clear z_gx_7);(try clear z_gx_8);(try clear z_gx_9);(try clear z_gx_10);(try clear z_gx_11);(try clear z_go_0);(try clear y_go_0);(try clear z_gw_0);(try clear y_gw_0);(try clear z_gr_0);(try clear y_gr_0);(try clear z_gs_0);(try clear y_gs_0);have HE:=n_;clear n_))
 have z_gx_0 : X12.cell? ⟨gx,0,none⟩ = some (.int .i64 x.f0):=HE.out.cell 1 0 rfl rfl
 have z_gx_1 : X12.cell? ⟨gx,1,none⟩ = some (.int .i64 x.f1):=HE.out.cell 1 1 rfl rfl
 have z_gx_2 : X12.cell? ⟨gx,2,none⟩ = some (.int .i64 x.f2.f0):=HE.out.cell 1 2 rfl rfl
 have z_gx_3 : X12.cell? ⟨gx,3,none⟩ = some (.int .i64 x.f2.f1):=HE.out.cell 1 3 rfl rfl
 have z_gx_4 : X12.cell? ⟨gx,4,none⟩ = some (.string x.f2.f2):=HE.out.cell 1 4 rfl rfl
 have z_gx_5 : X12.cell? ⟨gx,5,none⟩ = some (.int .i64 x.f2.f3):=HE.out.cell 1 5 rfl rfl
 have z_gx_6 : X12.cell? ⟨gx,6,none⟩ = some (.slice A6 x.f2.f4.length c6):=HE.out.cell 1 6 rfl rfl
 have z_gr_0 : X12.cell? ⟨gr,0,none⟩ = some (.slice Ar nr cr):=HE.out.cell 4 0 rfl rfl
 go_upto_region 28 with (first|((with_reducible refine gate_callee (f:=21) rfl ?_);refine goesL_ (some 135) rfl rfl Try.func21 (by kernel_rfl) rfl #[.agg #[.slice Ar nr cr], .int .i64 x.f1, .agg #[.int .i64 x.f2.f0, .int .i64 x.f2.f1, .string x.f2.f2, .int .i64 x.f2.f3, .slice A6 x.f2.f4.length c6]] rfl aG ?_;refine (c_rget (S:=S) (key:=x.f2) (val:=vg) HE.out 1 1 rfl rfl HBg.out).mono ?_;rintro e_ X13 ⟨Abq,nbq,cbq,rfl,hp_⟩;refine ⟨_,rfl,?_⟩;have n_:=Aside0.mk hp_;clear hp_ HE;(try clear z_ga_0);(try clear z_ga_1);(try clear z_ga_2);(try clear z_ga_3);(try clear z_ga_4);(try clear z_gx_0);(try clear z_gx_1);(try clear z_gx_2);(try clear z_gx_3);(try clear z_gx_4);(try clear z_gx_5);(try clear z_gx_6);(try clear z_gx_7);(try clear z_gx_8);(try clear z_gx_9);(try clear z_gx_10);(try clear z_gx_11);(try clear z_go_0);(try clear y_go_0);(try clear z_gw_0);(try clear y_gw_0);(try clear z_gr_0);(try clear y_gr_0);(try clear z_gs_0);(try clear y_gs_0);have HE:=n_;clear n_)|((with_reducible refine gate_dst (N:=17) rfl ?_);refine box_event ?hg (N:=17) ?hd (cs:=#[.int .i64 0, .int .i64 0, .string (⟨#[]⟩ : ByteArray), .int .i64 0, .slice none 0 0]) (t:=35) ?hr ?_;(case hd => rfl);(case hg => rfl);(case hr => first|(go_simp;done)|(go_simp;rfl));intro gb hg_ X14 hbx_ hb_;have n_:=Aside0.mk (HE.out.box hg_ hbx_ hb_);clear HE hg_ hbx_ hb_;(try clear z_ga_0);(try clear z_ga_1);(try clear z_ga_2);(try clear z_ga_3);(try clear z_ga_4);(try clear z_gx_0);(try clear z_gx_1);(try clear z_gx_2);(try clear z_gx_3);(try clear z_gx_4);(try clear z_gx_5);(try clear z_gx_6);(try clear z_gx_7);(try clear z_gx_8);(try clear z_gx_9);(try clear z_gx_10);(try clear z_gx_11);(try clear z_go_0);(try clear y_go_0);(try clear z_gw_0);(try clear y_gw_0);(try clear z_gr_0);(try clear y_gr_0);(try clear z_gs_0);(try clear y_gs_0);have HE:=n_;clear n_)|((with_reducible refine gate_store (t:=35) (p:=17) rfl ?_);refine store_event (w1:=X14.setRow gb #[.int .i64 vg.f0, .int .i64 vg.f1, .string vg.f2, .int .i64 vg.f3, .slice Abq nbq cbq]) rfl rfl rfl (run_row rfl rfl rfl (HE.out.at 0 rfl).2 inf35 rfl (by first|rfl|simp [Value.oneCell'])) ?_;intro X15 hw_;have n_ : Aside0 (Pl w X15 [(gb,#[.int .i64 vg.f0, .int .i64 vg.f1, .string vg.f2, .int .i64 vg.f3, .slice Abq nbq cbq],35),(ga,#[.int .i64 vg.f0, .int .i64 vg.f1, .string vg.f2, .int .i64 vg.f3, .slice Aaq naq caq],35),(gx,#[.int .i64 x.f0, .int .i64 x.f1, .int .i64 x.f2.f0, .int .i64 x.f2.f1, .string x.f2.f2, .int .i64 x.f2.f3, .slice A6 x.f2.f4.length c6, .int .i64 x.f3.f0, .int .i64 x.f3.f1, .string x.f3.f2, .int .i64 x.f3.f3, .slice A11 x.f3.f4.length c11],47),(go,#[.slice Ao no co],27),(gw,#[.slice Aw nw cw],27),(gr,#[.slice Ar nr cr],27),(gs,#[.slice As ns cs],27)] [(.slice As ns cs,S),(.slice Ar nr cr,S),(.slice Aw nw cw,O),(.slice Ao no co,O)] [(.slice Abq nbq cbq,vg.f4),(.slice Aaq naq caq,vg.f4),(.slice A6 x.f2.f4.length c6,x.f2.f4),(.slice A11 x.f3.f4.length c11,x.f3.f4)]):=⟨by rw [hw_];exact HE.out.row 0 rfl #[.int .i64 vg.f0, .int .i64 vg.f1, .string vg.f2, .int .i64 vg.f3, .slice Abq nbq cbq]⟩;clear HE hw_;(try clear z_gb_0);(try clear z_gb_1);(try clear z_gb_2);(try clear z_gb_3);(try clear z_gb_4);(try clear z_ga_0);(try clear z_ga_1);(try clear z_ga_2);(try clear z_ga_3);(try clear z_ga_4);(try clear z_gx_0);(try clear z_gx_1);(try clear z_gx_2);(try clear z_gx_3);(try clear z_gx_4);(try clear z_gx_5);(try clear z_gx_6);(try clear z_gx_7);(try clear z_gx_8);(try clear z_gx_9);(try clear z_gx_10);(try clear z_gx_11);(try clear z_go_0);(try clear y_go_0);(try clear z_gw_0);(try clear y_gw_0);(try clear z_gr_0);(try clear y_gr_0);(try clear z_gs_0);(try clear y_gs_0);have HE:=n_;clear n_))
 have z_gx_0 : X15.cell? ⟨gx,0,none⟩ = some (.int .i64 x.f0):=HE.out.cell 2 0 rfl rfl
 have z_gx_1 : X15.cell? ⟨gx,1,none⟩ = some (.int .i64 x.f1):=HE.out.cell 2 1 rfl rfl
 have z_gx_2 : X15.cell? ⟨gx,2,none⟩ = some (.int .i64 x.f2.f0):=HE.out.cell 2 2 rfl rfl
 have z_gx_3 : X15.cell? ⟨gx,3,none⟩ = some (.int .i64 x.f2.f1):=HE.out.cell 2 3 rfl rfl
 have z_gx_4 : X15.cell? ⟨gx,4,none⟩ = some (.string x.f2.f2):=HE.out.cell 2 4 rfl rfl
 have z_gx_5 : X15.cell? ⟨gx,5,none⟩ = some (.int .i64 x.f2.f3):=HE.out.cell 2 5 rfl rfl
 have z_gx_6 : X15.cell? ⟨gx,6,none⟩ = some (.slice A6 x.f2.f4.length c6):=HE.out.cell 2 6 rfl rfl
 have z_gs_0 : X15.cell? ⟨gs,0,none⟩ = some (.slice As ns cs):=HE.out.cell 6 0 rfl rfl
 go_upto_region 29 with (first|((with_reducible refine gate_callee (f:=15) rfl ?_);refine goesL_ (some 144) rfl rfl Try.func15 (by kernel_rfl) rfl #[.agg #[.slice As ns cs], .int .i64 x.f1, .agg #[.int .i64 x.f2.f0, .int .i64 x.f2.f1, .string x.f2.f2, .int .i64 x.f2.f3, .slice A6 x.f2.f4.length c6]] rfl aG ?_;refine (c_next (S:=S) (key:=x.f2) (val:=vn) HE.out 0 2 rfl rfl HAn.out).mono ?_;rintro e_ X16 ⟨Acq,ncq,ccq,rfl,hp_⟩;refine ⟨_,rfl,?_⟩;have n_:=Aside0.mk hp_;clear hp_ HE;(try clear z_gb_0);(try clear z_gb_1);(try clear z_gb_2);(try clear z_gb_3);(try clear z_gb_4);(try clear z_ga_0);(try clear z_ga_1);(try clear z_ga_2);(try clear z_ga_3);(try clear z_ga_4);(try clear z_gx_0);(try clear z_gx_1);(try clear z_gx_2);(try clear z_gx_3);(try clear z_gx_4);(try clear z_gx_5);(try clear z_gx_6);(try clear z_gx_7);(try clear z_gx_8);(try clear z_gx_9);(try clear z_gx_10);(try clear z_gx_11);(try clear z_go_0);(try clear y_go_0);(try clear z_gw_0);(try clear y_gw_0);(try clear z_gr_0);(try clear y_gr_0);(try clear z_gs_0);(try clear y_gs_0);have HE:=n_;clear n_)|((with_reducible refine gate_dst (N:=19) rfl ?_);refine box_event ?hg (N:=19) ?hd (cs:=#[.int .i64 0, .int .i64 0, .string (⟨#[]⟩ : ByteArray), .int .i64 0, .slice none 0 0]) (t:=35) ?hr ?_;(case hd => rfl);(case hg => rfl);(case hr => first|(go_simp;done)|(go_simp;rfl));intro gc hg_ X17 hbx_ hb_;have n_:=Aside0.mk (HE.out.box hg_ hbx_ hb_);clear HE hg_ hbx_ hb_;(try clear z_gb_0);(try clear z_gb_1);(try clear z_gb_2);(try clear z_gb_3);(try clear z_gb_4);(try clear z_ga_0);(try clear z_ga_1);(try clear z_ga_2);(try clear z_ga_3);(try clear z_ga_4);(try clear z_gx_0);(try clear z_gx_1);(try clear z_gx_2);(try clear z_gx_3);(try clear z_gx_4);(try clear z_gx_5);(try clear z_gx_6);(try clear z_gx_7);(try clear z_gx_8);(try clear z_gx_9);(try clear z_gx_10);(try clear z_gx_11);(try clear z_go_0);(try clear y_go_0);(try clear z_gw_0);(try clear y_gw_0);(try clear z_gr_0);(try clear y_gr_0);(try clear z_gs_0);(try clear y_gs_0);have HE:=n_;clear n_)|((with_reducible refine gate_store (t:=35) (p:=19) rfl ?_);refine store_event (w1:=X17.setRow gc #[.int .i64 vn.f0, .int .i64 vn.f1, .string vn.f2, .int .i64 vn.f3, .slice Acq ncq ccq]) rfl rfl rfl (run_row rfl rfl rfl (HE.out.at 0 rfl).2 inf35 rfl (by first|rfl|simp [Value.oneCell'])) ?_;intro X18 hw_;have n_ : Aside0 (Pl w X18 [(gc,#[.int .i64 vn.f0, .int .i64 vn.f1, .string vn.f2, .int .i64 vn.f3, .slice Acq ncq ccq],35),(gb,#[.int .i64 vg.f0, .int .i64 vg.f1, .string vg.f2, .int .i64 vg.f3, .slice Abq nbq cbq],35),(ga,#[.int .i64 vg.f0, .int .i64 vg.f1, .string vg.f2, .int .i64 vg.f3, .slice Aaq naq caq],35),(gx,#[.int .i64 x.f0, .int .i64 x.f1, .int .i64 x.f2.f0, .int .i64 x.f2.f1, .string x.f2.f2, .int .i64 x.f2.f3, .slice A6 x.f2.f4.length c6, .int .i64 x.f3.f0, .int .i64 x.f3.f1, .string x.f3.f2, .int .i64 x.f3.f3, .slice A11 x.f3.f4.length c11],47),(go,#[.slice Ao no co],27),(gw,#[.slice Aw nw cw],27),(gr,#[.slice Ar nr cr],27),(gs,#[.slice As ns cs],27)] [(.slice As ns cs,S),(.slice Ar nr cr,S),(.slice Aw nw cw,O),(.slice Ao no co,O)] [(.slice Acq ncq ccq,vn.f4),(.slice Abq nbq cbq,vg.f4),(.slice Aaq naq caq,vg.f4),(.slice A6 x.f2.f4.length c6,x.f2.f4),(.slice A11 x.f3.f4.length c11,x.f3.f4)]):=⟨by rw [hw_];exact HE.out.row 0 rfl #[.int .i64 vn.f0, .int .i64 vn.f1, .string vn.f2, .int .i64 vn.f3, .slice Acq ncq ccq]⟩;clear HE hw_;(try clear z_gc_0);(try clear z_gc_1);(try clear z_gc_2);(try clear z_gc_3);(try clear z_gc_4);(try clear z_gb_0);(try clear z_gb_1);(try clear z_gb_2);(try clear z_gb_3);(try clear z_gb_4);(try clear z_ga_0);(try clear z_ga_1);(try clear z_ga_2);(try clear z_ga_3);(try clear z_ga_4);(try clear z_gx_0);(try clear z_gx_1);(try clear z_gx_2);(try clear z_gx_3);(try clear z_gx_4);(try clear z_gx_5);(try clear z_gx_6);(try clear z_gx_7);(try clear z_gx_8);(try clear z_gx_9);(try clear z_gx_10);(try clear z_gx_11);(try clear z_go_0);(try clear y_go_0);(try clear z_gw_0);(try clear y_gw_0);(try clear z_gr_0);(try clear y_gr_0);(try clear z_gs_0);(try clear y_gs_0);have HE:=n_;clear n_))
 have z_gx_0 : X18.cell? ⟨gx,0,none⟩ = some (.int .i64 x.f0):=HE.out.cell 3 0 rfl rfl
 have z_gx_1 : X18.cell? ⟨gx,1,none⟩ = some (.int .i64 x.f1):=HE.out.cell 3 1 rfl rfl
 have z_gx_2 : X18.cell? ⟨gx,2,none⟩ = some (.int .i64 x.f2.f0):=HE.out.cell 3 2 rfl rfl
 have z_gx_3 : X18.cell? ⟨gx,3,none⟩ = some (.int .i64 x.f2.f1):=HE.out.cell 3 3 rfl rfl
 have z_gx_4 : X18.cell? ⟨gx,4,none⟩ = some (.string x.f2.f2):=HE.out.cell 3 4 rfl rfl
 have z_gx_5 : X18.cell? ⟨gx,5,none⟩ = some (.int .i64 x.f2.f3):=HE.out.cell 3 5 rfl rfl
 have z_gx_6 : X18.cell? ⟨gx,6,none⟩ = some (.slice A6 x.f2.f4.length c6):=HE.out.cell 3 6 rfl rfl
 have z_gr_0 : X18.cell? ⟨gr,0,none⟩ = some (.slice Ar nr cr):=HE.out.cell 6 0 rfl rfl
 go_upto_region 30 with (first|((with_reducible refine gate_callee (f:=22) rfl ?_);refine goesL_ (some 153) rfl rfl Try.func22 (by kernel_rfl) rfl #[.agg #[.slice Ar nr cr], .int .i64 x.f1, .agg #[.int .i64 x.f2.f0, .int .i64 x.f2.f1, .string x.f2.f2, .int .i64 x.f2.f3, .slice A6 x.f2.f4.length c6]] rfl aG ?_;refine (c_rnext (S:=S) (key:=x.f2) (val:=vn) HE.out 1 3 rfl rfl HBn.out).mono ?_;rintro e_ X19 ⟨Adq,ndq,cdq,rfl,hp_⟩;refine ⟨_,rfl,?_⟩;have n_:=Aside0.mk hp_;clear hp_ HE;(try clear z_gc_0);(try clear z_gc_1);(try clear z_gc_2);(try clear z_gc_3);(try clear z_gc_4);(try clear z_gb_0);(try clear z_gb_1);(try clear z_gb_2);(try clear z_gb_3);(try clear z_gb_4);(try clear z_ga_0);(try clear z_ga_1);(try clear z_ga_2);(try clear z_ga_3);(try clear z_ga_4);(try clear z_gx_0);(try clear z_gx_1);(try clear z_gx_2);(try clear z_gx_3);(try clear z_gx_4);(try clear z_gx_5);(try clear z_gx_6);(try clear z_gx_7);(try clear z_gx_8);(try clear z_gx_9);(try clear z_gx_10);(try clear z_gx_11);(try clear z_go_0);(try clear y_go_0);(try clear z_gw_0);(try clear y_gw_0);(try clear z_gr_0);(try clear y_gr_0);(try clear z_gs_0);(try clear y_gs_0);have HE:=n_;clear n_)|((with_reducible refine gate_dst (N:=21) rfl ?_);refine box_event ?hg (N:=21) ?hd (cs:=#[.int .i64 0, .int .i64 0, .string (⟨#[]⟩ : ByteArray), .int .i64 0, .slice none 0 0]) (t:=35) ?hr ?_;(case hd => rfl);(case hg => rfl);(case hr => first|(go_simp;done)|(go_simp;rfl));intro gd hg_ X20 hbx_ hb_;have n_:=Aside0.mk (HE.out.box hg_ hbx_ hb_);clear HE hg_ hbx_ hb_;(try clear z_gc_0);(try clear z_gc_1);(try clear z_gc_2);(try clear z_gc_3);(try clear z_gc_4);(try clear z_gb_0);(try clear z_gb_1);(try clear z_gb_2);(try clear z_gb_3);(try clear z_gb_4);(try clear z_ga_0);(try clear z_ga_1);(try clear z_ga_2);(try clear z_ga_3);(try clear z_ga_4);(try clear z_gx_0);(try clear z_gx_1);(try clear z_gx_2);(try clear z_gx_3);(try clear z_gx_4);(try clear z_gx_5);(try clear z_gx_6);(try clear z_gx_7);(try clear z_gx_8);(try clear z_gx_9);(try clear z_gx_10);(try clear z_gx_11);(try clear z_go_0);(try clear y_go_0);(try clear z_gw_0);(try clear y_gw_0);(try clear z_gr_0);(try clear y_gr_0);(try clear z_gs_0);(try clear y_gs_0);have HE:=n_;clear n_)|((with_reducible refine gate_store (t:=35) (p:=21) rfl ?_);refine store_event (w1:=X20.setRow gd #[.int .i64 vn.f0, .int .i64 vn.f1, .string vn.f2, .int .i64 vn.f3, .slice Adq ndq cdq]) rfl rfl rfl (run_row rfl rfl rfl (HE.out.at 0 rfl).2 inf35 rfl (by first|rfl|simp [Value.oneCell'])) ?_;intro X21 hw_;have n_ : Aside0 (Pl w X21 [(gd,#[.int .i64 vn.f0, .int .i64 vn.f1, .string vn.f2, .int .i64 vn.f3, .slice Adq ndq cdq],35),(gc,#[.int .i64 vn.f0, .int .i64 vn.f1, .string vn.f2, .int .i64 vn.f3, .slice Acq ncq ccq],35),(gb,#[.int .i64 vg.f0, .int .i64 vg.f1, .string vg.f2, .int .i64 vg.f3, .slice Abq nbq cbq],35),(ga,#[.int .i64 vg.f0, .int .i64 vg.f1, .string vg.f2, .int .i64 vg.f3, .slice Aaq naq caq],35),(gx,#[.int .i64 x.f0, .int .i64 x.f1, .int .i64 x.f2.f0, .int .i64 x.f2.f1, .string x.f2.f2, .int .i64 x.f2.f3, .slice A6 x.f2.f4.length c6, .int .i64 x.f3.f0, .int .i64 x.f3.f1, .string x.f3.f2, .int .i64 x.f3.f3, .slice A11 x.f3.f4.length c11],47),(go,#[.slice Ao no co],27),(gw,#[.slice Aw nw cw],27),(gr,#[.slice Ar nr cr],27),(gs,#[.slice As ns cs],27)] [(.slice As ns cs,S),(.slice Ar nr cr,S),(.slice Aw nw cw,O),(.slice Ao no co,O)] [(.slice Adq ndq cdq,vn.f4),(.slice Acq ncq ccq,vn.f4),(.slice Abq nbq cbq,vg.f4),(.slice Aaq naq caq,vg.f4),(.slice A6 x.f2.f4.length c6,x.f2.f4),(.slice A11 x.f3.f4.length c11,x.f3.f4)]):=⟨by rw [hw_];exact HE.out.row 0 rfl #[.int .i64 vn.f0, .int .i64 vn.f1, .string vn.f2, .int .i64 vn.f3, .slice Adq ndq cdq]⟩;clear HE hw_;(try clear z_gd_0);(try clear z_gd_1);(try clear z_gd_2);(try clear z_gd_3);(try clear z_gd_4);(try clear z_gc_0);(try clear z_gc_1);(try clear z_gc_2);(try clear z_gc_3);(try clear z_gc_4);(try clear z_gb_0);(try clear z_gb_1);(try clear z_gb_2);(try clear z_gb_3);(try clear z_gb_4);(try clear z_ga_0);(try clear z_ga_1);(try clear z_ga_2);(try clear z_ga_3);(try clear z_ga_4);(try clear z_gx_0);(try clear z_gx_1);(try clear z_gx_2);(try clear z_gx_3);(try clear z_gx_4);(try clear z_gx_5);(try clear z_gx_6);(try clear z_gx_7);(try clear z_gx_8);(try clear z_gx_9);(try clear z_gx_10);(try clear z_gx_11);(try clear z_go_0);(try clear y_go_0);(try clear z_gw_0);(try clear y_gw_0);(try clear z_gr_0);(try clear y_gr_0);(try clear z_gs_0);(try clear y_gs_0);have HE:=n_;clear n_))
 have z_gx_0 : X21.cell? ⟨gx,0,none⟩ = some (.int .i64 x.f0):=HE.out.cell 4 0 rfl rfl
 have z_gx_1 : X21.cell? ⟨gx,1,none⟩ = some (.int .i64 x.f1):=HE.out.cell 4 1 rfl rfl
 have z_gx_2 : X21.cell? ⟨gx,2,none⟩ = some (.int .i64 x.f2.f0):=HE.out.cell 4 2 rfl rfl
 have z_gx_3 : X21.cell? ⟨gx,3,none⟩ = some (.int .i64 x.f2.f1):=HE.out.cell 4 3 rfl rfl
 have z_gx_4 : X21.cell? ⟨gx,4,none⟩ = some (.string x.f2.f2):=HE.out.cell 4 4 rfl rfl
 have z_gx_5 : X21.cell? ⟨gx,5,none⟩ = some (.int .i64 x.f2.f3):=HE.out.cell 4 5 rfl rfl
 have z_gx_6 : X21.cell? ⟨gx,6,none⟩ = some (.slice A6 x.f2.f4.length c6):=HE.out.cell 4 6 rfl rfl
 have z_gs_0 : X21.cell? ⟨gs,0,none⟩ = some (.slice As ns cs):=HE.out.cell 8 0 rfl rfl
 go_upto_region 31 with (first|((with_reducible refine gate_callee (f:=13) rfl ?_);refine goesL_ (some 160) rfl rfl Try.func13 (by kernel_rfl) rfl #[.agg #[.slice As ns cs], .int .i64 x.f1] rfl aG ?_;refine (c_first (S:=S) (val:=vf) HE.out 0 rfl HAf.out).mono ?_;rintro e_ X22 ⟨Aeq,neq,ceq,rfl,hp_⟩;refine ⟨_,rfl,?_⟩;have n_:=Aside0.mk hp_;clear hp_ HE;(try clear z_gd_0);(try clear z_gd_1);(try clear z_gd_2);(try clear z_gd_3);(try clear z_gd_4);(try clear z_gc_0);(try clear z_gc_1);(try clear z_gc_2);(try clear z_gc_3);(try clear z_gc_4);(try clear z_gb_0);(try clear z_gb_1);(try clear z_gb_2);(try clear z_gb_3);(try clear z_gb_4);(try clear z_ga_0);(try clear z_ga_1);(try clear z_ga_2);(try clear z_ga_3);(try clear z_ga_4);(try clear z_gx_0);(try clear z_gx_1);(try clear z_gx_2);(try clear z_gx_3);(try clear z_gx_4);(try clear z_gx_5);(try clear z_gx_6);(try clear z_gx_7);(try clear z_gx_8);(try clear z_gx_9);(try clear z_gx_10);(try clear z_gx_11);(try clear z_go_0);(try clear y_go_0);(try clear z_gw_0);(try clear y_gw_0);(try clear z_gr_0);(try clear y_gr_0);(try clear z_gs_0);(try clear y_gs_0);have HE:=n_;clear n_)|((with_reducible refine gate_dst (N:=23) rfl ?_);refine box_event ?hg (N:=23) ?hd (cs:=#[.int .i64 0, .int .i64 0, .string (⟨#[]⟩ : ByteArray), .int .i64 0, .slice none 0 0]) (t:=35) ?hr ?_;(case hd => rfl);(case hg => rfl);(case hr => first|(go_simp;done)|(go_simp;rfl));intro ge hg_ X23 hbx_ hb_;have n_:=Aside0.mk (HE.out.box hg_ hbx_ hb_);clear HE hg_ hbx_ hb_;(try clear z_gd_0);(try clear z_gd_1);(try clear z_gd_2);(try clear z_gd_3);(try clear z_gd_4);(try clear z_gc_0);(try clear z_gc_1);(try clear z_gc_2);(try clear z_gc_3);(try clear z_gc_4);(try clear z_gb_0);(try clear z_gb_1);(try clear z_gb_2);(try clear z_gb_3);(try clear z_gb_4);(try clear z_ga_0);(try clear z_ga_1);(try clear z_ga_2);(try clear z_ga_3);(try clear z_ga_4);(try clear z_gx_0);(try clear z_gx_1);(try clear z_gx_2);(try clear z_gx_3);(try clear z_gx_4);(try clear z_gx_5);(try clear z_gx_6);(try clear z_gx_7);(try clear z_gx_8);(try clear z_gx_9);(try clear z_gx_10);(try clear z_gx_11);(try clear z_go_0);(try clear y_go_0);(try clear z_gw_0);(try clear y_gw_0);(try clear z_gr_0);(try clear y_gr_0);(try clear z_gs_0);(try clear y_gs_0);have HE:=n_;clear n_)|((with_reducible refine gate_store (t:=35) (p:=23) rfl ?_);refine store_event (w1:=X23.setRow ge #[.int .i64 vf.f0, .int .i64 vf.f1, .string vf.f2, .int .i64 vf.f3, .slice Aeq neq ceq]) rfl rfl rfl (run_row rfl rfl rfl (HE.out.at 0 rfl).2 inf35 rfl (by first|rfl|simp [Value.oneCell'])) ?_;intro X24 hw_;have n_ : Aside0 (Pl w X24 [(ge,#[.int .i64 vf.f0, .int .i64 vf.f1, .string vf.f2, .int .i64 vf.f3, .slice Aeq neq ceq],35),(gd,#[.int .i64 vn.f0, .int .i64 vn.f1, .string vn.f2, .int .i64 vn.f3, .slice Adq ndq cdq],35),(gc,#[.int .i64 vn.f0, .int .i64 vn.f1, .string vn.f2, .int .i64 vn.f3, .slice Acq ncq ccq],35),(gb,#[.int .i64 vg.f0, .int .i64 vg.f1, .string vg.f2, .int .i64 vg.f3, .slice Abq nbq cbq],35),(ga,#[.int .i64 vg.f0, .int .i64 vg.f1, .string vg.f2, .int .i64 vg.f3, .slice Aaq naq caq],35),(gx,#[.int .i64 x.f0, .int .i64 x.f1, .int .i64 x.f2.f0, .int .i64 x.f2.f1, .string x.f2.f2, .int .i64 x.f2.f3, .slice A6 x.f2.f4.length c6, .int .i64 x.f3.f0, .int .i64 x.f3.f1, .string x.f3.f2, .int .i64 x.f3.f3, .slice A11 x.f3.f4.length c11],47),(go,#[.slice Ao no co],27),(gw,#[.slice Aw nw cw],27),(gr,#[.slice Ar nr cr],27),(gs,#[.slice As ns cs],27)] [(.slice As ns cs,S),(.slice Ar nr cr,S),(.slice Aw nw cw,O),(.slice Ao no co,O)] [(.slice Aeq neq ceq,vf.f4),(.slice Adq ndq cdq,vn.f4),(.slice Acq ncq ccq,vn.f4),(.slice Abq nbq cbq,vg.f4),(.slice Aaq naq caq,vg.f4),(.slice A6 x.f2.f4.length c6,x.f2.f4),(.slice A11 x.f3.f4.length c11,x.f3.f4)]):=⟨by rw [hw_];exact HE.out.row 0 rfl #[.int .i64 vf.f0, .int .i64 vf.f1, .string vf.f2, .int .i64 vf.f3, .slice Aeq neq ceq]⟩;clear HE hw_;(try clear z_ge_0);(try clear z_ge_1);(try clear z_ge_2);(try clear z_ge_3);(try clear z_ge_4);(try clear z_gd_0);(try clear z_gd_1);(try clear z_gd_2);(try clear z_gd_3);(try clear z_gd_4);(try clear z_gc_0);(try clear z_gc_1);(try clear z_gc_2);(try clear z_gc_3);(try clear z_gc_4);(try clear z_gb_0);(try clear z_gb_1);(try clear z_gb_2);(try clear z_gb_3);(try clear z_gb_4);(try clear z_ga_0);(try clear z_ga_1);(try clear z_ga_2);(try clear z_ga_3);(try clear z_ga_4);(try clear z_gx_0);(try clear z_gx_1);(try clear z_gx_2);(try clear z_gx_3);(try clear z_gx_4);(try clear z_gx_5);(try clear z_gx_6);(try clear z_gx_7);(try clear z_gx_8);(try clear z_gx_9);(try clear z_gx_10);(try clear z_gx_11);(try clear z_go_0);(try clear y_go_0);(try clear z_gw_0);(try clear y_gw_0);(try clear z_gr_0);(try clear y_gr_0);(try clear z_gs_0);(try clear y_gs_0);have HE:=n_;clear n_))
 have z_gx_0 : X24.cell? ⟨gx,0,none⟩ = some (.int .i64 x.f0):=HE.out.cell 5 0 rfl rfl
 have z_gx_1 : X24.cell? ⟨gx,1,none⟩ = some (.int .i64 x.f1):=HE.out.cell 5 1 rfl rfl
 have z_gx_2 : X24.cell? ⟨gx,2,none⟩ = some (.int .i64 x.f2.f0):=HE.out.cell 5 2 rfl rfl
 have z_gx_3 : X24.cell? ⟨gx,3,none⟩ = some (.int .i64 x.f2.f1):=HE.out.cell 5 3 rfl rfl
 have z_gx_4 : X24.cell? ⟨gx,4,none⟩ = some (.string x.f2.f2):=HE.out.cell 5 4 rfl rfl
 have z_gx_5 : X24.cell? ⟨gx,5,none⟩ = some (.int .i64 x.f2.f3):=HE.out.cell 5 5 rfl rfl
 have z_gx_6 : X24.cell? ⟨gx,6,none⟩ = some (.slice A6 x.f2.f4.length c6):=HE.out.cell 5 6 rfl rfl
 have z_gr_0 : X24.cell? ⟨gr,0,none⟩ = some (.slice Ar nr cr):=HE.out.cell 8 0 rfl rfl
 go_upto_region 32 with (first|((with_reducible refine gate_callee (f:=23) rfl ?_);refine goesL_ (some 167) rfl rfl Try.func23 (by kernel_rfl) rfl #[.agg #[.slice Ar nr cr], .int .i64 x.f1] rfl aG ?_;refine (c_rfirst (S:=S) (val:=vf) HE.out 1 rfl HBf.out).mono ?_;rintro e_ X25 ⟨Afq,nfq,cfq,rfl,hp_⟩;refine ⟨_,rfl,?_⟩;have n_:=Aside0.mk hp_;clear hp_ HE;(try clear z_ge_0);(try clear z_ge_1);(try clear z_ge_2);(try clear z_ge_3);(try clear z_ge_4);(try clear z_gd_0);(try clear z_gd_1);(try clear z_gd_2);(try clear z_gd_3);(try clear z_gd_4);(try clear z_gc_0);(try clear z_gc_1);(try clear z_gc_2);(try clear z_gc_3);(try clear z_gc_4);(try clear z_gb_0);(try clear z_gb_1);(try clear z_gb_2);(try clear z_gb_3);(try clear z_gb_4);(try clear z_ga_0);(try clear z_ga_1);(try clear z_ga_2);(try clear z_ga_3);(try clear z_ga_4);(try clear z_gx_0);(try clear z_gx_1);(try clear z_gx_2);(try clear z_gx_3);(try clear z_gx_4);(try clear z_gx_5);(try clear z_gx_6);(try clear z_gx_7);(try clear z_gx_8);(try clear z_gx_9);(try clear z_gx_10);(try clear z_gx_11);(try clear z_go_0);(try clear y_go_0);(try clear z_gw_0);(try clear y_gw_0);(try clear z_gr_0);(try clear y_gr_0);(try clear z_gs_0);(try clear y_gs_0);have HE:=n_;clear n_)|((with_reducible refine gate_dst (N:=25) rfl ?_);refine box_event ?hg (N:=25) ?hd (cs:=#[.int .i64 0, .int .i64 0, .string (⟨#[]⟩ : ByteArray), .int .i64 0, .slice none 0 0]) (t:=35) ?hr ?_;(case hd => rfl);(case hg => rfl);(case hr => first|(go_simp;done)|(go_simp;rfl));intro gf hg_ X26 hbx_ hb_;have n_:=Aside0.mk (HE.out.box hg_ hbx_ hb_);clear HE hg_ hbx_ hb_;(try clear z_ge_0);(try clear z_ge_1);(try clear z_ge_2);(try clear z_ge_3);(try clear z_ge_4);(try clear z_gd_0);(try clear z_gd_1);(try clear z_gd_2);(try clear z_gd_3);(try clear z_gd_4);(try clear z_gc_0);(try clear z_gc_1);(try clear z_gc_2);(try clear z_gc_3);(try clear z_gc_4);(try clear z_gb_0);(try clear z_gb_1);(try clear z_gb_2);(try clear z_gb_3);(try clear z_gb_4);(try clear z_ga_0);(try clear z_ga_1);(try clear z_ga_2);(try clear z_ga_3);(try clear z_ga_4);(try clear z_gx_0);(try clear z_gx_1);(try clear z_gx_2);(try clear z_gx_3);(try clear z_gx_4);(try clear z_gx_5);(try clear z_gx_6);(try clear z_gx_7);(try clear z_gx_8);(try clear z_gx_9);(try clear z_gx_10);(try clear z_gx_11);(try clear z_go_0);(try clear y_go_0);(try clear z_gw_0);(try clear y_gw_0);(try clear z_gr_0);(try clear y_gr_0);(try clear z_gs_0);(try clear y_gs_0);have HE:=n_;clear n_)|((with_reducible refine gate_store (t:=35) (p:=25) rfl ?_);refine store_event (w1:=X26.setRow gf #[.int .i64 vf.f0, .int .i64 vf.f1, .string vf.f2, .int .i64 vf.f3, .slice Afq nfq cfq]) rfl rfl rfl (run_row rfl rfl rfl (HE.out.at 0 rfl).2 inf35 rfl (by first|rfl|simp [Value.oneCell'])) ?_;intro X27 hw_;have n_ : Aside0 (Pl w X27 [(gf,#[.int .i64 vf.f0, .int .i64 vf.f1, .string vf.f2, .int .i64 vf.f3, .slice Afq nfq cfq],35),(ge,#[.int .i64 vf.f0, .int .i64 vf.f1, .string vf.f2, .int .i64 vf.f3, .slice Aeq neq ceq],35),(gd,#[.int .i64 vn.f0, .int .i64 vn.f1, .string vn.f2, .int .i64 vn.f3, .slice Adq ndq cdq],35),(gc,#[.int .i64 vn.f0, .int .i64 vn.f1, .string vn.f2, .int .i64 vn.f3, .slice Acq ncq ccq],35),(gb,#[.int .i64 vg.f0, .int .i64 vg.f1, .string vg.f2, .int .i64 vg.f3, .slice Abq nbq cbq],35),(ga,#[.int .i64 vg.f0, .int .i64 vg.f1, .string vg.f2, .int .i64 vg.f3, .slice Aaq naq caq],35),(gx,#[.int .i64 x.f0, .int .i64 x.f1, .int .i64 x.f2.f0, .int .i64 x.f2.f1, .string x.f2.f2, .int .i64 x.f2.f3, .slice A6 x.f2.f4.length c6, .int .i64 x.f3.f0, .int .i64 x.f3.f1, .string x.f3.f2, .int .i64 x.f3.f3, .slice A11 x.f3.f4.length c11],47),(go,#[.slice Ao no co],27),(gw,#[.slice Aw nw cw],27),(gr,#[.slice Ar nr cr],27),(gs,#[.slice As ns cs],27)] [(.slice As ns cs,S),(.slice Ar nr cr,S),(.slice Aw nw cw,O),(.slice Ao no co,O)] [(.slice Afq nfq cfq,vf.f4),(.slice Aeq neq ceq,vf.f4),(.slice Adq ndq cdq,vn.f4),(.slice Acq ncq ccq,vn.f4),(.slice Abq nbq cbq,vg.f4),(.slice Aaq naq caq,vg.f4),(.slice A6 x.f2.f4.length c6,x.f2.f4),(.slice A11 x.f3.f4.length c11,x.f3.f4)]):=⟨by rw [hw_];exact HE.out.row 0 rfl #[.int .i64 vf.f0, .int .i64 vf.f1, .string vf.f2, .int .i64 vf.f3, .slice Afq nfq cfq]⟩;clear HE hw_;(try clear z_gf_0);(try clear z_gf_1);(try clear z_gf_2);(try clear z_gf_3);(try clear z_gf_4);(try clear z_ge_0);(try clear z_ge_1);(try clear z_ge_2);(try clear z_ge_3);(try clear z_ge_4);(try clear z_gd_0);(try clear z_gd_1);(try clear z_gd_2);(try clear z_gd_3);(try clear z_gd_4);(try clear z_gc_0);(try clear z_gc_1);(try clear z_gc_2);(try clear z_gc_3);(try clear z_gc_4);(try clear z_gb_0);(try clear z_gb_1);(try clear z_gb_2);(try clear z_gb_3);(try clear z_gb_4);(try clear z_ga_0);(try clear z_ga_1);(try clear z_ga_2);(try clear z_ga_3);(try clear z_ga_4);(try clear z_gx_0);(try clear z_gx_1);(try clear z_gx_2);(try clear z_gx_3);(try clear z_gx_4);(try clear z_gx_5);(try clear z_gx_6);(try clear z_gx_7);(try clear z_gx_8);(try clear z_gx_9);(try clear z_gx_10);(try clear z_gx_11);(try clear z_go_0);(try clear y_go_0);(try clear z_gw_0);(try clear y_gw_0);(try clear z_gr_0);(try clear y_gr_0);(try clear z_gs_0);(try clear y_gs_0);have HE:=n_;clear n_))
 have jg_ : (bg != bg) = false:=by simp
 have ig_ : (bg == bg) = true:=by simp
 have jn_ : (bn != bn) = false:=by simp
 have in_ : (bn == bn) = true:=by simp
 have jf_ : (bf != bf) = false:=by simp
 have if_ : (bf == bf) = true:=by simp
 have z_gb_0 : X27.cell? ⟨gb,0,none⟩ = some (.int .i64 vg.f0):=HE.out.cell 4 0 rfl rfl
 have z_gb_1 : X27.cell? ⟨gb,1,none⟩ = some (.int .i64 vg.f1):=HE.out.cell 4 1 rfl rfl
 have z_gb_2 : X27.cell? ⟨gb,2,none⟩ = some (.string vg.f2):=HE.out.cell 4 2 rfl rfl
 have z_gb_3 : X27.cell? ⟨gb,3,none⟩ = some (.int .i64 vg.f3):=HE.out.cell 4 3 rfl rfl
 have z_gb_4 : X27.cell? ⟨gb,4,none⟩ = some (.slice Abq nbq cbq):=HE.out.cell 4 4 rfl rfl
 have z_ga_0 : X27.cell? ⟨ga,0,none⟩ = some (.int .i64 vg.f0):=HE.out.cell 5 0 rfl rfl
 have z_ga_1 : X27.cell? ⟨ga,1,none⟩ = some (.int .i64 vg.f1):=HE.out.cell 5 1 rfl rfl
 have z_ga_2 : X27.cell? ⟨ga,2,none⟩ = some (.string vg.f2):=HE.out.cell 5 2 rfl rfl
 have z_ga_3 : X27.cell? ⟨ga,3,none⟩ = some (.int .i64 vg.f3):=HE.out.cell 5 3 rfl rfl
 have z_ga_4 : X27.cell? ⟨ga,4,none⟩ = some (.slice Aaq naq caq):=HE.out.cell 5 4 rfl rfl
 go_wp2_with (fail)
 refine (c_vsame (val:=vg) HE.out 5 4 rfl rfl HDg.out).mono ?_
 rintro e_ X28 ⟨rfl,hp_⟩
 dsimp only
 have n_:=Aside0.mk hp_
 clear hp_ HE
 (try clear z_gf_0)
 (try clear z_gf_1)
 (try clear z_gf_2)
 (try clear z_gf_3)
 (try clear z_gf_4)
 (try clear z_ge_0)
 (try clear z_ge_1)
 (try clear z_ge_2)
 (try clear z_ge_3)
 (try clear z_ge_4)
 (try clear z_gd_0)
 (try clear z_gd_1)
 (try clear z_gd_2)
 (try clear z_gd_3)
 (try clear z_gd_4)
 (try clear z_gc_0)
 (try clear z_gc_1)
 (try clear z_gc_2)
 (try clear z_gc_3)
 (try clear z_gc_4)
 (try clear z_gb_0)
 (try clear z_gb_1)
 (try clear z_gb_2)
 (try clear z_gb_3)
 (try clear z_gb_4)
 (try clear z_ga_0)
 (try clear z_ga_1)
 (try clear z_ga_2)
 (try clear z_ga_3)
 (try clear z_ga_4)
 (try clear z_gx_0)
 (try clear z_gx_1)
 (try clear z_gx_2)
 (try clear z_gx_3)
 (try clear z_gx_4)
 (try clear z_gx_5)
 (try clear z_gx_6)
 (try clear z_gx_7)
 (try clear z_gx_8)
 (try clear z_gx_9)
 (try clear z_gx_10)
 (try clear z_gx_11)
 (try clear z_go_0)
 (try clear y_go_0)
 (try clear z_gw_0)
 (try clear y_gw_0)
 (try clear z_gr_0)
 (try clear y_gr_0)
 (try clear z_gs_0)
 (try clear y_gs_0)
 have HE:=n_
 clear n_
 have z_gd_0 : X28.cell? ⟨gd,0,none⟩ = some (.int .i64 vn.f0):=HE.out.cell 2 0 rfl rfl
 have z_gd_1 : X28.cell? ⟨gd,1,none⟩ = some (.int .i64 vn.f1):=HE.out.cell 2 1 rfl rfl
 have z_gd_2 : X28.cell? ⟨gd,2,none⟩ = some (.string vn.f2):=HE.out.cell 2 2 rfl rfl
 have z_gd_3 : X28.cell? ⟨gd,3,none⟩ = some (.int .i64 vn.f3):=HE.out.cell 2 3 rfl rfl
 have z_gd_4 : X28.cell? ⟨gd,4,none⟩ = some (.slice Adq ndq cdq):=HE.out.cell 2 4 rfl rfl
 have z_gc_0 : X28.cell? ⟨gc,0,none⟩ = some (.int .i64 vn.f0):=HE.out.cell 3 0 rfl rfl
 have z_gc_1 : X28.cell? ⟨gc,1,none⟩ = some (.int .i64 vn.f1):=HE.out.cell 3 1 rfl rfl
 have z_gc_2 : X28.cell? ⟨gc,2,none⟩ = some (.string vn.f2):=HE.out.cell 3 2 rfl rfl
 have z_gc_3 : X28.cell? ⟨gc,3,none⟩ = some (.int .i64 vn.f3):=HE.out.cell 3 3 rfl rfl
 have z_gc_4 : X28.cell? ⟨gc,4,none⟩ = some (.slice Acq ncq ccq):=HE.out.cell 3 4 rfl rfl
 go_wp2_with (fail)
 refine (c_vsame (val:=vn) HE.out 3 2 rfl rfl HDn.out).mono ?_
 rintro e_ X29 ⟨rfl,hp_⟩
 dsimp only
 have n_:=Aside0.mk hp_
 clear hp_ HE
 (try clear z_gf_0)
 (try clear z_gf_1)
 (try clear z_gf_2)
 (try clear z_gf_3)
 (try clear z_gf_4)
 (try clear z_ge_0)
 (try clear z_ge_1)
 (try clear z_ge_2)
 (try clear z_ge_3)
 (try clear z_ge_4)
 (try clear z_gd_0)
 (try clear z_gd_1)
 (try clear z_gd_2)
 (try clear z_gd_3)
 (try clear z_gd_4)
 (try clear z_gc_0)
 (try clear z_gc_1)
 (try clear z_gc_2)
 (try clear z_gc_3)
 (try clear z_gc_4)
 (try clear z_gb_0)
 (try clear z_gb_1)
 (try clear z_gb_2)
 (try clear z_gb_3)
 (try clear z_gb_4)
 (try clear z_ga_0)
 (try clear z_ga_1)
 (try clear z_ga_2)
 (try clear z_ga_3)
 (try clear z_ga_4)
 (try clear z_gx_0)
 (try clear z_gx_1)
 (try clear z_gx_2)
 (try clear z_gx_3)
 (try clear z_gx_4)
 (try clear z_gx_5)
 (try clear z_gx_6)
 (try clear z_gx_7)
 (try clear z_gx_8)
 (try clear z_gx_9)
 (try clear z_gx_10)
 (try clear z_gx_11)
 (try clear z_go_0)
 (try clear y_go_0)
 (try clear z_gw_0)
 (try clear y_gw_0)
 (try clear z_gr_0)
 (try clear y_gr_0)
 (try clear z_gs_0)
 (try clear y_gs_0)
 have HE:=n_
 clear n_
 have z_gf_0 : X29.cell? ⟨gf,0,none⟩ = some (.int .i64 vf.f0):=HE.out.cell 0 0 rfl rfl
 have z_gf_1 : X29.cell? ⟨gf,1,none⟩ = some (.int .i64 vf.f1):=HE.out.cell 0 1 rfl rfl
 have z_gf_2 : X29.cell? ⟨gf,2,none⟩ = some (.string vf.f2):=HE.out.cell 0 2 rfl rfl
 have z_gf_3 : X29.cell? ⟨gf,3,none⟩ = some (.int .i64 vf.f3):=HE.out.cell 0 3 rfl rfl
 have z_gf_4 : X29.cell? ⟨gf,4,none⟩ = some (.slice Afq nfq cfq):=HE.out.cell 0 4 rfl rfl
 have z_ge_0 : X29.cell? ⟨ge,0,none⟩ = some (.int .i64 vf.f0):=HE.out.cell 1 0 rfl rfl
 have z_ge_1 : X29.cell? ⟨ge,1,none⟩ = some (.int .i64 vf.f1):=HE.out.cell 1 1 rfl rfl
 have z_ge_2 : X29.cell? ⟨ge,2,none⟩ = some (.string vf.f2):=HE.out.cell 1 2 rfl rfl
 have z_ge_3 : X29.cell? ⟨ge,3,none⟩ = some (.int .i64 vf.f3):=HE.out.cell 1 3 rfl rfl
 have z_ge_4 : X29.cell? ⟨ge,4,none⟩ = some (.slice Aeq neq ceq):=HE.out.cell 1 4 rfl rfl
 go_wp2_with (fail)
 refine (c_vsame (val:=vf) HE.out 1 0 rfl rfl HDf.out).mono ?_
 rintro e_ X30 ⟨rfl,hp_⟩
 dsimp only
 have n_:=Aside0.mk hp_
 clear hp_ HE
 (try clear z_gf_0)
 (try clear z_gf_1)
 (try clear z_gf_2)
 (try clear z_gf_3)
 (try clear z_gf_4)
 (try clear z_ge_0)
 (try clear z_ge_1)
 (try clear z_ge_2)
 (try clear z_ge_3)
 (try clear z_ge_4)
 (try clear z_gd_0)
 (try clear z_gd_1)
 (try clear z_gd_2)
 (try clear z_gd_3)
 (try clear z_gd_4)
 (try clear z_gc_0)
 (try clear z_gc_1)
 (try clear z_gc_2)
 (try clear z_gc_3)
 (try clear z_gc_4)
 (try clear z_gb_0)
 (try clear z_gb_1)
 (try clear z_gb_2)
 (try clear z_gb_3)
 (try clear z_gb_4)
 (try clear z_ga_0)
 (try clear z_ga_1)
 (try clear z_ga_2)
 (try clear z_ga_3)
 (try clear z_ga_4)
 (try clear z_gx_0)
 (try clear z_gx_1)
 (try clear z_gx_2)
 (try clear z_gx_3)
 (try clear z_gx_4)
 (try clear z_gx_5)
 (try clear z_gx_6)
 (try clear z_gx_7)
 (try clear z_gx_8)
 (try clear z_gx_9)
 (try clear z_gx_10)
 (try clear z_gx_11)
 (try clear z_go_0)
 (try clear y_go_0)
 (try clear z_gw_0)
 (try clear y_gw_0)
 (try clear z_gr_0)
 (try clear y_gr_0)
 (try clear z_gs_0)
 (try clear y_gs_0)
 have HE:=n_
 clear n_
 have z_gr_0 : X30.cell? ⟨gr,0,none⟩ = some (.slice Ar nr cr):=HE.out.cell 9 0 rfl rfl
 have z_gs_0 : X30.cell? ⟨gs,0,none⟩ = some (.slice As ns cs):=HE.out.cell 10 0 rfl rfl
 go_wp2_with (fail)
 refine (c_same (S:=S) HE.out 0 1 rfl rfl GS.out).mono ?_
 rintro e_ X31 ⟨rfl,hp_⟩
 dsimp only
 have n_:=Aside0.mk hp_
 clear hp_ HE
 (try clear z_gf_0)
 (try clear z_gf_1)
 (try clear z_gf_2)
 (try clear z_gf_3)
 (try clear z_gf_4)
 (try clear z_ge_0)
 (try clear z_ge_1)
 (try clear z_ge_2)
 (try clear z_ge_3)
 (try clear z_ge_4)
 (try clear z_gd_0)
 (try clear z_gd_1)
 (try clear z_gd_2)
 (try clear z_gd_3)
 (try clear z_gd_4)
 (try clear z_gc_0)
 (try clear z_gc_1)
 (try clear z_gc_2)
 (try clear z_gc_3)
 (try clear z_gc_4)
 (try clear z_gb_0)
 (try clear z_gb_1)
 (try clear z_gb_2)
 (try clear z_gb_3)
 (try clear z_gb_4)
 (try clear z_ga_0)
 (try clear z_ga_1)
 (try clear z_ga_2)
 (try clear z_ga_3)
 (try clear z_ga_4)
 (try clear z_gx_0)
 (try clear z_gx_1)
 (try clear z_gx_2)
 (try clear z_gx_3)
 (try clear z_gx_4)
 (try clear z_gx_5)
 (try clear z_gx_6)
 (try clear z_gx_7)
 (try clear z_gx_8)
 (try clear z_gx_9)
 (try clear z_gx_10)
 (try clear z_gx_11)
 (try clear z_go_0)
 (try clear y_go_0)
 (try clear z_gw_0)
 (try clear y_gw_0)
 (try clear z_gr_0)
 (try clear y_gr_0)
 (try clear z_gs_0)
 (try clear y_gs_0)
 have HE:=n_
 clear n_
 have z_go_0 : X31.cell? ⟨go,0,none⟩ = some (.slice Ao no co):=HE.out.cell 7 0 rfl rfl
 have z_gw_0 : X31.cell? ⟨gw,0,none⟩ = some (.slice Aw nw cw):=HE.out.cell 8 0 rfl rfl
 go_wp2_with (fail)
 refine (c_same (S:=O) HE.out 3 2 rfl rfl GO.out).mono ?_
 rintro e_ X32 ⟨rfl,hp_⟩
 dsimp only
 have n_:=Aside0.mk hp_
 clear hp_ HE
 (try clear z_gf_0)
 (try clear z_gf_1)
 (try clear z_gf_2)
 (try clear z_gf_3)
 (try clear z_gf_4)
 (try clear z_ge_0)
 (try clear z_ge_1)
 (try clear z_ge_2)
 (try clear z_ge_3)
 (try clear z_ge_4)
 (try clear z_gd_0)
 (try clear z_gd_1)
 (try clear z_gd_2)
 (try clear z_gd_3)
 (try clear z_gd_4)
 (try clear z_gc_0)
 (try clear z_gc_1)
 (try clear z_gc_2)
 (try clear z_gc_3)
 (try clear z_gc_4)
 (try clear z_gb_0)
 (try clear z_gb_1)
 (try clear z_gb_2)
 (try clear z_gb_3)
 (try clear z_gb_4)
 (try clear z_ga_0)
 (try clear z_ga_1)
 (try clear z_ga_2)
 (try clear z_ga_3)
 (try clear z_ga_4)
 (try clear z_gx_0)
 (try clear z_gx_1)
 (try clear z_gx_2)
 (try clear z_gx_3)
 (try clear z_gx_4)
 (try clear z_gx_5)
 (try clear z_gx_6)
 (try clear z_gx_7)
 (try clear z_gx_8)
 (try clear z_gx_9)
 (try clear z_gx_10)
 (try clear z_gx_11)
 (try clear z_go_0)
 (try clear y_go_0)
 (try clear z_gw_0)
 (try clear y_gw_0)
 (try clear z_gr_0)
 (try clear y_gr_0)
 (try clear z_gs_0)
 (try clear y_gs_0)
 have HE:=n_
 clear n_
 have z_gr_0 : X32.cell? ⟨gr,0,none⟩ = some (.slice Ar nr cr):=HE.out.cell 9 0 rfl rfl
 have z_gs_0 : X32.cell? ⟨gs,0,none⟩ = some (.slice As ns cs):=HE.out.cell 10 0 rfl rfl
 go_wp2_with (fail)
 refine (c_hsame (S:=S) HE.out 0 1 rfl rfl GS.out).mono ?_
 rintro e_ X33 ⟨rfl,hp_⟩
 dsimp only
 have n_:=Aside0.mk hp_
 clear hp_ HE
 (try clear z_gf_0)
 (try clear z_gf_1)
 (try clear z_gf_2)
 (try clear z_gf_3)
 (try clear z_gf_4)
 (try clear z_ge_0)
 (try clear z_ge_1)
 (try clear z_ge_2)
 (try clear z_ge_3)
 (try clear z_ge_4)
 (try clear z_gd_0)
 (try clear z_gd_1)
 (try clear z_gd_2)
 (try clear z_gd_3)
 (try clear z_gd_4)
 (try clear z_gc_0)
 (try clear z_gc_1)
 (try clear z_gc_2)
 (try clear z_gc_3)
 (try clear z_gc_4)
 (try clear z_gb_0)
 (try clear z_gb_1)
 (try clear z_gb_2)
 (try clear z_gb_3)
 (try clear z_gb_4)
 (try clear z_ga_0)
 (try clear z_ga_1)
 (try clear z_ga_2)
 (try clear z_ga_3)
 (try clear z_ga_4)
 (try clear z_gx_0)
 (try clear z_gx_1)
 (try clear z_gx_2)
 (try clear z_gx_3)
 (try clear z_gx_4)
 (try clear z_gx_5)
 (try clear z_gx_6)
 (try clear z_gx_7)
 (try clear z_gx_8)
 (try clear z_gx_9)
 (try clear z_gx_10)
 (try clear z_gx_11)
 (try clear z_go_0)
 (try clear y_go_0)
 (try clear z_gw_0)
 (try clear y_gw_0)
 (try clear z_gr_0)
 (try clear y_gr_0)
 (try clear z_gs_0)
 (try clear y_gs_0)
 have HE:=n_
 clear n_
 go_wp2
 go_roundg k1
 case measure => exact Nat.lt_succ_self _
 case rel => exact ⟨i + 1,S,O,As,ns,cs,Ar,nr,cr,Aw,nw,cw,Ao,no,co,hp_next i HI1.out,HI2,GS,GO,⟨(HE.out.sub (by repeat (first|exact List.Sublist.refl _|apply List.Sublist.cons))).re (fun p hp => by simp only [List.mem_cons,List.not_mem_nil,or_false] at hp ⊢;rcases hp with h|h|h|h <;> simp [h]) (fun p hp => by simp at hp)⟩⟩
theorem plays_walk (hknown : ∀ w,Calls Try.prog 9 #[] w fun e w' => e = .returned (.bool true) ∧ Below w.heap.size w w') (aa : Int) (x1 : List S47) (AA : Option Addr) (c1 : Nat) (w : World) (hl : x1.length ≤ 4611686018427387904) (r1 : Kd.C k47 w AA x1.length x1) (m1 : x1.length ≤ c1) :
 Calls Try.prog 4 #[.int .i64 aa, .slice AA x1.length c1] w fun e w' => e = .returned (.bool true) ∧ Below w.heap.size w w' :=
 (plays_walk.p0 aa x1 AA c1 w).ok ((plays_walk.p1 aa x1 AA c1 w).ok ((plays_walk.p2 aa x1 AA c1 w).ok (plays_walk.p3 aa x1 AA c1 w))) hknown hl r1 m1
end Go.Proofs.Ytnokieaebnmljaa.PAll
/- The checks that the law makes of itself come out well. -/
namespace Go.Proofs.Ytnokieaebnmljaa.PAll
open Go Go.Proofs Go.RowKit Go.Shelf Go.Proofs.YtnokieaebnmljaaW.PrintWords Go.Proofs.YtnokieaebnmljaaW.PrintLast Go.Proofs.YtnokieaebnmljaaW.PrintMore Go.Proofs.Ytnokieaebnmljaa.Bx
attribute [local go_sem] Oper.semAt_some
set_option linter.unusedVariables false
set_option linter.unusedSimpArgs false
def nu (n : Int) : S35:=⟨1,n,⟨#[]⟩,0,[]⟩
theorem dw_nu (n : Int) : dw 3 (nu n):=by simp [dw,nu]
theorem cmp_nu (a b : Int) : cmpD 3 (nu a) (nu b) = ordI a b:=by
 have h0 : ordB ⟨#[]⟩ ⟨#[]⟩ = 0:=lin_ordB.rf _ trivial
 simp [cmpD,nu,h0,lexL,nz,ordI]
 exact fun h => h.symm
theorem kn_put1 : heap_Put.f 5000 [[]] 0 (nu 2).f0 (nu 2).f1 (nu 2).f2 (nu 2).f3 (nu 2).f4 (nu 5).f0 (nu 5).f1 (nu 5).f2 (nu 5).f3 (nu 5).f4 = some ([[⟨nu 2,nu 5⟩]],0):=by
 unfold heap_Put.f
 rw [place_cmpD 3 5000 (nu 2) (by omega) (dw_nu 2) [[]] 0 (by simp [mapOf,rd_L4])]
 simp [mapOf,rd_L4,placeOf,putRow]
 exact ⟨eta35 (nu 2),eta35 (nu 5)⟩
theorem kn_put2 : heap_Put.f 5000 [[⟨nu 2,nu 5⟩]] 0 (nu 1).f0 (nu 1).f1 (nu 1).f2 (nu 1).f3 (nu 1).f4 (nu 6).f0 (nu 6).f1 (nu 6).f2 (nu 6).f3 (nu 6).f4 = some ([[⟨nu 1,nu 6⟩,⟨nu 2,nu 5⟩]],0):=by
 unfold heap_Put.f
 rw [place_cmpD 3 5000 (nu 1) (by omega) (dw_nu 1) [[⟨nu 2,nu 5⟩]] 0 (by simp [mapOf,rd_L4];exact dw_nu 2)]
 simp [mapOf,rd_L4,placeOf,putRow,cmp_nu,ordI]
 exact ⟨eta35 (nu 1),eta35 (nu 6)⟩
theorem kn_first : heap_First.f [[⟨nu 1,nu 6⟩,⟨nu 2,nu 5⟩]] 0 = some ((nu 1).f0,(nu 1).f1,(nu 1).f2,(nu 1).f3,(nu 1).f4,true):=by
 unfold heap_First.f
 simp [mapOf,rd_L4]
theorem kn_next : heap_Next.f 5000 [[⟨nu 1,nu 6⟩,⟨nu 2,nu 5⟩]] 0 (nu 1).f0 (nu 1).f1 (nu 1).f2 (nu 1).f3 (nu 1).f4 = some ((nu 2).f0,(nu 2).f1,(nu 2).f2,(nu 2).f3,(nu 2).f4,true):=by
 have hm : mapOf [[⟨nu 1,nu 6⟩,⟨nu 2,nu 5⟩]] 0 = [⟨nu 1,nu 6⟩,⟨nu 2,nu 5⟩]:=by simp [mapOf,rd_L4]
 have hd : ∀ e ∈ ([⟨nu 1,nu 6⟩,⟨nu 2,nu 5⟩] : List S82),dw 3 e.f0:=by
  intro e he
  simp only [List.mem_cons,List.not_mem_nil,or_false] at he
  rcases he with rfl|rfl
  ·exact dw_nu 1
  exact dw_nu 2
 unfold heap_Next.f
 rw [hm,if_pos (show call 5000 (nu 1).f0 (nu 1).f1 (nu 1).f2 (nu 1).f3 (nu 1).f4 [⟨nu 1,nu 6⟩,⟨nu 2,nu 5⟩] from fun e he => ⟨_,cval_cmpD 3 5000 (nu 1) (by omega) (dw_nu 1) e (hd e he)⟩)]
 rw [nextOf_congr (c':=fun e => cmpD 3 e.f0 (nu 1)) _ (fun e he => by simp [cval,cval_cmpD 3 5000 (nu 1) (by omega) (dw_nu 1) e (hd e he)])]
 simp [nextOf,cmp_nu,ordI]
theorem c_num {w W : World} {bs : List Bx} {vl : VL} {ul : UL} (h : Pl w W bs vl ul) (n : Int) :
  Calls Try.prog 11 #[.int .i64 n] W fun e W' => ∃ A' c',e = .returned (.agg #[.int .i64 1, .int .i64 n, .string ⟨#[]⟩, .int .i64 0, .slice A' 0 c']) ∧ Pl w W' bs vl ((.slice A' 0 c',[]) :: ul):=by
 refine (windlasslaw4_num.calls n 1 n ⟨#[]⟩ 0 [] W rfl).mono ?_
 rintro e W' ⟨v0,rfl,hR,hb⟩
 have hV:=Kd.R_V (base':=0) (Kd.R_bound hR)
 obtain ⟨A',c',rfl⟩:=Kd.V_slice hV
 exact ⟨A',c',rfl,(h.call hb).addU hV (fun k hk => h.fresh k hk.2.1)⟩
/-- The m-th row of a state that is known. -/
theorem Pl.rowAt {w W : World} {bs : List Bx} {vl : VL} {ul : UL} (h : Pl w W bs vl ul) (i : Nat) {A : Option Addr} {n c : Nat} {S : List (List S82)} (hi : vl[i]? = some (.slice A n c,S)) (m : Nat) (hm : m < S.length) :
  ∃ ad Am cm,A = some ad ∧ W.cell? (ad.add m) = some (.slice Am S[m].length cm):=by
 obtain ⟨rfl,_,hF⟩:=Kd.V_at (h.vv i hi)
 obtain ⟨ad,Am,cm,es,rfl,hc,he,_⟩:=rows_F hF m hm
 exact ⟨ad,Am,cm,rfl,by rw [hc,← he,List.length_map]⟩
def kn.T2 : Bool × List (List Nat × List Nat):=(true,[([],[]),([],[]),([1],[]),([0,1,2,2],[0,1,2]),([3],[3]),([4],[4]),([4],[4]),([5,3,0,1,2,3,4,5],[5]),([6,7,0,1,2,3,4,5,6,7],[6])])
def kn.B2 : List Nat:=[0,0,2,7,15,31,31,63,255]
theorem kn.tab2 : rtab .any (opsOf Try.f9 2) = kn.T2:=by kernel_rfl
theorem kn.bits2 : waitsOk kn.T2.2 kn.B2 = true:=by kernel_rfl
def kn.T3 : Bool × List (List Nat × List Nat):=(true,[([],[]),([],[]),([1],[]),([0,1,2,2],[0,1,2]),([3],[3]),([4],[4]),([4],[4]),([],[]),([7,5,3,0,1,2,3,4,5,7],[5,7]),([6,8,0,1,2,3,4,5,6,7,8],[6])])
def kn.B3 : List Nat:=[0,0,2,7,15,31,31,0,191,511]
theorem kn.tab3 : rtab .any (opsOf Try.f9 3) = kn.T3:=by kernel_rfl
theorem kn.bits3 : waitsOk kn.T3.2 kn.B3 = true:=by kernel_rfl
def kn.T5 : Bool × List (List Nat × List Nat):=(true,[([],[]),([],[]),([0,1,1],[0,1]),([2],[2]),([3],[3]),([3],[3]),([],[]),([6,4,2,0,1,2,3,4,6],[4,6]),([5,7,0,1,2,3,4,5,6,7],[5])])
def kn.B5 : List Nat:=[0,0,3,7,15,15,0,95,255]
theorem kn.tab5 : rtab .any (opsOf Try.f9 5) = kn.T5:=by kernel_rfl
theorem kn.bits5 : waitsOk kn.T5.2 kn.B5 = true:=by kernel_rfl
set_option maxHeartbeats 16000000 in
set_option maxRecDepth 100000 in
theorem known_h (w : World) : Calls Try.prog 9 #[] w fun e w' => e = .returned (.bool true) ∧ Below w.heap.size w w':=by
 have hu27:=Try.underlying27
 have hu35:=Try.underlying35
 go_enter Try.func9,Try.ntmps9
 have HE:=Aside0.mk (Pl.start w)
 go_wp2_with (first|((with_reducible refine gate_dst (N:=9) rfl ?_);(try (refine gate_guard (by rfl) ?_;dsimp only));refine Kd.N_make (Kd.slice 82 k82) _ 41 rfl (N':=9) rfl 25 _ _ rfl 1 rfl rfl Try.underlying25 (.slice none 0 0) 24 info41 rfl (by decide) (by omega) [] (ok:=fun k_ => w.heap.size ≤ k_) (okp:=fun _ => False) (Kd.FK_slice_mk (Nat.le_refl _) (Kd.F_nil _ _ _)) (fun _ hk => hk.elim) (Nat.le_refl _) (by omega) (by omega) (Below.refl _ _) (Nat.le_refl _) ?_;intro v_ w1 ho_ hb_ hg_ hnew_;clear hg_ hnew_;have hV_ : Kd.V (Kd.slice 82 k82) 41 w1 0 (fun k_ => w.heap.size ≤ k_) v_ [[]]:=Kd.N_V (base':=0) ho_;obtain ⟨A1v,c1v,e1_⟩ : ∃ A c,v_ = .slice A 1 c:=Kd.V_slice hV_;subst e1_;have n_:=Aside0.mk ((HE.out.call hb_).addV hV_ (fun k hk => HE.out.fresh k hk));clear HE hV_ ho_ hb_;have HE:=n_;clear n_)|((with_reducible refine gate_dst (N:=1) rfl ?_);refine box_event ?hg (N:=1) ?hd (cs:=#[.slice none 0 0]) (t:=27) ?hr ?_;(case hd => rfl);(case hg => rfl);(case hr => first|(go_simp;done)|(go_simp;rfl));intro gs hg_ X1 hbx_ hb_;have n_:=Aside0.mk (HE.out.box hg_ hbx_ hb_);clear HE hg_ hbx_ hb_;have HE:=n_;clear n_;have z_gs_0 : X1.cell? ⟨gs,0,none⟩ = some (.slice none 0 0):=HE.out.cell 0 0 rfl rfl;have y_gs_0 : X1.frozen? ⟨gs,0,none⟩ = false:=HE.out.frz 0 0 rfl)|((with_reducible refine gate_store (t:=27) (p:=1) rfl ?_);have y_gs_0 : X1.frozen? ⟨gs,0,none⟩ = false:=HE.out.frz 0 0 rfl;have z_gs_0 : X1.cell? ⟨gs,0,none⟩ = some (.slice none 0 0):=HE.out.cell 0 0 rfl rfl;refine store_event (w1:=(X1.setCell ⟨gs,0,none⟩ (.slice A1v 1 c1v))) rfl rfl rfl (by first|(go_simp;done)|(go_simp;rfl)) ?_;intro X2 hw_;have n_ : Aside0 (Pl w X2 [(gs,#[.slice A1v 1 c1v],27)] [(.slice A1v 1 c1v,[[]])] []):=⟨by rw [hw_];exact (HE.out.set 0 rfl 0 (.slice A1v 1 c1v))⟩;clear HE hw_;(try clear z_gs_0);(try clear y_gs_0);have HE:=n_;clear n_;have z_gs_0 : X2.cell? ⟨gs,0,none⟩ = some (.slice A1v 1 c1v):=HE.out.cell 0 0 rfl rfl))
 (try go_wp2)
 (try clear z_gs_0)
 (try clear y_gs_0)
 have n_:=Aside0.mk (HE.out.call (below_drew (Below.refl _ _)))
 clear HE
 have HE:=n_
 clear n_
 refine start_ (n:=9) (S:=fun w' => w'.cell? ⟨gs,0,none⟩ = some (.slice A1v 1 c1v)) (ds:=[7]) #[fF,fF,fF,fF,fF,fF,fF,fF,fF] (by kernel_rfl) rfl rfl (HE.out.cell 0 0 rfl rfl) (fun hHeld => ?_)
 refine with_tabW kn.tab2 kn.bits2 (fun HT_ HW_ => ?_)
 generalize X2.drew = wq at HE hHeld ⊢
 refine tA 0 (some 12) HT_ HW_ hHeld rfl ?_
 refine oN 1 (some 13) HT_ rfl (fun K hK => ?_)
 refine goes_ Try.func11 (by kernel_rfl) rfl #[.int .i64 2] (by rfl) rfl rfl (by simp only [List.map_toArray,List.map_cons,List.map_nil];rfl) ?_
 refine (c_num HE.out 2).mono ?_
 rintro e_ w3 ⟨Aa,ca,rfl,hp_⟩
 refine ⟨_,rfl,?_⟩
 clear HE
 have HE:=Aside0.mk hp_
 clear hp_
 refine hK.out _ _ (HE.out.cell 0 0 rfl rfl) (fun hHeld => ?_)
 clear hK K
 refine nO ?_
 refine oN 2 (some 14) HT_ rfl (fun K hK => ?_)
 refine goes_ Try.func11 (by kernel_rfl) rfl #[.int .i64 5] (by rfl) rfl rfl (by simp only [List.map_toArray,List.map_cons,List.map_nil];rfl) ?_
 refine (c_num HE.out 5).mono ?_
 rintro e_ w3 ⟨Ab,cb,rfl,hp_⟩
 refine ⟨_,rfl,?_⟩
 clear HE
 have HE:=Aside0.mk hp_
 clear hp_
 refine hK.out _ _ (HE.out.cell 0 0 rfl rfl) (fun hHeld => ?_)
 clear hK K
 refine nO ?_
 refine oN 3 (some 15) HT_ rfl (fun K hK => ?_)
 refine goes_ Try.func10 (by kernel_rfl) rfl #[.agg #[.slice A1v 1 c1v], .int .i64 0, .agg #[.int .i64 1, .int .i64 2, .string (⟨#[]⟩ : ByteArray), .int .i64 0, .slice Aa 0 ca], .agg #[.int .i64 1, .int .i64 5, .string (⟨#[]⟩ : ByteArray), .int .i64 0, .slice Ab 0 cb]] (by rfl) rfl rfl (by simp only [List.map_toArray,List.map_cons,List.map_nil];rfl) ?_
 refine (c_put (S:=[[]]) (key:=nu 2) (val:=nu 5) HE.out 0 1 0 rfl rfl rfl kn_put1).mono ?_
 rintro e_ w3 ⟨Ap,np,cp,rfl,hp_⟩
 refine ⟨_,rfl,?_⟩
 clear HE
 have HE:=Aside0.mk hp_
 clear hp_
 refine hK.out _ _ (HE.out.cell 0 0 rfl rfl) (fun hHeld => ?_)
 clear hK K
 refine nO ?_
 refine pU 4 (some 11) HT_ rfl ?_
 refine pU 5 (some 16) HT_ rfl ?_
 refine pU 6 (some 17) HT_ rfl ?_
 refine last_ (i:=7) (N:=none) #[tT,tT,tT,tT,tT,tT,tT,tT,fF] rfl rfl (one_of HT_.out (by kernel_rfl)) (by decide) (fun K hK => ?_)
 have hc_ : w3.cell? ⟨gs,0,none⟩ = some (.slice A1v 1 c1v):=HE.out.cell 0 0 rfl rfl
 have hf_ : w3.frozen? ⟨gs,0,none⟩ = false:=HE.out.frz 0 0 rfl
 refine skip_ (w1:=?_) (by rfl) rfl ?_ ?_
 rotate_left
 ·go_simp
  rfl
 have n_:=Aside0.mk (HE.out.set 0 rfl 0 (.slice Ap np cp))
 clear HE hc_ hf_
 have HE:=n_
 clear n_
 generalize (w3.setCell ⟨gs,0,none⟩ (.slice Ap np cp)) = w4 at HE ⊢
 refine hK.out _ _ ?_
 clear hK K
 refine pU 8 (some 2) HT_ rfl ?_
 refine done_ (done_of HT_.out (by kernel_rfl)) ?_
 
 (try clear hHeld)
 go_wp2
 (try clear z_gs_0)
 (try clear y_gs_0)
 have n_:=Aside0.mk (HE.out.call (below_drew (Below.refl _ _)))
 clear HE
 have HE:=n_
 clear n_
 refine start_ (n:=10) (S:=fun w' => w'.cell? ⟨gs,0,none⟩ = some (.slice Ap np cp)) (ds:=[8]) #[fF,fF,fF,fF,fF,fF,fF,fF,fF,fF] (by kernel_rfl) rfl rfl (HE.out.cell 0 0 rfl rfl) (fun hHeld => ?_)
 refine with_tabW kn.tab3 kn.bits3 (fun HT_ HW_ => ?_)
 generalize w4.drew = wq at HE hHeld ⊢
 refine tA 0 (some 19) HT_ HW_ hHeld rfl ?_
 refine join_ (σ:=(Option Addr × Nat) × (Option Addr × Nat) × (Option Addr × Nat × Nat) × Nat) 2 #[tT,tT,tT,tT,tT,tT,tT,tT,fF,fF] (fun s_ => [(20, .agg #[.int .i64 1, .int .i64 1, .string (⟨#[]⟩ : ByteArray), .int .i64 0, .slice s_.1.1 0 s_.1.2]),(21, .agg #[.int .i64 1, .int .i64 6, .string (⟨#[]⟩ : ByteArray), .int .i64 0, .slice s_.2.1.1 0 s_.2.1.2]),(22, .tuple #[.agg #[.slice s_.2.2.1.1 s_.2.2.1.2.1 s_.2.2.1.2.2], .int .i64 0]),(18, .tuple #[.agg #[.slice s_.2.2.1.1 s_.2.2.1.2.1 s_.2.2.1.2.2], .int .i64 0]),(23, .agg #[.slice s_.2.2.1.1 s_.2.2.1.2.1 s_.2.2.1.2.2]),(24, .int .i64 0),(3, .pointer (some ⟨s_.2.2.2,0,none⟩))]) (fun s_ w' => Pl w w' [(s_.2.2.2,#[.slice none 0 0],27),(gs,#[.slice Ap np cp],27)] [(.slice s_.2.2.1.1 s_.2.2.1.2.1 s_.2.2.1.2.2,[[⟨nu 1,nu 6⟩,⟨nu 2,nu 5⟩]]),(.slice Ap np cp,[[⟨nu 2,nu 5⟩]]),(.slice A1v 1 c1v,[[]])] [(.slice s_.2.1.1 0 s_.2.1.2,[]),(.slice s_.1.1 0 s_.1.2,[]),(.slice Ab 0 cb,[]),(.slice Aa 0 ca,[])]) ?_ ?_
 rotate_left
 ·intro hJ1_2_3_7
  refine join_ (σ:=(Option Addr × Nat) × (Option Addr × Nat) × (Option Addr × Nat × Nat)) 3 #[tT,tT,tT,tT,tT,tT,tT,fF,fF,fF] (fun s_ => [(20, .agg #[.int .i64 1, .int .i64 1, .string (⟨#[]⟩ : ByteArray), .int .i64 0, .slice s_.1.1 0 s_.1.2]),(21, .agg #[.int .i64 1, .int .i64 6, .string (⟨#[]⟩ : ByteArray), .int .i64 0, .slice s_.2.1.1 0 s_.2.1.2]),(22, .tuple #[.agg #[.slice s_.2.2.1 s_.2.2.2.1 s_.2.2.2.2], .int .i64 0]),(18, .tuple #[.agg #[.slice s_.2.2.1 s_.2.2.2.1 s_.2.2.2.2], .int .i64 0]),(23, .agg #[.slice s_.2.2.1 s_.2.2.2.1 s_.2.2.2.2]),(24, .int .i64 0)]) (fun s_ w' => Pl w w' [(gs,#[.slice Ap np cp],27)] [(.slice s_.2.2.1 s_.2.2.2.1 s_.2.2.2.2,[[⟨nu 1,nu 6⟩,⟨nu 2,nu 5⟩]]),(.slice Ap np cp,[[⟨nu 2,nu 5⟩]]),(.slice A1v 1 c1v,[[]])] [(.slice s_.2.1.1 0 s_.2.1.2,[]),(.slice s_.1.1 0 s_.1.2,[]),(.slice Ab 0 cb,[]),(.slice Aa 0 ca,[])]) ?_ ?_
  rotate_left
  ·intro hJ1_2_3
   refine join_ (σ:=(Option Addr × Nat) × (Option Addr × Nat) × Nat) 6 #[tT,tT,tT,fF,fF,fF,fF,tT,fF,fF] (fun s_ => [(20, .agg #[.int .i64 1, .int .i64 1, .string (⟨#[]⟩ : ByteArray), .int .i64 0, .slice s_.1.1 0 s_.1.2]),(21, .agg #[.int .i64 1, .int .i64 6, .string (⟨#[]⟩ : ByteArray), .int .i64 0, .slice s_.2.1.1 0 s_.2.1.2]),(3, .pointer (some ⟨s_.2.2,0,none⟩))]) (fun s_ w' => Pl w w' [(s_.2.2,#[.slice none 0 0],27),(gs,#[.slice Ap np cp],27)] [(.slice Ap np cp,[[⟨nu 2,nu 5⟩]]),(.slice A1v 1 c1v,[[]])] [(.slice s_.2.1.1 0 s_.2.1.2,[]),(.slice s_.1.1 0 s_.1.2,[]),(.slice Ab 0 cb,[]),(.slice Aa 0 ca,[])]) ?_ ?_
   rotate_left
   ·intro hJ1_2_7
    refine join_ (σ:=(Option Addr × Nat) × (Option Addr × Nat)) 7 #[tT,tT,tT,fF,fF,fF,fF,fF,fF,fF] (fun s_ => [(20, .agg #[.int .i64 1, .int .i64 1, .string (⟨#[]⟩ : ByteArray), .int .i64 0, .slice s_.1.1 0 s_.1.2]),(21, .agg #[.int .i64 1, .int .i64 6, .string (⟨#[]⟩ : ByteArray), .int .i64 0, .slice s_.2.1 0 s_.2.2])]) (fun s_ w' => Pl w w' [(gs,#[.slice Ap np cp],27)] [(.slice Ap np cp,[[⟨nu 2,nu 5⟩]]),(.slice A1v 1 c1v,[[]])] [(.slice s_.2.1 0 s_.2.2,[]),(.slice s_.1.1 0 s_.1.2,[]),(.slice Ab 0 cb,[]),(.slice Aa 0 ca,[])]) ?_ ?_
    rotate_left
    ·intro hJ1_2
     refine join_ (σ:=(Option Addr × Nat) × Nat) 7 #[tT,tT,fF,fF,fF,fF,fF,tT,fF,fF] (fun s_ => [(20, .agg #[.int .i64 1, .int .i64 1, .string (⟨#[]⟩ : ByteArray), .int .i64 0, .slice s_.1.1 0 s_.1.2]),(3, .pointer (some ⟨s_.2,0,none⟩))]) (fun s_ w' => Pl w w' [(s_.2,#[.slice none 0 0],27),(gs,#[.slice Ap np cp],27)] [(.slice Ap np cp,[[⟨nu 2,nu 5⟩]]),(.slice A1v 1 c1v,[[]])] [(.slice s_.1.1 0 s_.1.2,[]),(.slice Ab 0 cb,[]),(.slice Aa 0 ca,[])]) ?_ ?_
     rotate_left
     ·intro hJ1_7
      refine join_ (σ:=(Option Addr × Nat)) 8 #[tT,tT,fF,fF,fF,fF,fF,fF,fF,fF] (fun s_ => [(20, .agg #[.int .i64 1, .int .i64 1, .string (⟨#[]⟩ : ByteArray), .int .i64 0, .slice s_.1 0 s_.2])]) (fun s_ w' => Pl w w' [(gs,#[.slice Ap np cp],27)] [(.slice Ap np cp,[[⟨nu 2,nu 5⟩]]),(.slice A1v 1 c1v,[[]])] [(.slice s_.1 0 s_.2,[]),(.slice Ab 0 cb,[]),(.slice Aa 0 ca,[])]) ?_ ?_
      rotate_left
      ·intro hJ1
       refine join_ (σ:=Nat) 8 #[tT,fF,fF,fF,fF,fF,fF,tT,fF,fF] (fun s_ => [(3, .pointer (some ⟨s_,0,none⟩))]) (fun s_ w' => Pl w w' [(s_,#[.slice none 0 0],27),(gs,#[.slice Ap np cp],27)] [(.slice Ap np cp,[[⟨nu 2,nu 5⟩]]),(.slice A1v 1 c1v,[[]])] [(.slice Ab 0 cb,[]),(.slice Aa 0 ca,[])]) ?_ ?_
       rotate_left
       ·intro hJ7
        refine two_ (i:=1) (j:=7) (Ni:=some 20) (Nj:=some 3) #[tT,tT,fF,fF,fF,fF,fF,fF,fF,fF] #[tT,fF,fF,fF,fF,fF,fF,tT,fF,fF] rfl rfl rfl rfl (two_of HT_.out (by kernel_rfl)) (by decide) (by decide) (fun K hK => ?_) (fun K hK => ?_)
        ·skip
         refine goes_ Try.func11 (by kernel_rfl) rfl #[.int .i64 1] (by rfl) rfl rfl (by simp only [List.map_toArray,List.map_cons,List.map_nil];rfl) ?_
         refine (c_num HE.out 1).mono ?_
         rintro e_ w3 ⟨Ac,cc,rfl,hp_⟩
         refine ⟨_,rfl,?_⟩
         clear HE
         have HE:=Aside0.mk hp_
         clear hp_
         refine hK.out _ _ (HE.out.cell 0 0 rfl rfl) (fun hHeld => ?_)
         clear hK K
         refine nO ?_
         exact nJ (hJ1 (Ac,cc) _ HE.out)
        skip
        refine box_step ?hg (N:=3) ?hd (cs:=#[.slice none 0 0]) (t:=27) ?hr ?_;(case hd => rfl);(case hg => rfl);(case hr => first|(go_simp;done)|(go_simp;rfl))
        intro gt hg_ w3 hbx_ hb_
        have n_:=Aside0.mk (HE.out.box hg_ hbx_ hb_)
        clear HE hg_ hbx_ hb_
        have HE:=n_
        clear n_
        refine hK.out _ _ (HE.out.cell 1 0 rfl rfl) (fun hHeld => ?_)
        clear hK K
        refine nO ?_
        exact nJ (hJ7 gt _ HE.out)
       skip
       (try clear HE)
       (try clear hHeld)
       rintro gt w9 hF_
       (try dsimp only at hF_)
       (try dsimp only)
       have HE:=Aside0.mk hF_
       clear hF_
       have hHeld : w9.cell? ⟨gs,0,none⟩ = some (.slice Ap np cp):=HE.out.cell 1 0 rfl rfl
       refine nQ ?_
       refine oN 1 (some 20) HT_ rfl (fun K hK => ?_)
       refine goes_ Try.func11 (by kernel_rfl) rfl #[.int .i64 1] (by rfl) rfl rfl (by simp only [List.map_toArray,List.map_cons,List.map_nil];rfl) ?_
       refine (c_num HE.out 1).mono ?_
       rintro e_ w3 ⟨Ac,cc,rfl,hp_⟩
       refine ⟨_,rfl,?_⟩
       clear HE
       have HE:=Aside0.mk hp_
       clear hp_
       refine hK.out _ _ (HE.out.cell 1 0 rfl rfl) (fun hHeld => ?_)
       clear hK K
       refine nO ?_
       exact nJ (hJ1_7 ((Ac,cc),gt) _ HE.out)
      skip
      (try clear HE)
      (try clear hHeld)
      rintro ⟨Ac,cc⟩ w9 hF_
      (try dsimp only at hF_)
      (try dsimp only)
      have HE:=Aside0.mk hF_
      clear hF_
      have hHeld : w9.cell? ⟨gs,0,none⟩ = some (.slice Ap np cp):=HE.out.cell 0 0 rfl rfl
      refine nQ ?_
      refine two_ (i:=2) (j:=7) (Ni:=some 21) (Nj:=some 3) #[tT,tT,tT,fF,fF,fF,fF,fF,fF,fF] #[tT,tT,fF,fF,fF,fF,fF,tT,fF,fF] rfl rfl rfl rfl (two_of HT_.out (by kernel_rfl)) (by decide) (by decide) (fun K hK => ?_) (fun K hK => ?_)
      ·skip
       refine goes_ Try.func11 (by kernel_rfl) rfl #[.int .i64 6] (by rfl) rfl rfl (by simp only [List.map_toArray,List.map_cons,List.map_nil];rfl) ?_
       refine (c_num HE.out 6).mono ?_
       rintro e_ w3 ⟨Ad,cd,rfl,hp_⟩
       refine ⟨_,rfl,?_⟩
       clear HE
       have HE:=Aside0.mk hp_
       clear hp_
       refine hK.out _ _ (HE.out.cell 0 0 rfl rfl) (fun hHeld => ?_)
       clear hK K
       refine nO ?_
       exact nJ (hJ1_2 ((Ac,cc),(Ad,cd)) _ HE.out)
      skip
      refine box_step ?hg (N:=3) ?hd (cs:=#[.slice none 0 0]) (t:=27) ?hr ?_;(case hd => rfl);(case hg => rfl);(case hr => first|(go_simp;done)|(go_simp;rfl))
      intro gt hg_ w3 hbx_ hb_
      have n_:=Aside0.mk (HE.out.box hg_ hbx_ hb_)
      clear HE hg_ hbx_ hb_
      have HE:=n_
      clear n_
      refine hK.out _ _ (HE.out.cell 1 0 rfl rfl) (fun hHeld => ?_)
      clear hK K
      refine nO ?_
      exact nJ (hJ1_7 ((Ac,cc),gt) _ HE.out)
     skip
     (try clear HE)
     (try clear hHeld)
     rintro ⟨⟨Ac,cc⟩,gt⟩ w9 hF_
     (try dsimp only at hF_)
     (try dsimp only)
     have HE:=Aside0.mk hF_
     clear hF_
     have hHeld : w9.cell? ⟨gs,0,none⟩ = some (.slice Ap np cp):=HE.out.cell 1 0 rfl rfl
     refine nQ ?_
     refine oN 2 (some 21) HT_ rfl (fun K hK => ?_)
     refine goes_ Try.func11 (by kernel_rfl) rfl #[.int .i64 6] (by rfl) rfl rfl (by simp only [List.map_toArray,List.map_cons,List.map_nil];rfl) ?_
     refine (c_num HE.out 6).mono ?_
     rintro e_ w3 ⟨Ad,cd,rfl,hp_⟩
     refine ⟨_,rfl,?_⟩
     clear HE
     have HE:=Aside0.mk hp_
     clear hp_
     refine hK.out _ _ (HE.out.cell 1 0 rfl rfl) (fun hHeld => ?_)
     clear hK K
     refine nO ?_
     exact nJ (hJ1_2_7 ((Ac,cc),(Ad,cd),gt) _ HE.out)
    skip
    (try clear HE)
    (try clear hHeld)
    rintro ⟨⟨Ac,cc⟩,⟨Ad,cd⟩⟩ w9 hF_
    (try dsimp only at hF_)
    (try dsimp only)
    have HE:=Aside0.mk hF_
    clear hF_
    have hHeld : w9.cell? ⟨gs,0,none⟩ = some (.slice Ap np cp):=HE.out.cell 0 0 rfl rfl
    refine nQ ?_
    refine two_ (i:=3) (j:=7) (Ni:=some 22) (Nj:=some 3) #[tT,tT,tT,tT,fF,fF,fF,fF,fF,fF] #[tT,tT,tT,fF,fF,fF,fF,tT,fF,fF] rfl rfl rfl rfl (two_of HT_.out (by kernel_rfl)) (by decide) (by decide) (fun K hK => ?_) (fun K hK => ?_)
    ·skip
     refine goes_ Try.func10 (by kernel_rfl) rfl #[.agg #[.slice Ap np cp], .int .i64 0, .agg #[.int .i64 1, .int .i64 1, .string (⟨#[]⟩ : ByteArray), .int .i64 0, .slice Ac 0 cc], .agg #[.int .i64 1, .int .i64 6, .string (⟨#[]⟩ : ByteArray), .int .i64 0, .slice Ad 0 cd]] (by rfl) rfl rfl (by simp only [List.map_toArray,List.map_cons,List.map_nil];rfl) ?_
     refine (c_put (S:=[[⟨nu 2,nu 5⟩]]) (key:=nu 1) (val:=nu 6) HE.out 0 1 0 rfl rfl rfl kn_put2).mono ?_
     rintro e_ w3 ⟨At,nt,ct,rfl,hp_⟩
     refine ⟨_,rfl,?_⟩
     clear HE
     have HE:=Aside0.mk hp_
     clear hp_
     refine hK.out _ _ (HE.out.cell 0 0 rfl rfl) (fun hHeld => ?_)
     clear hK K
     refine nO ?_
     refine pU 4 (some 18) HT_ rfl ?_
     refine pU 5 (some 23) HT_ rfl ?_
     refine pU 6 (some 24) HT_ rfl ?_
     exact nJ (hJ1_2_3 ((Ac,cc),(Ad,cd),(At,nt,ct)) _ HE.out)
    skip
    refine box_step ?hg (N:=3) ?hd (cs:=#[.slice none 0 0]) (t:=27) ?hr ?_;(case hd => rfl);(case hg => rfl);(case hr => first|(go_simp;done)|(go_simp;rfl))
    intro gt hg_ w3 hbx_ hb_
    have n_:=Aside0.mk (HE.out.box hg_ hbx_ hb_)
    clear HE hg_ hbx_ hb_
    have HE:=n_
    clear n_
    refine hK.out _ _ (HE.out.cell 1 0 rfl rfl) (fun hHeld => ?_)
    clear hK K
    refine nO ?_
    exact nJ (hJ1_2_7 ((Ac,cc),(Ad,cd),gt) _ HE.out)
   skip
   (try clear HE)
   (try clear hHeld)
   rintro ⟨⟨Ac,cc⟩,⟨Ad,cd⟩,gt⟩ w9 hF_
   (try dsimp only at hF_)
   (try dsimp only)
   have HE:=Aside0.mk hF_
   clear hF_
   have hHeld : w9.cell? ⟨gs,0,none⟩ = some (.slice Ap np cp):=HE.out.cell 1 0 rfl rfl
   refine nQ ?_
   refine oN 3 (some 22) HT_ rfl (fun K hK => ?_)
   refine goes_ Try.func10 (by kernel_rfl) rfl #[.agg #[.slice Ap np cp], .int .i64 0, .agg #[.int .i64 1, .int .i64 1, .string (⟨#[]⟩ : ByteArray), .int .i64 0, .slice Ac 0 cc], .agg #[.int .i64 1, .int .i64 6, .string (⟨#[]⟩ : ByteArray), .int .i64 0, .slice Ad 0 cd]] (by rfl) rfl rfl (by simp only [List.map_toArray,List.map_cons,List.map_nil];rfl) ?_
   refine (c_put (S:=[[⟨nu 2,nu 5⟩]]) (key:=nu 1) (val:=nu 6) HE.out 0 1 0 rfl rfl rfl kn_put2).mono ?_
   rintro e_ w3 ⟨At,nt,ct,rfl,hp_⟩
   refine ⟨_,rfl,?_⟩
   clear HE
   have HE:=Aside0.mk hp_
   clear hp_
   refine hK.out _ _ (HE.out.cell 1 0 rfl rfl) (fun hHeld => ?_)
   clear hK K
   refine nO ?_
   refine pU 4 (some 18) HT_ rfl ?_
   refine pU 5 (some 23) HT_ rfl ?_
   refine pU 6 (some 24) HT_ rfl ?_
   exact nJ (hJ1_2_3_7 ((Ac,cc),(Ad,cd),(At,nt,ct),gt) _ HE.out)
  skip
  (try clear HE)
  (try clear hHeld)
  rintro ⟨⟨Ac,cc⟩,⟨Ad,cd⟩,⟨At,nt,ct⟩⟩ w9 hF_
  (try dsimp only at hF_)
  (try dsimp only)
  have HE:=Aside0.mk hF_
  clear hF_
  have hHeld : w9.cell? ⟨gs,0,none⟩ = some (.slice Ap np cp):=HE.out.cell 0 0 rfl rfl
  refine nQ ?_
  refine oN 7 (some 3) HT_ rfl (fun K hK => ?_)
  refine box_step ?hg (N:=3) ?hd (cs:=#[.slice none 0 0]) (t:=27) ?hr ?_;(case hd => rfl);(case hg => rfl);(case hr => first|(go_simp;done)|(go_simp;rfl))
  intro gt hg_ w3 hbx_ hb_
  have n_:=Aside0.mk (HE.out.box hg_ hbx_ hb_)
  clear HE hg_ hbx_ hb_
  have HE:=n_
  clear n_
  refine hK.out _ _ (HE.out.cell 1 0 rfl rfl) (fun hHeld => ?_)
  clear hK K
  refine nO ?_
  exact nJ (hJ1_2_3_7 ((Ac,cc),(Ad,cd),(At,nt,ct),gt) _ HE.out)
 (try clear HE)
 (try clear hHeld)
 rintro ⟨⟨Ac,cc⟩,⟨Ad,cd⟩,⟨At,nt,ct⟩,gt⟩ w9 hF_
 (try dsimp only at hF_)
 (try dsimp only)
 have HE:=Aside0.mk hF_
 clear hF_
 have hHeld : w9.cell? ⟨gs,0,none⟩ = some (.slice Ap np cp):=HE.out.cell 1 0 rfl rfl
 refine nQ ?_
 refine last_ (i:=8) (N:=none) #[tT,tT,tT,tT,tT,tT,tT,tT,tT,fF] rfl rfl (one_of HT_.out (by kernel_rfl)) (by decide) (fun K hK => ?_)
 have hc_ : w9.cell? ⟨gt,0,none⟩ = some (.slice none 0 0):=HE.out.cell 0 0 rfl rfl
 have hf_ : w9.frozen? ⟨gt,0,none⟩ = false:=HE.out.frz 0 0 rfl
 refine skip_ (w1:=?_) (by rfl) rfl ?_ ?_
 rotate_left
 ·go_simp
  rfl
 have n_:=Aside0.mk (HE.out.set 0 rfl 0 (.slice At nt ct))
 clear HE hc_ hf_
 have HE:=n_
 clear n_
 generalize (w9.setCell ⟨gt,0,none⟩ (.slice At nt ct)) = w5 at HE ⊢
 refine hK.out _ _ ?_
 clear hK K
 refine pU 9 (some 4) HT_ rfl ?_
 refine done_ (done_of HT_.out (by kernel_rfl)) ?_
 
 (try clear hHeld)
 have z_gt_0 : w5.cell? ⟨gt,0,none⟩ = some (.slice At nt ct):=HE.out.cell 0 0 rfl rfl
 go_wp2_with (first|((with_reducible refine gate_callee (f:=13) rfl ?_);refine goesL_ (some 27) rfl rfl Try.func13 (by kernel_rfl) rfl #[.agg #[.slice At nt ct], .int .i64 0] rfl aG ?_;refine (c_first (S:=[[⟨nu 1,nu 6⟩,⟨nu 2,nu 5⟩]]) (val:=nu 1) HE.out 0 rfl kn_first).mono ?_;rintro e_ X3 ⟨Ak,nk,ck,rfl,hp_⟩;refine ⟨_,rfl,?_⟩;have n_:=Aside0.mk hp_;clear hp_ HE;(try clear z_gt_0);(try clear y_gt_0);(try clear z_gs_0);(try clear y_gs_0);have HE:=n_;clear n_)|((with_reducible refine gate_dst (N:=5) rfl ?_);refine box_event ?hg (N:=5) ?hd (cs:=#[.int .i64 0, .int .i64 0, .string (⟨#[]⟩ : ByteArray), .int .i64 0, .slice none 0 0]) (t:=35) ?hr ?_;(case hd => rfl);(case hg => rfl);(case hr => first|(go_simp;done)|(go_simp;rfl));intro gk hg_ X4 hbx_ hb_;have n_:=Aside0.mk (HE.out.box hg_ hbx_ hb_);clear HE hg_ hbx_ hb_;(try clear z_gt_0);(try clear y_gt_0);(try clear z_gs_0);(try clear y_gs_0);have HE:=n_;clear n_)|((with_reducible refine gate_store (t:=35) (p:=5) rfl ?_);refine store_event (w1:=X4.setRow gk #[.int .i64 1, .int .i64 1, .string (⟨#[]⟩ : ByteArray), .int .i64 0, .slice Ak nk ck]) rfl rfl rfl (run_row rfl rfl rfl (HE.out.at 0 rfl).2 inf35 rfl (by first|rfl|simp [Value.oneCell'])) ?_;intro X5 hw_;have n_ : Aside0 (Pl w X5 [(gk,#[.int .i64 1, .int .i64 1, .string (⟨#[]⟩ : ByteArray), .int .i64 0, .slice Ak nk ck],35),(gt,#[.slice At nt ct],27),(gs,#[.slice Ap np cp],27)] [(.slice At nt ct,[[⟨nu 1,nu 6⟩,⟨nu 2,nu 5⟩]]),(.slice Ap np cp,[[⟨nu 2,nu 5⟩]]),(.slice A1v 1 c1v,[[]])] [(.slice Ak nk ck,[]),(.slice Ad 0 cd,[]),(.slice Ac 0 cc,[]),(.slice Ab 0 cb,[]),(.slice Aa 0 ca,[])]):=⟨by rw [hw_];exact HE.out.row 0 rfl #[.int .i64 1, .int .i64 1, .string (⟨#[]⟩ : ByteArray), .int .i64 0, .slice Ak nk ck]⟩;clear HE hw_;(try clear z_gk_0);(try clear z_gk_1);(try clear z_gk_2);(try clear z_gk_3);(try clear z_gk_4);(try clear z_gt_0);(try clear y_gt_0);(try clear z_gs_0);(try clear y_gs_0);have HE:=n_;clear n_))
 (try clear z_gk_0)
 (try clear z_gk_1)
 (try clear z_gk_2)
 (try clear z_gk_3)
 (try clear z_gk_4)
 (try clear z_gt_0)
 (try clear y_gt_0)
 (try clear z_gs_0)
 (try clear y_gs_0)
 have n_:=Aside0.mk (HE.out.call (below_drew (Below.refl _ _)))
 clear HE
 have HE:=n_
 clear n_
 refine start_ (n:=9) (S:=fun w' => w'.cell? ⟨gt,0,none⟩ = some (.slice At nt ct)) (ds:=[7]) #[fF,fF,fF,fF,fF,fF,fF,fF,fF] (by kernel_rfl) rfl rfl (HE.out.cell 1 0 rfl rfl) (fun hHeld => ?_)
 refine with_tabW kn.tab5 kn.bits5 (fun HT_ HW_ => ?_)
 generalize X5.drew = wq at HE hHeld ⊢
 refine tA 0 (some 31) HT_ HW_ hHeld rfl ?_
 refine join_ (σ:=(Option Addr × Nat) × (Option Addr × Nat × Nat) × Nat) 2 #[tT,tT,tT,tT,tT,tT,tT,fF,fF] (fun s_ => [(32, .agg #[.int .i64 1, .int .i64 1, .string (⟨#[]⟩ : ByteArray), .int .i64 0, .slice s_.1.1 0 s_.1.2]),(33, .tuple #[.agg #[.int .i64 1, .int .i64 2, .string (⟨#[]⟩ : ByteArray), .int .i64 0, .slice s_.2.1.1 s_.2.1.2.1 s_.2.1.2.2], .bool true]),(30, .tuple #[.agg #[.int .i64 1, .int .i64 2, .string (⟨#[]⟩ : ByteArray), .int .i64 0, .slice s_.2.1.1 s_.2.1.2.1 s_.2.1.2.2], .bool true]),(34, .agg #[.int .i64 1, .int .i64 2, .string (⟨#[]⟩ : ByteArray), .int .i64 0, .slice s_.2.1.1 s_.2.1.2.1 s_.2.1.2.2]),(35, .bool true),(7, .pointer (some ⟨s_.2.2,0,none⟩))]) (fun s_ w' => Pl w w' [(s_.2.2,#[.int .i64 0, .int .i64 0, .string (⟨#[]⟩ : ByteArray), .int .i64 0, .slice none 0 0],35),(gk,#[.int .i64 1, .int .i64 1, .string (⟨#[]⟩ : ByteArray), .int .i64 0, .slice Ak nk ck],35),(gt,#[.slice At nt ct],27),(gs,#[.slice Ap np cp],27)] [(.slice At nt ct,[[⟨nu 1,nu 6⟩,⟨nu 2,nu 5⟩]]),(.slice Ap np cp,[[⟨nu 2,nu 5⟩]]),(.slice A1v 1 c1v,[[]])] [(.slice s_.2.1.1 s_.2.1.2.1 s_.2.1.2.2,[]),(.slice s_.1.1 0 s_.1.2,[]),(.slice Ak nk ck,[]),(.slice Ad 0 cd,[]),(.slice Ac 0 cc,[]),(.slice Ab 0 cb,[]),(.slice Aa 0 ca,[])]) ?_ ?_
 rotate_left
 ·intro hJ1_2_6
  refine join_ (σ:=(Option Addr × Nat) × (Option Addr × Nat × Nat)) 3 #[tT,tT,tT,tT,tT,tT,fF,fF,fF] (fun s_ => [(32, .agg #[.int .i64 1, .int .i64 1, .string (⟨#[]⟩ : ByteArray), .int .i64 0, .slice s_.1.1 0 s_.1.2]),(33, .tuple #[.agg #[.int .i64 1, .int .i64 2, .string (⟨#[]⟩ : ByteArray), .int .i64 0, .slice s_.2.1 s_.2.2.1 s_.2.2.2], .bool true]),(30, .tuple #[.agg #[.int .i64 1, .int .i64 2, .string (⟨#[]⟩ : ByteArray), .int .i64 0, .slice s_.2.1 s_.2.2.1 s_.2.2.2], .bool true]),(34, .agg #[.int .i64 1, .int .i64 2, .string (⟨#[]⟩ : ByteArray), .int .i64 0, .slice s_.2.1 s_.2.2.1 s_.2.2.2]),(35, .bool true)]) (fun s_ w' => Pl w w' [(gk,#[.int .i64 1, .int .i64 1, .string (⟨#[]⟩ : ByteArray), .int .i64 0, .slice Ak nk ck],35),(gt,#[.slice At nt ct],27),(gs,#[.slice Ap np cp],27)] [(.slice At nt ct,[[⟨nu 1,nu 6⟩,⟨nu 2,nu 5⟩]]),(.slice Ap np cp,[[⟨nu 2,nu 5⟩]]),(.slice A1v 1 c1v,[[]])] [(.slice s_.2.1 s_.2.2.1 s_.2.2.2,[]),(.slice s_.1.1 0 s_.1.2,[]),(.slice Ak nk ck,[]),(.slice Ad 0 cd,[]),(.slice Ac 0 cc,[]),(.slice Ab 0 cb,[]),(.slice Aa 0 ca,[])]) ?_ ?_
  rotate_left
  ·intro hJ1_2
   refine join_ (σ:=(Option Addr × Nat) × Nat) 6 #[tT,tT,fF,fF,fF,fF,tT,fF,fF] (fun s_ => [(32, .agg #[.int .i64 1, .int .i64 1, .string (⟨#[]⟩ : ByteArray), .int .i64 0, .slice s_.1.1 0 s_.1.2]),(7, .pointer (some ⟨s_.2,0,none⟩))]) (fun s_ w' => Pl w w' [(s_.2,#[.int .i64 0, .int .i64 0, .string (⟨#[]⟩ : ByteArray), .int .i64 0, .slice none 0 0],35),(gk,#[.int .i64 1, .int .i64 1, .string (⟨#[]⟩ : ByteArray), .int .i64 0, .slice Ak nk ck],35),(gt,#[.slice At nt ct],27),(gs,#[.slice Ap np cp],27)] [(.slice At nt ct,[[⟨nu 1,nu 6⟩,⟨nu 2,nu 5⟩]]),(.slice Ap np cp,[[⟨nu 2,nu 5⟩]]),(.slice A1v 1 c1v,[[]])] [(.slice s_.1.1 0 s_.1.2,[]),(.slice Ak nk ck,[]),(.slice Ad 0 cd,[]),(.slice Ac 0 cc,[]),(.slice Ab 0 cb,[]),(.slice Aa 0 ca,[])]) ?_ ?_
   rotate_left
   ·intro hJ1_6
    refine join_ (σ:=(Option Addr × Nat)) 7 #[tT,tT,fF,fF,fF,fF,fF,fF,fF] (fun s_ => [(32, .agg #[.int .i64 1, .int .i64 1, .string (⟨#[]⟩ : ByteArray), .int .i64 0, .slice s_.1 0 s_.2])]) (fun s_ w' => Pl w w' [(gk,#[.int .i64 1, .int .i64 1, .string (⟨#[]⟩ : ByteArray), .int .i64 0, .slice Ak nk ck],35),(gt,#[.slice At nt ct],27),(gs,#[.slice Ap np cp],27)] [(.slice At nt ct,[[⟨nu 1,nu 6⟩,⟨nu 2,nu 5⟩]]),(.slice Ap np cp,[[⟨nu 2,nu 5⟩]]),(.slice A1v 1 c1v,[[]])] [(.slice s_.1 0 s_.2,[]),(.slice Ak nk ck,[]),(.slice Ad 0 cd,[]),(.slice Ac 0 cc,[]),(.slice Ab 0 cb,[]),(.slice Aa 0 ca,[])]) ?_ ?_
    rotate_left
    ·intro hJ1
     refine join_ (σ:=Nat) 7 #[tT,fF,fF,fF,fF,fF,tT,fF,fF] (fun s_ => [(7, .pointer (some ⟨s_,0,none⟩))]) (fun s_ w' => Pl w w' [(s_,#[.int .i64 0, .int .i64 0, .string (⟨#[]⟩ : ByteArray), .int .i64 0, .slice none 0 0],35),(gk,#[.int .i64 1, .int .i64 1, .string (⟨#[]⟩ : ByteArray), .int .i64 0, .slice Ak nk ck],35),(gt,#[.slice At nt ct],27),(gs,#[.slice Ap np cp],27)] [(.slice At nt ct,[[⟨nu 1,nu 6⟩,⟨nu 2,nu 5⟩]]),(.slice Ap np cp,[[⟨nu 2,nu 5⟩]]),(.slice A1v 1 c1v,[[]])] [(.slice Ak nk ck,[]),(.slice Ad 0 cd,[]),(.slice Ac 0 cc,[]),(.slice Ab 0 cb,[]),(.slice Aa 0 ca,[])]) ?_ ?_
     rotate_left
     ·intro hJ6
      refine two_ (i:=1) (j:=6) (Ni:=some 32) (Nj:=some 7) #[tT,tT,fF,fF,fF,fF,fF,fF,fF] #[tT,fF,fF,fF,fF,fF,tT,fF,fF] rfl rfl rfl rfl (two_of HT_.out (by kernel_rfl)) (by decide) (by decide) (fun K hK => ?_) (fun K hK => ?_)
      ·skip
       refine goes_ Try.func11 (by kernel_rfl) rfl #[.int .i64 1] (by rfl) rfl rfl (by simp only [List.map_toArray,List.map_cons,List.map_nil];rfl) ?_
       refine (c_num HE.out 1).mono ?_
       rintro e_ w3 ⟨Ae,ce,rfl,hp_⟩
       refine ⟨_,rfl,?_⟩
       clear HE
       have HE:=Aside0.mk hp_
       clear hp_
       refine hK.out _ _ (HE.out.cell 1 0 rfl rfl) (fun hHeld => ?_)
       clear hK K
       refine nO ?_
       exact nJ (hJ1 (Ae,ce) _ HE.out)
      skip
      refine box_step ?hg (N:=7) ?hd (cs:=#[.int .i64 0, .int .i64 0, .string (⟨#[]⟩ : ByteArray), .int .i64 0, .slice none 0 0]) (t:=35) ?hr ?_;(case hd => rfl);(case hg => rfl);(case hr => first|(go_simp;done)|(go_simp;rfl))
      intro gn hg_ w3 hbx_ hb_
      have n_:=Aside0.mk (HE.out.box hg_ hbx_ hb_)
      clear HE hg_ hbx_ hb_
      have HE:=n_
      clear n_
      refine hK.out _ _ (HE.out.cell 2 0 rfl rfl) (fun hHeld => ?_)
      clear hK K
      refine nO ?_
      exact nJ (hJ6 gn _ HE.out)
     skip
     (try clear HE)
     (try clear hHeld)
     rintro gn w9 hF_
     (try dsimp only at hF_)
     (try dsimp only)
     have HE:=Aside0.mk hF_
     clear hF_
     have hHeld : w9.cell? ⟨gt,0,none⟩ = some (.slice At nt ct):=HE.out.cell 2 0 rfl rfl
     refine nQ ?_
     refine oN 1 (some 32) HT_ rfl (fun K hK => ?_)
     refine goes_ Try.func11 (by kernel_rfl) rfl #[.int .i64 1] (by rfl) rfl rfl (by simp only [List.map_toArray,List.map_cons,List.map_nil];rfl) ?_
     refine (c_num HE.out 1).mono ?_
     rintro e_ w3 ⟨Ae,ce,rfl,hp_⟩
     refine ⟨_,rfl,?_⟩
     clear HE
     have HE:=Aside0.mk hp_
     clear hp_
     refine hK.out _ _ (HE.out.cell 2 0 rfl rfl) (fun hHeld => ?_)
     clear hK K
     refine nO ?_
     exact nJ (hJ1_6 ((Ae,ce),gn) _ HE.out)
    skip
    (try clear HE)
    (try clear hHeld)
    rintro ⟨Ae,ce⟩ w9 hF_
    (try dsimp only at hF_)
    (try dsimp only)
    have HE:=Aside0.mk hF_
    clear hF_
    have hHeld : w9.cell? ⟨gt,0,none⟩ = some (.slice At nt ct):=HE.out.cell 1 0 rfl rfl
    refine nQ ?_
    refine two_ (i:=2) (j:=6) (Ni:=some 33) (Nj:=some 7) #[tT,tT,tT,fF,fF,fF,fF,fF,fF] #[tT,tT,fF,fF,fF,fF,tT,fF,fF] rfl rfl rfl rfl (two_of HT_.out (by kernel_rfl)) (by decide) (by decide) (fun K hK => ?_) (fun K hK => ?_)
    ·skip
     refine goes_ Try.func15 (by kernel_rfl) rfl #[.agg #[.slice At nt ct], .int .i64 0, .agg #[.int .i64 1, .int .i64 1, .string (⟨#[]⟩ : ByteArray), .int .i64 0, .slice Ae 0 ce]] (by rfl) rfl rfl (by simp only [List.map_toArray,List.map_cons,List.map_nil];rfl) ?_
     refine (c_next (S:=[[⟨nu 1,nu 6⟩,⟨nu 2,nu 5⟩]]) (key:=nu 1) (val:=nu 2) HE.out 0 0 rfl rfl kn_next).mono ?_
     rintro e_ w3 ⟨An,nn,cn,rfl,hp_⟩
     refine ⟨_,rfl,?_⟩
     clear HE
     have HE:=Aside0.mk hp_
     clear hp_
     refine hK.out _ _ (HE.out.cell 1 0 rfl rfl) (fun hHeld => ?_)
     clear hK K
     refine nO ?_
     refine pU 3 (some 30) HT_ rfl ?_
     refine pU 4 (some 34) HT_ rfl ?_
     refine pU 5 (some 35) HT_ rfl ?_
     exact nJ (hJ1_2 ((Ae,ce),(An,nn,cn)) _ HE.out)
    skip
    refine box_step ?hg (N:=7) ?hd (cs:=#[.int .i64 0, .int .i64 0, .string (⟨#[]⟩ : ByteArray), .int .i64 0, .slice none 0 0]) (t:=35) ?hr ?_;(case hd => rfl);(case hg => rfl);(case hr => first|(go_simp;done)|(go_simp;rfl))
    intro gn hg_ w3 hbx_ hb_
    have n_:=Aside0.mk (HE.out.box hg_ hbx_ hb_)
    clear HE hg_ hbx_ hb_
    have HE:=n_
    clear n_
    refine hK.out _ _ (HE.out.cell 2 0 rfl rfl) (fun hHeld => ?_)
    clear hK K
    refine nO ?_
    exact nJ (hJ1_6 ((Ae,ce),gn) _ HE.out)
   skip
   (try clear HE)
   (try clear hHeld)
   rintro ⟨⟨Ae,ce⟩,gn⟩ w9 hF_
   (try dsimp only at hF_)
   (try dsimp only)
   have HE:=Aside0.mk hF_
   clear hF_
   have hHeld : w9.cell? ⟨gt,0,none⟩ = some (.slice At nt ct):=HE.out.cell 2 0 rfl rfl
   refine nQ ?_
   refine oN 2 (some 33) HT_ rfl (fun K hK => ?_)
   refine goes_ Try.func15 (by kernel_rfl) rfl #[.agg #[.slice At nt ct], .int .i64 0, .agg #[.int .i64 1, .int .i64 1, .string (⟨#[]⟩ : ByteArray), .int .i64 0, .slice Ae 0 ce]] (by rfl) rfl rfl (by simp only [List.map_toArray,List.map_cons,List.map_nil];rfl) ?_
   refine (c_next (S:=[[⟨nu 1,nu 6⟩,⟨nu 2,nu 5⟩]]) (key:=nu 1) (val:=nu 2) HE.out 0 0 rfl rfl kn_next).mono ?_
   rintro e_ w3 ⟨An,nn,cn,rfl,hp_⟩
   refine ⟨_,rfl,?_⟩
   clear HE
   have HE:=Aside0.mk hp_
   clear hp_
   refine hK.out _ _ (HE.out.cell 2 0 rfl rfl) (fun hHeld => ?_)
   clear hK K
   refine nO ?_
   refine pU 3 (some 30) HT_ rfl ?_
   refine pU 4 (some 34) HT_ rfl ?_
   refine pU 5 (some 35) HT_ rfl ?_
   exact nJ (hJ1_2_6 ((Ae,ce),(An,nn,cn),gn) _ HE.out)
  skip
  (try clear HE)
  (try clear hHeld)
  rintro ⟨⟨Ae,ce⟩,⟨An,nn,cn⟩⟩ w9 hF_
  (try dsimp only at hF_)
  (try dsimp only)
  have HE:=Aside0.mk hF_
  clear hF_
  have hHeld : w9.cell? ⟨gt,0,none⟩ = some (.slice At nt ct):=HE.out.cell 1 0 rfl rfl
  refine nQ ?_
  refine oN 6 (some 7) HT_ rfl (fun K hK => ?_)
  refine box_step ?hg (N:=7) ?hd (cs:=#[.int .i64 0, .int .i64 0, .string (⟨#[]⟩ : ByteArray), .int .i64 0, .slice none 0 0]) (t:=35) ?hr ?_;(case hd => rfl);(case hg => rfl);(case hr => first|(go_simp;done)|(go_simp;rfl))
  intro gn hg_ w3 hbx_ hb_
  have n_:=Aside0.mk (HE.out.box hg_ hbx_ hb_)
  clear HE hg_ hbx_ hb_
  have HE:=n_
  clear n_
  refine hK.out _ _ (HE.out.cell 2 0 rfl rfl) (fun hHeld => ?_)
  clear hK K
  refine nO ?_
  exact nJ (hJ1_2_6 ((Ae,ce),(An,nn,cn),gn) _ HE.out)
 (try clear HE)
 (try clear hHeld)
 rintro ⟨⟨Ae,ce⟩,⟨An,nn,cn⟩,gn⟩ w9 hF_
 (try dsimp only at hF_)
 (try dsimp only)
 have HE:=Aside0.mk hF_
 clear hF_
 have hHeld : w9.cell? ⟨gt,0,none⟩ = some (.slice At nt ct):=HE.out.cell 2 0 rfl rfl
 refine nQ ?_
 refine last_ (i:=7) (N:=none) #[tT,tT,tT,tT,tT,tT,tT,tT,fF] rfl rfl (one_of HT_.out (by kernel_rfl)) (by decide) (fun K hK => ?_)
 refine skip_ (w1:=w9.setRow gn #[.int .i64 1, .int .i64 2, .string (⟨#[]⟩ : ByteArray), .int .i64 0, .slice An nn cn]) (by rfl) rfl ?_ ?_
 ·exact run_row rfl rfl rfl (HE.out.at 0 rfl).2 inf35 rfl (by first|rfl|simp [Value.oneCell'])
 have n_:=Aside0.mk (HE.out.row 0 rfl #[.int .i64 1, .int .i64 2, .string (⟨#[]⟩ : ByteArray), .int .i64 0, .slice An nn cn])
 clear HE
 have HE:=n_
 clear n_
 generalize (w9.setRow gn #[.int .i64 1, .int .i64 2, .string (⟨#[]⟩ : ByteArray), .int .i64 0, .slice An nn cn]) = w6 at HE ⊢
 refine hK.out _ _ ?_
 clear hK K
 refine pU 8 (some 8) HT_ rfl ?_
 refine done_ (done_of HT_.out (by kernel_rfl)) ?_
 
 (try clear hHeld)
 obtain ⟨ads,Ams,cms,es_,hs_⟩:=HE.out.rowAt 1 (A:=Ap) (n:=np) (c:=cp) (S:=[[⟨nu 2,nu 5⟩]]) rfl 0 (by decide)
 obtain ⟨adt,Amt,cmt,et_,ht_⟩:=HE.out.rowAt 0 (A:=At) (n:=nt) (c:=ct) (S:=[[⟨nu 1,nu 6⟩,⟨nu 2,nu 5⟩]]) rfl 0 (by decide)
 have hn1_ : np = 1:=(Kd.V_at (HE.out.vv 1 (l:=[[⟨nu 2,nu 5⟩]]) rfl)).1
 have hn2_ : nt = 1:=(Kd.V_at (HE.out.vv 0 (l:=[[⟨nu 1,nu 6⟩,⟨nu 2,nu 5⟩]]) rfl)).1
 subst es_ et_ hn1_ hn2_
 simp only [List.getElem_cons_zero,List.length_cons,List.length_nil,Nat.zero_add,Nat.reduceAdd] at hs_ ht_
 have hs2_ : w6.cell? ads = some (.slice Ams 1 cms):=by simpa [Addr.add] using hs_
 have ht2_ : w6.cell? adt = some (.slice Amt 2 cmt):=by simpa [Addr.add] using ht_
 have z_gn_0 : w6.cell? ⟨gn,0,none⟩ = some (.int .i64 1):=HE.out.cell 0 0 rfl rfl
 have z_gn_1 : w6.cell? ⟨gn,1,none⟩ = some (.int .i64 2):=HE.out.cell 0 1 rfl rfl
 have z_gn_2 : w6.cell? ⟨gn,2,none⟩ = some (.string (⟨#[]⟩ : ByteArray)):=HE.out.cell 0 2 rfl rfl
 have z_gn_3 : w6.cell? ⟨gn,3,none⟩ = some (.int .i64 0):=HE.out.cell 0 3 rfl rfl
 have z_gn_4 : w6.cell? ⟨gn,4,none⟩ = some (.slice An nn cn):=HE.out.cell 0 4 rfl rfl
 have z_gk_0 : w6.cell? ⟨gk,0,none⟩ = some (.int .i64 1):=HE.out.cell 1 0 rfl rfl
 have z_gk_1 : w6.cell? ⟨gk,1,none⟩ = some (.int .i64 1):=HE.out.cell 1 1 rfl rfl
 have z_gk_2 : w6.cell? ⟨gk,2,none⟩ = some (.string (⟨#[]⟩ : ByteArray)):=HE.out.cell 1 2 rfl rfl
 have z_gk_3 : w6.cell? ⟨gk,3,none⟩ = some (.int .i64 0):=HE.out.cell 1 3 rfl rfl
 have z_gk_4 : w6.cell? ⟨gk,4,none⟩ = some (.slice Ak nk ck):=HE.out.cell 1 4 rfl rfl
 have z_gt_0 : w6.cell? ⟨gt,0,none⟩ = some (.slice (some adt) 1 ct):=HE.out.cell 2 0 rfl rfl
 have z_gs_0 : w6.cell? ⟨gs,0,none⟩ = some (.slice (some ads) 1 cp):=HE.out.cell 3 0 rfl rfl
 go_wp2
 refine bodyPost_ret (results_tmp rfl _ _ _) rfl ?_
 exact ⟨rfl,HE.out.below⟩
end Go.Proofs.Ytnokieaebnmljaa.PAll
