/- The reference's rule of boxes is a packing by a rule; the program's rules by a score are the same under small loads. Conditions: at most 9 things from 1 to 100. -/
import Derived.Test.YtclfjjinfbfajaaPx0
import Derived.Test.YtclfjjinfbfajaaPx1
import Derived.Test.YtclfjjinfbfajaaPx3
import Derived.Test.YtclfjjinfbfajaaPx9
import Derived.Test.YtclfjjinfbfajaaPx10
import Derived.Test.YtclfjjinfbfajaaPx12
import Derived.Test.YtclfjjinfbfajaaPx15
import Derived.Test.YtclfjjinfbfajaaPx16
import Derived.Test.YtclfjjinfbfajaaQBoxA
namespace Go.Proofs.Ytclfjjinfbfajaa.Q
open Go.RowKit Go.Proofs.Ytclfjjinfbfajaa.P Go.Proofs.YtclfjjinfbfajaaW.PrintWords Go.Proofs.YtclfjjinfbfajaaW.PrintLast
set_option linter.unusedVariables false
set_option linter.unusedSimpArgs false

/-! ### the order of the things -/
def ordL (n : Nat) : List Int := (List.range n).map fun (i : Nat) => (i : Int)
theorem ordL_len (n : Nat) : (ordL n).length = n := by simp [ordL]
theorem ordL_rd {n i : Nat} (h : i < n) : rd (ordL n) i = i := by
  simp [rd, ordL, List.getD_eq_getElem?_getD, h]
theorem ordL_succ (n : Nat) : ordL (n + 1) = ordL n ++ [(n : Int)] := by simp [ordL, List.range_succ]
theorem bxOrder_l0 (n : Nat) (hn : n ≤ 1048576) (d : Nat) : ∀ i : Nat, i + d = n → Ev (fun k => spec_bxOrder.l0 k (ordL i) n i) (ordL n) := by
  induction d with
  | zero =>
    intro i hi
    obtain rfl : i = n := by omega
    refine Ev.step (f := fun _ => some (ordL i)) (fun k => ?_) (Ev.now _)
    rw [spec_bxOrder.l0, if_neg (by omega)]
  | succ d ih =>
    intro i hi
    refine Ev.step (fun k => ?_) (ih (i + 1) (by omega))
    rw [spec_bxOrder.l0, if_pos (by omega), if_pos (by rw [ordL_len]; omega), w64i i (by omega), ordL_succ]
theorem bxOrder_ev (l : List Int) (hl : l.length ≤ 1048576) : Ev (fun k => spec_bxOrder.f k l) (ordL l.length) := by
  unfold spec_bxOrder.f
  exact bxOrder_l0 l.length hl l.length 0 (by omega)

/-! ### the box that the reference's rule takes -/
def skipB (r room : Int) (loads : List Int) (x : Int) (k : Nat) : Bool := decide (wrap64 (rd loads k + x) > room) || (decide (r = 110) && decide ((k : Int) < wrap64 ((loads.length : Int) - 1)))
def takeB (r : Int) (loads : List Int) (b : Int) (k : Nat) : Bool := decide (b < 0) || (decide (r = 98) && decide (rd loads k > rd loads b)) || (decide (r = 119) && decide (rd loads k < rd loads b))
def pickB (r room : Int) (loads : List Int) (x : Int) : Nat → Nat → Int → Int
  | 0, _, b => b
  | d + 1, k, b => pickB r room loads x d (k + 1) (if skipB r room loads x k = true then b else if takeB r loads b k = true then (k : Int) else b)
def ruleB (r room : Int) (loads : List Int) (x : Int) : Int := pickB r room loads x loads.length 0 (-1)
theorem upd_in (c c' : Prop) [Decidable c] [Decidable c'] (b : Int) (k : Nat) (h0 : -1 ≤ b) (h1 : b < k) : -1 ≤ (if c then b else if c' then (k : Int) else b) ∧ (if c then b else if c' then (k : Int) else b) < ((k + 1 : Nat) : Int) := by
  by_cases h : c
  · rw [if_pos h]; omega
  · rw [if_neg h]
    by_cases h' : c'
    · rw [if_pos h']; omega
    · rw [if_neg h']; omega
theorem pickB_lt (r room : Int) (loads : List Int) (x : Int) : ∀ (d k : Nat) (b : Int), b < k → -1 ≤ b → pickB r room loads x d k b < ((k + d : Nat) : Int) ∧ -1 ≤ pickB r room loads x d k b
  | 0, k, b, h, h' => ⟨by simp only [pickB]; omega, h'⟩
  | d + 1, k, b, h, h' => by
    simp only [pickB]
    have := pickB_lt r room loads x d (k + 1) (if skipB r room loads x k = true then b else if takeB r loads b k = true then (k : Int) else b) (upd_in _ _ b k h' h).2 (upd_in _ _ b k h' h).1
    rw [show k + (d + 1) = k + 1 + d by omega]
    exact this
theorem ruleB_lt (r room : Int) (loads : List Int) (x : Int) : ruleB r room loads x < (loads.length : Int) ∧ -1 ≤ ruleB r room loads x := by
  have := pickB_lt r room loads x loads.length 0 (-1) (by omega) (by omega)
  unfold ruleB; simpa using this

/-- What the loop goes on with when it has the box. -/
noncomputable def afterB (l : List Int) (room r : Int) (plan loads : List Int) (ord : List Int) (n : Int) (i : Nat) (b : Int) (k : Nat) : Option (List Int) :=
  if b < 0 then spec_bxRule.l0 k l room r (plan.set i (loads.length : Int)) (loads ++ [wrap64 (0 + rd l i)]) ord n ((i + 1 : Nat) : Int)
  else spec_bxRule.l0 k l room r (plan.set i b) (loads.set b.toNat (wrap64 (rd loads b + rd l i))) ord n ((i + 1 : Nat) : Int)
theorem rd_snoc (l : List Int) (x : Int) : rd (l ++ [x]) (l.length : Nat) = x := by simp [rd, List.getD_eq_getElem?_getD]
theorem set_snoc (l : List Int) (x y : Int) : (l ++ [x]).set l.length y = l ++ [y] := by simp
theorem bxRule_l1 (l : List Int) (room r : Int) (plan loads ord : List Int) (n : Int) (i : Nat) (hi : i < l.length) (hp : plan.length = l.length) (hl : l.length ≤ 9) (hlo : loads.length ≤ 9) (res : List Int) (d : Nat) : ∀ (k : Nat) (b : Int), k + d = loads.length → -1 ≤ b → b < k →
    Ev (fun z => afterB l room r plan loads ord n i (pickB r room loads (rd l i) d k b) z) res → Ev (fun z => spec_bxRule.l1 z l room r plan loads i b ord n i loads.length k) res := by
  induction d with
  | zero =>
    intro k b hk hb0 hb1 hE
    refine Ev.step (fun z => ?_) hE
    rw [spec_bxRule.l1, if_neg (by omega)]
    simp only [pickB]
    unfold afterB
    by_cases hb : b < 0
    · have hll : loads.length < 17592186044416 := by omega
      rw [if_pos hb, if_pos hb, if_pos hll, Option.bind_some, if_pos (by omega), if_pos (by simp only [List.length_append, List.length_cons, List.length_nil]; omega), if_pos (by omega), if_pos (by omega), if_pos (by omega), w64i i (by omega), Int.toNat_natCast, Int.toNat_natCast, rd_snoc, set_snoc]
    · rw [if_neg hb, if_neg hb, if_pos (by omega), if_pos (by omega), if_pos (by omega), if_pos (by omega), if_pos (by omega), w64i i (by omega), Int.toNat_natCast]
  | succ d ih =>
    intro k b hk hb0 hb1 hE
    have hklt : k < loads.length := by omega
    have hj : ∀ z, spec_bxRule.l1 (z + 1) l room r plan loads i b ord n i loads.length k = spec_bxRule.j2 z l room r plan loads i b k (rd loads k) ord n i loads.length k (skipB r room loads (rd l i) k) := by
      intro z
      rw [spec_bxRule.l1, if_pos (by omega), if_pos (by omega), if_pos (by omega), if_pos (by omega), if_pos (by omega)]
      unfold skipB
      by_cases h1 : wrap64 (rd loads k + rd l i) > room
      · rw [if_pos h1, decide_eq_true h1, Bool.true_or]
      · rw [if_neg h1, decide_eq_false h1, Bool.false_or]
        by_cases h2 : r = 110
        · rw [if_pos h2, decide_eq_true h2, Bool.true_and]
        · rw [if_neg h2, decide_eq_false h2, Bool.false_and]
    refine Ev.step hj ?_
    have hE' := hE
    simp only [pickB] at hE'
    refine Ev.step (f := fun z => spec_bxRule.l1 z l room r plan loads i (if skipB r room loads (rd l i) k = true then b else if takeB r loads b k = true then (k : Int) else b) ord n i loads.length ((k + 1 : Nat) : Int)) (fun z => ?_) (ih (k + 1) _ (by omega) (upd_in _ _ b k hb0 hb1).1 (upd_in _ _ b k hb0 hb1).2 hE')
    rw [spec_bxRule.j2]
    by_cases hs : skipB r room loads (rd l i) k = true
    · rw [if_pos hs, if_pos hs, w64i k (by omega)]
    · rw [if_neg hs, if_neg hs, w64i k (by omega)]
      unfold takeB
      by_cases hb : b < 0
      · rw [if_pos hb, decide_eq_true hb]; simp
      · have hb' : (0 : Int) ≤ b := by omega
        have hb2 : b < (loads.length : Int) := by omega
        rw [if_neg hb, decide_eq_false hb, Bool.false_or]
        by_cases h9 : r = 98
        · have h119 : ¬ r = 119 := by omega
          rw [if_pos h9, if_pos hb', if_pos hb2, decide_eq_true h9, decide_eq_false h119, Bool.true_and, Bool.false_and, Bool.or_false]
          by_cases hg : rd loads k > rd loads b
          · rw [if_pos hg, decide_eq_true hg]; simp
          · rw [if_neg hg, decide_eq_false hg, if_neg h119]; simp
        · rw [if_neg h9, decide_eq_false h9, Bool.false_and, Bool.false_or]
          by_cases h119 : r = 119
          · rw [if_pos h119, if_pos hb', if_pos hb2, decide_eq_true h119, Bool.true_and]
            by_cases hg : rd loads k < rd loads b
            · rw [if_pos hg, decide_eq_true hg]; simp
            · rw [if_neg hg, decide_eq_false hg]; simp
          · rw [if_neg h119, decide_eq_false h119, Bool.false_and]; simp
theorem bxRule_l0 (l : List Int) (room r : Int) (hl : l.length ≤ 9) (d : Nat) : ∀ (i : Nat) (plan loads : List Int), i + d = l.length → plan.length = i → loads.length ≤ i →
    Ev (fun k => spec_bxRule.l0 k l room r (plan ++ List.replicate d 0) loads (ordL l.length) l.length i) (packL (ruleB r room) (plan, loads) (l.drop i)).1 := by
  induction d with
  | zero =>
    intro i plan loads hi hp hlo
    refine Ev.step (f := fun _ => some plan) (fun k => ?_) ?_
    · rw [spec_bxRule.l0, if_neg (by omega)]; simp
    · rw [List.drop_of_length_le (by omega)]; exact Ev.now _
  | succ d ih =>
    intro i plan loads hi hp hlo
    have hlt : i < l.length := by omega
    refine Ev.step (f := fun k => spec_bxRule.l1 k l room r (plan ++ List.replicate (d + 1) 0) loads i (-1) (ordL l.length) l.length i loads.length ((0 : Nat) : Int)) (fun k => ?_) ?_
    · rw [spec_bxRule.l0, if_pos (by omega), if_pos (by omega), if_pos (by rw [ordL_len]; omega), ordL_rd hlt]; rfl
    · refine bxRule_l1 l room r _ loads _ _ i hlt (by simp; omega) hl (by omega) _ loads.length 0 (-1) (by omega) (by omega) (by omega) ?_
      rw [drop_rd hlt]
      show Ev _ (packL (ruleB r room) (packStep (ruleB r room) (plan, loads) (rd l i)) (l.drop (i + 1))).1
      have hrl := ruleB_lt r room loads (rd l i)
      have hset : ∀ x : Int, (plan ++ List.replicate (d + 1) 0).set i x = (plan ++ [x]) ++ List.replicate d 0 := by
        intro x; rw [List.set_append_right _ _ (by omega)]; simp [hp, List.replicate_succ]
      unfold afterB packStep
      simp only
      show Ev (fun z => if ruleB r room loads (rd l i) < 0 then _ else _) _
      by_cases hb : ruleB r room loads (rd l i) < 0
      · rw [if_pos hb]
        refine Ev.pos hb ?_
        rw [hset]
        exact ih (i + 1) _ _ (by omega) (by simp; omega) (by simp; omega)
      · rw [if_neg hb]
        refine Ev.neg hb ?_
        have : pickB r room loads (rd l i) loads.length 0 (-1) = ruleB r room loads (rd l i) := rfl
        rw [this, hset]
        exact ih (i + 1) _ _ (by omega) (by simp; omega) (by simp; omega)
theorem bxRule_ev (l : List Int) (room r : Int) (hl : l.length ≤ 9) : Ev (fun k => spec_bxRule.f k l (ordL l.length) room r) (packL (ruleB r room) ([], []) l).1 := by
  unfold spec_bxRule.f
  refine Ev.pos (by omega) (Ev.pos (by omega) ?_)
  have := bxRule_l0 l room r hl l.length 0 [] [] (by omega) rfl (Nat.le_refl _)
  rw [ordL_len]
  simpa using this

/-! ### two rules that agree while the loads are small -/
def SmallL (loads : List Int) : Prop := ∀ j : Nat, j < loads.length → 0 ≤ rd loads j ∧ rd loads j ≤ 100000
theorem rd_set_self' {l : List Int} {i : Nat} (h : i < l.length) (x : Int) : rd (l.set i x) i = x := by
  simp [rd, List.getD_eq_getElem?_getD, List.getElem?_set_self h]
theorem rd_set_ne' {l : List Int} {i j : Nat} (h : i ≠ j) (x : Int) : rd (l.set i x) j = rd l j := by
  simp [rd, List.getD_eq_getElem?_getD, List.getElem?_set_ne h]
theorem packL_congr (F G : List Int → Int → Int) (hF : ∀ l x, F l x < (l.length : Int)) (d : Nat) : ∀ (l : List Int) (plan loads : List Int) (m : Nat), (∀ x ∈ l, 1 ≤ x ∧ x ≤ 100) → m + l.length ≤ 100 → (∀ j : Nat, j < loads.length → 0 ≤ rd loads j ∧ rd loads j ≤ 100 * (m : Int)) → l.length = d →
    (loads.length ≤ m) → (∀ loads' x, 1 ≤ x → x ≤ 100 → loads'.length ≤ 100 → (∀ j : Nat, j < loads'.length → 0 ≤ rd loads' j ∧ rd loads' j ≤ 10000) → F loads' x = G loads' x) → packL F (plan, loads) l = packL G (plan, loads) l := by
  induction d with
  | zero => intro l plan loads m _ _ _ h _ _; rw [List.length_eq_zero_iff.1 h]; rfl
  | succ d ih =>
    intro l plan loads m hx hm hl hd hlm he
    match l, hd with
    | x :: xs, hd =>
      have hd' : xs.length = d := by simpa using hd
      have hx1 := hx x (by simp)
      have hfg := he loads x hx1.1 hx1.2 (by simp at hm; omega) (fun j hj => by have := hl j hj; simp at hm; omega)
      have hstep : packStep F (plan, loads) x = packStep G (plan, loads) x := by unfold packStep; simp only [hfg]
      show packL F (packStep F (plan, loads) x) xs = packL G (packStep G (plan, loads) x) xs
      rw [← hstep]
      simp only [List.length_cons] at hm
      have hlt := hF loads x
      unfold packStep
      simp only
      by_cases hb : F loads x < 0
      · rw [if_pos hb]
        refine ih xs _ _ (m + 1) (fun y hy => hx y (by simp [hy])) (by omega) (fun j hj => ?_) hd' (by simp; omega) he
        simp only [List.length_append, List.length_cons, List.length_nil] at hj
        rcases Nat.lt_or_ge j loads.length with h | h
        · have : rd (loads ++ [wrap64 (0 + x)]) j = rd loads j := by simp [rd, List.getD_eq_getElem?_getD, List.getElem?_append_left h]
          rw [this]; have := hl j h; omega
        · obtain rfl : j = loads.length := by omega
          rw [rd_snoc, w64 (by omega) (by omega)]; omega
      · rw [if_neg hb]
        refine ih xs _ _ (m + 1) (fun y hy => hx y (by simp [hy])) (by omega) (fun j hj => ?_) hd' (by simp; omega) he
        rw [List.length_set] at hj
        obtain ⟨b, hbb⟩ : ∃ b : Nat, F loads x = b := ⟨(F loads x).toNat, by omega⟩
        rw [hbb, Int.toNat_natCast]
        have hbl : b < loads.length := by omega
        have h2 := hl b hbl
        by_cases hjb : b = j
        · subst hjb
          rw [rd_set_self' hbl, w64 (by omega) (by omega)]; omega
        · rw [rd_set_ne' hjb]; have := hl j hj; omega

/-! ### a score's rule is the reference's -/
theorem pick_chosen (r room : Int) (sc : Int → Int) (loads : List Int) (x : Int) (hr : r ≠ 110) (hsc : ∀ (b k : Nat), b < loads.length → k < loads.length → (sc b < sc k ↔ (r = 98 ∧ rd loads k > rd loads b) ∨ (r = 119 ∧ rd loads k < rd loads b))) (d : Nat) : ∀ (k : Nat) (b : Int), k + d = loads.length → -1 ≤ b → b < k → chosenL sc x room (loads.drop k) k b = pickB r room loads x d k b := by
  induction d with
  | zero => intro k b hk h0 h1; rw [List.drop_of_length_le (by omega)]; rfl
  | succ d ih =>
    intro k b hk h0 h1
    have hlt : k < loads.length := by omega
    rw [drop_rd hlt]
    simp only [chosenL, pickB]
    have hif : (if wrap64 (rd loads k + x) ≤ room ∧ (b < 0 ∨ sc b < sc k) then (k : Int) else b) = (if skipB r room loads x k = true then b else if takeB r loads b k = true then (k : Int) else b) := by
      unfold skipB takeB
      by_cases h : wrap64 (rd loads k + x) ≤ room
      · have h' : ¬ wrap64 (rd loads k + x) > room := by omega
        by_cases hb : b < 0
        · simp [h, h', hr, hb]
        · obtain ⟨b', rfl⟩ : ∃ b' : Nat, b = b' := ⟨b.toNat, by omega⟩
          have := hsc b' k (by omega) hlt
          simp [h, h', hr, hb, this]
      · have h' : wrap64 (rd loads k + x) > room := by omega
        simp [h, h']
    rw [hif]
    rw [show ((k : Int) + 1) = ((k + 1 : Nat) : Int) by omega]
    exact ih (k + 1) _ (by omega) (upd_in _ _ b k h0 h1).1 (upd_in _ _ b k h0 h1).2
theorem score_eq (r room : Int) (G : List Int → Int → Int) (hr : r ≠ 110) (l : List Int) (hl : goodT l = true) (hG : ∀ (loads : List Int) (b k : Nat), (∀ j : Nat, j < loads.length → 0 ≤ rd loads j ∧ rd loads j ≤ 10000) → b < loads.length → k < loads.length → (G loads b < G loads k ↔ (r = 98 ∧ rd loads k > rd loads b) ∨ (r = 119 ∧ rd loads k < rd loads b))) :
    packL (scoreRule G room) ([], []) l = packL (ruleB r room) ([], []) l := by
  have hg := (goodT_iff l).1 hl
  refine packL_congr _ _ (fun l x => scoreRule_lt G room l x) l.length l [] [] 0 (fun x hx => ?_) (by omega) (fun j hj => by simp at hj) rfl (Nat.le_refl _) (fun loads x h1 h2 _ h3 => ?_)
  · obtain ⟨j, hj, rfl⟩ := List.mem_iff_getElem.1 hx
    rw [← rd_get hj]; exact hg.2 j hj
  · unfold scoreRule ruleB
    have := pick_chosen r room (G loads) loads x hr (fun b k hb hk => hG loads b k h3 hb hk) loads.length 0 (-1) (by omega) (by omega) (by omega)
    simpa using this
theorem byScore_ev (r room : Int) (G : List Int → Int → Int) (hr : r ≠ 110) (l : List Int) (hl : l.length ≤ 1048576) (hG : ∀ (loads : List Int) (b k : Nat), (∀ j : Nat, j < loads.length → 0 ≤ rd loads j ∧ rd loads j ≤ 10000) → b < loads.length → k < loads.length → (G loads b < G loads k ↔ (r = 98 ∧ rd loads k > rd loads b) ∨ (r = 119 ∧ rd loads k < rd loads b))) :
    Ev (fun k => byScoreF G k l room) (if askedB l room = true then ((packL (ruleB r room) ([], []) l).1, true) else ([], false)) := by
  unfold byScoreF
  refine Ev.bind (areRoomy_ev l room hl) (Ev.ite (fun h => ?_) (fun h => ?_))
  · rw [if_pos h]
    unfold askedB at h
    rw [Bool.and_eq_true] at h
    rw [score_eq r room G hr l h.1 hG]; exact Ev.now _
  · rw [if_neg h]; exact Ev.now _
theorem pack_len (F : List Int → Int → Int) : ∀ (l : List Int) (s : List Int × List Int), (packL F s l).1.length = s.1.length + l.length
  | [], s => by simp [packL]
  | x :: xs, s => by
    show (packL F (packStep F s x) xs).1.length = _
    rw [pack_len F xs, (packStep_len F s x).1, List.length_cons]; omega
/-- The reference's rule, as each of its five functions calls it. -/
theorem specRule_ev (r room : Int) (l : List Int) (hl : l.length ≤ 1048576) : Ev (fun k => (spec_bxAsked.f k l room).bind fun t => (if t = true then ((spec_bxOrder.f k l).bind fun t2 => ((spec_bxRule.f k l t2 room r).bind fun t3 => (some (t3, true)))) else (some (([] : List Int), false)))) (if askedB l room = true then ((packL (ruleB r room) ([], []) l).1, true) else ([], false)) := by
  refine Ev.bind (bxAsked_ev l room hl) (Ev.ite (fun h => ?_) (fun h => ?_))
  · rw [if_pos h]
    unfold askedB at h
    rw [Bool.and_eq_true, goodT_iff] at h
    exact Ev.bind (bxOrder_ev l hl) (Ev.bind (bxRule_ev l room r h.1.1.2) (Ev.now _))
  · rw [if_neg h]; exact Ev.now _
theorem rule_len (r room : Int) (l : List Int) (hl : l.length ≤ 1048576) : (if askedB l room = true then ((packL (ruleB r room) ([], []) l).1, true) else (([] : List Int), false)).1.length ≤ 1048576 := by
  split
  · rw [pack_len]; simpa using hl
  · simp

end Go.Proofs.Ytclfjjinfbfajaa.Q
