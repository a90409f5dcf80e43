/- The greatest things first: the order by insertion is the program's stable sort; the rule of boxes over an order; the boxes' names. Conditions: at most 9 things from 1 to 100. -/
import Derived.Test.YtchbjdoneanhpaaPx0
import Derived.Test.YtchbjdoneanhpaaPx3
import Derived.Test.YtchbjdoneanhpaaPx4
import Derived.Test.YtchbjdoneanhpaaPx5
import Derived.Test.YtchbjdoneanhpaaPx6
import Derived.Test.YtchbjdoneanhpaaPx10
import Derived.Test.YtchbjdoneanhpaaPx11
import Derived.Test.YtchbjdoneanhpaaPx14
import Derived.Test.YtchbjdoneanhpaaPx16
import Derived.Test.YtchbjdoneanhpaaPx18
import Derived.Test.YtchbjdoneanhpaaQRule
import Derived.Test.YtchbjdoneanhpaaQName
namespace Go.Proofs.Ytchbjdoneanhpaa.Q
open Go.RowKit Go.Proofs.Ytchbjdoneanhpaa.P Go.Proofs.YtchbjdoneanhpaaW.PrintWords Go.Proofs.YtchbjdoneanhpaaW.PrintLast
set_option linter.unusedVariables false
set_option linter.unusedSimpArgs false

/-! ### the reference's names -/
def scanF (x : Int) : List Int → Nat → Int → Int
  | [], _, c => c
  | y :: ys, k, c => scanF x ys (k + 1) (if y = x then (k : Int) else c)
theorem scanF_not (x : Int) : ∀ (l : List Int) (k : Nat) (c : Int), x ∉ l → scanF x l k c = c
  | [], k, c, _ => rfl
  | y :: ys, k, c, h => by
    rw [scanF, if_neg (by rintro rfl; simp at h)]
    exact scanF_not x ys (k + 1) c (fun h2 => h (by simp [h2]))
theorem idxF_neg (x : Int) : ∀ (l : List Int) (k : Nat), idxF x l k < 0 ↔ x ∉ l
  | [], k => by simp [idxF]
  | y :: ys, k => by
    have := idxF_neg x ys (k + 1)
    rw [idxF]
    by_cases h : x = y
    · rw [if_pos h]; simp [h]
    · rw [if_neg h, this]; simp [h]
theorem scan_idx (x : Int) : ∀ (l : List Int) (k : Nat), l.Nodup → scanF x l k (-1) = idxF x l k
  | [], k, _ => rfl
  | y :: ys, k, h => by
    rw [List.nodup_cons] at h
    rw [scanF, idxF]
    by_cases e : x = y
    · subst e
      rw [if_pos rfl, if_pos rfl, scanF_not _ _ _ _ h.1]
    · rw [if_neg (fun h => e h.symm), if_neg e]
      exact scan_idx x ys (k + 1) h.2
theorem idxF_ge (x : Int) : ∀ (l : List Int) (k : Nat), -1 ≤ idxF x l k
  | [], k => by simp [idxF]
  | y :: ys, k => by
    have := idxF_ge x ys (k + 1)
    rw [idxF]; split <;> omega
theorem bxNamed_l1 (l names out : List Int) (b : Int) (i : Nat) (hi : i ≤ 1000) (hn : names.length ≤ 1000) (ho : out.length ≤ 1000) (R : List Int) (d : Nat) : ∀ (k : Nat) (c : Int), k + d = names.length →
    Ev (fun z => if scanF b (names.drop k) k c < 0 then spec_bxNamed.l0 z (names ++ [b]) (out ++ [(names.length : Int)]) l l.length ((i + 1 : Nat) : Int) else spec_bxNamed.l0 z names (out ++ [scanF b (names.drop k) k c]) l l.length ((i + 1 : Nat) : Int)) R →
    Ev (fun z => spec_bxNamed.l1 z names out b c l l.length i names.length k) R := by
  induction d with
  | zero =>
    intro k c hk hR
    rw [List.drop_of_length_le (by omega), show scanF b [] k c = c from rfl] at hR
    refine Ev.step (fun z => ?_) hR
    rw [spec_bxNamed.l1, if_neg (by omega)]
    by_cases h : c < 0
    · rw [if_pos h, if_pos h, if_pos (by omega), if_pos (by omega), w64i i (by omega)]
    · rw [if_neg h, if_neg h, if_pos (by omega), w64i i (by omega)]
  | succ d ih =>
    intro k c hk hR
    have hlt : k < names.length := by omega
    rw [drop_rd hlt, show scanF b (rd names k :: names.drop (k + 1)) k c = scanF b (names.drop (k + 1)) (k + 1) (if rd names k = b then (k : Int) else c) from rfl] at hR
    refine Ev.step (f := fun z => spec_bxNamed.l1 z names out b (if rd names k = b then (k : Int) else c) l l.length i names.length ((k + 1 : Nat) : Int)) (fun z => ?_) (ih (k + 1) _ (by omega) hR)
    rw [spec_bxNamed.l1, if_pos (by omega), if_pos (by omega), if_pos (by omega), w64i k (by omega)]
    by_cases h : rd names k = b
    · rw [if_pos h, if_pos h]
    · rw [if_neg h, if_neg h]
theorem bxNamed_l0 (l : List Int) (hl : l.length ≤ 900) (d : Nat) : ∀ (i : Nat) (names out : List Int), i + d = l.length → out.length = i → names.length ≤ i → names.Nodup → Ev (fun k => spec_bxNamed.l0 k names out l l.length i) (out ++ nameL names (l.drop i)) := by
  induction d with
  | zero =>
    intro i names out hi h1 h2 h3
    rw [List.drop_of_length_le (by omega)]
    refine Ev.step (f := fun _ => some out) (fun k => ?_) (by simp only [nameL, List.append_nil]; exact Ev.now _)
    rw [spec_bxNamed.l0, if_neg (by omega)]
  | succ d ih =>
    intro i names out hi h1 h2 h3
    have hlt : i < l.length := by omega
    refine Ev.step (fun k => by rw [spec_bxNamed.l0, if_pos (by omega), if_pos (by omega), if_pos (by omega)]) ?_
    refine bxNamed_l1 l names out (rd l i) i (by omega) (by omega) (by omega) _ names.length 0 (-1) (by omega) ?_
    rw [List.drop_zero, scan_idx _ _ _ h3, drop_rd hlt]
    simp only [nameL]
    by_cases c : idxF (rd l i) names 0 < 0
    · rw [if_neg (show ¬ idxF (rd l i) names 0 ≥ 0 by omega)]
      refine Ev.pos c ?_
      have hnot := (idxF_neg _ _ _).1 c
      have := ih (i + 1) (names ++ [rd l i]) (out ++ [(names.length : Int)]) (by omega) (by simp; omega) (by simp; omega) (by
        rw [List.nodup_append]
        refine ⟨h3, by simp, ?_⟩
        intro a ha b hb
        simp only [List.mem_singleton] at hb
        subst hb
        rintro rfl
        exact hnot ha)
      simpa using this
    · rw [if_pos (show idxF (rd l i) names 0 ≥ 0 by omega)]
      refine Ev.neg c ?_
      have := ih (i + 1) names (out ++ [idxF (rd l i) names 0]) (by omega) (by simp; omega) (by omega) h3
      simpa using this
theorem bxNamed_ev (l : List Int) (hl : l.length ≤ 900) : Ev (fun k => spec_bxNamed.f k l) (nameL [] l) := by
  unfold spec_bxNamed.f
  exact bxNamed_l0 l hl l.length 0 [] [] (Nat.zero_add _) rfl (Nat.le_refl _) List.nodup_nil
theorem nameL_len : ∀ (seen l : List Int), (nameL seen l).length = l.length
  | seen, [] => rfl
  | seen, b :: bs => by
    rw [nameL]
    split
    · rw [List.length_cons, nameL_len seen bs, List.length_cons]
    · rw [List.length_cons, nameL_len _ bs, List.length_cons]
/-! ### the order by insertion -/
def atG (l : List Int) (x : Int) (ord : List Int) : Nat → Nat
  | 0 => 0
  | k + 1 => if rd l (rd ord (k : Int)) < x then atG l x ord k else k + 1
theorem atG_le (l : List Int) (x : Int) (ord : List Int) : ∀ k, atG l x ord k ≤ k
  | 0 => Nat.le_refl _
  | k + 1 => by
    have := atG_le l x ord k
    rw [atG]; split <;> omega
def insG (l ord : List Int) (i : Nat) : List Int := ord.take (atG l (rd l i) ord ord.length) ++ (i : Int) :: ord.drop (atG l (rd l i) ord ord.length)
def ordG (l : List Int) : Nat → List Int
  | 0 => []
  | i + 1 => insG l (ordG l i) i
theorem insG_len (l ord : List Int) (i : Nat) : (insG l ord i).length = ord.length + 1 := by
  have := atG_le l (rd l i) ord ord.length
  unfold insG
  simp only [List.length_append, List.length_cons, List.length_take, List.length_drop]
  omega
theorem ordG_len (l : List Int) : ∀ i, (ordG l i).length = i
  | 0 => rfl
  | i + 1 => by rw [ordG, insG_len, ordG_len l i]
theorem insG_mem (l ord : List Int) (i : Nat) (y : Int) : y ∈ insG l ord i ↔ y = (i : Int) ∨ y ∈ ord := by
  unfold insG
  rw [List.mem_append, List.mem_cons]
  conv => rhs; rhs; rw [← List.take_append_drop (atG l (rd l i) ord ord.length) ord, List.mem_append]
  grind
theorem ordG_mem (l : List Int) : ∀ (i : Nat) (y : Int), y ∈ ordG l i ↔ ∃ j : Nat, j < i ∧ y = (j : Int)
  | 0, y => by simp [ordG]
  | i + 1, y => by
    rw [ordG, insG_mem, ordG_mem l i]
    constructor
    · rintro (rfl | ⟨j, hj, rfl⟩)
      · exact ⟨i, by omega, rfl⟩
      · exact ⟨j, by omega, rfl⟩
    · rintro ⟨j, hj, rfl⟩
      by_cases h : j = i
      · subst h; exact .inl rfl
      · exact .inr ⟨j, by omega, rfl⟩
theorem own_eq (x : List Int) (h : x.length < 17592186044416) : spec_l1Own.f x = some x := by
  unfold spec_l1Own.f
  rw [Option.bind_some, if_pos (by simpa using h)]
  simp
theorem gf_l1 (l : List Int) (room : Int) (hl : l.length ≤ 9) (ord : List Int) (i : Nat) (hi : i < l.length) (hlen : ord.length = i) (hm : ∀ y ∈ ord, 0 ≤ y ∧ y < (l.length : Int)) (R : List Int × Bool) (hR : Ev (fun z => spec_GreatestFirst.l0 z l room (insG l ord i) l l.length ((i + 1 : Nat) : Int)) R) :
    ∀ (a : Nat), a ≤ ord.length → atG l (rd l i) ord a = atG l (rd l i) ord ord.length → Ev (fun z => spec_GreatestFirst.l1 z l room ord i (rd l i) a l l.length i) R
  | 0, ha, he => by
    have he0 : atG l (rd l i) ord ord.length = 0 := by rw [← he]; rfl
    unfold insG at hR
    rw [he0] at hR
    refine Ev.step (fun z => ?_) hR
    rw [spec_GreatestFirst.l1, if_neg (by omega), if_pos (by omega), if_pos (by omega), own_eq _ (by simp), Option.bind_some, if_pos (by simp), Option.bind_some, Option.bind_some, if_pos (by simp; omega), w64i i (by omega)]
    simp
  | a + 1, ha, he => by
    have hlt : a < ord.length := by omega
    have hw : wrap64 (((a + 1 : Nat) : Int) - 1) = (a : Int) := by rw [w64 (by omega) (by omega)]; omega
    have hb := hm (rd ord a) (by rw [rd_get hlt]; exact List.getElem_mem hlt)
    rw [atG] at he
    by_cases c : rd l (rd ord (a : Int)) < rd l i
    · rw [if_pos c] at he
      refine Ev.step (fun z => ?_) (gf_l1 l room hl ord i hi hlen hm R hR a (by omega) he)
      rw [spec_GreatestFirst.l1, if_pos (by omega), hw, if_pos (by omega), if_pos (by omega), if_pos (by omega), if_pos (by omega), if_pos c]
    · rw [if_neg c] at he
      unfold insG at hR
      rw [← he] at hR
      refine Ev.step (fun z => ?_) hR
      rw [spec_GreatestFirst.l1, if_pos (by omega), hw, if_pos (by omega), if_pos (by omega), if_pos (by omega), if_pos (by omega), if_neg c, if_pos (by omega), if_pos (by omega), own_eq _ (by simp; omega), Option.bind_some, if_pos (by simp; omega), Option.bind_some, Option.bind_some, if_pos (by simp; omega), w64i i (by omega), Int.toNat_natCast]
      simp
theorem gf_l0 (l : List Int) (room : Int) (hl : l.length ≤ 9) (R : List Int × Bool) (hR : Ev (fun z => (spec_bxRule.f z l (ordG l l.length) room 102).bind fun t156 => ((spec_bxNamed.f z t156).bind fun t159 => (some (t159, true)))) R) (d : Nat) : ∀ i : Nat, i + d = l.length → Ev (fun z => spec_GreatestFirst.l0 z l room (ordG l i) l l.length i) R := by
  induction d with
  | zero =>
    intro i hi
    obtain rfl : i = l.length := by omega
    refine Ev.step (fun z => ?_) hR
    rw [spec_GreatestFirst.l0, if_neg (by omega)]
  | succ d ih =>
    intro i hi
    refine Ev.step (fun z => by rw [spec_GreatestFirst.l0, if_pos (by omega), if_pos (by omega), if_pos (by omega)]) ?_
    refine gf_l1 l room hl (ordG l i) i (by omega) (ordG_len l i) (fun y hy => ?_) R (ih (i + 1) (by omega)) _ (Nat.le_refl _) rfl
    obtain ⟨j, hj, rfl⟩ := (ordG_mem l i y).1 hy
    omega
/-! ### the program's stable sort comes to it -/
theorem rd_bd (l : List Int) (h : ∀ j : Nat, j < l.length → 1 ≤ rd l j ∧ rd l j ≤ 100) (y : Int) : 0 ≤ rd l y ∧ rd l y ≤ 100 := by
  have : ∀ n : Nat, 0 ≤ l.getD n 0 ∧ l.getD n 0 ≤ 100 := by
    intro n
    by_cases hn : n < l.length
    · have := h n hn
      simp only [rd, Int.toNat_natCast] at this
      omega
    · rw [List.getD_eq_getElem?_getD, List.getElem?_eq_none (by omega)]; simp
  exact this y.toNat
theorem gfC_lt (l : List Int) (h : ∀ j : Nat, j < l.length → 1 ≤ rd l j ∧ rd l j ≤ 100) (x y : Int) : gfC l x y < 0 ↔ rd l y < rd l x := by
  have h1 := rd_bd l h x
  have h2 := rd_bd l h y
  unfold gfC
  rw [w64 (by omega) (by omega)]
  omega
theorem rd_app_lt {a : List Int} {i : Nat} (h : i < a.length) (r : List Int) : rd (a ++ r) (i : Int) = rd a (i : Int) := by
  simp [rd, List.getD_eq_getElem?_getD, List.getElem?_append_left h]
theorem rd_app_at (a : List Int) (x : Int) (r : List Int) : rd (a ++ x :: r) (a.length : Nat) = x := by
  simp [rd, List.getD_eq_getElem?_getD]
theorem insI_gf (l : List Int) (h : ∀ j : Nat, j < l.length → 1 ≤ rd l j ∧ rd l j ≤ 100) (x : Int) (P R : List Int) : ∀ j : Nat, j ≤ P.length → insI (gfC l) j (P.take j ++ x :: (P.drop j ++ R)) = P.take (atG l (rd l x) P j) ++ x :: (P.drop (atG l (rd l x) P j) ++ R)
  | 0, _ => by simp [insI, atG]
  | j + 1, hj => by
    have hlt : j < P.length := by omega
    have htl : (P.take (j + 1)).length = j + 1 := by simp; omega
    have e1 : rd (P.take (j + 1) ++ x :: (P.drop (j + 1) ++ R)) ((j + 1 : Nat) : Int) = x := by
      have := rd_app_at (P.take (j + 1)) x (P.drop (j + 1) ++ R)
      rwa [htl] at this
    have e2 : rd (P.take (j + 1) ++ x :: (P.drop (j + 1) ++ R)) (j : Int) = rd P (j : Int) := by
      rw [rd_app_lt (by omega), rd_get (by omega), rd_get hlt, List.getElem_take]
    have e3 : swpI (P.take (j + 1) ++ x :: (P.drop (j + 1) ++ R)) j = P.take j ++ x :: (P.drop j ++ R) := by
      unfold swpI
      rw [e1, e2, List.set_append_right _ _ (by omega), htl, Nat.sub_self, List.set_cons_zero, List.take_succ_eq_append_getElem hlt, List.append_assoc, List.set_append_right _ _ (by simp; omega)]
      have hz : j - (P.take j).length = 0 := by simp; omega
      have hd : P.drop j = P[j] :: P.drop (j + 1) := List.drop_eq_getElem_cons hlt
      rw [hz, List.singleton_append, List.set_cons_zero, rd_get hlt, hd]
      simp only [List.cons_append]
    rw [insI, e1, e2, e3]
    by_cases c : rd l (rd P (j : Int)) < rd l x
    · rw [if_pos ((gfC_lt l h _ _).2 c), insI_gf l h x P R j (by omega), atG, if_pos c]
    · rw [if_neg (fun h2 => c ((gfC_lt l h _ _).1 h2)), atG, if_neg c]
theorem sortI_gf (l : List Int) (h : ∀ j : Nat, j < l.length → 1 ≤ rd l j ∧ rd l j ≤ 100) (n : Nat) : ∀ (d i : Nat), i + d ≤ n → sortI (gfC l) d i (ordG l i ++ (ordL n).drop i) = ordG l (i + d) ++ (ordL n).drop (i + d)
  | 0, i, _ => rfl
  | d + 1, i, hi => by
    have hlt : i < (ordL n).length := by rw [ordL_len]; omega
    have hstep : insI (gfC l) i (ordG l i ++ (ordL n).drop i) = ordG l (i + 1) ++ (ordL n).drop (i + 1) := by
      rw [drop_rd hlt, ordL_rd (by rw [ordL_len] at hlt; exact hlt)]
      have hL := ordG_len l i
      have := insI_gf l h (i : Int) (ordG l i) ((ordL n).drop (i + 1)) i (by omega)
      rw [List.take_of_length_le (by omega), List.drop_of_length_le (show (ordG l i).length ≤ i by omega), List.nil_append] at this
      rw [this, ordG, insG, hL]
      simp
    rw [sortI, hstep, sortI_gf l h n d (i + 1) (by omega), show i + 1 + d = i + (d + 1) by omega]
theorem upTo_l0 (n : Nat) (hn : n ≤ 1000) (d : Nat) : ∀ i : Nat, i + d = n → Ev (fun k => impl_upTo.l0 k (ordL i) n i) (ordL n) := by
  induction d with
  | zero =>
    intro i hi
    obtain rfl : i = n := by omega
    refine Ev.step (f := fun _ => some (ordL i)) (fun k => ?_) (Ev.now _)
    rw [impl_upTo.l0, if_neg (by omega)]
  | succ d ih =>
    intro i hi
    refine Ev.step (fun k => ?_) (ih (i + 1) (by omega))
    rw [impl_upTo.l0, if_pos (by omega), if_pos (by rw [ordL_len]; omega), w64i i (by omega), ordL_succ]
theorem upTo_ev (n : Nat) (hn : n ≤ 1000) : Ev (fun k => impl_upTo.f k (n : Int)) (ordL n) := by
  unfold impl_upTo.f
  exact upTo_l0 n hn n 0 (Nat.zero_add _)
/-! ### the rule over an order -/
noncomputable def afterG (l : List Int) (room r : Int) (plan loads : List Int) (ord : List Int) (n : Int) (i idx : Nat) (b : Int) (k : Nat) : Option (List Int) :=
  if b < 0 then spec_bxRule.l0 k l room r (plan.set i (loads.length : Int)) (loads ++ [wrap64 (0 + rd l i)]) ord n ((idx + 1 : Nat) : Int)
  else spec_bxRule.l0 k l room r (plan.set i b) (loads.set b.toNat (wrap64 (rd loads b + rd l i))) ord n ((idx + 1 : Nat) : Int)
theorem bxRuleG_l1 (l : List Int) (room r : Int) (plan loads ord : List Int) (n : Int) (i idx : Nat) (hidx : idx ≤ 1000) (hi : i < l.length) (hp : plan.length = l.length) (hl : l.length ≤ 9) (hlo : loads.length ≤ 9) (res : List Int) (d : Nat) : ∀ (k : Nat) (b : Int), k + d = loads.length → -1 ≤ b → b < k →
    Ev (fun z => afterG l room r plan loads ord n i idx (pickB r room loads (rd l i) d k b) z) res → Ev (fun z => spec_bxRule.l1 z l room r plan loads i b ord n idx loads.length k) res := by
  induction d with
  | zero =>
    intro k b hk hb0 hb1 hE
    refine Ev.step (fun z => ?_) hE
    rw [spec_bxRule.l1, if_neg (by omega)]
    simp only [pickB]
    unfold afterG
    by_cases hb : b < 0
    · have hll : loads.length < 17592186044416 := by omega
      rw [if_pos hb, if_pos hb, if_pos hll, Option.bind_some, if_pos (by omega), if_pos (by simp only [List.length_append, List.length_cons, List.length_nil]; omega), if_pos (by omega), if_pos (by omega), if_pos (by omega), w64i idx (by omega), Int.toNat_natCast, Int.toNat_natCast, rd_snoc, set_snoc]
    · rw [if_neg hb, if_neg hb, if_pos (by omega), if_pos (by omega), if_pos (by omega), if_pos (by omega), if_pos (by omega), w64i idx (by omega), Int.toNat_natCast]
  | succ d ih =>
    intro k b hk hb0 hb1 hE
    have hklt : k < loads.length := by omega
    have hj : ∀ z, spec_bxRule.l1 (z + 1) l room r plan loads i b ord n idx loads.length k = spec_bxRule.j2 z l room r plan loads i b k (rd loads k) ord n idx loads.length k (skipB r room loads (rd l i) k) := by
      intro z
      rw [spec_bxRule.l1, if_pos (by omega), if_pos (by omega), if_pos (by omega), if_pos (by omega), if_pos (by omega)]
      unfold skipB
      by_cases h1 : wrap64 (rd loads k + rd l i) > room
      · rw [if_pos h1, decide_eq_true h1, Bool.true_or]
      · rw [if_neg h1, decide_eq_false h1, Bool.false_or]
        by_cases h2 : r = 110
        · rw [if_pos h2, decide_eq_true h2, Bool.true_and]
        · rw [if_neg h2, decide_eq_false h2, Bool.false_and]
    refine Ev.step hj ?_
    have hE' := hE
    simp only [pickB] at hE'
    refine Ev.step (f := fun z => spec_bxRule.l1 z l room r plan loads i (if skipB r room loads (rd l i) k = true then b else if takeB r loads b k = true then (k : Int) else b) ord n idx loads.length ((k + 1 : Nat) : Int)) (fun z => ?_) (ih (k + 1) _ (by omega) (upd_in _ _ b k hb0 hb1).1 (upd_in _ _ b k hb0 hb1).2 hE')
    rw [spec_bxRule.j2]
    by_cases hs : skipB r room loads (rd l i) k = true
    · rw [if_pos hs, if_pos hs, w64i k (by omega)]
    · rw [if_neg hs, if_neg hs, w64i k (by omega)]
      unfold takeB
      by_cases hb : b < 0
      · rw [if_pos hb, decide_eq_true hb]; simp
      · have hb' : (0 : Int) ≤ b := by omega
        have hb2 : b < (loads.length : Int) := by omega
        rw [if_neg hb, decide_eq_false hb, Bool.false_or]
        by_cases h9 : r = 98
        · have h119 : ¬ r = 119 := by omega
          rw [if_pos h9, if_pos hb', if_pos hb2, decide_eq_true h9, decide_eq_false h119, Bool.true_and, Bool.false_and, Bool.or_false]
          by_cases hg : rd loads k > rd loads b
          · rw [if_pos hg, decide_eq_true hg]; simp
          · rw [if_neg hg, decide_eq_false hg, if_neg h119]; simp
        · rw [if_neg h9, decide_eq_false h9, Bool.false_and, Bool.false_or]
          by_cases h119 : r = 119
          · rw [if_pos h119, if_pos hb', if_pos hb2, decide_eq_true h119, Bool.true_and]
            by_cases hg : rd loads k < rd loads b
            · rw [if_pos hg, decide_eq_true hg]; simp
            · rw [if_neg hg, decide_eq_false hg]; simp
          · rw [if_neg h119, decide_eq_false h119, Bool.false_and]; simp
theorem pack_from (F : List Int → Int → Int) : ∀ (xs plan loads : List Int), (packL F (plan, loads) xs).1 = plan ++ (packL F ([], loads) xs).1
  | [], plan, loads => by simp [packL]
  | x :: xs, plan, loads => by
    show (packL F (packStep F (plan, loads) x) xs).1 = plan ++ (packL F (packStep F ([], loads) x) xs).1
    unfold packStep
    simp only
    split
    · rw [pack_from F xs (plan ++ _), pack_from F xs ([] ++ _)]; simp
    · rw [pack_from F xs (plan ++ _), pack_from F xs ([] ++ _)]; simp
theorem bxRuleG_l0 (l : List Int) (room r : Int) (hl : l.length ≤ 9) (ord : List Int) (hord : ∀ y ∈ ord, 0 ≤ y ∧ y < (l.length : Int)) (ho : ord.length ≤ 9) (d : Nat) : ∀ (idx : Nat) (plan loads : List Int), idx + d = ord.length → plan.length = l.length → loads.length ≤ idx →
    Ev (fun k => spec_bxRule.l0 k l room r plan loads ord ord.length idx) (placeF (ord.drop idx) (packL (ruleB r room) ([], loads) ((ord.drop idx).map (rd l))).1 plan) := by
  induction d with
  | zero =>
    intro idx plan loads hi hp hlo
    rw [List.drop_of_length_le (by omega)]
    refine Ev.step (f := fun _ => some plan) (fun k => ?_) (Ev.now _)
    rw [spec_bxRule.l0, if_neg (by omega)]
  | succ d ih =>
    intro idx plan loads hi hp hlo
    have hlt : idx < ord.length := by omega
    obtain ⟨i, hii⟩ : ∃ i : Nat, rd ord idx = (i : Int) := ⟨(rd ord idx).toNat, by have := hord (rd ord idx) (by rw [rd_get hlt]; exact List.getElem_mem hlt); omega⟩
    have hil : i < l.length := by have := hord (rd ord idx) (by rw [rd_get hlt]; exact List.getElem_mem hlt); omega
    refine Ev.step (f := fun k => spec_bxRule.l1 k l room r plan loads i (-1) ord ord.length idx loads.length ((0 : Nat) : Int)) (fun k => ?_) ?_
    · rw [spec_bxRule.l0, if_pos (by omega), if_pos (by omega), if_pos (by omega), hii]; rfl
    · refine bxRuleG_l1 l room r plan loads ord _ i idx (by omega) hil hp hl (by omega) _ loads.length 0 (-1) (by omega) (by omega) (by omega) ?_
      rw [drop_rd hlt, hii, List.map_cons]
      have hrl := ruleB_lt r room loads (rd l i)
      have hpk : pickB r room loads (rd l i) loads.length 0 (-1) = ruleB r room loads (rd l i) := rfl
      rw [hpk]
      unfold afterG
      have e : (packL (ruleB r room) ([], loads) (rd l (i : Int) :: (ord.drop (idx + 1)).map (rd l))).1 = (packL (ruleB r room) (packStep (ruleB r room) ([], loads) (rd l i)) ((ord.drop (idx + 1)).map (rd l))).1 := rfl
      rw [e]
      unfold packStep
      simp only
      by_cases hb : ruleB r room loads (rd l i) < 0
      · rw [if_pos hb]
        refine Ev.pos hb ?_
        rw [pack_from, List.nil_append, List.singleton_append, placeF, Int.toNat_natCast]
        exact ih (idx + 1) _ _ (by omega) (by simpa using hp) (by simp; omega)
      · rw [if_neg hb]
        refine Ev.neg hb ?_
        rw [pack_from, List.nil_append, List.singleton_append, placeF, Int.toNat_natCast]
        exact ih (idx + 1) _ _ (by omega) (by simpa using hp) (by simp; omega)
/-! ### the same things in another order -/
theorem mostL_mem : ∀ (l : List Int) (a : Int), mostL a l = a ∨ mostL a l ∈ l
  | [], a => .inl rfl
  | x :: xs, a => by
    rw [mostL]
    rcases mostL_mem xs (mx a x) with h | h
    · rw [h]
      have : mx a x = a ∨ mx a x = x := by unfold mx; omega
      rcases this with h | h
      · exact .inl h
      · exact .inr (by rw [h]; simp)
    · exact .inr (by simp [h])
theorem mostL_same (l m : List Int) (h : ∀ x, x ∈ l ↔ x ∈ m) : mostL 0 l = mostL 0 m := by
  have h1 := mostL_ge l 0
  have h2 := mostL_ge m 0
  rcases mostL_mem l 0 with a | a <;> rcases mostL_mem m 0 with b | b
  · omega
  · have := h1.2 _ ((h _).2 b); omega
  · have := h2.2 _ ((h _).1 a); omega
  · have := h1.2 _ ((h _).2 b); have := h2.2 _ ((h _).1 a); omega
theorem sizes_mem (l : List Int) (x : Int) : x ∈ (ordG l l.length).map (rd l) ↔ x ∈ l := by
  rw [List.mem_map]
  constructor
  · rintro ⟨y, hy, rfl⟩
    obtain ⟨j, hj, rfl⟩ := (ordG_mem l l.length y).1 hy
    rw [rd_get hj]; exact List.getElem_mem hj
  · intro hx
    obtain ⟨j, hj, rfl⟩ := List.getElem_of_mem hx
    exact ⟨(j : Int), (ordG_mem l l.length _).2 ⟨j, hj, rfl⟩, rd_get hj⟩
theorem asked_sizes (l : List Int) (room : Int) (h : askedB l room = true) : askedB ((ordG l l.length).map (rd l)) room = true := by
  unfold askedB at h ⊢
  rw [Bool.and_eq_true] at h ⊢
  obtain ⟨h1, h2⟩ := h
  have hg := (goodT_iff l).1 h1
  refine ⟨(goodT_iff _).2 ⟨by rw [List.length_map, ordG_len]; exact hg.1, fun j hj => ?_⟩, by rw [mostL_same _ l (sizes_mem l)]; exact h2⟩
  have hm : rd ((ordG l l.length).map (rd l)) j ∈ l := by
    rw [← sizes_mem l, rd_get hj]; exact List.getElem_mem hj
  obtain ⟨i, hi, he⟩ := List.getElem_of_mem hm
  rw [← he, ← rd_get hi]
  exact hg.2 i hi
theorem greatest_both (l : List Int) (room : Int) (hl : l.length ≤ 1048576) : ∃ v b, Ev (fun k => spec_GreatestFirst.f k l room) (v, b) ∧ Ev (fun k => impl_GreatestFirst.f k l room) (v, b) ∧ v.length ≤ 1048576 := by
  unfold spec_GreatestFirst.f impl_GreatestFirst.f
  by_cases h : askedB l room = true
  · have hg : goodT l = true := by unfold askedB at h; rw [Bool.and_eq_true] at h; exact h.1
    have hg := (goodT_iff l).1 hg
    have hol := ordG_len l l.length
    have hom : ∀ y ∈ ordG l l.length, 0 ≤ y ∧ y < (l.length : Int) := fun y hy => by obtain ⟨j, hj, rfl⟩ := (ordG_mem l l.length y).1 hy; omega
    obtain ⟨bx, hbx⟩ : ∃ bx, bx = (packL (ruleB 102 room) ([], []) ((ordG l l.length).map (rd l))).1 := ⟨_, rfl⟩
    have hbl : bx.length = l.length := by rw [hbx, pack_len]; simp [hol]
    have hrule : Ev (fun k => spec_bxRule.f k l (ordG l l.length) room 102) (placeF (ordG l l.length) bx (List.replicate l.length 0)) := by
      unfold spec_bxRule.f
      refine Ev.pos (by omega) (Ev.pos (by omega) ?_)
      have := bxRuleG_l0 l room 102 hg.1.2 (ordG l l.length) hom (by omega) l.length 0 (List.replicate l.length 0) [] (by omega) (by simp) (Nat.le_refl _)
      rw [List.drop_zero, ← hbx] at this
      simpa using this
    have hpl : (placeF (ordG l l.length) bx (List.replicate l.length 0)).length = l.length := by rw [placeF_len]; simp
    have hsort : sortI (gfC l) ((ordL l.length).length - 1) 1 (ordL l.length) = ordG l l.length := by
      have h1 := sortI_gf l hg.2 l.length (l.length - 1) 1 (by omega)
      have e1 : ordG l 1 = [0] := by simp [ordG, insG, atG]
      have e2 : ordL l.length = [0] ++ (ordL l.length).drop 1 := by
        have := drop_rd (l := ordL l.length) (i := 0) (by rw [ordL_len]; omega)
        rw [List.drop_zero] at this
        conv => lhs; rw [this]
        rw [ordL_rd (by omega)]; rfl
      rw [e1, ← e2, show 1 + (l.length - 1) = l.length by omega, List.drop_of_length_le (by rw [ordL_len]; omega), List.append_nil] at h1
      rw [ordL_len]; exact h1
    refine ⟨nameL [] (placeF (ordG l l.length) bx (List.replicate l.length 0)), true, Ev.bind (bxAsked_ev l room hl) (Ev.pos h ?_), Ev.bind (areRoomy_ev l room hl) (Ev.pos h (Ev.bind (upTo_ev l.length (by omega)) (Ev.pos ?_ ?_))), by rw [nameL_len]; omega⟩
    · exact gf_l0 l room hg.1.2 _ (Ev.bind hrule (Ev.bind (bxNamed_ev _ (by omega)) (Ev.now _))) l.length 0 (Nat.zero_add _)
    · refine ⟨hg.1.1, hg.1.2, ordL_len _, ?_⟩
      rw [List.all_eq_true]
      intro x hx
      unfold ordL at hx
      obtain ⟨j, hj, rfl⟩ := List.mem_map.1 hx
      have := List.mem_range.1 hj
      simp; omega
    · rw [hsort]
      have hb := byScore_ev 102 room scoreF (by omega) ((ordG l l.length).map (rd l)) (by rw [List.length_map]; omega) (fun loads b k h hb hk => by unfold scoreF; omega)
      rw [if_pos (asked_sizes l room h), ← hbx] at hb
      unfold impl_FirstFit.f
      refine Ev.bind hb (Ev.pos hbl (Ev.bind (named_ev (placeF (ordG l l.length) bx (List.replicate l.length 0)) (by omega)) (Ev.now _)))
  · exact ⟨[], false, Ev.bind (bxAsked_ev l room hl) (Ev.neg h (Ev.now _)), Ev.bind (areRoomy_ev l room hl) (Ev.neg h (Ev.now _)), by simp⟩
end Go.Proofs.Ytchbjdoneanhpaa.Q
