/- The smoothest shelving: the reference's list of all shelvings, put in order, is the program's. Conditions: at most 12 books from 1 to 100, each not thicker than the width. -/
import Derived.Laws.BitsLemmas
import Derived.Test.YthdfkgehgkfffaaPx0
import Derived.Test.YthdfkgehgkfffaaPx7
import Derived.Test.YthdfkgehgkfffaaPx9
import Derived.Test.YthdfkgehgkfffaaPx10
import Derived.Test.YthdfkgehgkfffaaPx11
import Derived.Test.YthdfkgehgkfffaaPx12
import Derived.Test.YthdfkgehgkfffaaPx15
import Derived.Test.YthdfkgehgkfffaaPx19
import Derived.Test.YthdfkgehgkfffaaQShD
import Derived.Test.YthdfkgehgkfffaaQShB
namespace Go.Proofs.Ythdfkgehgkfffaa.Q
open Go.RowKit Go.Proofs.Ythdfkgehgkfffaa.P Go.Proofs.Ythdfkgehgkfffaa.Sh Go.Proofs.YthdfkgehgkfffaaW.PrintWords Go.Proofs.YthdfkgehgkfffaaW.PrintLast Go.Proofs.YthdfkgehgkfffaaW.PrintMore
set_option linter.unusedVariables false
set_option linter.unusedSimpArgs false

/-! ### the roughness -/
def rgh (w : Int) (acc : Int) (L : List Int) : Int := L.foldl (fun a n => wrap64 (a + wrap64 (wrap64 (w - n) * wrap64 (w - n)))) acc
theorem rough_l0 (w : Int) (L : List Int) (hL : L.length ≤ 1000) (d : Nat) : ∀ (i : Nat) (acc : Int), i + d = L.length → Ev (fun k => impl_roughness.l0 k w acc L L.length i) (rgh w acc (L.drop i)) := by
  induction d with
  | zero =>
    intro i acc hi
    rw [List.drop_of_length_le (by omega)]
    refine Ev.step (f := fun _ => some acc) (fun k => ?_) (Ev.now acc)
    rw [impl_roughness.l0, if_neg (by omega)]
  | succ d ih =>
    intro i acc hi
    have hlt : i < L.length := by omega
    rw [drop_rd hlt]
    refine Ev.step (fun k => ?_) (ih (i + 1) (wrap64 (acc + wrap64 (wrap64 (w - rd L i) * wrap64 (w - rd L i)))) (by omega))
    rw [impl_roughness.l0, if_pos (by omega), if_pos (by omega), if_pos (by omega), w64i i (by omega)]
theorem roughF_ev (w : Int) (P : List (List S40)) (h0 : 1 ≤ P.length) (h1 : P.length ≤ 12) (h2 : ∀ p ∈ P, p.length ≤ 12) : Ev (fun k => roughF w k P) (rgh w 0 ((P.take (P.length - 1)).map thk)) := by
  unfold roughF impl_roughness.f
  have e : wrap64 ((P.length : Int) - 1) = ((P.length - 1 : Nat) : Int) := by rw [w64 (by omega) (by omega)]; omega
  rw [e, Int.toNat_natCast]
  refine Ev.pos (by omega) (Ev.pos (by omega) (Ev.bind (widths_ev (P.take (P.length - 1)) (by simp; omega) (fun p hp => by have := h2 p (List.mem_of_mem_take hp); omega)) ?_))
  exact rough_l0 w _ (by simp; omega) _ 0 0 (Nat.zero_add _)
theorem shRough_l0 (w : Int) (P : List (List S40)) (h1 : P.length ≤ 1000) (h2 : ∀ p ∈ P, p.length ≤ 1000) (d : Nat) : ∀ (i : Nat) (acc : Int), i + d = P.length → Ev (fun k => spec_shRough.l0 k w acc P P.length i) (rgh w acc ((P.drop i).map thk)) := by
  induction d with
  | zero =>
    intro i acc hi
    rw [List.drop_of_length_le (by omega)]
    refine Ev.step (f := fun _ => some acc) (fun k => ?_) (Ev.now acc)
    rw [spec_shRough.l0, if_neg (by omega)]
  | succ d ih =>
    intro i acc hi
    have hlt : i < P.length := by omega
    rw [dropLb hlt, List.map_cons]
    refine Ev.step (f := fun k => (spec_shThick.f k (rd_L2 P i)).bind fun bt => spec_shRough.l0 k w (wrap64 (acc + wrap64 (wrap64 (w - bt.1) * wrap64 (w - bt.1)))) P P.length (wrap64 (i + 1))) (fun k => ?_) (Ev.bind (shThick_ev (rd_L2 P i) (by have := h2 (rd_L2 P i) (by rw [rdLb hlt]; exact List.getElem_mem hlt); omega)) ?_)
    · rw [spec_shRough.l0, if_pos (by omega), if_pos (by omega), if_pos (by omega)]
    · rw [w64i i (by omega)]
      exact ih (i + 1) _ (by omega)
theorem partsOf_len (l : List S40) (s : Nat) (r : List Nat) : (partsOf l s r).length = r.length + 1 := by unfold partsOf; rw [List.length_map, gpN_len]
theorem shRough_ev (l : List S40) (w : Int) (hl : l.length ≤ 12) (r : List Nat) (hr : rise l.length 0 r) : Ev (fun k => spec_shRough.f k l w (ic (0 :: r))) (rgh w 0 (((partsOf l 0 r).take ((partsOf l 0 r).length - 1)).map thk)) := by
  obtain ⟨h1, h2⟩ := partsOf_small l hl 0 r hr
  have h0 := partsOf_len l 0 r
  unfold spec_shRough.f
  refine Ev.bind (shParts_ev l hl r hr) ?_
  generalize partsOf l 0 r = P at h0 h1 h2 ⊢
  have e : wrap64 ((P.length : Int) - 1) = ((P.length - 1 : Nat) : Int) := by rw [w64 (by omega) (by omega)]; omega
  rw [e, Int.toNat_natCast]
  refine Ev.pos (by omega) (Ev.pos (by omega) (Ev.call rfl ?_))
  exact shRough_l0 w _ (by simp; omega) (fun p hp => by have := h2 p (List.mem_of_mem_take hp); omega) _ 0 0 (Nat.zero_add _)
/-! ### what a shelving is, for the reference -/
theorem rising_l0 (q : List Int) (lo up : Int) (hq : q.length ≤ 1000) (h : ∀ i : Nat, i < q.length → lo ≤ rd q i ∧ rd q i ≤ up) (h2 : ∀ i : Nat, i + 1 < q.length → rd q i < rd q ((i + 1 : Nat) : Int)) (d : Nat) : ∀ i : Nat, i + d = q.length → Ev (fun k => spec_l1Rising.l0 k q lo up q q.length i) true := by
  induction d with
  | zero =>
    intro i hi
    refine Ev.step (f := fun _ => some true) (fun k => ?_) (Ev.now true)
    rw [spec_l1Rising.l0, if_neg (by omega)]
  | succ d ih =>
    intro i hi
    have hlt : i < q.length := by omega
    have hb := h i hlt
    refine Ev.step (fun k => ?_) (ih (i + 1) (by omega))
    rw [spec_l1Rising.l0, if_pos (by omega), if_pos (by omega), if_pos (by omega), l1In_inK]
    have e : inK lo up (rd q i) = true := by unfold inK; simp; omega
    rw [e, Option.bind_some, if_pos rfl, w64i i (by omega)]
    by_cases h0 : i = 0
    · subst h0
      rw [if_neg (by omega)]
    · have hm := h2 (i - 1) (by omega)
      rw [show i - 1 + 1 = i by omega] at hm
      have hw : wrap64 ((i : Int) - 1) = ((i - 1 : Nat) : Int) := by rw [w64 (by omega) (by omega)]; omega
      rw [if_pos (by omega), hw, if_pos (by omega), if_pos (by omega), if_neg (by omega)]
theorem rise_get (n : Nat) : ∀ (s : Nat) (r : List Nat), rise n s r → (∀ i (h : i < (s :: r).length), (s :: r)[i] < n) ∧ ∀ i (h : i + 1 < (s :: r).length), (s :: r)[i] < (s :: r)[i + 1]
  | s, [], h => by
    have h : s < n := h
    refine ⟨fun i hi => ?_, fun i hi => by simp at hi⟩
    match i, hi with
    | 0, _ => exact h
  | s, x :: xs, h => by
    obtain ⟨h1, h2⟩ := rise_get n x xs h.2
    have := rise_lt n s (x :: xs) h
    have hx := h.1
    refine ⟨fun i hi => ?_, fun i hi => ?_⟩
    · match i, hi with
      | 0, _ => exact this
      | i + 1, hi => exact h1 i (by simpa using hi)
    · match i, hi with
      | 0, _ => exact hx
      | i + 1, hi => exact h2 i (by simpa using hi)
theorem rising_ev (l : List S40) (hl : l.length ≤ 12) (r : List Nat) (hr : rise l.length 0 r) : Ev (fun k => spec_l1Rising.f k (ic (0 :: r)) 0 (wrap64 ((l.length : Int) - 1))) true := by
  have hlen := rise_len _ _ _ hr
  obtain ⟨h1, h2⟩ := rise_get _ _ _ hr
  unfold spec_l1Rising.f
  rw [w64 (x := (l.length : Int) - 1) (by omega) (by omega)]
  refine rising_l0 (ic (0 :: r)) 0 ((l.length : Int) - 1) (by rw [ic_len]; simp; omega) (fun i hi => ?_) (fun i hi => ?_) _ 0 (Nat.zero_add _)
  · rw [ic_len] at hi
    rw [rd_ic _ i hi]
    have := h1 i hi
    omega
  · rw [ic_len] at hi
    rw [rd_ic _ i (by omega), rd_ic _ (i + 1) hi]
    have := h2 i hi
    omega
theorem shIs_l0 (w : Int) (P : List (List S40)) (h1 : P.length ≤ 1000) (h2 : ∀ p ∈ P, p.length ≤ 1000) (d : Nat) : ∀ (i : Nat), i + d = P.length → Ev (fun k => spec_shIs.l0 k w P P.length i) ((P.drop i).all fun p => decide (thk p ≤ w)) := by
  induction d with
  | zero =>
    intro i hi
    rw [List.drop_of_length_le (by omega)]
    refine Ev.step (f := fun _ => some true) (fun k => ?_) (Ev.now true)
    rw [spec_shIs.l0, if_neg (by omega)]
  | succ d ih =>
    intro i hi
    have hlt : i < P.length := by omega
    rw [dropLb hlt, List.all_cons]
    refine Ev.step (f := fun k => (spec_shThick.f k (rd_L2 P i)).bind fun bt => if bt.1 > w then some false else spec_shIs.l0 k w P P.length (wrap64 (i + 1))) (fun k => ?_) (Ev.bind (shThick_ev (rd_L2 P i) (by have := h2 (rd_L2 P i) (by rw [rdLb hlt]; exact List.getElem_mem hlt); omega)) ?_)
    · rw [spec_shIs.l0, if_pos (by omega), if_pos (by omega), if_pos (by omega)]
    · refine Ev.ite (fun h => ?_) (fun h => ?_)
      · rw [decide_eq_false (show ¬ thk (rd_L2 P i) ≤ w by unfold thk; omega)]; exact Ev.now _
      · rw [decide_eq_true (show thk (rd_L2 P i) ≤ w by unfold thk; omega), Bool.true_and, w64i i (by omega)]
        exact ih (i + 1) (by omega)
theorem all_okR (l : List S40) (w : Int) (hl : l.length ≤ 12) (hb : ∀ b ∈ l, 1 ≤ b.f0 ∧ b.f0 ≤ 100) : ∀ (s : Nat) (r : List Nat), rise l.length s r → ((partsOf l s r).all fun p => decide (thk p ≤ w)) = okR (vB l w) l.length s r
  | s, [], h => by
    have h : s < l.length := h
    simp [partsOf, gpN, okR, vB_iff l w hl hb s l.length h (Nat.le_refl _)]
  | s, x :: xs, h => by
    have ih := all_okR l w hl hb x xs h.2
    have hx := rise_lt _ _ _ h.2
    simp only [partsOf, gpN, okR, List.map_cons, List.all_cons] at ih ⊢
    rw [ih, vB_iff l w hl hb s x h.1 (by omega)]
theorem shIs_ev (l : List S40) (w : Int) (hl : l.length ≤ 12) (hb : ∀ b ∈ l, 1 ≤ b.f0 ∧ b.f0 ≤ 100) (r : List Nat) (hr : rise l.length 0 r) : Ev (fun k => spec_shIs.f k l w (ic (0 :: r))) (okR (vB l w) l.length 0 r) := by
  obtain ⟨h1, h2⟩ := partsOf_small l hl 0 r hr
  have e : rd (ic (0 :: r)) 0 = 0 := rd_ic (0 :: r) 0 (by simp)
  have hL : (ic (0 :: r)).length = r.length + 1 := by simp [ic]
  unfold spec_shIs.f
  refine Ev.neg (by omega) (Ev.pos (by omega) (Ev.pos e (Ev.bind (rising_ev l hl r hr) ?_)))
  refine Ev.step (fun k => by rw [spec_shIs.j0, if_neg (by simp)]) (Ev.bind (shParts_ev l hl r hr) ?_)
  rw [← all_okR l w hl hb 0 r hr]
  exact shIs_l0 w _ (by omega) (fun p hp => by have := h2 p hp; omega) _ 0 (Nat.zero_add _)
/-! ### the order of lists -/
theorem shLess_l0 (a b : List Nat) (ha : a.length ≤ 1000) (hb : b.length ≤ 1000) (d : Nat) : ∀ i : Nat, i + d = a.length → i ≤ b.length → Ev (fun k => spec_shLess.l0 k (ic a) (ic b) (ic a) (ic a).length i) (lessN (a.drop i) (b.drop i)) := by
  have la := ic_len a
  have lb := ic_len b
  induction d with
  | zero =>
    intro i hi hib
    rw [List.drop_of_length_le (show a.length ≤ i by omega)]
    refine Ev.step (f := fun _ => some (decide (((ic a).length : Int) < ((ic b).length : Int)))) (fun k => ?_) (Ev.val (Ev.now _) ?_)
    · rw [spec_shLess.l0, if_neg (by omega)]
    · rw [la, lb]
      by_cases h : i < b.length
      · rw [List.drop_eq_getElem_cons h, decide_eq_true (by omega)]; rfl
      · rw [List.drop_of_length_le (by omega), decide_eq_false (by omega)]; rfl
  | succ d ih =>
    intro i hi hib
    have hlt : i < a.length := by omega
    rw [List.drop_eq_getElem_cons hlt]
    by_cases h : i < b.length
    · rw [List.drop_eq_getElem_cons h]
      refine Ev.step (f := fun k => if (a[i] : Int) = (b[i] : Int) then spec_shLess.l0 k (ic a) (ic b) (ic a) (ic a).length ((i + 1 : Nat) : Int) else some (decide ((a[i] : Int) < (b[i] : Int)))) (fun k => ?_) (Ev.ite (fun hc => ?_) (fun hc => ?_))
      · rw [spec_shLess.l0, if_pos (by omega), if_pos (by omega), if_pos (by omega), if_neg (by omega), if_pos (by omega), rd_ic a i hlt, rd_ic b i h, w64i i (by omega)]
      · simp only [lessN]
        rw [if_pos (by omega)]
        exact ih (i + 1) (by omega) (by omega)
      · simp only [lessN]
        rw [if_neg (by omega)]
        refine Ev.val (Ev.now _) ?_
        simp
    · rw [List.drop_of_length_le (show b.length ≤ i by omega)]
      refine Ev.step (f := fun _ => some false) (fun k => ?_) (Ev.now false)
      rw [spec_shLess.l0, if_pos (by omega), if_pos (by omega), if_pos (by omega), if_pos (by omega)]
theorem shLess_ev (a b : List Nat) (ha : a.length ≤ 1000) (hb : b.length ≤ 1000) : Ev (fun k => spec_shLess.f k (ic a) (ic b)) (lessN a b) := by
  unfold spec_shLess.f
  exact shLess_l0 a b ha hb a.length 0 (Nat.zero_add _) (Nat.zero_le _)
/-! ### all shelvings -/
theorem i64_and1 (i : Nat) (hi : i < 9223372036854775808) : Go.bits .and .i64 (i : Int) 1 = ((i % 2 : Nat) : Int) := by
  have h := bits_mask .i64 63 (by decide) (fun n h0 h1 => by rw [IntKind.wrap_i64]; omega) 1 (by decide) (i : Int) (by omega) (by omega)
  have e : ((2 : Int) ^ 1 - 1) = 1 := by decide
  rw [e] at h
  rw [h]
  omega
theorem shr_nat (s k : Nat) (hk : k ≤ 64) : shr .i64 (s : Int) (k : Int) = ((s / 2 ^ k : Nat) : Int) := by
  unfold shr
  rw [Int.toNat_natCast, show min k IntKind.i64.bits = k from Nat.min_eq_left hk]
  norm_cast
theorem bit_step (s k : Nat) : s / 2 ^ k / 2 = s / 2 ^ (k + 1) := by rw [Nat.div_div_eq_div_mul, Nat.pow_succ]
theorem all_l1 (l : List S40) (w : Int) (hl : l.length ≤ 12) (x5 : List (List Int)) (s : Nat) (hs : s < 1048576) (R : List (List Int)) (d : Nat) : ∀ (k : Nat) (acc : List Int), k + d = l.length → 1 ≤ k → acc.length ≤ k →
    Ev (fun q => spec_shAll.l1 q l w x5 s (acc ++ ic (bl d k (s / 2 ^ (k - 1)))) l.length) R → Ev (fun q => spec_shAll.l1 q l w x5 s acc k) R := by
  induction d with
  | zero =>
    intro k acc hk h1 ha hR
    obtain rfl : k = l.length := by omega
    simpa [bl, ic] using hR
  | succ d ih =>
    intro k acc hk h1 ha hR
    have hlt : k < l.length := by omega
    have hw : wrap64 ((k : Int) - 1) = ((k - 1 : Nat) : Int) := by rw [w64 (by omega) (by omega)]; omega
    have hb : Go.bits .and .i64 (shr .i64 (s : Int) ((k - 1 : Nat) : Int)) 1 = ((s / 2 ^ (k - 1) % 2 : Nat) : Int) := by
      rw [shr_nat _ _ (by omega), i64_and1]
      have := Nat.div_le_self s (2 ^ (k - 1)); omega
    have hn : s / 2 ^ (k - 1) / 2 = s / 2 ^ (k + 1 - 1) := by rw [bit_step, show k - 1 + 1 = k + 1 - 1 by omega]
    rw [bl, hn] at hR
    by_cases c : s / 2 ^ (k - 1) % 2 = 1
    · rw [if_pos c] at hR
      refine Ev.step (f := fun q => spec_shAll.l1 q l w x5 s (acc ++ [(k : Int)]) ((k + 1 : Nat) : Int)) (fun q => ?_) (ih (k + 1) (acc ++ [(k : Int)]) (by omega) (by omega) (by simp; omega) ?_)
      · rw [spec_shAll.l1, if_pos (by omega), hw, if_pos (by omega), hb, if_pos (by omega), if_pos (by omega), w64i k (by omega)]
      · simpa [ic] using hR
    · rw [if_neg c] at hR
      refine Ev.step (f := fun q => spec_shAll.l1 q l w x5 s acc ((k + 1 : Nat) : Int)) (fun q => ?_) (ih (k + 1) acc (by omega) (by omega) (by omega) hR)
      rw [spec_shAll.l1, if_pos (by omega), hw, if_pos (by omega), hb, if_neg (by omega), w64i k (by omega)]
theorem rdLi {L : List (List Int)} {i : Nat} (h : i < L.length) : rd_L4 L i = L[i] := by
  simp [rd_L4, List.getD_eq_getElem?_getD, List.getElem?_eq_getElem h]
/-- Lists of first books, as the reference keeps them. -/
def icL (L : List (List Nat)) : List (List Int) := L.map fun r => ic (0 :: r)
theorem icL_len (L : List (List Nat)) : (icL L).length = L.length := by simp [icL]
theorem lessN_cons (a b : List Nat) : lessN (0 :: a) (0 :: b) = lessN a b := by simp [lessN]
theorem all_l2 (l : List S40) (w : Int) (hl : l.length ≤ 12) (L : List (List Nat)) (hL : L.length ≤ 100000) (hm : ∀ r ∈ L, r.length ≤ 100) (x : List Nat) (hx : x.length ≤ 100) (s : Nat) (hs : s < 1048576) (R : List (List Int)) (hR : Ev (fun q => spec_shAll.l0 q l w (icL (L.take (atF x L L.length) ++ x :: L.drop (atF x L L.length))) ((s + 1 : Nat) : Int)) R) :
    ∀ (a : Nat), a ≤ L.length → atF x L a = atF x L L.length → Ev (fun q => spec_shAll.l2 q l w (icL L) s (ic (0 :: x)) a) R
  | 0, ha, he => by
    have hlen := icL_len L
    have he0 : atF x L L.length = 0 := by rw [← he]; rfl
    rw [he0] at hR
    refine Ev.step (fun q => ?_) hR
    rw [spec_shAll.l2, if_neg (by omega), Option.bind_some, if_pos (by omega), if_pos (by omega), Option.bind_some, if_pos (by simp), Option.bind_some, if_pos (by simp), Option.bind_some, Option.bind_some, if_pos (by simp [icL]; omega), w64i s (by omega)]
    simp [icL]
  | a + 1, ha, he => by
    have hlen := icL_len L
    have hlt : a < L.length := by omega
    have hw : wrap64 (((a + 1 : Nat) : Int) - 1) = (a : Int) := by rw [w64 (by omega) (by omega)]; omega
    have hrd : rd_L4 (icL L) (a : Int) = ic (0 :: L[a]) := by rw [rdLi (by omega)]; simp [icL]
    have hls := shLess_ev (0 :: x) (0 :: L[a]) (by simp; omega) (by have := hm L[a] (List.getElem_mem hlt); simp; omega)
    rw [lessN_cons] at hls
    rw [atF, List.getD_eq_getElem?_getD, List.getElem?_eq_getElem hlt, Option.getD_some] at he
    by_cases c : lessN x L[a] = true
    · rw [if_pos c] at he
      rw [c] at hls
      refine Ev.step (fun q => by rw [spec_shAll.l2, if_pos (by omega), hw, if_pos (by omega), if_pos (by omega), hrd]) (Ev.bind hls (Ev.pos rfl ?_))
      exact all_l2 l w hl L hL hm x hx s hs R hR a (by omega) he
    · rw [if_neg c] at he
      rw [Bool.eq_false_iff.mpr c] at hls
      rw [← he] at hR
      refine Ev.step (fun q => by rw [spec_shAll.l2, if_pos (by omega), hw, if_pos (by omega), if_pos (by omega), hrd]) (Ev.bind hls (Ev.neg Bool.false_ne_true ?_))
      refine Ev.call rfl (Ev.pos (by omega) (Ev.pos (by omega) (Ev.call rfl (Ev.pos ?_ (Ev.call rfl (Ev.pos ?_ (Ev.call rfl (Ev.call rfl (Ev.pos ?_ ?_)))))))))
      · simp [icL]; omega
      · simp [icL]; omega
      · simp [icL]; omega
      rw [w64i s (by omega), Int.toNat_natCast]
      refine Ev.val (Ev.congr (fun q => ?_) hR) rfl
      simp [icL, List.map_take, List.map_drop]
theorem fold_small (e a : Nat) (ok : List Nat → Bool) (m : Nat) : ((List.range m).foldl (fun l s => if ok (bl e a s) = true then insF l (bl e a s) else l) []).length ≤ m := by
  induction m with
  | zero => simp
  | succ m ih =>
    rw [List.range_succ, List.foldl_append]
    simp only [List.foldl_cons, List.foldl_nil]
    generalize (List.range m).foldl (fun l s => if ok (bl e a s) = true then insF l (bl e a s) else l) [] = L at ih ⊢
    split
    · have : (insF L (bl e a m)).length = L.length + 1 := by
        unfold insF
        simp only [List.length_append, List.length_cons, List.length_take, List.length_drop]
        have := atF_le (bl e a m) L L.length
        omega
      omega
    · omega
theorem all_l0 (l : List S40) (w : Int) (h1 : 1 ≤ l.length) (hl : l.length ≤ 12) (hb : ∀ b ∈ l, 1 ≤ b.f0 ∧ b.f0 ≤ 100) (d : Nat) : ∀ s : Nat, s + d = 2 ^ (l.length - 1) →
    Ev (fun q => spec_shAll.l0 q l w (icL ((List.range s).foldl (fun L s => if okR (vB l w) l.length 0 (bl (l.length - 1) 1 s) = true then insF L (bl (l.length - 1) 1 s) else L) [])) s) (icL ((List.range (2 ^ (l.length - 1))).foldl (fun L s => if okR (vB l w) l.length 0 (bl (l.length - 1) 1 s) = true then insF L (bl (l.length - 1) 1 s) else L) [])) := by
  have hp : 2 ^ (l.length - 1) ≤ 2 ^ 11 := Nat.pow_le_pow_right (by omega) (by omega)
  have hw : wrap64 ((l.length : Int) - 1) = ((l.length - 1 : Nat) : Int) := by rw [w64 (by omega) (by omega)]; omega
  have hshl : shl .i64 1 ((l.length - 1 : Nat) : Int) = ((2 ^ (l.length - 1) : Nat) : Int) := by
    unfold shl
    rw [Int.toNat_natCast, Nat.min_eq_left (show l.length - 1 ≤ IntKind.bits .i64 by show l.length - 1 ≤ 64; omega), IntKind.wrap_i64, Int.one_mul]
    have : (2 : Int) ^ (l.length - 1) = ((2 ^ (l.length - 1) : Nat) : Int) := by norm_cast
    rw [this]
    generalize 2 ^ (l.length - 1) = b at hp ⊢
    have hb2 : b ≤ 2048 := hp
    omega
  induction d with
  | zero =>
    intro s hs
    obtain rfl : s = 2 ^ (l.length - 1) := by omega
    refine Ev.step (fun q => ?_) (Ev.now _)
    rw [spec_shAll.l0, hw, if_pos (by omega), hshl, if_neg (by omega)]
  | succ d ih =>
    intro s hs
    have hlt : s < 2 ^ (l.length - 1) := by omega
    have ih1 := ih (s + 1) (by omega)
    obtain ⟨L, hL⟩ : ∃ L, L = (List.range s).foldl (fun L s => if okR (vB l w) l.length 0 (bl (l.length - 1) 1 s) = true then insF L (bl (l.length - 1) 1 s) else L) [] := ⟨_, rfl⟩
    have hLl : L.length ≤ s := by rw [hL]; exact fold_small _ _ (okR (vB l w) l.length 0) s
    have hLm : ∀ r ∈ L, r.length ≤ 100 := by
      intro r hr
      rw [hL] at hr
      obtain ⟨_, q, hq, rfl⟩ := ((all_sets (l.length - 1) 1 (okR (vB l w) l.length 0) s (by omega)).2 r).1 hr
      have := rise_len _ _ _ (cand_rise l.length 0 h1 _ (bl_mem (l.length - 1) 1 q))
      omega
    rw [List.range_succ, List.foldl_append, ← hL] at ih1
    simp only [List.foldl_cons, List.foldl_nil] at ih1
    rw [← hL]
    generalize icL ((List.range (2 ^ (l.length - 1))).foldl (fun L s => if okR (vB l w) l.length 0 (bl (l.length - 1) 1 s) = true then insF L (bl (l.length - 1) 1 s) else L) []) = R at ih1 ⊢
    obtain ⟨x, hx⟩ : ∃ x, x = bl (l.length - 1) 1 s := ⟨_, rfl⟩
    rw [← hx] at ih1
    have hr : rise l.length 0 x := by rw [hx]; exact cand_rise l.length 0 h1 _ (bl_mem (l.length - 1) 1 s)
    have hxl := rise_len _ _ _ hr
    refine Ev.step (f := fun q => spec_shAll.l1 q l w (icL L) s [0] 1) (fun q => by rw [spec_shAll.l0, hw, if_pos (by omega), hshl, if_pos (by omega)]) ?_
    refine all_l1 l w hl (icL L) s (by omega) R (l.length - 1) 1 [0] (by omega) (Nat.le_refl _) (by simp) ?_
    rw [show [(0 : Int)] ++ ic (bl (l.length - 1) 1 (s / 2 ^ (1 - 1))) = ic (0 :: x) by rw [hx]; simp [ic]]
    refine Ev.step (fun q => by rw [spec_shAll.l1, if_neg (by omega)]) (Ev.bind (shIs_ev l w hl hb x hr) (Ev.ite (fun h => ?_) (fun h => ?_)))
    · rw [if_pos h] at ih1
      rw [icL_len]
      exact all_l2 l w hl L (by omega) hLm x (by omega) s (by omega) R ih1 L.length (Nat.le_refl _) rfl
    · rw [if_neg h] at ih1
      rw [w64i s (by omega)]
      exact ih1
theorem shAll_ev (l : List S40) (w : Int) (h1 : 1 ≤ l.length) (hl : l.length ≤ 12) (hb : ∀ b ∈ l, 1 ≤ b.f0 ∧ b.f0 ≤ 100) : Ev (fun q => spec_shAll.f q l w) (icL (([] :: sufE (l.length - 1) 1).filter (okR (vB l w) l.length 0))) := by
  have h := all_l0 l w h1 hl hb (2 ^ (l.length - 1)) 0 (Nat.zero_add _)
  rw [all_sets_eq (l.length - 1) 1 (okR (vB l w) l.length 0)] at h
  exact h
/-! ### the smoothest one -/
theorem best3_l0 (l : List S40) (w : Int) (L : List (List Nat)) (hL : L.length ≤ 100000) (sc : List Nat → Int) (hs : ∀ r ∈ L, Ev (fun k => spec_shRough.f k l w (ic (0 :: r))) (sc r)) (d : Nat) : ∀ (i : Nat) (b : List Int) (n m : Int), i + d = L.length → (m = 0 ↔ b = []) → 0 ≤ m →
    Ev (fun k => spec_SmoothestCase.l0 k l w b n (icL L) (icL L).length i) ((((L.drop i).map fun r => (ic (0 :: r), sc r)).foldl bs (b, n, m)).1, (((L.drop i).map fun r => (ic (0 :: r), sc r)).foldl bs (b, n, m)).2.1, true) := by
  have hlen := icL_len L
  induction d with
  | zero =>
    intro i b n m hi hm h0
    rw [List.drop_of_length_le (by omega)]
    refine Ev.step (f := fun _ => some (b, n, true)) (fun k => ?_) (Ev.now _)
    rw [spec_SmoothestCase.l0, if_neg (by omega)]
  | succ d ih =>
    intro i b n m hi hm h0
    have hlt : i < L.length := by omega
    have hrd : rd_L4 (icL L) (i : Int) = ic (0 :: L[i]) := by rw [rdLi (by omega)]; simp [icL]
    rw [List.drop_eq_getElem_cons hlt, List.map_cons, List.foldl_cons]
    refine Ev.step (fun k => by rw [spec_SmoothestCase.l0, if_pos (by omega), if_pos (by omega), if_pos (by omega), hrd]) (Ev.bind (hs L[i] (List.getElem_mem hlt)) ?_)
    rw [w64i i (by omega)]
    have hne : ic (0 :: L[i]) ≠ [] := by simp [ic]
    by_cases c : (b.length : Int) = 0
    · have hb : b = [] := List.eq_nil_of_length_eq_zero (by omega)
      refine Ev.pos c ?_
      have e : bs (b, n, m) (ic (0 :: L[i]), sc L[i]) = (ic (0 :: L[i]), sc L[i], 1) := by unfold bs; rw [if_pos (.inl (hm.2 hb))]
      rw [e]
      exact ih (i + 1) _ _ 1 (by omega) ⟨fun h => by omega, fun h => absurd h hne⟩ (by omega)
    · have hb : b ≠ [] := by rintro rfl; exact c rfl
      have hm0 : m ≠ 0 := fun h => hb (hm.1 h)
      refine Ev.neg c (Ev.ite (fun h => ?_) (fun h => ?_))
      · have e : bs (b, n, m) (ic (0 :: L[i]), sc L[i]) = (ic (0 :: L[i]), sc L[i], 1) := by unfold bs; rw [if_pos (.inr h)]
        rw [e]
        exact ih (i + 1) _ _ 1 (by omega) ⟨fun h => by omega, fun h => absurd h hne⟩ (by omega)
      · by_cases h2 : sc L[i] = n
        · have e : bs (b, n, m) (ic (0 :: L[i]), sc L[i]) = (b, n, m + 1) := by unfold bs; rw [if_neg (by simp only; omega), if_pos h2]
          rw [e]
          exact ih (i + 1) _ _ (m + 1) (by omega) ⟨fun h => by omega, fun h => absurd h hb⟩ (by omega)
        · have e : bs (b, n, m) (ic (0 :: L[i]), sc L[i]) = (b, n, m) := by unfold bs; rw [if_neg (by simp only; omega), if_neg h2]
          rw [e]
          exact ih (i + 1) _ _ m (by omega) hm h0
theorem ones_filter (l : List S40) (w : Int) (sc : List Nat → Int) : ∀ R : List (List Nat), R.flatMap (oneS l w sc) = (R.filter (okR (vB l w) l.length 0)).map fun r => (ic (0 :: r), sc r)
  | [] => rfl
  | r :: R => by
    rw [List.flatMap_cons, ones_filter l w sc R, List.filter_cons]
    unfold oneS
    split <;> simp
theorem smooth_both (l : List S40) (w : Int) (hl : l.length ≤ 1048576) : ∃ v n b, Ev (fun k => spec_SmoothestCase.f k l w) (v, n, b) ∧ Ev (fun k => impl_SmoothestCase.f k l w) (v, n, b) ∧ v.length ≤ 1048576 := by
  unfold spec_SmoothestCase.f impl_SmoothestCase.f
  by_cases h : shelvedK l w = true
  · have ha := shelved_all h
    have h1 := shelved_pos h
    have hb0 : ∀ b ∈ l, 1 ≤ b.f0 ∧ b.f0 ≤ 100 := fun b hb => by have := ha.2.2.2 b hb; omega
    obtain ⟨sc, hsc⟩ : ∃ sc : List Nat → Int, sc = fun r => rgh w 0 (((partsOf l 0 r).take ((partsOf l 0 r).length - 1)).map thk) := ⟨_, rfl⟩
    have hI := bestO_ev l w h1 ha.1 (roughF w) sc (fun r hr => by
      have hri := cand_rise l.length 0 h1 r hr
      obtain ⟨g1, g2⟩ := partsOf_small l ha.1 0 r hri
      rw [hsc]
      exact roughF_ev w (partsOf l 0 r) (by rw [partsOf_len]; omega) g1 g2)
    rw [best_fold l w ha.1, ones_filter] at hI
    have hp : 2 ^ (l.length - 1) ≤ 2 ^ 11 := Nat.pow_le_pow_right (by omega) (by omega)
    have hlen : (([] :: sufE (l.length - 1) 1).filter (okR (vB l w) l.length 0)).length ≤ 2048 := by
      have := List.length_filter_le (okR (vB l w) l.length 0) ([] :: sufE (l.length - 1) 1)
      have := suf_len (l.length - 1) 1
      simp only [List.length_cons] at *
      omega
    have hS := best3_l0 l w (([] :: sufE (l.length - 1) 1).filter (okR (vB l w) l.length 0)) (by omega) sc (fun r hr => by
      rw [hsc]
      exact shRough_ev l w ha.1 r (cand_rise l.length 0 h1 r ((List.mem_filter.1 hr).1))) _ 0 [] 0 0 (Nat.zero_add _) ⟨fun _ => rfl, fun _ => rfl⟩ (by omega)
    rw [List.drop_zero] at hS
    have hmem : ∀ (L : List (List Int × Int)) (s : List Int × Int × Int), (L.foldl bs s).1 = s.1 ∨ ∃ e ∈ L, (L.foldl bs s).1 = e.1 := by
      intro L
      induction L with
      | nil => intro s; exact .inl rfl
      | cons e L ih =>
        intro s
        have hb : (bs s e).1 = s.1 ∨ (bs s e).1 = e.1 := by unfold bs; grind
        rcases ih (bs s e) with h | ⟨c, hc, h⟩
        · rcases hb with hb | hb
          · exact .inl (by rw [List.foldl_cons, h, hb])
          · exact .inr ⟨e, by simp, by rw [List.foldl_cons, h, hb]⟩
        · exact .inr ⟨c, by simp [hc], by rw [List.foldl_cons, h]⟩
    refine ⟨_, _, _, Ev.bind (shAsked_ev l w hl) (Ev.pos h (Ev.bind (shAll_ev l w h1 ha.1 hb0) hS)), Ev.bind (areShelved_ev l w hl) (Ev.pos h (Ev.bind hI (Ev.now _))), ?_⟩
    rcases hmem ((([] :: sufE (l.length - 1) 1).filter (okR (vB l w) l.length 0)).map fun r => (ic (0 :: r), sc r)) ([], 0, 0) with h2 | ⟨e, he, h2⟩
    · rw [h2]; simp
    · rw [h2]
      obtain ⟨r, hr, rfl⟩ := List.mem_map.1 he
      have := rise_len _ _ _ (cand_rise l.length 0 h1 r ((List.mem_filter.1 hr).1))
      simp only
      rw [ic_len]; simp; omega
  · exact ⟨[], 0, false, Ev.bind (shAsked_ev l w hl) (Ev.neg h (Ev.now _)), Ev.bind (areShelved_ev l w hl) (Ev.neg h (Ev.now _)), by simp⟩
end Go.Proofs.Ythdfkgehgkfffaa.Q
