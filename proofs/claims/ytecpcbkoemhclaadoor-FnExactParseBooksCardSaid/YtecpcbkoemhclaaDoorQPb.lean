/- The texts of books, read: the reference's parts and words. Conditions: at most 1048576 bytes. -/
import Derived.Test.YtecpcbkoemhclaaDoorPx0
import Derived.Test.YtecpcbkoemhclaaDoorPx7
import Derived.Test.YtecpcbkoemhclaaDoorPx10
import Derived.Test.YtecpcbkoemhclaaDoorPx12
import Derived.Test.YtecpcbkoemhclaaDoorPx13
import Derived.Test.YtecpcbkoemhclaaDoorPx17
import Derived.Test.YtecpcbkoemhclaaDoorQEv
import Derived.Test.YtecpcbkoemhclaaDoorQBookA
import Derived.Test.YtecpcbkoemhclaaDoorQTxtB
import Derived.Lib.ItoaMem
import Derived.Lib.FieldsP
namespace Go.Proofs.YtecpcbkoemhclaaDoor.Q
open Go.RowKit Go.Proofs.YtecpcbkoemhclaaDoor.P Go.Proofs.YtecpcbkoemhclaaDoorW.PrintWords Go.Proofs.YtecpcbkoemhclaaDoorW.PrintLast
set_option linter.unusedVariables false
set_option linter.unusedSimpArgs false
theorem inK_iff (lo hi n : Int) : inK lo hi n = true ↔ lo ≤ n ∧ n ≤ hi := by simp [inK]

/-- A text cut at each sign, the part that is begun first. -/
def splitA (c : UInt8) : List UInt8 → List UInt8 → List (List UInt8)
  | seg, [] => [seg]
  | seg, x :: xs => if x = c then seg :: splitA c [] xs else splitA c (seg ++ [x]) xs
theorem splitA_ne (c : UInt8) : ∀ (xs seg : List UInt8), ∃ p ps, splitA c seg xs = p :: ps
  | [], seg => ⟨seg, [], rfl⟩
  | x :: xs, seg => by
    rw [splitA]; split
    · exact ⟨_, _, rfl⟩
    · exact splitA_ne c xs _
theorem joinTail_cons (c : UInt8) (p : List UInt8) (ps : List (List UInt8)) : Lib.joinTail [c] (p :: ps) = c :: Lib.join (p :: ps) [c] := by
  rw [Lib.join_cons]; simp [Lib.joinTail]
theorem join_splitA (c : UInt8) : ∀ (xs seg : List UInt8), Lib.join (splitA c seg xs) [c] = seg ++ xs
  | [], seg => by rw [splitA, Lib.join_one, List.append_nil]
  | x :: xs, seg => by
    rw [splitA]; split
    next h =>
      obtain ⟨p, ps, e⟩ := splitA_ne c xs []
      rw [Lib.join_cons, e, joinTail_cons, ← e, join_splitA c xs [], h]; rfl
    next h => rw [join_splitA c xs]; simp
theorem splitA_app (c : UInt8) : ∀ (p seg r : List UInt8), (∀ x ∈ p, x ≠ c) → splitA c seg (p ++ r) = splitA c (seg ++ p) r
  | [], seg, r, _ => by simp
  | x :: p, seg, r, h => by
    rw [List.cons_append, splitA, if_neg (h x List.mem_cons_self), splitA_app c p _ r (fun y hy => h y (List.mem_cons_of_mem _ hy))]
    simp
theorem splitA_tail (c : UInt8) : ∀ (ps : List (List UInt8)) (seg : List UInt8), (∀ p ∈ ps, ∀ x ∈ p, x ≠ c) → splitA c seg (Lib.joinTail [c] ps) = seg :: ps
  | [], seg, _ => rfl
  | p :: ps, seg, h => by
    have e : Lib.joinTail [c] (p :: ps) = c :: (p ++ Lib.joinTail [c] ps) := by simp [Lib.joinTail]
    rw [e, splitA, if_pos rfl, splitA_app c p [] _ (h p List.mem_cons_self), List.nil_append, splitA_tail c ps p (fun q hq => h q (List.mem_cons_of_mem _ hq))]
theorem splitA_join (c : UInt8) (p : List UInt8) (ps : List (List UInt8)) (h : ∀ q ∈ p :: ps, ∀ x ∈ q, x ≠ c) : splitA c [] (Lib.join (p :: ps) [c]) = p :: ps := by
  rw [Lib.join_cons, splitA_app c p [] _ (h p List.mem_cons_self), List.nil_append, splitA_tail c ps p (fun q hq => h q (List.mem_cons_of_mem _ hq))]
theorem bt_get {s : ByteArray} {i : Nat} (h : i < s.size) : bt s (i : Int) = ((s.data.toList[i]'(by rw [← ba_size]; exact h)).toNat : Int) := by
  rw [← bt_at s (i : Int) h]; rfl
theorem seg_snoc {L : List UInt8} {a i : Nat} (h : i < L.length) (ha : a ≤ i) : (L.take (i + 1)).drop a = (L.take i).drop a ++ [L[i]] := by
  rw [List.take_succ_eq_append_getElem h, List.drop_append_of_le_length (by rw [List.length_take]; omega)]
theorem seg_nil {L : List UInt8} {i : Nat} : (L.take i).drop i = [] := List.drop_eq_nil_of_le (by rw [List.length_take]; omega)
theorem ext_seg (s : ByteArray) (a i : Nat) (hi : i ≤ s.size) : s.extract a i = ofL ((s.data.toList.take i).drop a) := by
  apply ba_ext
  rw [Lib.extract_data, ofL_list, List.drop_take]
theorem l1Split_l0 (c : UInt8) (z : Int) (hz : z = (c.toNat : Int)) (s : ByteArray) (hs : s.size ≤ 1048576) (d : Nat) : ∀ (i a : Nat) (acc : List ByteArray), i + d = s.size → a ≤ i → acc.length ≤ i →
    Ev (fun k => spec_l1Split.l0 k s z acc a i) (acc ++ (splitA c ((s.data.toList.take i).drop a) (s.data.toList.drop i)).map ofL) := by
  induction d with
  | zero =>
    intro i a acc hi ha hl
    refine Ev.step (f := fun _ => some (acc ++ [s.extract a s.size])) (fun k => ?_) (Ev.val (Ev.now _) ?_)
    · rw [spec_l1Split.l0, if_neg (by omega), if_pos (by omega), if_pos (by omega), if_pos (by omega)]; rfl
    · rw [show s.data.toList.drop i = [] from List.drop_eq_nil_of_le (by rw [← ba_size]; omega), splitA, ext_seg s a s.size (Nat.le_refl _), show i = s.size from by omega]; rfl
  | succ d ih =>
    intro i a acc hi ha hl
    have hi' : i < s.size := by omega
    have hi2 : i < s.data.toList.length := by rw [← ba_size]; exact hi'
    have hd : s.data.toList.drop i = s.data.toList[i] :: s.data.toList.drop (i + 1) := List.drop_eq_getElem_cons hi2
    by_cases hc : s.data.toList[i] = c
    · refine Ev.step (fun k => ?_) (Ev.val (ih (i + 1) (i + 1) (acc ++ [s.extract a i]) (by omega) (Nat.le_refl _) (by rw [List.length_append]; simp; omega)) ?_)
      · rw [spec_l1Split.l0, if_pos (by omega), if_pos (by omega), if_pos (by rw [bt_get hi', hc, hz]), if_pos (by omega), if_pos (by omega), if_pos (by omega), if_pos (by omega), w64i i (by omega)]; rfl
      · rw [hd, splitA, if_pos hc, seg_nil, ext_seg s a i (by omega)]; simp
    · have hne : ¬ bt s (i : Int) = z := by
        rw [bt_get hi']
        intro h
        apply hc
        apply UInt8.toNat_inj.1
        omega
      refine Ev.step (fun k => ?_) (Ev.val (ih (i + 1) a acc (by omega) (by omega) (by omega)) ?_)
      · rw [spec_l1Split.l0, if_pos (by omega), if_pos (by omega), if_neg hne, w64i i (by omega)]
      · rw [hd, splitA, if_neg hc, seg_snoc hi2 ha]
theorem l1Split_ev (c : UInt8) (z : Int) (hz : z = (c.toNat : Int)) (s : ByteArray) (hs : s.size ≤ 1048576) : Ev (fun k => spec_l1Split.f k s z) ((splitA c [] s.data.toList).map ofL) := by
  have := l1Split_l0 c z hz s hs s.size 0 0 [] (by omega) (Nat.le_refl _) (Nat.le_refl _)
  unfold spec_l1Split.f
  simpa using this
/-- The digits' value, -1 where a byte is no digit. -/
def valL : Int → List UInt8 → Int
  | acc, [] => acc
  | acc, x :: xs => if (x.toNat : Int) < 48 then -1 else if (x.toNat : Int) > 57 then -1 else valL (10 * acc + ((x.toNat : Int) - 48)) xs
/-- What the reference reads a word as. -/
def readL (p : List UInt8) : Int := if 1 ≤ p.length ∧ p.length ≤ 6 ∧ ¬ (p.getD 0 0 = 48 ∧ 1 < p.length) then valL 0 p else -1
theorem l1Read_l0 (x : ByteArray) (hx : x.size ≤ 6) (d : Nat) : ∀ (i : Nat) (acc : Int), i + d = x.size → 0 ≤ acc → acc < 10 ^ i → Ev (fun k => spec_l1Read.l0 k x acc i) (valL acc (x.data.toList.drop i)) := by
  induction d with
  | zero =>
    intro i acc hi h0 h1
    refine Ev.step (f := fun _ => some acc) (fun k => ?_) (Ev.val (Ev.now _) ?_)
    · rw [spec_l1Read.l0, if_neg (by omega)]
    · rw [show x.data.toList.drop i = [] from List.drop_eq_nil_of_le (by rw [← ba_size]; omega)]; rfl
  | succ d ih =>
    intro i acc hi h0 h1
    have hi' : i < x.size := by omega
    have hi2 : i < x.data.toList.length := by rw [← ba_size]; exact hi'
    have hd : x.data.toList.drop i = x.data.toList[i] :: x.data.toList.drop (i + 1) := List.drop_eq_getElem_cons hi2
    have hb := bt_get hi'
    obtain ⟨n, hn⟩ : ∃ n, n = (x.data.toList[i]).toNat := ⟨_, rfl⟩
    have hpow : (10 : Int) ^ i ≤ 10 ^ 6 := by
      have : i ≤ 6 := by omega
      have h := Nat.pow_le_pow_right (n := 10) (by omega) this
      exact_mod_cast h
    rw [hd, valL, ← hn]
    rw [← hn] at hb
    by_cases c1 : (n : Int) < 48
    · rw [if_pos c1]
      refine Ev.step (f := fun _ => some (-1)) (fun k => ?_) (Ev.now _)
      rw [spec_l1Read.l0, if_pos (by omega), if_pos (by omega), hb, if_pos c1]
    · rw [if_neg c1]
      by_cases c2 : (n : Int) > 57
      · rw [if_pos c2]
        refine Ev.step (f := fun _ => some (-1)) (fun k => ?_) (Ev.now _)
        rw [spec_l1Read.l0, if_pos (by omega), if_pos (by omega), hb, if_neg c1, if_pos c2]
      · rw [if_neg c2]
        have e : wrap64 ((wrap64 (10 * acc)) + (((n : Int) - 48) % 256)) = 10 * acc + ((n : Int) - 48) := by
          rw [w64 (x := 10 * acc) (by omega) (by omega), w64 (by omega) (by omega)]; omega
        refine Ev.step (fun k => ?_) (ih (i + 1) (10 * acc + ((n : Int) - 48)) (by omega) (by omega) (by rw [Int.pow_succ]; omega))
        rw [spec_l1Read.l0, if_pos (by omega), if_pos (by omega), hb, if_neg c1, if_neg c2, e, w64i i (by omega)]
theorem l1Read_ev (x : ByteArray) : Ev (fun k => spec_l1Read.f k x) (readL x.data.toList) := by
  unfold spec_l1Read.f readL
  rw [← ba_size]
  refine Ev.call (l1In_inK _ _ _) ?_
  by_cases h : 1 ≤ x.size ∧ x.size ≤ 6
  · refine Ev.pos (by rw [inK_iff]; omega) (Ev.pos (by omega) ?_)
    have h0 : x.data.toList.getD 0 0 = x.data.toList[0]'(by rw [← ba_size]; omega) := by rw [List.getD_eq_getElem?_getD, List.getElem?_eq_getElem (by rw [← ba_size]; omega)]; rfl
    have hb : bt x 0 = (((x.data.toList[0]'(by rw [← ba_size]; omega)).toNat : Nat) : Int) := bt_get (i := 0) (by omega)
    have hl := l1Read_l0 x h.2 x.size 0 0 (by omega) (by omega) (by omega)
    refine Ev.ite (fun hc => ?_) (fun hc => ?_)
    · have h48 : x.data.toList.getD 0 0 = 48 := by rw [h0]; apply UInt8.toNat_inj.1; show _ = 48; rw [hb] at hc; omega
      by_cases h1 : 1 < x.size
      · rw [if_neg (fun hh => hh.2.2 ⟨h48, h1⟩)]
        refine Ev.step (f := fun _ => some (-1)) (fun k => ?_) (Ev.now _)
        rw [spec_l1Read.j0, if_pos (by simp; omega)]
      · rw [if_pos ⟨h.1, h.2, fun hh => h1 hh.2⟩]
        refine Ev.step (fun k => ?_) hl
        rw [spec_l1Read.j0, if_neg (by simp; omega)]; rfl
    · have h48 : ¬ x.data.toList.getD 0 0 = 48 := by rw [h0]; intro hh; apply hc; rw [hb, hh]; rfl
      rw [if_pos ⟨h.1, h.2, fun hh => h48 hh.1⟩]
      refine Ev.step (fun k => ?_) hl
      rw [spec_l1Read.j0, if_neg (by simp)]; rfl
  · rw [if_neg (fun hh => h ⟨hh.1, hh.2.1⟩)]
    refine Ev.neg (by rw [inK_iff]; omega) ?_
    refine Ev.step (f := fun _ => some (-1)) (fun k => ?_) (Ev.now _)
    rw [spec_l1Read.j0, if_pos rfl]
theorem splitA_len (c : UInt8) : ∀ (xs seg : List UInt8), (splitA c seg xs).length ≤ xs.length + 1
  | [], seg => Nat.le_refl _
  | x :: xs, seg => by
    rw [splitA]; split
    · have := splitA_len c xs []; simp only [List.length_cons]; omega
    · have := splitA_len c xs (seg ++ [x]); simp only [List.length_cons]; omega
/-- What the reference makes of a list of numbers. -/
theorem rdOf_drop {ps : List ByteArray} {i : Nat} (h : i < ps.length) : ps.drop i = rdOf ByteArray.empty ps (i : Int) :: ps.drop (i + 1) := by
  rw [List.drop_eq_getElem_cons h]; simp [rdOf, List.getD_eq_getElem?_getD, List.getElem?_eq_getElem h]
def dec3 (n : Nat) : List UInt8 := if n < 10 then [UInt8.ofNat (48 + n)] else if n < 100 then [UInt8.ofNat (48 + n / 10), UInt8.ofNat (48 + n % 10)] else [49, 48, 48]
theorem itoa_dec3 (n : Nat) (h : n ≤ 100) : Lib.itoa (n : Int) = dec3 n := by
  rw [Lib.itoa_nonneg]
  unfold dec3
  split
  next h1 => exact Lib.decDigits_one h1
  next h1 =>
    split
    next h2 => exact Lib.decDigits_two h1 h2
    next h2 =>
      obtain rfl : n = 100 := by omega
      rw [Lib.decDigits, dif_neg (by omega), Lib.decDigits_two (by omega) (by omega)]; decide
def isOk : Lib.NumEnd Int → Int → Bool
  | .ok v, n => decide (v = n)
  | _, _ => false
theorem isOk_eq {x : Lib.NumEnd Int} {n : Int} (h : isOk x n = true) : x = .ok n := by
  cases x with
  | ok v => simp only [isOk, decide_eq_true_eq] at h; rw [h]
  | «syntax» => cases h
  | range => cases h
theorem dec3_fin : ∀ n : Fin 101, readL (dec3 n.val) = (n.val : Int) ∧ ((dec3 n.val).all fun x => decide (48 ≤ x.toNat ∧ x.toNat ≤ 57)) = true ∧ dec3 n.val ≠ [] ∧ (dec3 n.val).length ≤ 3 ∧ isOk (Lib.atoiAll (dec3 n.val)) (n.val : Int) = true := by decide +kernel
theorem dec3_at (n : Nat) (h : n ≤ 100) : readL (dec3 n) = (n : Int) ∧ (∀ x ∈ dec3 n, 48 ≤ x.toNat ∧ x.toNat ≤ 57) ∧ dec3 n ≠ [] ∧ (dec3 n).length ≤ 3 ∧ Lib.atoiAll (dec3 n) = .ok (n : Int) := by
  obtain ⟨h1, h2, h3, h4, h5⟩ := dec3_fin ⟨n, by omega⟩
  exact ⟨h1, fun x hx => by simpa using List.all_eq_true.1 h2 x hx, h3, h4, isOk_eq h5⟩
theorem itoa_at (x : Int) (h0 : 1 ≤ x) (h1 : x ≤ 100) : readL (Lib.itoa x) = x ∧ (∀ y ∈ Lib.itoa x, 48 ≤ y.toNat ∧ y.toNat ≤ 57) ∧ Lib.itoa x ≠ [] ∧ (Lib.itoa x).length ≤ 3 ∧ Lib.atoiAll (Lib.itoa x) = .ok x := by
  obtain ⟨n, rfl⟩ := Int.eq_ofNat_of_zero_le (a := x) (by omega)
  rw [itoa_dec3 n (by omega)]
  exact dec3_at n (by omega)
theorem numW_itoa (x : Int) (h0 : 1 ≤ x) (h1 : x ≤ 100) : numW 100 (itoaB x) = some x := by
  rw [numW_ok (v := x) (by rw [itoaB_list]; exact (itoa_at x h0 h1).2.2.2.2), if_pos rfl, if_pos ⟨by omega, h1⟩]
theorem numsF_itoa : ∀ (l : List Int), (∀ x ∈ l, 1 ≤ x ∧ x ≤ 100) → numsF 100 (l.map itoaB) = some l
  | [], _ => rfl
  | x :: l, h => by
    have hx := h x List.mem_cons_self
    rw [List.map_cons, numsF, numW_itoa x hx.1 hx.2, numsF_itoa l (fun y hy => h y (List.mem_cons_of_mem _ hy))]; rfl
end Go.Proofs.YtecpcbkoemhclaaDoor.Q
