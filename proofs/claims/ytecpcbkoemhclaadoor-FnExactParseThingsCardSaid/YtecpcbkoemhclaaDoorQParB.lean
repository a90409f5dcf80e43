/- ParseThings: what the reference answers, and what the program answers at a text of good things. Conditions: at most 1048576 bytes. -/
import Derived.Test.YtecpcbkoemhclaaDoorPx0
import Derived.Test.YtecpcbkoemhclaaDoorPx7
import Derived.Test.YtecpcbkoemhclaaDoorPx15
import Derived.Test.YtecpcbkoemhclaaDoorPx19
import Derived.Test.YtecpcbkoemhclaaDoorPx20
import Derived.Test.YtecpcbkoemhclaaDoorPx25
import Derived.Test.YtecpcbkoemhclaaDoorPx26
import Derived.Test.YtecpcbkoemhclaaDoorQEv
import Derived.Test.YtecpcbkoemhclaaDoorQBoxA
import Derived.Test.YtecpcbkoemhclaaDoorQTxtA
import Derived.Test.YtecpcbkoemhclaaDoorQPar
import Derived.Lib.ItoaMem
import Derived.Lib.FieldsP
import Derived.Lib.AtoiTie
namespace Go.Proofs.YtecpcbkoemhclaaDoor.Q
open Go.RowKit Go.Proofs.YtecpcbkoemhclaaDoor.P Go.Proofs.YtecpcbkoemhclaaDoorW.PrintWords Go.Proofs.YtecpcbkoemhclaaDoorW.PrintLast
set_option linter.unusedVariables false
set_option linter.unusedSimpArgs false

theorem splitA_len (c : UInt8) : ∀ (xs seg : List UInt8), (splitA c seg xs).length ≤ xs.length + 1
  | [], seg => Nat.le_refl _
  | x :: xs, seg => by
    rw [splitA]; split
    · have := splitA_len c xs []; simp only [List.length_cons]; omega
    · have := splitA_len c xs (seg ++ [x]); simp only [List.length_cons]; omega
/-- What the reference makes of a list of numbers. -/
def goodV (out : List Int) : List Int × Bool := if goodT out = true then (out, true) else ([], false)
theorem rdOf_drop {ps : List ByteArray} {i : Nat} (h : i < ps.length) : ps.drop i = rdOf ByteArray.empty ps (i : Int) :: ps.drop (i + 1) := by
  rw [List.drop_eq_getElem_cons h]; simp [rdOf, List.getD_eq_getElem?_getD, List.getElem?_eq_getElem h]
theorem bxParse_l0 (ps : List ByteArray) (hp : ps.length ≤ 100) (d : Nat) : ∀ (i : Nat) (acc : List Int), i + d = ps.length → acc.length = i → Ev (fun k => spec_bxParse.l0 k acc ps ps.length i) (goodV (acc ++ (ps.drop i).map fun x => readL x.data.toList)) := by
  induction d with
  | zero =>
    intro i acc hi hl
    refine Ev.step (f := fun k => (spec_bxGood.f k acc).bind fun t121 => (if t121 = true then (some (acc, true)) else (some (([] : List Int), false)))) (fun k => ?_) ?_
    · rw [spec_bxParse.l0, if_neg (by omega)]
    · rw [List.drop_eq_nil_of_le (by omega)]
      simp only [List.map_nil, List.append_nil, goodV]
      refine Ev.bind (bxGood_ev acc (by omega)) (Ev.ite (fun h => ?_) (fun h => ?_))
      · rw [if_pos h]; exact Ev.now _
      · rw [if_neg h]; exact Ev.now _
  | succ d ih =>
    intro i acc hi hl
    have hi' : i < ps.length := by omega
    obtain ⟨v, hv⟩ : ∃ v, v = readL (rdOf ByteArray.empty ps (i : Int)).data.toList := ⟨_, rfl⟩
    refine Ev.step (f := fun k => (spec_l1Read.f k (rdOf ByteArray.empty ps (i : Int))).bind fun t117 => (if acc.length < 17592186044416 then (spec_bxParse.l0 k (acc ++ [t117]) ps (ps.length : Int) ((i + 1 : Nat) : Int)) else (none))) (fun k => ?_) (Ev.bind (l1Read_ev _) (Ev.pos (by omega) (Ev.val (ih (i + 1) (acc ++ [readL (rdOf ByteArray.empty ps (i : Int)).data.toList]) (by omega) (by rw [List.length_append, hl]; rfl)) ?_)))
    · rw [spec_bxParse.l0, if_pos (by omega), if_pos (by omega), if_pos (by omega), w64i i (by omega)]
    · rw [rdOf_drop hi']; simp
/-- What the reference answers. -/
def specV (s : ByteArray) : List Int × Bool := if s.size > 40 then ([], false) else goodV ((splitA 45 [] s.data.toList).map readL)
theorem specParse_ev (s : ByteArray) (hs : s.size ≤ 1048576) : Ev (fun k => spec_ParseThings.f k s) (specV s) := by
  have e : Ev (fun k => spec_bxParse.f k s) (specV s) := by
    unfold spec_bxParse.f specV
    by_cases h : s.size > 40
    · rw [if_pos h]; exact Ev.pos (by omega) (Ev.now _)
    · rw [if_neg h]
      refine Ev.neg (by omega) (Ev.bind (l1Split_ev s hs) ?_)
      have hl := splitA_len 45 s.data.toList []
      rw [← ba_size] at hl
      have := bxParse_l0 ((splitA 45 [] s.data.toList).map ofL) (by rw [List.length_map]; omega) _ 0 [] (Nat.zero_add _) rfl
      refine Ev.val this ?_
      simp only [List.nil_append, List.drop_zero, List.map_map]
      congr 1
  unfold spec_ParseThings.f
  exact Ev.bind e (Ev.now _)
/-- Numerals up to a hundred, written out. -/
def dec3 (n : Nat) : List UInt8 := if n < 10 then [UInt8.ofNat (48 + n)] else if n < 100 then [UInt8.ofNat (48 + n / 10), UInt8.ofNat (48 + n % 10)] else [49, 48, 48]
theorem itoa_dec3 (n : Nat) (h : n ≤ 100) : Lib.itoa (n : Int) = dec3 n := by
  rw [Lib.itoa_nonneg]
  unfold dec3
  split
  next h1 => exact Lib.decDigits_one h1
  next h1 =>
    split
    next h2 => exact Lib.decDigits_two h1 h2
    next h2 =>
      obtain rfl : n = 100 := by omega
      rw [Lib.decDigits, dif_neg (by omega), Lib.decDigits_two (by omega) (by omega)]; decide
def isOk : Lib.NumEnd Int → Int → Bool
  | .ok v, n => decide (v = n)
  | _, _ => false
theorem isOk_eq {x : Lib.NumEnd Int} {n : Int} (h : isOk x n = true) : x = .ok n := by
  cases x with
  | ok v => simp only [isOk, decide_eq_true_eq] at h; rw [h]
  | «syntax» => cases h
  | range => cases h
theorem dec3_fin : ∀ n : Fin 101, readL (dec3 n.val) = (n.val : Int) ∧ ((dec3 n.val).all fun x => decide (x ≠ 45 ∧ x.toNat < 128)) = true ∧ dec3 n.val ≠ [] ∧ (dec3 n.val).length ≤ 3 ∧ isOk (Lib.atoiAll (dec3 n.val)) (n.val : Int) = true := by decide +kernel
theorem valL_ge : ∀ (p : List UInt8) (acc v : Int), valL acc p = v → 0 ≤ v → 0 ≤ acc → (∀ x ∈ p, 48 ≤ x.toNat ∧ x.toNat ≤ 57) ∧ acc * 10 ^ p.length ≤ v
  | [], acc, v, h, _, _ => ⟨fun _ hx => (by cases hx), by rw [valL] at h; simp [h]⟩
  | x :: p, acc, v, h, hv, ha => by
    rw [valL] at h
    split at h
    · omega
    · split at h
      · omega
      · obtain ⟨h1, h2⟩ := valL_ge p _ v h hv (by omega)
        refine ⟨fun y hy => ?_, ?_⟩
        · rcases List.mem_cons.1 hy with rfl | hy
          · omega
          · exact h1 y hy
        · rw [List.length_cons, Int.pow_succ]
          have hpos : (0 : Int) ≤ 10 ^ p.length := Int.le_of_lt (Int.pow_pos (by omega))
          have : acc * (10 ^ p.length * 10) = (10 * acc) * 10 ^ p.length := by rw [Int.mul_comm (10 ^ p.length) 10, ← Int.mul_assoc, Int.mul_comm acc 10]
          rw [this]
          have h3 : (10 * acc) * 10 ^ p.length ≤ (10 * acc + ((x.toNat : Int) - 48)) * 10 ^ p.length := Int.mul_le_mul_of_nonneg_right (by omega) hpos
          omega
theorem u8_of (x : UInt8) (k : Nat) (h : x.toNat = k) : x = UInt8.ofNat k := by
  apply UInt8.toNat_inj.1
  rw [h, UInt8.toNat_ofNat']
  have := UInt8.toNat_lt x
  omega
set_option maxRecDepth 20000 in
theorem read_dec3 (p : List UInt8) (v : Nat) (h : readL p = (v : Int)) (h1 : 1 ≤ v) (h2 : v ≤ 100) : p = dec3 v := by
  unfold readL at h
  split at h
  next hc =>
    obtain ⟨hl1, hl2, hz⟩ := hc
    obtain ⟨hd, _⟩ := valL_ge p 0 v h (by omega) (by omega)
    match p, hl1, hl2, hz, h, hd with
    | [a], _, _, _, h, hd =>
      have ha := hd a List.mem_cons_self
      simp only [valL] at h
      rw [if_neg (by omega), if_neg (by omega)] at h
      unfold dec3
      rw [if_pos (by omega), ← u8_of a (48 + v) (by omega)]
    | [a, b], _, _, hz, h, hd =>
      have ha := hd a List.mem_cons_self
      have hb := hd b (by simp)
      simp only [valL] at h
      rw [if_neg (by omega), if_neg (by omega), if_neg (by omega), if_neg (by omega)] at h
      have ha2 : a.toNat ≠ 48 := fun e => hz ⟨by show a = 48; exact UInt8.toNat_inj.1 e, by simp⟩
      unfold dec3
      rw [if_neg (by omega), if_pos (by omega), ← u8_of a (48 + v / 10) (by omega), ← u8_of b (48 + v % 10) (by omega)]
    | [a, b, c], _, _, hz, h, hd =>
      have ha := hd a List.mem_cons_self
      have hb := hd b (by simp)
      have hc := hd c (by simp)
      simp only [valL] at h
      rw [if_neg (by omega), if_neg (by omega), if_neg (by omega), if_neg (by omega), if_neg (by omega), if_neg (by omega)] at h
      have ha2 : a.toNat ≠ 48 := fun e => hz ⟨by show a = 48; exact UInt8.toNat_inj.1 e, by simp⟩
      unfold dec3
      rw [if_neg (by omega), if_neg (by omega), show a = 49 from UInt8.toNat_inj.1 (show _ = 49 by omega), show b = 48 from UInt8.toNat_inj.1 (show _ = 48 by omega), show c = 48 from UInt8.toNat_inj.1 (show _ = 48 by omega)]
    | a :: b :: c :: e :: r, _, _, hz, h, hd =>
      have ha := hd a List.mem_cons_self
      have ha2 : a.toNat ≠ 48 := fun e => hz ⟨by show a = 48; exact UInt8.toNat_inj.1 e, by simp⟩
      rw [valL, if_neg (by omega), if_neg (by omega)] at h
      obtain ⟨_, hg⟩ := valL_ge (b :: c :: e :: r) _ v h (by omega) (by omega)
      simp only [List.length_cons] at hg
      have hp : (1 : Int) ≤ 10 ^ r.length := by
        have := Nat.one_le_pow r.length 10 (by omega)
        exact_mod_cast this
      rw [show r.length + 1 + 1 + 1 = r.length + 3 from rfl, Int.pow_add] at hg
      have h3 : (1 : Int) * 1000 ≤ 10 ^ r.length * 10 ^ 3 := by
        show 1 * 1000 ≤ 10 ^ r.length * 1000
        omega
      have h4 : (1 : Int) * (10 ^ r.length * 10 ^ 3) ≤ (10 * 0 + ((a.toNat : Int) - 48)) * (10 ^ r.length * 10 ^ 3) := Int.mul_le_mul_of_nonneg_right (by omega) (by omega)
      omega
  next hc => omega
theorem dec3_at (n : Nat) (h : n ≤ 100) : readL (dec3 n) = (n : Int) ∧ (∀ x ∈ dec3 n, x ≠ 45 ∧ x.toNat < 128) ∧ dec3 n ≠ [] ∧ (dec3 n).length ≤ 3 ∧ Lib.atoiAll (dec3 n) = .ok (n : Int) := by
  obtain ⟨h1, h2, h3, h4, h5⟩ := dec3_fin ⟨n, by omega⟩
  exact ⟨h1, fun x hx => by simpa using List.all_eq_true.1 h2 x hx, h3, h4, isOk_eq h5⟩
theorem itoa_at (x : Int) (h0 : 1 ≤ x) (h1 : x ≤ 100) : readL (Lib.itoa x) = x ∧ (∀ y ∈ Lib.itoa x, y ≠ 45 ∧ y.toNat < 128) ∧ Lib.itoa x ≠ [] ∧ (Lib.itoa x).length ≤ 3 ∧ Lib.atoiAll (Lib.itoa x) = .ok x := by
  obtain ⟨n, rfl⟩ := Int.eq_ofNat_of_zero_le (a := x) (by omega)
  rw [itoa_dec3 n (by omega)]
  exact dec3_at n (by omega)
theorem read_itoa (p : List UInt8) (x : Int) (h : readL p = x) (h0 : 1 ≤ x) (h1 : x ≤ 100) : p = Lib.itoa x := by
  obtain ⟨n, rfl⟩ := Int.eq_ofNat_of_zero_le (a := x) (by omega)
  rw [itoa_dec3 n (by omega)]
  exact read_dec3 p n h (by omega) (by omega)
theorem numW_itoa (x : Int) (h0 : 1 ≤ x) (h1 : x ≤ 100) : numW 100 (itoaB x) = some x := by
  rw [numW_ok (v := x) (by rw [itoaB_list]; exact (itoa_at x h0 h1).2.2.2.2), if_pos rfl, if_pos ⟨by omega, h1⟩]
theorem numsF_itoa : ∀ (l : List Int), (∀ x ∈ l, 1 ≤ x ∧ x ≤ 100) → numsF 100 (l.map itoaB) = some l
  | [], _ => rfl
  | x :: l, h => by
    have hx := h x List.mem_cons_self
    rw [List.map_cons, numsF, numW_itoa x hx.1 hx.2, numsF_itoa l (fun y hy => h y (List.mem_cons_of_mem _ hy))]; rfl
theorem good_all {l : List Int} (h : goodT l = true) : 1 ≤ l.length ∧ l.length ≤ 9 ∧ ∀ x ∈ l, 1 ≤ x ∧ x ≤ 100 := by
  obtain ⟨h1, h2⟩ := (goodT_iff l).1 h
  refine ⟨h1.1, h1.2, fun x hx => ?_⟩
  obtain ⟨j, hj, rfl⟩ := List.getElem_of_mem hx
  have := h2 j hj
  rwa [rd_get hj] at this
theorem joinB_list (l : List Int) : (joinB l ⟨#[45]⟩).data.toList = Lib.join (l.map Lib.itoa) [45] := by
  simp only [joinB, List.map_map]
  congr 1
/-- The text of good things is cut into their numerals. -/
theorem split_good (l : List Int) (h : goodT l = true) : splitA 45 [] (joinB l ⟨#[45]⟩).data.toList = l.map Lib.itoa := by
  obtain ⟨h1, _, h3⟩ := good_all h
  rw [joinB_list]
  cases l with
  | nil => simp at h1
  | cons x l =>
    rw [List.map_cons]
    refine splitA_join 45 _ _ (fun q hq y hy => ?_)
    rw [← List.map_cons] at hq
    obtain ⟨z, hz, rfl⟩ := List.mem_map.1 hq
    have hz2 := h3 z hz
    exact ((itoa_at z hz2.1 hz2.2).2.1 y hy).1
theorem read_all : ∀ (ps : List (List UInt8)), (∀ p ∈ ps, 1 ≤ readL p ∧ readL p ≤ 100) → (ps.map readL).map Lib.itoa = ps
  | [], _ => rfl
  | p :: ps, h => by
    have hp := h p List.mem_cons_self
    rw [List.map_cons, List.map_cons, read_all ps (fun q hq => h q (List.mem_cons_of_mem _ hq)), ← read_itoa p _ rfl hp.1 hp.2]
/-- If the reference says yes, the text is that of its answer. -/
theorem spec_yes (s : ByteArray) (h : goodT ((splitA 45 [] s.data.toList).map readL) = true) : joinB ((splitA 45 [] s.data.toList).map readL) ⟨#[45]⟩ = s := by
  apply ba_ext
  obtain ⟨_, _, h3⟩ := good_all h
  rw [joinB_list, read_all _ (fun p hp => h3 _ (List.mem_map_of_mem hp)), join_splitA, List.nil_append]
/-- The text of good things is read by the reference. -/
theorem spec_good (l : List Int) (h : goodT l = true) : specV (joinB l ⟨#[45]⟩) = (l, true) := by
  obtain ⟨h1, h2, h3⟩ := good_all h
  have e : (l.map Lib.itoa).map readL = l := by
    rw [List.map_map]
    conv => rhs; rw [← List.map_id l]
    exact List.map_congr_left (fun x hx => (itoa_at x (h3 x hx).1 (h3 x hx).2).1)
  have hs : (joinB l ⟨#[45]⟩).size ≤ 40 := by
    rw [ba_size, joinB_list]
    have hj := joinL_len [45] (l.map Lib.itoa) 3 (fun x hx => by
      obtain ⟨z, hz, rfl⟩ := List.mem_map.1 hx
      exact (itoa_at z (h3 z hz).1 (h3 z hz).2).2.2.2.1)
    rw [List.length_map] at hj
    have : l.length * (3 + [(45 : UInt8)].length) ≤ 9 * 4 := Nat.mul_le_mul h2 (Nat.le_refl _)
    omega
  unfold specV
  rw [if_neg (by omega), split_good l h, e]
  unfold goodV
  rw [if_pos h]
end Go.Proofs.YtecpcbkoemhclaaDoor.Q
