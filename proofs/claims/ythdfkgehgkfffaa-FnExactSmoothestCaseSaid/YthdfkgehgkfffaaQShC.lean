/- Shelves told by their first books: what the program's walk through the shelves comes to. Conditions: at most 12 books. -/
import Derived.Test.YthdfkgehgkfffaaPx0
import Derived.Test.YthdfkgehgkfffaaPx3
import Derived.Test.YthdfkgehgkfffaaPx6
import Derived.Test.YthdfkgehgkfffaaPx7
import Derived.Test.YthdfkgehgkfffaaPx9
import Derived.Test.YthdfkgehgkfffaaPx15
import Derived.Test.YthdfkgehgkfffaaPx17
import Derived.Test.YthdfkgehgkfffaaPx18
import Derived.Test.YthdfkgehgkfffaaQBookB
import Derived.Test.YthdfkgehgkfffaaQShA
namespace Go.Proofs.Ythdfkgehgkfffaa.Q
open Go.RowKit Go.Proofs.Ythdfkgehgkfffaa.P Go.Proofs.Ythdfkgehgkfffaa.Sh Go.Proofs.YthdfkgehgkfffaaW.PrintWords Go.Proofs.YthdfkgehgkfffaaW.PrintLast
set_option linter.unusedVariables false
set_option linter.unusedSimpArgs false

def ic (r : List Nat) : List Int := r.map (fun x : Nat => (x : Int))
theorem ic_len (r : List Nat) : (ic r).length = r.length := by simp [ic]
theorem rd_ic (r : List Nat) (i : Nat) (h : i < r.length) : rd (ic r) i = (r[i] : Int) := by
  rw [rd_get (by rw [ic_len]; exact h)]; simp [ic]
/-- The books from a to b. -/
def prt (l : List S40) (a b : Nat) : List S40 := (l.take b).drop a
/-- From where to where the shelves go. -/
def gpN (n : Nat) : Nat → List Nat → List (Nat × Nat)
  | s, [] => [(s, n)]
  | s, x :: xs => (s, x) :: gpN n x xs
def rise (n : Nat) : Nat → List Nat → Prop
  | s, [] => s < n
  | s, x :: xs => s < x ∧ rise n x xs
theorem rise_lt (n : Nat) : ∀ (s : Nat) (r : List Nat), rise n s r → s < n
  | s, [], h => h
  | s, x :: xs, h => by have := rise_lt n x xs h.2; have := h.1; omega
theorem sufE_rise (n : Nat) : ∀ (e a : Nat) (r : List Nat), r ∈ sufE e a → a + e = n → ∀ s, s < a → rise n s r
  | 0, a, r, h, _, s, _ => by simp [sufE] at h
  | e + 1, a, r, h, hn, s, hs => by
    simp only [sufE, List.cons_append, List.mem_cons, List.mem_append, List.mem_map] at h
    rcases h with rfl | ⟨q, hq, rfl⟩ | h
    · exact ⟨hs, by show a < n; omega⟩
    · exact ⟨hs, sufE_rise n e (a + 1) q hq (by omega) a (by omega)⟩
    · exact sufE_rise n e (a + 1) r h (by omega) s (by omega)
theorem cand_rise (n s : Nat) (hs : s < n) : ∀ r ∈ [] :: sufE (n - (s + 1)) (s + 1), rise n s r := by
  intro r hr
  rcases List.mem_cons.1 hr with rfl | hr
  · exact hs
  · exact sufE_rise n _ _ r hr (by omega) s (by omega)
theorem rise_len (n : Nat) : ∀ (s : Nat) (r : List Nat), rise n s r → r.length + s < n
  | s, [], h => by simpa [rise] using h
  | s, x :: xs, h => by have := rise_len n x xs h.2; have := h.1; simp only [List.length_cons]; omega
theorem gpN_len (n : Nat) : ∀ (s : Nat) (r : List Nat), (gpN n s r).length = r.length + 1
  | s, [] => rfl
  | s, x :: xs => by simp [gpN, gpN_len n x xs]
theorem gpN_mem (n : Nat) : ∀ (s : Nat) (r : List Nat), rise n s r → ∀ p ∈ gpN n s r, p.1 < p.2 ∧ p.2 ≤ n
  | s, [], h, p, hp => by
    simp only [gpN, List.mem_singleton] at hp
    subst hp; exact ⟨h, Nat.le_refl _⟩
  | s, x :: xs, h, p, hp => by
    simp only [gpN, List.mem_cons] at hp
    rcases hp with rfl | hp
    · exact ⟨h.1, Nat.le_of_lt (rise_lt n x xs h.2)⟩
    · exact gpN_mem n x xs h.2 p hp
/-- The shelves. -/
def partsOf (l : List S40) (s : Nat) (r : List Nat) : List (List S40) := (gpN l.length s r).map fun p => prt l p.1 p.2
theorem ic_drop_cons {q : List Int} {i s : Nat} {r : List Nat} (h : q.drop i = ic (s :: r)) : i < q.length ∧ rd q i = (s : Int) ∧ q.drop (i + 1) = ic r ∧ (q.length : Int) = (i : Int) + 1 + (r.length : Int) := by
  have hl : i < q.length := by
    have := congrArg List.length h
    simp [ic] at this; omega
  rw [drop_rd hl] at h
  simp only [ic, List.map_cons, List.cons.injEq] at h
  refine ⟨hl, h.1, h.2, ?_⟩
  have := congrArg List.length h.2
  simp at this; omega
theorem shelves_l0 (l : List S40) (hl : l.length ≤ 12) (q : List Int) (hq : q.length ≤ 100) : ∀ (r : List Nat) (s i : Nat) (acc : List (List S40)), q.drop i = ic (s :: r) → rise l.length s r → acc.length ≤ i →
    Ev (fun k => impl_shelves.l0 k l q acc q q.length i) (acc ++ partsOf l s r, true)
  | [], s, i, acc, hd, hr, ha => by
    obtain ⟨h1, h2, h3, h4⟩ := ic_drop_cons hd
    simp only [List.length_nil] at h4
    have hs : s < l.length := hr
    refine Ev.step (f := fun k => impl_shelves.l0 k l q (acc ++ [prt l s l.length]) q q.length ((i + 1 : Nat) : Int)) (fun k => ?_) ?_
    · rw [impl_shelves.l0, if_pos (by omega), if_pos (by omega), if_pos (by omega), if_neg (by rw [w64i i (by omega)]; omega), within_inK, h2]
      have e : inK 0 (wrap64 ((l.length : Int) - 1)) (s : Int) = true := by rw [w64 (by omega) (by omega)]; unfold inK; simp; omega
      rw [e, Option.bind_some, if_pos rfl, if_neg (by omega), if_pos (by omega), if_pos (by omega), if_pos (by omega), if_pos (by omega), w64i i (by omega)]
      rfl
    · refine Ev.step (f := fun k => some (acc ++ [prt l s l.length], true)) (fun k => ?_) (Ev.now _)
      rw [impl_shelves.l0, if_neg (by omega)]
  | x :: xs, s, i, acc, hd, hr, ha => by
    obtain ⟨h1, h2, h3, h4⟩ := ic_drop_cons hd
    obtain ⟨h5, h6, _, _⟩ := ic_drop_cons h3
    simp only [List.length_cons] at h4
    have hs : s < x := hr.1
    have hx : x < l.length := rise_lt _ _ _ hr.2
    refine Ev.step (f := fun k => impl_shelves.l0 k l q (acc ++ [prt l s x]) q q.length ((i + 1 : Nat) : Int)) (fun k => ?_) ?_
    · rw [impl_shelves.l0, if_pos (by omega), if_pos (by omega), if_pos (by omega), w64i i (by omega), if_pos (by omega), if_pos (by omega), within_inK, h2, h6]
      have e : inK 0 (wrap64 ((x : Int) - 1)) (s : Int) = true := by rw [w64 (by omega) (by omega)]; unfold inK; simp; omega
      rw [e, Option.bind_some, if_pos rfl, if_neg (by omega), if_pos (by omega), if_pos (by omega), if_pos (by omega), if_pos (by omega)]
      rfl
    · have := shelves_l0 l hl q hq xs x (i + 1) (acc ++ [prt l s x]) h3 hr.2 (by simp; omega)
      rw [List.append_assoc] at this
      exact this
theorem shelves_ev (l : List S40) (hl : l.length ≤ 12) (r : List Nat) (hr : rise l.length 0 r) : Ev (fun k => impl_shelves.f k l (ic (0 :: r))) (partsOf l 0 r, true) := by
  have hlen := rise_len _ _ _ hr
  have e : rd (ic (0 :: r)) 0 = 0 := rd_ic (0 :: r) 0 (by simp)
  have hL : (ic (0 :: r)).length = r.length + 1 := by simp [ic]
  unfold impl_shelves.f
  refine Ev.neg (by omega) (Ev.pos (by omega) ?_)
  rw [e]
  refine Ev.step (fun k => by rw [impl_shelves.j0, if_neg (by simp)]) ?_
  have h := shelves_l0 l hl (ic (0 :: r)) (by omega) r 0 0 [] rfl hr (Nat.le_refl _)
  exact h
/-- The reference's shelves. -/
theorem shParts_l0 (l : List S40) (hl : l.length ≤ 12) (q : List Int) (hq : q.length ≤ 100) : ∀ (r : List Nat) (s i : Nat) (acc : List (List S40)), q.drop i = ic (s :: r) → rise l.length s r → acc.length ≤ i →
    Ev (fun k => spec_shParts.l0 k l q acc q q.length i) (acc ++ partsOf l s r)
  | [], s, i, acc, hd, hr, ha => by
    obtain ⟨h1, h2, h3, h4⟩ := ic_drop_cons hd
    simp only [List.length_nil] at h4
    have hs : s < l.length := hr
    refine Ev.step (f := fun k => spec_shParts.l0 k l q (acc ++ [prt l s l.length]) q q.length ((i + 1 : Nat) : Int)) (fun k => ?_) ?_
    · rw [spec_shParts.l0, if_pos (by omega), if_pos (by omega), if_pos (by omega), if_neg (by rw [w64i i (by omega)]; omega), h2, if_pos (by omega), if_pos (by omega), if_pos (by omega), if_pos (by omega), w64i i (by omega)]
      rfl
    · refine Ev.step (f := fun k => some (acc ++ [prt l s l.length])) (fun k => ?_) (Ev.now _)
      rw [spec_shParts.l0, if_neg (by omega)]
  | x :: xs, s, i, acc, hd, hr, ha => by
    obtain ⟨h1, h2, h3, h4⟩ := ic_drop_cons hd
    obtain ⟨h5, h6, _, _⟩ := ic_drop_cons h3
    simp only [List.length_cons] at h4
    have hs : s < x := hr.1
    have hx : x < l.length := rise_lt _ _ _ hr.2
    refine Ev.step (f := fun k => spec_shParts.l0 k l q (acc ++ [prt l s x]) q q.length ((i + 1 : Nat) : Int)) (fun k => ?_) ?_
    · rw [spec_shParts.l0, if_pos (by omega), if_pos (by omega), if_pos (by omega), w64i i (by omega), if_pos (by omega), if_pos (by omega), h2, h6, if_pos (by omega), if_pos (by omega), if_pos (by omega), if_pos (by omega)]
      rfl
    · have := shParts_l0 l hl q hq xs x (i + 1) (acc ++ [prt l s x]) h3 hr.2 (by simp; omega)
      rw [List.append_assoc] at this
      exact this
theorem shParts_ev (l : List S40) (hl : l.length ≤ 12) (r : List Nat) (hr : rise l.length 0 r) : Ev (fun k => spec_shParts.f k l (ic (0 :: r))) (partsOf l 0 r) := by
  have hlen := rise_len _ _ _ hr
  have hL : (ic (0 :: r)).length = r.length + 1 := by simp [ic]
  unfold spec_shParts.f
  exact shParts_l0 l hl (ic (0 :: r)) (by omega) r 0 0 [] rfl hr (Nat.le_refl _)
/-! ### how thick and how tall shelves are -/
theorem rdLb {L : List (List S40)} {i : Nat} (h : i < L.length) : rd_L2 L i = L[i] := by
  simp [rd_L2, List.getD_eq_getElem?_getD, List.getElem?_eq_getElem h]
theorem dropLb {L : List (List S40)} {i : Nat} (h : i < L.length) : L.drop i = rd_L2 L i :: L.drop (i + 1) := by
  rw [List.drop_eq_getElem_cons h, rdLb h]
def thk (p : List S40) : Int := (thW 0 0 0 p).1
def tal (p : List S40) : Int := (thW 0 0 0 p).2.2
theorem widths_l0 (L : List (List S40)) (hL : L.length ≤ 1000) (hp : ∀ p ∈ L, p.length ≤ 1000) (d : Nat) : ∀ (i : Nat) (acc : List Int), i + d = L.length → acc.length ≤ i →
    Ev (fun k => impl_widths.l0 k acc L L.length i) (acc ++ (L.drop i).map thk) := by
  induction d with
  | zero =>
    intro i acc hi ha
    rw [List.drop_of_length_le (by omega)]
    refine Ev.step (f := fun _ => some acc) (fun k => ?_) (Ev.val (Ev.now acc) (by simp))
    rw [impl_widths.l0, if_neg (by omega)]
  | succ d ih =>
    intro i acc hi ha
    have hlt : i < L.length := by omega
    have h := ih (i + 1) (acc ++ [thk (rd_L2 L i)]) (by omega) (by simp; omega)
    refine Ev.val (r := acc ++ [thk (rd_L2 L i)] ++ (L.drop (i + 1)).map thk) (Ev.step (f := fun k => (impl_thickest.f k (rd_L2 L i)).bind fun bt => if acc.length < 17592186044416 then impl_widths.l0 k (acc ++ [bt.2]) L L.length (wrap64 (i + 1)) else none) (fun k => ?_) (Ev.bind (thickest_ev (rd_L2 L i) (by have := hp (rd_L2 L i) (by rw [rdLb hlt]; exact List.getElem_mem hlt); omega)) (Ev.pos (by omega) ?_))) ?_
    · rw [impl_widths.l0, if_pos (by omega), if_pos (by omega), if_pos (by omega)]
    · rw [w64i i (by omega)]; exact h
    · rw [dropLb hlt]; simp
theorem widths_ev (L : List (List S40)) (hL : L.length ≤ 1000) (hp : ∀ p ∈ L, p.length ≤ 1000) : Ev (fun k => impl_widths.f k L) (L.map thk) := by
  unfold impl_widths.f
  exact widths_l0 L hL hp L.length 0 [] (by omega) (Nat.le_refl _)
theorem prt_len (l : List S40) (a b : Nat) : (prt l a b).length ≤ l.length := by unfold prt; simp; omega
theorem partsOf_small (l : List S40) (hl : l.length ≤ 12) (s : Nat) (r : List Nat) (hr : rise l.length s r) : (partsOf l s r).length ≤ 12 ∧ ∀ p ∈ partsOf l s r, p.length ≤ 12 := by
  have := rise_len _ _ _ hr
  refine ⟨by unfold partsOf; rw [List.length_map, gpN_len]; omega, fun p hp => ?_⟩
  unfold partsOf at hp
  obtain ⟨g, _, rfl⟩ := List.mem_map.1 hp
  have := prt_len l g.1 g.2
  omega
/-- Whether the books from a to b go on a shelf. -/
def vB (l : List S40) (w : Int) (a b : Nat) : Bool := inK 1 w (thk (prt l a b))
theorem allIn_parts (l : List S40) (w : Int) : ∀ (s : Nat) (r : List Nat), allIn ((partsOf l s r).map thk) 1 w = okR (vB l w) l.length s r
  | s, [] => by simp [allIn, partsOf, gpN, okR, vB, inB, inK]
  | s, x :: xs => by
    have ih := allIn_parts l w x xs
    simp only [allIn, partsOf, gpN, okR, vB, List.map_cons, List.any_cons, Bool.not_or] at ih ⊢
    rw [ih]
    simp [inB, inK]
theorem shelving_ev (l : List S40) (w : Int) (hl : l.length ≤ 12) (r : List Nat) (hr : rise l.length 0 r) : Ev (fun k => impl_shelving.f k l w (ic (0 :: r))) (partsOf l 0 r, okR (vB l w) l.length 0 r) := by
  obtain ⟨h1, h2⟩ := partsOf_small l hl 0 r hr
  unfold impl_shelving.f
  refine Ev.bind (shelves_ev l hl r hr) (Ev.pos rfl (Ev.bind (widths_ev (partsOf l 0 r) (by omega) (fun p hp => by have := h2 p hp; omega)) ?_))
  unfold impl_areWithin.f
  rw [← allIn_parts]
  exact Ev.now _
/-! ### all candidates -/
theorem sub_suf (p : List Int) : ∀ e a, subE e a p = (sufE e a).map fun r => p ++ ic r := by
  intro e
  induction e generalizing p with
  | zero => intro a; rfl
  | succ e ih =>
    intro a
    rw [subE, sufE, ih, ih]
    simp [ic, List.map_append, Function.comp_def]
theorem cand_eq (n : Nat) : candS n = ([] :: sufE (n - 1) 1).map fun r => ic (0 :: r) := by
  unfold candS
  rw [sub_suf]
  simp [ic, Function.comp_def]
def oneS (l : List S40) (w : Int) (sc : List Nat → Int) (r : List Nat) : List (List Int × Int) := if okR (vB l w) l.length 0 r = true then [(ic (0 :: r), sc r)] else []
theorem evO_ev (l : List S40) (w : Int) (hl : l.length ≤ 12) (sf : Nat → List (List S40) → Option Int) (sc : List Nat → Int) (r : List Nat) (hr : rise l.length 0 r) (hs : Ev (fun k => sf k (partsOf l 0 r)) (sc r)) : Ev (fun k => evO k (sf k) l w (ic (0 :: r))) (oneS l w sc r) := by
  unfold evO oneS
  refine Ev.bind (shelving_ev l w hl r hr) (Ev.ite (fun h => ?_) (fun h => ?_))
  · simp only at h
    rw [if_pos h]; exact Ev.bind hs (Ev.now _)
  · simp only at h
    rw [if_neg h]; exact Ev.now _
theorem evsO_ev (l : List S40) (w : Int) (hl : l.length ≤ 12) (sf : Nat → List (List S40) → Option Int) (sc : List Nat → Int) : ∀ R : List (List Nat), (∀ r ∈ R, rise l.length 0 r) → (∀ r ∈ R, Ev (fun k => sf k (partsOf l 0 r)) (sc r)) → Ev (fun k => evsO k (sf k) l w (R.map fun r => ic (0 :: r))) (R.flatMap (oneS l w sc))
  | [], _, _ => Ev.now _
  | r :: R, h, hs => by
    rw [List.flatMap_cons]
    exact Ev.bind (evO_ev l w hl sf sc r (h r (by simp)) (hs r (by simp))) (Ev.bind (evsO_ev l w hl sf sc R (fun q hq => h q (by simp [hq])) (fun q hq => hs q (by simp [hq]))) (Ev.now _))
theorem bestO_ev (l : List S40) (w : Int) (h1 : 1 ≤ l.length) (hl : l.length ≤ 12) (sf : Nat → List (List S40) → Option Int) (sc : List Nat → Int) (hs : ∀ r ∈ [] :: sufE (l.length - 1) 1, Ev (fun k => sf k (partsOf l 0 r)) (sc r)) : Ev (fun k => bestO k (sf k) l w) ((([] :: sufE (l.length - 1) 1).flatMap (oneS l w sc)).foldl bsI ([], 0, 0)) := by
  unfold bestO
  refine Ev.pos ⟨h1, hl⟩ ?_
  rw [cand_eq]
  exact Ev.bind (evsO_ev l w hl sf sc _ (cand_rise l.length 0 h1) hs) (Ev.now _)
/-! ### the program's count does not wrap -/
theorem bsI_fold : ∀ (L : List (List Int × Int)) (s : List Int × Int × Int), 0 ≤ s.2.2 → s.2.2 + (L.length : Int) ≤ 1000000 → L.foldl bsI s = L.foldl bs s
  | [], s, _, _ => rfl
  | e :: L, s, h0, h1 => by
    simp only [List.length_cons] at h1
    have he : bsI s e = bs s e := by unfold bsI bs; rw [w64 (by omega) (by omega)]
    simp only [List.foldl_cons]
    rw [he]
    have hb : 0 ≤ (bs s e).2.2 ∧ (bs s e).2.2 ≤ s.2.2 + 1 := by unfold bs; grind
    exact bsI_fold L _ hb.1 (by omega)
theorem suf_len : ∀ e a, (sufE e a).length + 1 = 2 ^ e
  | 0, a => rfl
  | e + 1, a => by
    have := suf_len e (a + 1)
    simp only [sufE, List.length_append, List.length_cons, List.length_map]
    rw [Nat.pow_succ]; omega
theorem ones_len (l : List S40) (w : Int) (sc : List Nat → Int) : ∀ R : List (List Nat), (R.flatMap (oneS l w sc)).length ≤ R.length
  | [] => by simp
  | r :: R => by
    have := ones_len l w sc R
    rw [List.flatMap_cons, List.length_append, List.length_cons]
    have : (oneS l w sc r).length ≤ 1 := by unfold oneS; split <;> simp
    omega
theorem best_fold (l : List S40) (w : Int) (hl : l.length ≤ 12) (sc : List Nat → Int) : (([] :: sufE (l.length - 1) 1).flatMap (oneS l w sc)).foldl bsI ([], 0, 0) = B [] (([] :: sufE (l.length - 1) 1).flatMap (oneS l w sc)) := by
  refine bsI_fold _ _ (by simp) ?_
  have h1 := ones_len l w sc ([] :: sufE (l.length - 1) 1)
  have h2 := suf_len (l.length - 1) 1
  have h3 : 2 ^ (l.length - 1) ≤ 2 ^ 11 := Nat.pow_le_pow_right (by omega) (by omega)
  simp only [List.length_cons] at h1
  simp only
  omega
/-- Where the score is told shelf by shelf. -/
theorem best_Es (l : List S40) (w : Int) (h1 : 1 ≤ l.length) (H : Nat → Nat → Int) : B [] (([] :: sufE (l.length - 1) 1).flatMap (oneS l w (scR H l.length 0))) = sft [] (fun r => ic (0 :: r)) 0 (B [] (Es (vB l w) H l.length 0)) := by
  rw [← B_map]
  congr 1
  unfold Es
  rw [List.map_flatMap]
  congr 1
  funext r
  unfold oneS one
  split <;> simp
end Go.Proofs.Ythdfkgehgkfffaa.Q
