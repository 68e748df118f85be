import PyProof.Rows.All
import Wide.All
import OpenK.AllK
import Wide.FinOn
import HandS.ForMost
import HandS.Walk
import HandS.Exc
import HandS.ExcOwn
import HandS.WordsExc
import HandS.TryOnly
import HandS.IsInst
import HandS.Style
import HandS.Conv
import HandS.Codes
import KE.LtSeq
import HandS.NamedTupSort
import PySem.Challenge.RW_sameapart_k05_all_rows_of_few
set_option Elab.async false
set_option linter.all false
set_option maxRecDepth 100000
set_option maxHeartbeats 4000000
namespace Sa
end Sa
/-! PLAIN all fillings of a row -/
namespace Sa
def setTwo (row : List Int) (p m : Nat) : List Int := (row.set p (m : Int)).set (p + m) (m : Int)
theorem setTwo_length (row : List Int) (p m : Nat) : (setTwo row p m).length = row.length := by simp [setTwo]
/-- what stands there after every way to put number n and all below it into the row -/
def fillAt : Nat → List Int → List (List Int)
  | 0, row => [row]
  | n + 1, row => (List.range (row.length - (n + 1))).flatMap fun p => if row[p]? = some 0 ∧ row[p + (n + 1)]? = some 0 then fillAt n (setTwo row p (n + 1)) else []
/-- .. by the first place that is free, the numbers left in their order -/
def growAt : Nat → List Int → List Nat → List (List Int)
  | 0, _, _ => []
  | n + 1, row, left => if 0 ∈ row then left.flatMap fun v => if row.idxOf 0 + v < row.length ∧ row[row.idxOf 0 + v]? = some 0 then growAt n (setTwo row (row.idxOf 0) v) (left.filter fun u => !decide (u = v)) else [] else [row]
/-! ### parts of a flatMap -/
theorem fm_snoc {α β : Type} (f : α → List β) (l : List α) (x : α) : (l ++ [x]).flatMap f = l.flatMap f ++ f x := by
  rw [List.flatMap_append, List.flatMap_singleton]
theorem fm_range {β : Type} (f : Nat → List β) (i : Nat) : (List.range (i + 1)).flatMap f = (List.range i).flatMap f ++ f i := by
  rw [List.range_succ, fm_snoc]
theorem fm_range_le {β : Type} (f : Nat → List β) {i n : Nat} (h : i ≤ n) : ((List.range i).flatMap f).length ≤ ((List.range n).flatMap f).length := by
  induction n with
  | zero => obtain rfl : i = 0 := by omega
            exact Nat.le_refl _
  | succ n ih =>
    rcases Nat.lt_or_ge i (n + 1) with h' | h'
    · rw [fm_range, List.length_append]
      exact Nat.le_trans (ih (by omega)) (Nat.le_add_right _ _)
    · obtain rfl : i = n + 1 := by omega
      exact Nat.le_refl _
theorem fm_take {α β : Type} (f : α → List β) {l : List α} {i : Nat} {x : α} (h : l[i]? = some x) : (l.take (i + 1)).flatMap f = (l.take i).flatMap f ++ f x := by
  rw [List.take_add_one, h]
  exact fm_snoc f _ x
theorem fm_take_le {α β : Type} (f : α → List β) (l : List α) (i : Nat) : ((l.take i).flatMap f).length ≤ (l.flatMap f).length := by
  have h : l.flatMap f = (l.take i).flatMap f ++ (l.drop i).flatMap f := by
    rw [← List.flatMap_append, List.take_append_drop]
  rw [h, List.length_append]
  exact Nat.le_add_right _ _
/-! ### how many: by a number whose bits are the places taken -/
def sumTo (f : Nat → Nat) : Nat → Nat
  | 0 => 0
  | n + 1 => sumTo f n + f n
def cntAt (L : Nat) : Nat → Nat → Nat
  | 0, _ => 1
  | n + 1, m => sumTo (fun p => if m &&& (2 ^ p ||| 2 ^ (p + (n + 1))) = 0 then cntAt L n (m ||| (2 ^ p ||| 2 ^ (p + (n + 1)))) else 0) (L - (n + 1))
theorem fm_sum {β : Type} (f : Nat → List β) (g : Nat → Nat) : ∀ n, (∀ p, p < n → (f p).length = g p) → ((List.range n).flatMap f).length = sumTo g n
  | 0, _ => rfl
  | n + 1, h => by
    rw [fm_range, List.length_append, fm_sum f g n fun p hp => h p (by omega), h n (by omega)]
    rfl
/-- the bits of m say which places of the row are taken -/
def Bits (row : List Int) (m : Nat) : Prop := ∀ i, i < row.length → (m.testBit i = false ↔ row[i]? = some 0)
theorem and_two {m p q : Nat} : m &&& (2 ^ p ||| 2 ^ q) = 0 ↔ m.testBit p = false ∧ m.testBit q = false := by
  constructor
  · intro h
    have e : ∀ i, (m &&& (2 ^ p ||| 2 ^ q)).testBit i = false := fun i => by rw [h]; exact Nat.zero_testBit i
    have e1 := e p
    have e2 := e q
    rw [Nat.testBit_and, Nat.testBit_or, Nat.testBit_two_pow_self] at e1
    rw [Nat.testBit_and, Nat.testBit_or, Nat.testBit_two_pow_self] at e2
    simp at e1 e2
    exact ⟨e1, e2⟩
  · rintro ⟨h1, h2⟩
    refine Nat.eq_of_testBit_eq fun i => ?_
    rw [Nat.testBit_and, Nat.testBit_or, Nat.testBit_two_pow, Nat.testBit_two_pow, Nat.zero_testBit]
    by_cases a : p = i
    · subst a
      rw [h1, Bool.false_and]
    · by_cases b : q = i
      · subst b
        rw [h2, Bool.false_and]
      · simp [a, b]
theorem Bits.put {row : List Int} {m p n : Nat} (h : Bits row m) (hn : n ≠ 0) : Bits (setTwo row p n) (m ||| (2 ^ p ||| 2 ^ (p + n))) := by
  intro i hi
  rw [setTwo_length] at hi
  have hz : (n : Int) ≠ 0 := by omega
  rw [Nat.testBit_or, Nat.testBit_or, Nat.testBit_two_pow, Nat.testBit_two_pow]
  unfold setTwo
  rw [List.getElem?_set, List.getElem?_set, List.length_set]
  by_cases a : p + n = i
  · rw [if_pos a, if_pos (by omega)]
    simp [a, hn]
  · rw [if_neg a]
    by_cases b : p = i
    · rw [if_pos b, if_pos (by omega)]
      simp [b, hn]
    · rw [if_neg b]
      simp [a, b, h i hi]
theorem cnt_fill (L : Nat) : ∀ (n : Nat) (row : List Int) (m : Nat), row.length = L → Bits row m → (fillAt n row).length = cntAt L n m
  | 0, _, _, _, _ => rfl
  | n + 1, row, m, hl, h => by
    show ((List.range (row.length - (n + 1))).flatMap _).length = _
    rw [hl]
    refine fm_sum _ _ _ fun p hp => ?_
    have hc : (row[p]? = some 0 ∧ row[p + (n + 1)]? = some 0) ↔ m &&& (2 ^ p ||| 2 ^ (p + (n + 1))) = 0 := by
      rw [and_two, h p (by omega), h (p + (n + 1)) (by omega)]
    by_cases c : row[p]? = some 0 ∧ row[p + (n + 1)]? = some 0
    · rw [if_pos c, if_pos (hc.mp c)]
      exact cnt_fill L n _ _ (by rw [setTwo_length]; exact hl) (h.put (by omega))
    · rw [if_neg c, if_neg (fun z => c (hc.mpr z))]
      rfl
theorem bits_noughts (L : Nat) : Bits (List.replicate L (0 : Int)) 0 := by
  intro i hi
  rw [List.length_replicate] at hi
  rw [Nat.zero_testBit, List.getElem?_replicate, if_pos hi]
  simp
abbrev noughts (size : Nat) : List Int := List.replicate (2 * size) 0
theorem fill_count (size : Nat) : (fillAt size (noughts size)).length = cntAt (2 * size) size 0 := cnt_fill _ _ _ _ List.length_replicate (bits_noughts _)
theorem cnt_8 : cntAt 16 8 0 = 504 := by decide +kernel
theorem cnt_small : ∀ size, size < 6 → cntAt (2 * size) size 0 = (growAt 6 (noughts size) (List.range' 1 size)).length := by decide +kernel
theorem fill_small : ∀ size, size < 6 → (fillAt size (noughts size)).Perm (growAt 6 (noughts size) (List.range' 1 size)) := by decide +kernel
theorem cnt_list : ∀ size, size < 9 → 0 < size → size % 4 < 2 → cntAt (2 * size) size 0 = [1, 0, 0, 6, 10, 0, 0, 504].getD (size - 1) 0 := by
  intro size h1 h2 h3
  have hs : size = 1 ∨ size = 4 ∨ size = 5 ∨ size = 8 := by omega
  rcases hs with rfl | rfl | rfl | rfl
  · decide +kernel
  · decide +kernel
  · decide +kernel
  · exact cnt_8
theorem grow_list : ∀ size, size < 6 → 0 < size → (growAt 6 (noughts size) (List.range' 1 size)).length = [1, 0, 0, 6, 10, 0, 0, 504].getD (size - 1) 0 := by decide +kernel
/-- the answer of many -/
def howMany (size : Nat) : Nat := if size % 4 < 2 then (fillAt size (noughts size)).length else 0
theorem howMany_list : ∀ size, size < 9 → 0 < size → howMany size = [1, 0, 0, 6, 10, 0, 0, 504].getD (size - 1) 0 := by
  intro size h1 h2
  unfold howMany
  by_cases c : size % 4 < 2
  · rw [if_pos c, fill_count]
    exact cnt_list size h1 h2 c
  · rw [if_neg c]
    have hs : size = 2 ∨ size = 3 ∨ size = 6 ∨ size = 7 := by omega
    rcases hs with rfl | rfl | rfl | rfl <;> rfl
theorem fill_bound : ∀ size, size < 6 → (fillAt size (noughts size)).length ≤ 504 := by
  intro size h
  rw [(fill_small size h).length_eq]
  have : ∀ size, size < 6 → (growAt 6 (noughts size) (List.range' 1 size)).length ≤ 504 := by decide +kernel
  exact this size h
theorem fill_bound8 : ∀ size, size < 9 → size % 4 < 2 → (fillAt size (noughts size)).length ≤ 504 := by
  intro size h c
  rcases Nat.eq_zero_or_pos size with rfl | h0
  · decide +kernel
  rw [fill_count, cnt_list size h h0 c]
  have : ∀ i, i < 8 → [1, 0, 0, 6, 10, 0, 0, 504].getD i 0 ≤ 504 := by decide
  exact this _ (by omega)
end Sa

/-! PLAIN rows -/
namespace Sa
/-- the places of k in a list, counted from i -/
def spotsFrom (k : Int) : Nat → List Int → List Int
  | _, [] => []
  | i, x :: r => if x = k then (i : Int) :: spotsFrom k (i + 1) r else spotsFrom k (i + 1) r
def spots (row : List Int) (k : Int) : List Int := spotsFrom k 0 row
/-- the number k stands at two places, k apart -/
def good (row : List Int) (k : Int) : Bool := match spots row k with
  | [a, b] => decide (b - a = k)
  | _ => false
def isRow (row : List Int) : Bool :=
  decide (row.length = 2 * (row.length / 2)) && decide (1 ≤ row.length / 2) && decide (row.length / 2 ≤ 400) && (List.range (row.length / 2)).all fun i => good row ((i : Int) + 1)

theorem spotsFrom_append (k : Int) : ∀ (xs ys : List Int) (i : Nat), spotsFrom k i (xs ++ ys) = spotsFrom k i xs ++ spotsFrom k (i + xs.length) ys
  | [], ys, i => by simp [spotsFrom]
  | x :: r, ys, i => by
    have ih := spotsFrom_append k r ys (i + 1)
    simp only [List.cons_append, spotsFrom, List.length_cons]
    split <;> simp [ih, Nat.add_assoc, Nat.add_comm 1]
theorem spots_snoc (row : List Int) (x k : Int) : spots (row ++ [x]) k = spots row k ++ (if x = k then [(row.length : Int)] else []) := by
  unfold spots
  rw [spotsFrom_append]
  simp [spotsFrom]
theorem mem_spotsFrom (k : Int) : ∀ (row : List Int) (i : Nat) (p : Int), p ∈ spotsFrom k i row ↔ ∃ j : Nat, row[j]? = some k ∧ p = ((i + j : Nat) : Int)
  | [], i, p => by simp [spotsFrom]
  | x :: r, i, p => by
    have ih := mem_spotsFrom k r (i + 1) p
    unfold spotsFrom
    split
    · rename_i e
      rw [List.mem_cons, ih]
      constructor
      · rintro (rfl | ⟨j, h1, h2⟩)
        · exact ⟨0, by simp [e], by simp⟩
        · exact ⟨j + 1, by simpa using h1, by rw [h2]; congr 1; omega⟩
      · rintro ⟨j, h1, h2⟩
        cases j with
        | zero => exact .inl (by simpa using h2)
        | succ j => exact .inr ⟨j, by simpa using h1, by rw [h2]; congr 1; omega⟩
    · rename_i e
      rw [ih]
      constructor
      · rintro ⟨j, h1, h2⟩
        exact ⟨j + 1, by simpa using h1, by rw [h2]; congr 1; omega⟩
      · rintro ⟨j, h1, h2⟩
        cases j with
        | zero => exact absurd (by simpa using h1) e
        | succ j => exact ⟨j, by simpa using h1, by rw [h2]; congr 1; omega⟩
theorem mem_spots (row : List Int) (k p : Int) : p ∈ spots row k ↔ ∃ j : Nat, row[j]? = some k ∧ p = (j : Int) := by
  unfold spots
  rw [mem_spotsFrom]
  simp
theorem spotsFrom_sorted (k : Int) : ∀ (row : List Int) (i : Nat), (spotsFrom k i row).Pairwise (· < ·) ∧ ∀ p ∈ spotsFrom k i row, (i : Int) ≤ p
  | [], i => by simp [spotsFrom]
  | x :: r, i => by
    have ih := spotsFrom_sorted k r (i + 1)
    unfold spotsFrom
    split
    · refine ⟨List.pairwise_cons.mpr ⟨fun p hp => ?_, ih.1⟩, fun p hp => ?_⟩
      · have := ih.2 p hp
        omega
      · rcases List.mem_cons.mp hp with rfl | hp
        · exact Int.le_refl _
        · have := ih.2 p hp
          omega
    · refine ⟨ih.1, fun p hp => ?_⟩
      have := ih.2 p hp
      omega
theorem spots_sorted (row : List Int) (k : Int) : (spots row k).Pairwise (· < ·) := (spotsFrom_sorted k row 0).1
theorem spots_length (row : List Int) (k : Int) : (spots row k).length = row.count k := by
  have h : ∀ (row : List Int) (i : Nat), (spotsFrom k i row).length = row.count k := by
    intro row
    induction row with
    | nil => intro i; simp [spotsFrom]
    | cons x r ih =>
      intro i
      unfold spotsFrom
      split
      · rename_i e
        rw [List.length_cons, ih, e, List.count_cons_self]
      · rename_i e
        rw [ih, List.count_cons_of_ne e]
  exact h row 0
/-- what a good number is -/
theorem good_iff (row : List Int) (k : Int) (hk : 0 < k) : good row k = true ↔ ∃ p : Nat, row[p]? = some k ∧ row[p + k.toNat]? = some k ∧ ∀ q : Nat, row[q]? = some k → q = p ∨ q = p + k.toNat := by
  unfold good
  have hm := mem_spots row k
  have hs := spots_sorted row k
  generalize spots row k = l at hm hs
  constructor
  · intro h
    match l, h with
    | [a, b], h =>
      have e : b - a = k := of_decide_eq_true h
      obtain ⟨p, h1, rfl⟩ := (hm a).mp (by simp)
      obtain ⟨q, h2, rfl⟩ := (hm b).mp (by simp)
      have eq : q = p + k.toNat := by omega
      subst eq
      refine ⟨p, h1, h2, fun j hj => ?_⟩
      have := (hm j).mpr ⟨j, hj, rfl⟩
      simp at this
      omega
  · rintro ⟨p, h1, h2, h3⟩
    have m1 := (hm p).mpr ⟨p, h1, rfl⟩
    have m2 := (hm ((p + k.toNat : Nat) : Int)).mpr ⟨p + k.toNat, h2, rfl⟩
    have m3 : ∀ z ∈ l, z = (p : Int) ∨ z = ((p + k.toNat : Nat) : Int) := fun z hz => by
      obtain ⟨j, hj, rfl⟩ := (hm z).mp hz
      rcases h3 j hj with e | e
      · exact .inl (by rw [e])
      · exact .inr (by rw [e])
    match l, hs, m1, m2, m3 with
    | [], _, m1, _, _ => simp at m1
    | [a], _, m1, m2, _ => simp at m1 m2; omega
    | [a, b], hs, m1, m2, m3 =>
      have hab : a < b := by simpa using hs
      have ha := m3 a (by simp)
      have hb := m3 b (by simp)
      exact decide_eq_true (by omega)
    | a :: b :: c :: r, hs, m1, m2, m3 =>
      have ha := m3 a (by simp)
      have hb := m3 b (by simp)
      have hc := m3 c (by simp)
      simp at hs
      omega
end Sa

/-! PLAIN rows, looked at from the first place on -/
namespace Sa
theorem isRow_iff (row : List Int) : isRow row = true ↔ row.length = 2 * (row.length / 2) ∧ 1 ≤ row.length / 2 ∧ row.length / 2 ≤ 400 ∧ ∀ k : Int, 1 ≤ k → k ≤ ((row.length / 2 : Nat) : Int) → good row k = true := by
  unfold isRow
  rw [Bool.and_eq_true, Bool.and_eq_true, Bool.and_eq_true, decide_eq_true_iff, decide_eq_true_iff, decide_eq_true_iff, List.all_eq_true]
  constructor
  · rintro ⟨⟨⟨h1, h2⟩, h3⟩, h4⟩
    refine ⟨h1, h2, h3, fun k k1 k2 => ?_⟩
    have := h4 (k.toNat - 1) (List.mem_range.mpr (by omega))
    rw [show ((k.toNat - 1 : Nat) : Int) + 1 = k by omega] at this
    exact this
  · rintro ⟨h1, h2, h3, h4⟩
    refine ⟨⟨⟨h1, h2⟩, h3⟩, fun i hi => ?_⟩
    have := List.mem_range.mp hi
    exact h4 _ (by omega) (by omega)
theorem good_count {row : List Int} {k : Int} (h : good row k = true) : row.count k = 2 := by
  rw [← spots_length]
  unfold good at h
  match spots row k, h with
  | [a, b], _ => rfl
theorem countP_range (row : List Int) : ∀ n : Nat, (∀ k : Int, 1 ≤ k → k ≤ (n : Int) → row.count k = 2) → row.countP (fun x => decide (1 ≤ x ∧ x ≤ (n : Int))) = 2 * n
  | 0, _ => by
    rw [List.countP_eq_zero]
    intro x _
    simp
    omega
  | n + 1, h => by
    have ih := countP_range row n fun k h1 h2 => h k h1 (by omega)
    have hc := h ((n : Int) + 1) (by omega) (by omega)
    have e : ∀ l : List Int, l.countP (fun x => decide (1 ≤ x ∧ x ≤ ((n + 1 : Nat) : Int))) = l.countP (fun x => decide (1 ≤ x ∧ x ≤ (n : Int))) + l.count ((n : Int) + 1) := by
      intro l
      induction l with
      | nil => rfl
      | cons x r ih =>
        rw [List.countP_cons, List.countP_cons, List.count_cons, ih]
        by_cases e1 : x = (n : Int) + 1
        · subst e1
          have a1 : decide (1 ≤ (n : Int) + 1 ∧ (n : Int) + 1 ≤ ((n + 1 : Nat) : Int)) = true := decide_eq_true (by omega)
          have a2 : decide (1 ≤ (n : Int) + 1 ∧ (n : Int) + 1 ≤ (n : Int)) = false := decide_eq_false (by omega)
          simp only [a1, a2, beq_self_eq_true, if_true]
          simp
          omega
        · have a3 : (x == (n : Int) + 1) = false := by simpa using e1
          have a4 : decide (1 ≤ x ∧ x ≤ ((n + 1 : Nat) : Int)) = decide (1 ≤ x ∧ x ≤ (n : Int)) := by
            rw [decide_eq_decide]
            omega
          rw [a3, a4]
          simp
          omega
    rw [e, ih, hc]
    omega
/-- in a row each number is from one to the size -/
theorem isRow_bound {row : List Int} (h : isRow row = true) : ∀ x ∈ row, 1 ≤ x ∧ x ≤ ((row.length / 2 : Nat) : Int) := by
  obtain ⟨h1, _, _, h4⟩ := (isRow_iff row).mp h
  have c := countP_range row (row.length / 2) fun k k1 k2 => good_count (h4 k k1 k2)
  rw [← h1] at c
  have := List.countP_eq_length.mp c
  intro x hx
  exact of_decide_eq_true (this x hx)
/-- .. and stands at two places -/
theorem isRow_spots {row : List Int} (h : isRow row = true) {k : Int} (h1 : 1 ≤ k) (h2 : k ≤ ((row.length / 2 : Nat) : Int)) : ∃ a b : Nat, spots row k = [(a : Int), (b : Int)] ∧ (b : Int) - a = k ∧ b < row.length := by
  have g := ((isRow_iff row).mp h).2.2.2 k h1 h2
  unfold good at g
  have hm := mem_spots row k
  match e : spots row k, g with
  | [a, b], g =>
    rw [e] at hm
    have e2 : b - a = k := of_decide_eq_true g
    obtain ⟨p, p1, rfl⟩ := (hm a).mp (by simp)
    obtain ⟨q, q1, rfl⟩ := (hm b).mp (by simp)
    exact ⟨p, q, rfl, e2, (List.getElem?_eq_some_iff.mp q1).1⟩
/-- the reverse -/
theorem spots_of_good {row : List Int} {k : Int} {a b : Int} (e : spots row k = [a, b]) (h : b - a = k) : good row k = true := by
  unfold good
  rw [e]
  exact decide_eq_true h

/-! ### a row looked at from the first place on -/
/-- what has been passed is in order so far -/
def okPre (n : Nat) (pre : List Int) : Prop := (∀ x ∈ pre, 1 ≤ x ∧ x ≤ (n : Int)) ∧ ∀ k : Int, spots pre k = [] ∨ (∃ a, spots pre k = [a]) ∨ ∃ a b, spots pre k = [a, b] ∧ b - a = k
theorem okPre_nil (n : Nat) : okPre n [] := ⟨by simp, fun k => .inl rfl⟩
theorem spots_take (row : List Int) (k : Int) (i : Nat) : ∃ r, spots row k = spots (row.take i) k ++ r := by
  refine ⟨spotsFrom k (0 + (row.take i).length) (row.drop i), ?_⟩
  unfold spots
  rw [← spotsFrom_append, List.take_append_drop]
theorem isRow_okPre {row : List Int} (h : isRow row = true) (i : Nat) : okPre (row.length / 2) (row.take i) := by
  refine ⟨fun x hx => isRow_bound h x (List.mem_of_mem_take hx), fun k => ?_⟩
  obtain ⟨r, e⟩ := spots_take row k i
  by_cases hk : 1 ≤ k ∧ k ≤ ((row.length / 2 : Nat) : Int)
  · obtain ⟨a, b, e2, e3, _⟩ := isRow_spots h hk.1 hk.2
    rw [e2] at e
    match hs : spots (row.take i) k with
    | [] => exact .inl rfl
    | [c] => exact .inr (.inl ⟨c, rfl⟩)
    | [c, d] =>
      rw [hs] at e
      simp at e
      exact .inr (.inr ⟨c, d, rfl, by omega⟩)
    | c :: d :: f :: t =>
      rw [hs] at e
      simp at e
  · refine .inl ?_
    match hs : spots (row.take i) k with
    | [] => rfl
    | c :: t =>
      obtain ⟨j, hj, _⟩ := (mem_spots (row.take i) k c).mp (by rw [hs]; simp)
      have := isRow_bound h k (List.mem_of_mem_take (List.mem_of_getElem? hj))
      exact absurd this hk
theorem isRow_of_okPre {row : List Int} (h1 : row.length = 2 * (row.length / 2)) (h2 : 1 ≤ row.length / 2) (h3 : row.length / 2 ≤ 400) (ok : okPre (row.length / 2) row)
    (full : ∀ k : Int, 1 ≤ k → k ≤ ((row.length / 2 : Nat) : Int) → (spots row k).length = 2) : isRow row = true := by
  refine (isRow_iff row).mpr ⟨h1, h2, h3, fun k k1 k2 => ?_⟩
  have f := full k k1 k2
  rcases ok.2 k with e | ⟨a, e⟩ | ⟨a, b, e, e2⟩
  · rw [e] at f; simp at f
  · rw [e] at f; simp at f
  · exact spots_of_good e e2
theorem okPre_snoc {n : Nat} {pre : List Int} {x : Int} (ok : okPre n pre) (h1 : 1 ≤ x) (h2 : x ≤ (n : Int)) (h : spots pre x = [] ∨ ∃ a, spots pre x = [a] ∧ (pre.length : Int) - a = x) : okPre n (pre ++ [x]) := by
  refine ⟨fun y hy => ?_, fun k => ?_⟩
  · rcases List.mem_append.mp hy with hy | hy
    · exact ok.1 y hy
    · rw [List.mem_singleton.mp hy]
      exact ⟨h1, h2⟩
  · rw [spots_snoc]
    by_cases e : x = k
    · subst e
      rw [if_pos rfl]
      rcases h with h | ⟨a, h, h'⟩
      · rw [h]
        exact .inr (.inl ⟨_, rfl⟩)
      · rw [h]
        exact .inr (.inr ⟨a, _, rfl, h'⟩)
    · rw [if_neg e, List.append_nil]
      exact ok.2 k
/-- n different numbers from one to n are all of them -/
theorem all_of_nodup {n : Nat} {l : List Int} (hl : l.length = n) (hn : l.Nodup) (hb : ∀ x ∈ l, 1 ≤ x ∧ x ≤ (n : Int)) : ∀ k : Int, 1 ≤ k → k ≤ (n : Int) → k ∈ l := by
  induction n generalizing l with
  | zero => intro k h1 h2; omega
  | succ n ih =>
    by_cases hm : ((n + 1 : Nat) : Int) ∈ l
    · intro k h1 h2
      by_cases e : k = ((n + 1 : Nat) : Int)
      · rw [e]; exact hm
      · have q := ih (l := l.erase ((n + 1 : Nat) : Int)) (by rw [List.length_erase_of_mem hm]; omega) (hn.erase _) (fun x hx => by
          have h1 := hb x (List.mem_of_mem_erase hx)
          have h2 := (List.Nodup.mem_erase_iff hn).mp hx
          have : x ≠ ((n + 1 : Nat) : Int) := h2.1
          omega) k h1 (by omega)
        exact List.mem_of_mem_erase q
    · exfalso
      have big : ∀ (m : Nat) (l : List Int), l.Nodup → (∀ x ∈ l, 1 ≤ x ∧ x ≤ (m : Int)) → l.length ≤ m := by
        intro m
        induction m with
        | zero =>
          intro l _ hb
          cases l with
          | nil => simp
          | cons x r =>
            have := hb x (by simp)
            omega
        | succ m ih2 =>
          intro l hn hb
          have := ih2 (l.erase ((m + 1 : Nat) : Int)) (hn.erase _) (fun x hx => by
            have h1 := hb x (List.mem_of_mem_erase hx)
            have h2 := (List.Nodup.mem_erase_iff hn).mp hx
            have : x ≠ ((m + 1 : Nat) : Int) := h2.1
            omega)
          by_cases hm : ((m + 1 : Nat) : Int) ∈ l
          · rw [List.length_erase_of_mem hm] at this
            omega
          · rw [List.erase_of_not_mem hm] at this
            omega
      have := big n l hn (fun x hx => by
        have h1 := hb x hx
        have : x ≠ ((n + 1 : Nat) : Int) := fun e => hm (e ▸ hx)
        omega)
      omega
theorem length_of_all {n : Nat} {l : List Int} (hn : l.Nodup) (hb : ∀ x ∈ l, 1 ≤ x ∧ x ≤ (n : Int)) (ha : ∀ k : Int, 1 ≤ k → k ≤ (n : Int) → k ∈ l) : l.length = n := by
  induction n generalizing l with
  | zero =>
    cases l with
    | nil => rfl
    | cons x r =>
      have := hb x (by simp)
      omega
  | succ n ih =>
    have hm : ((n + 1 : Nat) : Int) ∈ l := ha _ (by omega) (Int.le_refl _)
    have q := ih (l := l.erase ((n + 1 : Nat) : Int)) (hn.erase _) (fun x hx => by
      have h1 := hb x (List.mem_of_mem_erase hx)
      have h2 := (List.Nodup.mem_erase_iff hn).mp hx
      have : x ≠ ((n + 1 : Nat) : Int) := h2.1
      omega) (fun k h1 h2 => (List.Nodup.mem_erase_iff hn).mpr ⟨by omega, ha k h1 (by omega)⟩)
    rw [List.length_erase_of_mem hm] at q
    have := List.length_pos_of_mem hm
    omega
end Sa

/-! PLAIN rows made of pairs of places -/
namespace Sa
/-- f of the n numbers from lo on -/
def fam (lo : Int) (n : Nat) (f : Int → Int × Int) : List (Int × Int) := (List.range n).map fun (i : Nat) => f (lo + (i : Int))
theorem mem_fam {lo : Int} {n : Nat} {f : Int → Int × Int} {q : Int × Int} : q ∈ fam lo n f ↔ ∃ k : Int, lo ≤ k ∧ k < lo + n ∧ f k = q := by
  unfold fam
  rw [List.mem_map]
  constructor
  · rintro ⟨i, hi, rfl⟩
    have := List.mem_range.mp hi
    exact ⟨lo + i, by omega, by omega, rfl⟩
  · rintro ⟨k, h1, h2, rfl⟩
    exact ⟨(k - lo).toNat, List.mem_range.mpr (by omega), by congr 1; omega⟩
theorem fam_length (lo : Int) (n : Nat) (f : Int → Int × Int) : (fam lo n f).length = n := by
  unfold fam
  rw [List.length_map, List.length_range]
def pairs4g (f : Int) : List (Int × Int) :=
  fam 0 (2 * f).toNat (fun k => (4 * f + k, 8 * f - k)) ++ fam 1 (f - 1).toNat (fun k => (k, 4 * f - 1 - k)) ++ fam 0 (f - 2).toNat (fun k => (f + 2 + k, 3 * f - 1 - k)) ++ [(f, f + 1), (2 * f, 4 * f - 1), (2 * f + 1, 6 * f)]
def pairs4 (f : Int) : List (Int × Int) := if f = 1 then [(4, 8), (5, 7), (1, 2), (3, 6)] else pairs4g f
def pairs5g (f : Int) : List (Int × Int) :=
  fam 0 (2 * f).toNat (fun k => (4 * f + 2 + k, 8 * f + 2 - k)) ++ fam 1 (f + 1 - 1).toNat (fun k => (k, 4 * f + 1 - k)) ++ fam 1 (f - 1 - 1).toNat (fun k => (f + 2 + k, 3 * f + 1 - k)) ++ [(f + 1, f + 2), (2 * f + 1, 6 * f + 2), (2 * f + 2, 4 * f + 1)]
def pairs5 (f : Int) : List (Int × Int) := if f = 0 then [(1, 2)] else if f = 1 then [(1, 2), (3, 6), (4, 8), (5, 10), (7, 9)] else pairs5g f
/-- one pair's places filled -/
def fill1 (row : List Int) (q : Int × Int) : List Int := (row.set (q.1 - 1).toNat (q.2 - q.1)).set (q.2 - 1).toNat (q.2 - q.1)
def fillRow (row : List Int) (ps : List (Int × Int)) : List Int := ps.foldl fill1 row
theorem fill1_length (row : List Int) (q : Int × Int) : (fill1 row q).length = row.length := by simp [fill1]
theorem fillRow_length (ps : List (Int × Int)) : ∀ row : List Int, (fillRow row ps).length = row.length := by
  induction ps with
  | nil => intro row; rfl
  | cons q r ih =>
    intro row
    show (fillRow (fill1 row q) r).length = _
    rw [ih, fill1_length]
/-- q has the place p (counted from nought) -/
def touch (q : Int × Int) (p : Nat) : Prop := (q.1 - 1).toNat = p ∨ (q.2 - 1).toNat = p
theorem fill1_at {row : List Int} {q : Int × Int} {p : Nat} (hp : p < row.length) (h : touch q p) : (fill1 row q)[p]? = some (q.2 - q.1) := by
  unfold fill1
  rw [List.getElem?_set]
  split
  · rename_i e
    rw [if_pos (by rw [List.length_set, e]; exact hp)]
  · rename_i e
    rcases h with h | h
    · rw [h, List.getElem?_set_self hp]
    · exact absurd h e
theorem fill1_off {row : List Int} {q : Int × Int} {p : Nat} (h : ¬ touch q p) : (fill1 row q)[p]? = row[p]? := by
  unfold fill1
  rw [List.getElem?_set_ne (fun e => h (.inr e)), List.getElem?_set_ne (fun e => h (.inl e))]
theorem fillRow_at : ∀ (ps : List (Int × Int)) (row : List Int) (p : Nat), p < row.length → (∀ q ∈ ps, ∀ q' ∈ ps, touch q p → touch q' p → q = q') →
    (∀ q ∈ ps, touch q p → (fillRow row ps)[p]? = some (q.2 - q.1)) ∧ ((∀ q ∈ ps, ¬ touch q p) → (fillRow row ps)[p]? = row[p]?)
  | [], row, p, _, _ => ⟨fun q hq => absurd hq (by simp), fun _ => rfl⟩
  | q :: r, row, p, hp, u => by
    obtain ⟨i1, i2⟩ := fillRow_at r (fill1 row q) p (by rw [fill1_length]; exact hp) fun a ha b hb => u a (List.mem_cons_of_mem _ ha) b (List.mem_cons_of_mem _ hb)
    refine ⟨fun q' hq' ht => ?_, fun h => ?_⟩
    · show (fillRow (fill1 row q) r)[p]? = _
      by_cases hr : ∃ a ∈ r, touch a p
      · obtain ⟨a, ha, hta⟩ := hr
        have e := u q' hq' a (List.mem_cons_of_mem _ ha) ht hta
        rw [e]
        exact i1 a ha hta
      · have hno : ∀ a ∈ r, ¬ touch a p := fun a ha z => hr ⟨a, ha, z⟩
        rw [i2 hno]
        rcases List.mem_cons.mp hq' with e | e
        · rw [e] at ht ⊢
          exact fill1_at hp ht
        · exact absurd ht (hno q' e)
    · show (fillRow (fill1 row q) r)[p]? = _
      rw [i2 fun a ha => h a (List.mem_cons_of_mem _ ha), fill1_off (h q (by simp))]
/-- what pairs make a row of size n -/
structure RowPairs (n : Nat) (ps : List (Int × Int)) : Prop where
  one : 1 ≤ n
  most : n ≤ 400
  inn : ∀ q ∈ ps, 1 ≤ q.1 ∧ q.1 < q.2 ∧ q.2 ≤ 2 * (n : Int)
  apart : ∀ q ∈ ps, ∀ q' ∈ ps, (q.1 = q'.1 ∨ q.1 = q'.2 ∨ q.2 = q'.1 ∨ q.2 = q'.2) → q = q'
  all : ∀ k : Int, 1 ≤ k → k ≤ (n : Int) → ∃ q ∈ ps, q.2 - q.1 = k
  uniq : ∀ q ∈ ps, ∀ q' ∈ ps, q.2 - q.1 = q'.2 - q'.1 → q = q'
theorem RowPairs.isRow {n : Nat} {ps : List (Int × Int)} (R : RowPairs n ps) : isRow (fillRow (List.replicate (2 * n) 0) ps) = true := by
  have hl : (fillRow (List.replicate (2 * n) 0) ps).length = 2 * n := by rw [fillRow_length, List.length_replicate]
  have hat := fun p (hp : p < 2 * n) => fillRow_at ps (List.replicate (2 * n) 0) p (by rw [List.length_replicate]; exact hp) (fun q hq q' hq' t t' => R.apart q hq q' hq' (by
    have h1 := R.inn q hq
    have h2 := R.inn q' hq'
    rcases t with t | t <;> rcases t' with t' | t'
    · exact .inl (by omega)
    · exact .inr (.inl (by omega))
    · exact .inr (.inr (.inl (by omega)))
    · exact .inr (.inr (.inr (by omega)))))
  have hh : (fillRow (List.replicate (2 * n) 0) ps).length / 2 = n := by rw [hl]; omega
  refine (isRow_iff _).mpr ⟨by rw [hh, hl], by rw [hh]; exact R.one, by rw [hh]; exact R.most, fun k k1 k2 => ?_⟩
  rw [hh] at k2
  obtain ⟨q, hq, e⟩ := R.all k k1 k2
  have hi := R.inn q hq
  refine (good_iff _ k (by omega)).mpr ⟨(q.1 - 1).toNat, ?_, ?_, fun j hj => ?_⟩
  · rw [(hat (q.1 - 1).toNat (by omega)).1 q hq (.inl rfl), e]
  · have ep : (q.1 - 1).toNat + k.toNat = (q.2 - 1).toNat := by omega
    rw [ep, (hat (q.2 - 1).toNat (by omega)).1 q hq (.inr rfl), e]
  · have hj2 : j < 2 * n := by
      have := (List.getElem?_eq_some_iff.mp hj).1
      rwa [hl] at this
    by_cases ht : ∃ a ∈ ps, touch a j
    · obtain ⟨a, ha, t⟩ := ht
      have e1 := (hat j hj2).1 a ha t
      rw [hj] at e1
      have e2 : a = q := R.uniq a ha q hq (by have := Option.some.inj e1; omega)
      rw [e2] at t
      rcases t with t | t
      · exact .inl t.symm
      · exact .inr (by omega)
    · have e1 := (hat j hj2).2 fun a ha t => ht ⟨a, ha, t⟩
      rw [hj, List.getElem?_replicate, if_pos hj2] at e1
      have := Option.some.inj e1
      omega
theorem mem_pairs4g {f : Int} {q : Int × Int} (hf : 2 ≤ f) : q ∈ pairs4g f ↔ (∃ k, 0 ≤ k ∧ k < 2 * f ∧ q = (4 * f + k, 8 * f - k)) ∨ (∃ k, 1 ≤ k ∧ k < f ∧ q = (k, 4 * f - 1 - k)) ∨ (∃ k, 0 ≤ k ∧ k < f - 2 ∧ q = (f + 2 + k, 3 * f - 1 - k)) ∨ q = (f, f + 1) ∨ q = (2 * f, 4 * f - 1) ∨ q = (2 * f + 1, 6 * f) := by
  unfold pairs4g
  simp only [List.mem_append, mem_fam, List.mem_cons, List.not_mem_nil, or_false]
  have e1 : (((2 * f).toNat : Nat) : Int) = 2 * f := by omega
  have e2 : (((f - 1).toNat : Nat) : Int) = f - 1 := by omega
  have e3 : (((f - 2).toNat : Nat) : Int) = f - 2 := by omega
  rw [e1, e2, e3]
  constructor
  · rintro (((⟨k, h1, h2, rfl⟩ | ⟨k, h1, h2, rfl⟩) | ⟨k, h1, h2, rfl⟩) | h)
    · exact .inl ⟨k, h1, by omega, rfl⟩
    · exact .inr (.inl ⟨k, h1, by omega, rfl⟩)
    · exact .inr (.inr (.inl ⟨k, h1, by omega, rfl⟩))
    · exact .inr (.inr (.inr h))
  · rintro (⟨k, h1, h2, rfl⟩ | ⟨k, h1, h2, rfl⟩ | ⟨k, h1, h2, rfl⟩ | h)
    · exact .inl (.inl (.inl ⟨k, h1, by omega, rfl⟩))
    · exact .inl (.inl (.inr ⟨k, h1, by omega, rfl⟩))
    · exact .inl (.inr ⟨k, h1, by omega, rfl⟩)
    · exact .inr h
theorem mem_pairs5g {f : Int} {q : Int × Int} (hf : 2 ≤ f) : q ∈ pairs5g f ↔ (∃ k, 0 ≤ k ∧ k < 2 * f ∧ q = (4 * f + 2 + k, 8 * f + 2 - k)) ∨ (∃ k, 1 ≤ k ∧ k < f + 1 ∧ q = (k, 4 * f + 1 - k)) ∨ (∃ k, 1 ≤ k ∧ k < f - 1 ∧ q = (f + 2 + k, 3 * f + 1 - k)) ∨ q = (f + 1, f + 2) ∨ q = (2 * f + 1, 6 * f + 2) ∨ q = (2 * f + 2, 4 * f + 1) := by
  unfold pairs5g
  simp only [List.mem_append, mem_fam, List.mem_cons, List.not_mem_nil, or_false]
  have e1 : (((2 * f).toNat : Nat) : Int) = 2 * f := by omega
  have e2 : (((f + 1 - 1).toNat : Nat) : Int) = f := by omega
  have e3 : (((f - 1 - 1).toNat : Nat) : Int) = f - 2 := by omega
  rw [e1, e2, e3]
  constructor
  · rintro (((⟨k, h1, h2, rfl⟩ | ⟨k, h1, h2, rfl⟩) | ⟨k, h1, h2, rfl⟩) | h)
    · exact .inl ⟨k, h1, by omega, rfl⟩
    · exact .inr (.inl ⟨k, h1, by omega, rfl⟩)
    · exact .inr (.inr (.inl ⟨k, h1, by omega, rfl⟩))
    · exact .inr (.inr (.inr h))
  · rintro (⟨k, h1, h2, rfl⟩ | ⟨k, h1, h2, rfl⟩ | ⟨k, h1, h2, rfl⟩ | h)
    · exact .inl (.inl (.inl ⟨k, h1, by omega, rfl⟩))
    · exact .inl (.inl (.inr ⟨k, h1, by omega, rfl⟩))
    · exact .inl (.inr ⟨k, h1, by omega, rfl⟩)
    · exact .inr h
theorem pairs4_row {f : Int} (h1 : 1 ≤ f) (h2 : f ≤ 100) : RowPairs (4 * f).toNat (pairs4 f) := by
  unfold pairs4
  by_cases e : f = 1
  · subst e
    rw [if_pos rfl]
    refine ⟨by decide, by decide, by decide, by decide, fun k k1 k2 => ?_, by decide⟩
    have : k = 1 ∨ k = 2 ∨ k = 3 ∨ k = 4 := by omega
    rcases this with rfl | rfl | rfl | rfl <;> decide
  · rw [if_neg e]
    have hf : 2 ≤ f := by omega
    have hn : (((4 * f).toNat : Nat) : Int) = 4 * f := by omega
    refine ⟨by omega, by omega, fun q hq => ?_, fun q hq q' hq' h => ?_, fun k k1 k2 => ?_, fun q hq q' hq' h => ?_⟩
    · rw [hn]
      rcases (mem_pairs4g hf).mp hq with ⟨k, a, b, rfl⟩ | ⟨k, a, b, rfl⟩ | ⟨k, a, b, rfl⟩ | rfl | rfl | rfl <;> simp <;> omega
    · rcases (mem_pairs4g hf).mp hq with ⟨k, a, b, rfl⟩ | ⟨k, a, b, rfl⟩ | ⟨k, a, b, rfl⟩ | rfl | rfl | rfl <;>
        rcases (mem_pairs4g hf).mp hq' with ⟨k', a', b', rfl⟩ | ⟨k', a', b', rfl⟩ | ⟨k', a', b', rfl⟩ | rfl | rfl | rfl <;> simp at h ⊢ <;> omega
    · rw [hn] at k2
      by_cases hk : k % 2 = 0
      · exact ⟨(4 * f + (4 * f - k) / 2, 8 * f - (4 * f - k) / 2), (mem_pairs4g hf).mpr (.inl ⟨(4 * f - k) / 2, by omega, by omega, rfl⟩), by simp; omega⟩
      · by_cases c1 : 2 * f < k
        · by_cases c2 : k = 4 * f - 1
          · exact ⟨(2 * f + 1, 6 * f), (mem_pairs4g hf).mpr (.inr (.inr (.inr (.inr (.inr rfl))))), by simp; omega⟩
          · exact ⟨((4 * f - 1 - k) / 2, 4 * f - 1 - (4 * f - 1 - k) / 2), (mem_pairs4g hf).mpr (.inr (.inl ⟨(4 * f - 1 - k) / 2, by omega, by omega, rfl⟩)), by simp; omega⟩
        · by_cases c2 : k = 2 * f - 1
          · exact ⟨(2 * f, 4 * f - 1), (mem_pairs4g hf).mpr (.inr (.inr (.inr (.inr (.inl rfl))))), by simp; omega⟩
          · by_cases c3 : k = 1
            · exact ⟨(f, f + 1), (mem_pairs4g hf).mpr (.inr (.inr (.inr (.inl rfl)))), by simp; omega⟩
            · exact ⟨(f + 2 + (2 * f - 3 - k) / 2, 3 * f - 1 - (2 * f - 3 - k) / 2), (mem_pairs4g hf).mpr (.inr (.inr (.inl ⟨(2 * f - 3 - k) / 2, by omega, by omega, rfl⟩))), by simp; omega⟩
    · rcases (mem_pairs4g hf).mp hq with ⟨k, a, b, rfl⟩ | ⟨k, a, b, rfl⟩ | ⟨k, a, b, rfl⟩ | rfl | rfl | rfl <;>
        rcases (mem_pairs4g hf).mp hq' with ⟨k', a', b', rfl⟩ | ⟨k', a', b', rfl⟩ | ⟨k', a', b', rfl⟩ | rfl | rfl | rfl <;> simp at h ⊢ <;> omega
theorem pairs5_row {f : Int} (h1 : 0 ≤ f) (h2 : f ≤ 99) : RowPairs (4 * f + 1).toNat (pairs5 f) := by
  unfold pairs5
  by_cases e0 : f = 0
  · subst e0
    rw [if_pos rfl]
    refine ⟨by decide, by decide, by decide, by decide, fun k k1 k2 => ?_, by decide⟩
    have : k = 1 := by omega
    rcases this with rfl
    decide
  rw [if_neg e0]
  by_cases e : f = 1
  · subst e
    rw [if_pos rfl]
    refine ⟨by decide, by decide, by decide, by decide, fun k k1 k2 => ?_, by decide⟩
    have : k = 1 ∨ k = 2 ∨ k = 3 ∨ k = 4 ∨ k = 5 := by omega
    rcases this with rfl | rfl | rfl | rfl | rfl <;> decide
  · rw [if_neg e]
    have hf : 2 ≤ f := by omega
    have hn : (((4 * f + 1).toNat : Nat) : Int) = 4 * f + 1 := by omega
    refine ⟨by omega, by omega, fun q hq => ?_, fun q hq q' hq' h => ?_, fun k k1 k2 => ?_, fun q hq q' hq' h => ?_⟩
    · rw [hn]
      rcases (mem_pairs5g hf).mp hq with ⟨k, a, b, rfl⟩ | ⟨k, a, b, rfl⟩ | ⟨k, a, b, rfl⟩ | rfl | rfl | rfl <;> simp <;> omega
    · rcases (mem_pairs5g hf).mp hq with ⟨k, a, b, rfl⟩ | ⟨k, a, b, rfl⟩ | ⟨k, a, b, rfl⟩ | rfl | rfl | rfl <;>
        rcases (mem_pairs5g hf).mp hq' with ⟨k', a', b', rfl⟩ | ⟨k', a', b', rfl⟩ | ⟨k', a', b', rfl⟩ | rfl | rfl | rfl <;> simp at h ⊢ <;> omega
    · rw [hn] at k2
      by_cases hk : k % 2 = 0
      · exact ⟨(4 * f + 2 + (4 * f - k) / 2, 8 * f + 2 - (4 * f - k) / 2), (mem_pairs5g hf).mpr (.inl ⟨(4 * f - k) / 2, by omega, by omega, rfl⟩), by simp; omega⟩
      · by_cases c1 : 2 * f < k
        · by_cases c2 : k = 4 * f + 1
          · exact ⟨(2 * f + 1, 6 * f + 2), (mem_pairs5g hf).mpr (.inr (.inr (.inr (.inr (.inl rfl))))), by simp; omega⟩
          · exact ⟨((4 * f + 1 - k) / 2, 4 * f + 1 - (4 * f + 1 - k) / 2), (mem_pairs5g hf).mpr (.inr (.inl ⟨(4 * f + 1 - k) / 2, by omega, by omega, rfl⟩)), by simp; omega⟩
        · by_cases c2 : k = 2 * f - 1
          · exact ⟨(2 * f + 2, 4 * f + 1), (mem_pairs5g hf).mpr (.inr (.inr (.inr (.inr (.inr rfl))))), by simp; omega⟩
          · by_cases c3 : k = 1
            · exact ⟨(f + 1, f + 2), (mem_pairs5g hf).mpr (.inr (.inr (.inr (.inl rfl)))), by simp; omega⟩
            · exact ⟨(f + 2 + (2 * f - 1 - k) / 2, 3 * f + 1 - (2 * f - 1 - k) / 2), (mem_pairs5g hf).mpr (.inr (.inr (.inl ⟨(2 * f - 1 - k) / 2, by omega, by omega, rfl⟩))), by simp; omega⟩
    · rcases (mem_pairs5g hf).mp hq with ⟨k, a, b, rfl⟩ | ⟨k, a, b, rfl⟩ | ⟨k, a, b, rfl⟩ | rfl | rfl | rfl <;>
        rcases (mem_pairs5g hf).mp hq' with ⟨k', a', b', rfl⟩ | ⟨k', a', b', rfl⟩ | ⟨k', a', b', rfl⟩ | rfl | rfl | rfl <;> simp at h ⊢ <;> omega
/-- the row of a size -/
def rowOf (size : Int) : List Int := fillRow (List.replicate (2 * size.toNat) 0) (if size % 4 = 0 then pairs4 (size / 4) else pairs5 (size / 4))
theorem rowOf_pairs {size : Int} (h1 : 1 ≤ size) (h2 : size ≤ 400) (h3 : size % 4 < 2) : RowPairs size.toNat (if size % 4 = 0 then pairs4 (size / 4) else pairs5 (size / 4)) := by
  by_cases e : size % 4 = 0
  · rw [if_pos e]
    have := pairs4_row (f := size / 4) (by omega) (by omega)
    rwa [show 4 * (size / 4) = size by omega] at this
  · rw [if_neg e]
    have := pairs5_row (f := size / 4) (by omega) (by omega)
    rwa [show 4 * (size / 4) + 1 = size by omega] at this
theorem rowOf_row {size : Int} (h1 : 1 ≤ size) (h2 : size ≤ 400) (h3 : size % 4 < 2) : isRow (rowOf size) = true := (rowOf_pairs h1 h2 h3).isRow
theorem rowOf_length (size : Int) : (rowOf size).length = 2 * size.toNat := by
  unfold rowOf
  rw [fillRow_length, List.length_replicate]
end Sa

namespace Sa
open PySem PySem.Spec PyProof.Rows L2
def topS (i : Nat) : Stmt := PySem.Challenge.pw_sameapart_k05_all_rows_of_few.main.body.getD i (.Pass ⟨0, 0, 0, 0⟩)
abbrev st_asked_size : Stmt := topS 6
abbrev st_filled : Stmt := topS 7
abbrev st_many : Stmt := topS 8
abbrev st_rows : Stmt := topS 9
abbrev st_law_cell_at : Stmt := topS 11
abbrev st_law_whole : Stmt := topS 12
abbrev st_law_grown : Stmt := topS 13
abbrev st_law : Stmt := topS 14
/-! ### words for a def of the text, for the built-in names, for an error class -/
section
/-- a def of the text as it stands behind the top, under its name -/
structure Df (K : PySem.W.Frag) (mg : Str → Option Value) (x : Str) (st : Stmt) (ps : List Str) : Prop where
  ex : ∃ (f : Addr) (fd : FuncData), Fun K x x st f fd ∧ Binds K fd ps [] ∧ mg x = some (.ref f)
/-- a def whose promise is known -/
structure Kn (P : Program) (w : World) (K : PySem.W.Frag) (mg : Str → Option Value) (base : Heap) (CX : CXT) (k : Nat) (x : Str) (ps : List Str) (sp : Sp) : Prop where
  ex : ∃ (f : Addr) (fd : FuncData), FnOk P w K mg base CX k f fd ps sp ∧ PySem.W.keepIn K (.ref f) = true ∧ Binds K fd ps [] ∧ mg x = some (.ref f)
/-- the built-in names are not bound by the module -/
structure Bl (mg : Str → Option Value) : Prop where
  len_ : mg "len" = none
  range_ : mg "range" = none
  enumerate_ : mg "enumerate" = none
  list_ : mg "list" = none
  reversed_ : mg "reversed" = none
  sorted_ : mg "sorted" = none
  tuple_ : mg "tuple" = none
  min_ : mg "min" = none
  max_ : mg "max" = none
  isinstance_ : mg "isinstance" = none
  int_ : mg "int" = none
  str_ : mg "str" = none
  bool_ : mg "bool" = none
  all_ : mg "all" = none
  ValueError_ : mg "ValueError" = none
/-- an error class of the text -/
structure Ec (K : PySem.W.Frag) (mg : Str → Option Value) (x : Str) (C : Addr) : Prop where
  g : mg x = some (.ref C)
  x : PySem.W.excIn K C [.type "ValueError", .type "Exception", .type "BaseException", .type "object"] "ValueError.__new__" = true
  k : PySem.W.keepIn K (.ref C) = true
  b : PySem.W.subIn K (.ref C) (.type "BaseException") = some true
  t : PySem.W.typeIn K (.ref C) = some (.type "type")
variable {P : Program} {w : World} {K : PySem.W.Frag} {mg : Str → Option Value} {base : Heap}
theorem Df.kn {x : Str} {st : Stmt} {ps N : List Str} {k : Nat} {sp : Sp} (D : Df K mg x st ps) (S : FnScope N ps (defScope st)) (len : ∀ vs H Q E, sp vs H Q E → vs.length = ps.length)
    (hbody : ∀ (f : Addr) (cdv : Value) (A : Around) (outer : List Env) (s : Shared) (H : Hp) (vs : List V) (Q : VK) (E : XK), Room k (A.deeper (envOfC x (defScope st) s.heap.objs.size f cdv)) → sp vs H Q E →
      ∃ t, PSs (cxOf CX0 P w K mg base N x (defScope st) f cdv A outer s H E).nox (defBody st) t ∧ t { nx := fun _ H' => Q .non H', rt := Q } (start N vs) H) : Kn P w K mg base CX0 (k + 1) x ps sp := by
  obtain ⟨f, fd, F, b, g⟩ := D.ex
  exact ⟨f, fd, F.ok S len (hbody f), F.kp, b, g⟩
theorem Df.knX {x : Str} {st : Stmt} {ps N : List Str} {k : Nat} {sp : Sp} (D : Df K mg x st ps) (S : FnScope N ps (defScope st)) (len : ∀ vs H Q E, sp vs H Q E → vs.length = ps.length)
    (hbody : ∀ (f : Addr) (cdv : Value) (A : Around) (outer : List Env) (s : Shared) (H : Hp) (vs : List V) (Q : VK) (E : XK), Room k (A.deeper (envOfC x (defScope st) s.heap.objs.size f cdv)) → sp vs H Q E →
      ∃ t, PSs (cxOf (L2.CX P w) P w K mg base N x (defScope st) f cdv A outer s H E) (defBody st) t ∧ t { nx := fun _ H' => Q .non H', rt := Q } (start N vs) H) : Kn P w K mg base (L2.CX P w) (k + 1) x ps sp := by
  obtain ⟨f, fd, F, b, g⟩ := D.ex
  exact ⟨f, fd, F.okX S len (hbody f), F.kp, b, g⟩
theorem Kn.imp {CX : CXT} {k : Nat} {x : Str} {ps : List Str} {sp sp' : Sp} (N : Kn P w K mg base CX k x ps sp) (h : ∀ vs H Q E, sp' vs H Q E → sp vs H Q E) : Kn P w K mg base CX k x ps sp' := by
  obtain ⟨f, fd, F, r⟩ := N.ex
  exact ⟨f, fd, F.imp h, r⟩
theorem Kn.mono {CX : CXT} {j k : Nat} {x : Str} {ps : List Str} {sp : Sp} (N : Kn P w K mg base CX j x ps sp) (h : j ≤ k) : Kn P w K mg base CX k x ps sp := by
  obtain ⟨f, fd, F, r⟩ := N.ex
  exact ⟨f, fd, F.mono h, r⟩
end
section
variable {X : Cx} {CX : CXT} {k : Nat} {x : Str} {ps : List Str} {sp : Sp} {p pos : Pos} {e : Expr} {es : List Expr} {t : TA}
/-- a call of a def that lets no error out -/
theorem pe_k0 (N : Kn X.prog X.w X.K X.mg X.base CX0 k x ps sp) (hr : Room k X.A) (hg : Gl X x) (ha : PA X (e :: es) t) (hdb : (x == ("__debug__" : Str)) = false := by decide)
    (he : starEach (e :: es) X.env = (false, eval e X.env) :: starEach es X.env := by rfl) (hpl : (backTo pos (starEach es X.env)).any (·.1) = false := by rfl) : PE X (.Call (.Name x p) (e :: es) [] pos) (tCall sp [] E0 t) := by
  obtain ⟨f, fd, F, kp, b, g⟩ := N.ex
  exact pe_call F hr hg g kp b .nil pass0 ha hdb he hpl
/-- a call of a def that may let one out but here does not -/
theorem pe_kL (N : Kn X.prog X.w X.K X.mg X.base (L2.CX X.prog X.w) k x ps sp) (hr : Room k X.A) (hg : Gl X x) (ha : PA X (e :: es) t) (hdb : (x == ("__debug__" : Str)) = false := by decide)
    (he : starEach (e :: es) X.env = (false, eval e X.env) :: starEach es X.env := by rfl) (hpl : (backTo pos (starEach es X.env)).any (·.1) = false := by rfl) : PE X (.Call (.Name x p) (e :: es) [] pos) (tCall sp [] E0 t) := by
  obtain ⟨f, fd, F, kp, b, g⟩ := N.ex
  exact pe_call F hr hg g kp b .nil passL ha hdb he hpl
/-- .. whose error goes on out of the def at hand -/
theorem pe_kE {E : XK} (N : Kn X.prog X.w X.K X.mg X.base (L2.CX X.prog X.w) k x ps sp) (tk : Takes X (fun cls d _ H => E cls d H)) (hr : Room k X.A) (hg : Gl X x) (ha : PA X (e :: es) t) (hdb : (x == ("__debug__" : Str)) = false := by decide)
    (he : starEach (e :: es) X.env = (false, eval e X.env) :: starEach es X.env := by rfl) (hpl : (backTo pos (starEach es X.env)).any (·.1) = false := by rfl) : PE X (.Call (.Name x p) (e :: es) [] pos) (tCall sp [] E t) := by
  obtain ⟨f, fd, F, kp, b, g⟩ := N.ex
  exact pe_call F hr hg g kp b .nil (passes_call tk (fun _ _ _ _ h => h)) ha hdb he hpl
end
section
variable {X : Cx} {x : Str} {pos : Pos}
theorem pe_globI {n : Int} {tk : Tok} (hg : Gl X x) (hm : X.mg x = some (.int n tk)) (hd : (x == ("__debug__" : Str)) = false := by decide) : PE X (.Name x pos) (tC (.int n)) := pe_glob hg hm ⟨_, rfl⟩ hd
theorem pe_globS {n : Str} {tk : Tok} (hg : Gl X x) (hm : X.mg x = some (.str n tk)) (hd : (x == ("__debug__" : Str)) = false := by decide) : PE X (.Name x pos) (tC (.str n)) := pe_glob hg hm ⟨_, rfl⟩ hd
end
/-! ### heaps, lists of ints -/
theorem same_upd {H : Hp} {p : Addr} {o : HO} (h : H p = none) : Same H (upd H p o) := fun b x e => by
  rw [upd_ne (ne_of_none e h)]
  exact e
theorem _root_.L2.Same.new {H H' : Hp} {p : Addr} {o : HO} (s : Same H H') (h : H' p = none) : Same H (upd H' p o) := s.trans (same_upd h)
/-- what was made behind H may be changed -/
theorem _root_.L2.Same.own {H H' : Hp} {p : Addr} {o : HO} (s : Same H H') (h : H p = none) : Same H (upd H' p o) := fun b x e => by
  rw [upd_ne (ne_of_none e h)]
  exact s b x e
theorem line_eq : (sizeLine : Nat) = 16777216 := sizeLine_eq
theorem small {n : Nat} (h : n ≤ 16777216) : n ≤ sizeLine := by rw [line_eq]; exact h
theorem smaller {n : Nat} (h : n < 16777216) : n < sizeLine := by rw [line_eq]; exact h
theorem ints_get {ns : List Int} {i : Nat} {n : Int} (h : ns[i]? = some n) : (ns.map V.int)[i]? = some (.int n) := by
  rw [List.getElem?_map, h]
  rfl
theorem of_ints_get {ns : List Int} {i : Nat} {y : V} (h : (ns.map V.int)[i]? = some y) : ∃ z, ns[i]? = some z ∧ y = V.int z := by
  rw [List.getElem?_map] at h
  cases e : ns[i]? with
  | none =>
    rw [e] at h
    cases h
  | some z =>
    rw [e] at h
    exact ⟨z, rfl, (Option.some.inj h).symm⟩
theorem ints_len (ns : List Int) : (ns.map V.int).length = ns.length := List.length_map _
/-- an item at a place that is not below nought -/
theorem at_ints {ns : List Int} {i : Int} {n : Int} (h0 : 0 ≤ i) (h : ns[i.toNat]? = some n) : atI (ns.map V.int) i = some (.int n) := by
  have q : atI (ns.map V.int) ((i.toNat : Nat) : Int) = some (.int n) := atI_nat (ints_get h)
  rwa [Int.toNat_of_nonneg h0] at q
theorem at_vals {α : Type} {xs : List α} {i : Int} {v : α} (h0 : 0 ≤ i) (h : xs[i.toNat]? = some v) : atI xs i = some v := by
  have q : atI xs ((i.toNat : Nat) : Int) = some v := atI_nat h
  rwa [Int.toNat_of_nonneg h0] at q
theorem take_snoc {α : Type} {l : List α} {i : Nat} {x : α} (h : l[i]? = some x) : l.take (i + 1) = l.take i ++ [x] := by
  rw [List.take_add_one, h]
  rfl

/-! ### == of data made of ints -/
section
variable {K : PySem.W.Frag} {H : Hp}
theorem dpAll_ints : ∀ ns : List Int, DpAll K H (ns.map V.int) (ns.map PyData.int)
  | [] => .nil
  | n :: r => .cons (.int n) (dpAll_ints r)
theorem dp_list {a : Addr} {ns : List Int} (h : SqL K H a (ns.map V.int)) : Dp K H (.ref a) (.list (ns.map PyData.int)) := .lst h (dpAll_ints ns)
theorem dp_tup {a : Addr} {ns : List Int} (h : SqT K H a (ns.map V.int)) : Dp K H (.ref a) (.tuple (ns.map PyData.int)) := .tup h (dpAll_ints ns)
end
theorem lay_ints : ∀ ns : List Int, PyData.canLayAll0 (ns.map PyData.int) = true
  | [] => by simp [PyData.canLayAll0]
  | n :: r => by simp [PyData.canLayAll0, PyData.canLay0, lay_ints r]
theorem depth_ints : ∀ ns : List Int, PyData.depthAll (ns.map PyData.int) = 0
  | [] => by simp [PyData.depthAll]
  | n :: r => by simp [PyData.depthAll, PyData.depth, depth_ints r]
theorem shaped_list (ns : List Int) : SeqAt.shaped (.list (ns.map PyData.int)) = true := by
  show (PyData.canLay0 (.list (ns.map PyData.int)) && decide (PyData.depth (.list (ns.map PyData.int)) ≤ 64)) = true
  simp [PyData.canLay0, PyData.depth, lay_ints, depth_ints]
theorem shaped_tup (ns : List Int) : SeqAt.shaped (.tuple (ns.map PyData.int)) = true := by
  show (PyData.canLay0 (.tuple (ns.map PyData.int)) && decide (PyData.depth (.tuple (ns.map PyData.int)) ≤ 64)) = true
  simp [PyData.canLay0, PyData.depth, lay_ints, depth_ints]
theorem eqvAll_ints : ∀ xs ys : List Int, PyData.eqvAll (xs.map PyData.int) (ys.map PyData.int) = decide (xs = ys)
  | [], [] => by simp [PyData.eqvAll]
  | [], _ :: _ => by simp [PyData.eqvAll]
  | _ :: _, [] => by simp [PyData.eqvAll]
  | x :: xs, y :: ys => by
    have ih := eqvAll_ints xs ys
    simp only [List.map_cons, PyData.eqvAll, PyData.eqv, ih, List.cons.injEq]
    by_cases h : x = y <;> simp [h]
theorem eqv_lists (xs ys : List Int) : PyData.eqv (.list (xs.map PyData.int)) (.list (ys.map PyData.int)) = decide (xs = ys) := by
  simp only [PyData.eqv, eqvAll_ints]
theorem eqv_tups (xs ys : List Int) : PyData.eqv (.tuple (xs.map PyData.int)) (.tuple (ys.map PyData.int)) = decide (xs = ys) := by
  simp only [PyData.eqv, eqvAll_ints]
/-- .. the answers of == and != of two lists, two tuples of ints -/
theorem eqD_lists {K : PySem.W.Frag} {H : Hp} {Q : VK} {a b : Addr} {xs ys : List Int} (ha : SqL K H a (xs.map V.int)) (hb : SqL K H b (ys.map V.int)) (q : Q (.bl (decide (xs = ys))) H) : rEqD K (.ref a) (.ref b) H Q :=
  ⟨_, _, dp_list ha, dp_list hb, shaped_list _, shaped_list _, by rw [eqv_lists]; exact q⟩
theorem neD_lists {K : PySem.W.Frag} {H : Hp} {Q : VK} {a b : Addr} {xs ys : List Int} (ha : SqL K H a (xs.map V.int)) (hb : SqL K H b (ys.map V.int)) (q : Q (.bl (!decide (xs = ys))) H) : rNeD K (.ref a) (.ref b) H Q :=
  ⟨_, _, dp_list ha, dp_list hb, shaped_list _, shaped_list _, by rw [eqv_lists]; exact q⟩
theorem eqD_tups {K : PySem.W.Frag} {H : Hp} {Q : VK} {a b : Addr} {xs ys : List Int} (ha : SqT K H a (xs.map V.int)) (hb : SqT K H b (ys.map V.int)) (q : Q (.bl (decide (xs = ys))) H) : rEqD K (.ref a) (.ref b) H Q :=
  ⟨_, _, dp_tup ha, dp_tup hb, shaped_tup _, shaped_tup _, by rw [eqv_tups]; exact q⟩
theorem neD_tups {K : PySem.W.Frag} {H : Hp} {Q : VK} {a b : Addr} {xs ys : List Int} (ha : SqT K H a (xs.map V.int)) (hb : SqT K H b (ys.map V.int)) (q : Q (.bl (!decide (xs = ys))) H) : rNeD K (.ref a) (.ref b) H Q :=
  ⟨_, _, dp_tup ha, dp_tup hb, shaped_tup _, shaped_tup _, by rw [eqv_tups]; exact q⟩
/-- a test whose answer is known -/
theorem iteTr {c : Bool} {A B : Prop} (hc : c = true) (h : A) : if c = true then A else B := by
  rw [if_pos hc]
  exact h
theorem iteFa {c : Bool} {A B : Prop} (hc : c = false) (h : B) : if c = true then A else B := by
  rw [hc]
  exact iteF h

/-! ### lists of pairs, lists of noughts -/
theorem fam_succ (lo : Int) (n : Nat) (f : Int → Int × Int) : fam lo (n + 1) f = fam lo n f ++ [f (lo + (n : Int))] := by
  unfold fam
  rw [List.range_succ, List.map_append]
  rfl
/-- at ts stand the pairs of numbers ps -/
def PairsAt (H : Hp) (ts : List Addr) (ps : List (Int × Int)) : Prop := ts.length = ps.length ∧ ∀ (i : Nat) (t : Addr) (q : Int × Int), ts[i]? = some t → ps[i]? = some q → H t = some (.tup [.int q.1, .int q.2])
theorem PairsAt.nil {H : Hp} : PairsAt H [] [] := ⟨rfl, fun i t q h => by simp at h⟩
theorem PairsAt.keep {H H' : Hp} {ts : List Addr} {ps : List (Int × Int)} (h : PairsAt H ts ps) (s : Same H H') : PairsAt H' ts ps := ⟨h.1, fun i t q h1 h2 => s _ _ (h.2 i t q h1 h2)⟩
theorem PairsAt.append {H : Hp} {ts us : List Addr} {ps qs : List (Int × Int)} (h : PairsAt H ts ps) (g : PairsAt H us qs) : PairsAt H (ts ++ us) (ps ++ qs) := by
  refine ⟨by rw [List.length_append, List.length_append, h.1, g.1], fun i t q h1 h2 => ?_⟩
  by_cases hi : i < ts.length
  · rw [List.getElem?_append_left hi] at h1
    rw [List.getElem?_append_left (by rw [← h.1]; exact hi)] at h2
    exact h.2 i t q h1 h2
  · rw [List.getElem?_append_right (by omega)] at h1
    rw [List.getElem?_append_right (by rw [← h.1]; omega), ← h.1] at h2
    exact g.2 _ t q h1 h2
theorem PairsAt.one {H : Hp} {t : Addr} {q : Int × Int} (h : H t = some (.tup [.int q.1, .int q.2])) : PairsAt H [t] [q] := by
  refine ⟨rfl, fun i t' q' h1 h2 => ?_⟩
  cases i with
  | zero =>
    cases h1
    cases h2
    exact h
  | succ i => simp at h1
theorem PairsAt.get {H : Hp} {ts : List Addr} {ps : List (Int × Int)} (h : PairsAt H ts ps) {i : Nat} {y : V} (hy : (ts.map V.ref)[i]? = some y) : ∃ t q, y = .ref t ∧ ps[i]? = some q ∧ H t = some (.tup [.int q.1, .int q.2]) := by
  rw [List.getElem?_map] at hy
  cases e : ts[i]? with
  | none =>
    rw [e] at hy
    cases hy
  | some t =>
    rw [e] at hy
    have hi := (List.getElem?_eq_some_iff.mp e).1
    rw [h.1] at hi
    exact ⟨t, ps[i], (Option.some.inj hy).symm, List.getElem?_eq_getElem hi, h.2 i t _ e (List.getElem?_eq_getElem hi)⟩
/-- a comprehension of pairs over a range -/
theorem lc_pairs {lo : Int} {n j : Nat} {te : TE} {σ : L2.St} {H1 : Hp} {D : Addr} {Qd : Hp → Prop} (nD : H1 D = none) (hn : n < 16777216) (f : Int → Int × Int)
    (hs : ∀ (i : Nat) (H : Hp) (Q : VK), i < n → (∀ p, H p = none → Q (.ref p) (upd H p (.tup [.int (f (lo + (i : Int))).1, .int (f (lo + (i : Int))).2]))) → te ((σ.set j none).set j (some (.int (lo + (i : Int))))) H Q)
    (hd : ∀ H' ts, Same H1 H' → H' D = some (.lst (ts.map V.ref)) → PairsAt H' ts (fam lo n f) → Qd H') :
    ∃ W : Nat → Nat → Hp → Prop, (∃ m, W 0 m (upd H1 D (.lst []))) ∧ ∀ i m H, W i m H →
      ((Itr lo n).stop i H ∧ Qd H) ∨ ((Itr lo n).go i H ∧ ∃ Nx : Hp → Prop, (∀ H', Nx H' → ∃ m', m' < m ∧ W (i + 1) m' H') ∧ ∀ x H', (Itr lo n).yld i H x H' → gName j x (wipe σ [j]) H' fun σ2 H2 => wipe σ2 [j] = wipe σ [j] ∧ tYes σ2 H2 fun b H3 =>
        if b = true then te σ2 H3 fun y H4 => ∃ acc, H4 D = some (.lst acc) ∧ acc.length < sizeLine ∧ Nx (upd H4 D (.lst (acc ++ [y]))) else Nx H3) := by
  refine lc_range (fun i H' => ∃ ts, Same H1 H' ∧ H' D = some (.lst (ts.map V.ref)) ∧ PairsAt H' ts (fam lo i f)) ⟨[], same_upd nD, upd_same, .nil⟩ ?_ ?_
  · rintro i H hi ⟨ts, s1, e1, p1⟩
    refine ⟨?_, ?_⟩
    · show ((σ.set j none).set j (some (V.int (lo + (i : Int))))).set j none = σ.set j none
      rw [List.set_set, List.set_set]
    refine iteT (B := ∃ ts, Same H1 H ∧ H D = some (HO.lst (List.map V.ref ts)) ∧ PairsAt H ts (fam lo (i + 1) f)) ?_
    refine hs i H _ hi fun p np => ?_
    refine ⟨ts.map V.ref, ?_, ?_, ts ++ [p], ?_, ?_, ?_⟩
    · have nDp : D ≠ p := ne_of_none e1 np
      rw [upd_ne nDp]
      exact e1
    · rw [List.length_map, p1.1, fam_length]
      exact smaller (by omega)
    · exact (s1.new np).own nD
    · rw [upd_same, List.map_append]
      rfl
    · rw [fam_succ]
      have nDp : p ≠ D := fun e => by
        rw [e, e1] at np
        cases np
      have nt : ∀ {t : Addr} {q : Int × Int}, H t = some (.tup [.int q.1, .int q.2]) → t ≠ D := fun h e => by
        rw [e, e1] at h
        cases h
      refine PairsAt.append ⟨p1.1, fun k t q h1 h2 => ?_⟩ (.one ?_)
      · have h3 := p1.2 k t q h1 h2
        rw [upd_ne (nt h3), upd_ne (ne_of_none h3 np)]
        exact h3
      · rw [upd_ne nDp, upd_same]
  · rintro H ⟨ts, s1, e1, p1⟩
    exact hd H ts s1 e1 p1
/-- [0 for k in range(n)] -/
theorem lc_noughts {n j : Nat} {σ : L2.St} {H1 : Hp} {D : Addr} {Qd : Hp → Prop} (hn : n < 16777216) (hd : Qd (upd H1 D (.lst ((List.replicate n (0 : Int)).map V.int)))) :
    ∃ W : Nat → Nat → Hp → Prop, (∃ m, W 0 m (upd H1 D (.lst []))) ∧ ∀ i m H, W i m H →
      ((Itr 0 n).stop i H ∧ Qd H) ∨ ((Itr 0 n).go i H ∧ ∃ Nx : Hp → Prop, (∀ H', Nx H' → ∃ m', m' < m ∧ W (i + 1) m' H') ∧ ∀ x H', (Itr 0 n).yld i H x H' → gName j x (wipe σ [j]) H' fun σ2 H2 => wipe σ2 [j] = wipe σ [j] ∧ tYes σ2 H2 fun b H3 =>
        if b = true then tC (.int 0) σ2 H3 fun y H4 => ∃ acc, H4 D = some (.lst acc) ∧ acc.length < sizeLine ∧ Nx (upd H4 D (.lst (acc ++ [y]))) else Nx H3) := by
  refine lc_range (lo := 0) (fun i H' => H' = upd H1 D (.lst ((List.replicate i (0 : Int)).map V.int))) rfl ?_ ?_
  · rintro i H hi rfl
    refine ⟨?_, iteT (B := upd H1 D (HO.lst (List.map V.int (List.replicate i (0 : Int)))) = upd H1 D (HO.lst (List.map V.int (List.replicate (i + 1) (0 : Int))))) ⟨_, upd_same, ?_, ?_⟩⟩
    · show ((σ.set j none).set j (some (V.int (0 + (i : Int))))).set j none = σ.set j none
      rw [List.set_set, List.set_set]
    · rw [List.length_map, List.length_replicate]
      exact smaller (by omega)
    · rw [upd_upd, List.replicate_succ', List.map_append]
      rfl
  · rintro H rfl
    exact hd
/-- a place that set_list asks -/
theorem ixN_at {n : Nat} {i : Int} (h0 : 0 ≤ i) (h1 : i < n) : ixN n i = some i.toNat := by
  unfold ixN
  rw [if_pos h0, if_pos h1]
theorem set_ints (ns : List Int) (j : Nat) (x : Int) : (ns.map V.int).set j (.int x) = (ns.set j x).map V.int := by
  rw [List.map_set]

/-! ### tuples of ints in a list -/
/-- at ts stand tuples of the ints Ls -/
def TupsAt (H : Hp) (ts : List Addr) (Ls : List (List Int)) : Prop := ts.length = Ls.length ∧ ∀ (i : Nat) (t : Addr) (L : List Int), ts[i]? = some t → Ls[i]? = some L → H t = some (.tup (L.map V.int))
theorem TupsAt.keep {H H' : Hp} {ts : List Addr} {Ls : List (List Int)} (h : TupsAt H ts Ls) (s : Same H H') : TupsAt H' ts Ls := ⟨h.1, fun i t q h1 h2 => s _ _ (h.2 i t q h1 h2)⟩
theorem TupsAt.tail {H : Hp} {t : Addr} {ts : List Addr} {L : List Int} {Ls : List (List Int)} (h : TupsAt H (t :: ts) (L :: Ls)) : TupsAt H ts Ls :=
  ⟨by have := h.1; simpa using this, fun i u M h1 h2 => h.2 (i + 1) u M (by simpa using h1) (by simpa using h2)⟩
theorem PairsAt.tups {H : Hp} {ts : List Addr} {ps : List (Int × Int)} (h : PairsAt H ts ps) : TupsAt H ts (ps.map fun q => [q.1, q.2]) := by
  refine ⟨by rw [List.length_map]; exact h.1, fun i t L h1 h2 => ?_⟩
  rw [List.getElem?_map] at h2
  cases e : ps[i]? with
  | none =>
    rw [e] at h2
    cases h2
  | some q =>
    rw [e] at h2
    cases h2
    exact h.2 i t q h1 e
theorem PairsAt.set {H : Hp} {ts : List Addr} {ps : List (Int × Int)} {j : Nat} {t : Addr} {q : Int × Int} (h : PairsAt H ts ps) (ht : H t = some (.tup [.int q.1, .int q.2])) : PairsAt H (ts.set j t) (ps.set j q) := by
  refine ⟨by rw [List.length_set, List.length_set]; exact h.1, fun i u r h1 h2 => ?_⟩
  rw [List.getElem?_set] at h1 h2
  by_cases e : j = i
  · rw [if_pos e] at h1 h2
    split at h1
    · split at h2
      · cases h1
        cases h2
        exact ht
      · cases h2
    · cases h1
  · rw [if_neg e] at h1 h2
    exact h.2 i u r h1 h2
section
variable {K : PySem.W.Frag} {H : Hp}
def dataT (Ls : List (List Int)) : List PyData := Ls.map fun L => .tuple (L.map PyData.int)
theorem dpAll_tups : ∀ {ts : List Addr} {Ls : List (List Int)}, TupsAt H ts Ls → DpAll K H (ts.map V.ref) (dataT Ls)
  | [], [], _ => .nil
  | [], _ :: _, h => by have := h.1; simp at this
  | _ :: _, [], h => by have := h.1; simp at this
  | t :: ts, L :: Ls, h => .cons (dp_tup (SqT.of (h.2 0 t L rfl rfl))) (dpAll_tups h.tail)
theorem dp_tups {a : Addr} {ts : List Addr} {Ls : List (List Int)} (h : SqL K H a (ts.map V.ref)) (g : TupsAt H ts Ls) : Dp K H (.ref a) (.list (dataT Ls)) := .lst h (dpAll_tups g)
end
theorem lay_tups : ∀ Ls : List (List Int), PyData.canLayAll0 (dataT Ls) = true
  | [] => by simp [dataT, PyData.canLayAll0]
  | L :: r => by
    have ih := lay_tups r
    unfold dataT at ih
    simp [dataT, PyData.canLayAll0, PyData.canLay0, lay_ints L, ih]
theorem depth_tups : ∀ Ls : List (List Int), PyData.depthAll (dataT Ls) ≤ 1
  | [] => by simp [dataT, PyData.depthAll]
  | L :: r => by
    have ih := depth_tups r
    unfold dataT at ih
    simp [dataT, PyData.depthAll, PyData.depth, depth_ints L]
    omega
theorem shaped_tups (Ls : List (List Int)) : SeqAt.shaped (.list (dataT Ls)) = true := by
  show (PyData.canLay0 (.list (dataT Ls)) && decide (PyData.depth (.list (dataT Ls)) ≤ 64)) = true
  have h1 := lay_tups Ls
  have h2 := depth_tups Ls
  simp only [PyData.canLay0, PyData.depth, h1, Bool.true_and]
  exact decide_eq_true (by omega)
theorem eqvAll_tups : ∀ xs ys : List (List Int), PyData.eqvAll (dataT xs) (dataT ys) = decide (xs = ys)
  | [], [] => by simp [dataT, PyData.eqvAll]
  | [], _ :: _ => by simp [dataT, PyData.eqvAll]
  | _ :: _, [] => by simp [dataT, PyData.eqvAll]
  | x :: xs, y :: ys => by
    have ih := eqvAll_tups xs ys
    unfold dataT at ih ⊢
    simp only [List.map_cons, PyData.eqvAll, PyData.eqv, ih, List.cons.injEq, eqvAll_ints]
    by_cases h : x = y <;> simp [h]
theorem eqD_tlists {K : PySem.W.Frag} {H : Hp} {Q : VK} {a b : Addr} {ts us : List Addr} {xs ys : List (List Int)} (ha : SqL K H a (ts.map V.ref)) (ga : TupsAt H ts xs) (hb : SqL K H b (us.map V.ref)) (gb : TupsAt H us ys) (q : Q (.bl (decide (xs = ys))) H) : rEqD K (.ref a) (.ref b) H Q :=
  ⟨_, _, dp_tups ha ga, dp_tups hb gb, shaped_tups _, shaped_tups _, by simp only [PyData.eqv, eqvAll_tups]; exact q⟩
theorem neD_tlists {K : PySem.W.Frag} {H : Hp} {Q : VK} {a b : Addr} {ts us : List Addr} {xs ys : List (List Int)} (ha : SqL K H a (ts.map V.ref)) (ga : TupsAt H ts xs) (hb : SqL K H b (us.map V.ref)) (gb : TupsAt H us ys) (q : Q (.bl (!decide (xs = ys))) H) : rNeD K (.ref a) (.ref b) H Q :=
  ⟨_, _, dp_tups ha ga, dp_tups hb gb, shaped_tups _, shaped_tups _, by simp only [PyData.eqv, eqvAll_tups]; exact q⟩

-- IMPORT KE.LtSeq
-- IMPORT HandS.NamedTupSort
/-! ### sorted of lists of ints, any number of them -/
end Sa
namespace LsL
open PySem PySem.W PySem.Calls PyProof.Rows Builtin SeqAt
/-- v is a list of these ints -/
def IsLI (h : Heap) (v : Value) (ns : List Int) : Prop := ∃ (a : Addr) (o : Obj) (items : Array Value) (n : Nat), v = .ref a ∧ h.get? a = some o ∧ o.cls = .type "list" ∧ o.data = .seq items n ∧ IntsAre items.toList ns
def eqI (ns ms : List Int) (j : Nat) : Bool := ns.getD j 0 == ms.getD j 0
def ltI (ns ms : List Int) (j : Nat) : Bool := decide (ns.getD j 0 < ms.getD j 0)
theorem firstLt_shift (e r : Nat → Bool) (fin : Bool) : ∀ l : List Nat, firstLt e r fin (l.map (· + 1)) = firstLt (fun j => e (j + 1)) (fun j => r (j + 1)) fin l
  | [] => rfl
  | j :: l => by
    show (if e (j + 1) = true then firstLt e r fin (l.map (· + 1)) else r (j + 1)) = _
    rw [firstLt_shift e r fin l]
    rfl
theorem lex_first : ∀ ns ms : List Int, firstLt (eqI ns ms) (ltI ns ms) (decide (ns.length < ms.length)) (List.range (min ns.length ms.length)) = HT.lexLt ns ms
  | [], [] => by rw [HT.lexLt_nil_nil]; rfl
  | [], m :: ms => by rw [HT.lexLt_nil_cons, List.length_nil, Nat.zero_min]; exact decide_eq_true (by simp)
  | n :: ns, [] => by rw [HT.lexLt_cons_nil, List.length_nil, Nat.min_zero]; exact decide_eq_false (by simp)
  | n :: ns, m :: ms => by
    rw [HT.lexLt_cons, List.length_cons, List.length_cons, Nat.succ_min_succ, List.range_succ_eq_map]
    have hl : decide (ns.length + 1 < ms.length + 1) = decide (ns.length < ms.length) := by
      rw [decide_eq_decide]
      omega
    rw [hl]
    by_cases c : n = m
    · rw [if_pos c, firstLt_yes (show eqI (n :: ns) (m :: ms) 0 = true from by unfold eqI; simp [c])]
      have h1 := firstLt_shift (eqI (n :: ns) (m :: ms)) (ltI (n :: ns) (m :: ms)) (decide (ns.length < ms.length)) (List.range (min ns.length ms.length))
      exact h1.trans (lex_first ns ms)
    · rw [if_neg c, firstLt_no (show eqI (n :: ns) (m :: ms) 0 = false from by unfold eqI; simp [c])]
      rfl
theorem nth_ints : ∀ {vs : List Value} {ns : List Int}, IntsAre vs ns → ∀ (j : Nat) (h : j < vs.length), ∃ t, vs[j] = Value.int (ns.getD j 0) t
  | _, _, .nil, j, h => absurd h (by simp)
  | _, _, .cons n t r, 0, h => ⟨t, rfl⟩
  | _, _, .cons n t r, j + 1, h => nth_ints r j (by simpa using h)
section
variable {prog : Program} {w : World} {A : Around} {E : Value → Shared → Prop} {s : Shared}
theorem one_lt {a b : Value} {ns ms : List Int} {Q : Bool → Shared → Prop} (h1 : IsLI s.heap a ns) (h2 : IsLI s.heap b ms) (hu : A.units < cLine) (hq : Q (HT.lexLt ns ms) s) : wpAny (model prog w) A (oneLt' true a b) Q E s := by
  obtain ⟨l, o, items, n, rfl, g1, c1, d1, i1⟩ := h1
  obtain ⟨l', o', items', n', rfl, g2, c2, d2, i2⟩ := h2
  have n1 : items.size = ns.length := by rw [← i1.length, Array.length_toList]
  have n2 : items'.size = ms.length := by rw [← i2.length, Array.length_toList]
  rw [oneLt'_eq]
  simp only [if_true]
  refine wpAny_bind (wpAny_cRoomFor hu ?_)
  refine wpAny_bind (wpAny_callSpecialIfBound?_slot (T := "list") ⟨_, g1, c1⟩ PySem.F.slot_list_lt (call_list_lt (e := eqI ns ms) (r := ltI ns ms) ⟨_, g1, c1, _, d1⟩ ⟨_, g2, c2, _, d2⟩ (fun j j1 j2 => ?_) (fun j j1 j2 hj => ?_) ?_))
  · obtain ⟨t, e1⟩ := nth_ints i1 j (by simpa using j1)
    obtain ⟨u, e2⟩ := nth_ints i2 j (by simpa using j2)
    rw [Array.getElem_toList] at e1 e2
    rw [e1, e2]
    exact SeqAt.EqAt.int_int _ _ _ _
  · obtain ⟨t, e1⟩ := nth_ints i1 j (by simpa using j1)
    obtain ⟨u, e2⟩ := nth_ints i2 j (by simpa using j2)
    rw [Array.getElem_toList] at e1 e2
    rw [e1, e2]
    exact fun prog w E Q h => PyProof.Rows.lt_int h
  · rw [n1, n2, lex_first]
    exact wpAny_truthy_bool hq
theorem lists_cmp {vs : List Value} {k : Value → List Int} (hu : A.units < cLine) (hp : ∀ v ∈ vs, IsLI s.heap v (k v)) : SrtO.Cmp prog w A s oneType' (fun p => p.1 ∈ vs) (SrtO.lt2 fun v u => HT.lexLt (k v) (k u)) := by
  intro p q hm hm'
  show wpAny (model prog w) A (keyLt' oneType' p.1 q.1) (fun r s' => s' = s ∧ r = HT.lexLt (k p.1) (k q.1)) (fun _ _ => False) s
  rw [keyLt'_oneType]
  exact one_lt (hp _ hm) (hp _ hm') hu ⟨rfl, rfl⟩
theorem lists_sortable {a : Addr} {vs : List Value} {k : Value → List Int} (h2 : 2 ≤ vs.length) (hu : A.units < cLine) (hp : ∀ v ∈ vs, IsLI s.heap v (k v)) (ha : ∀ v ∈ vs, v ≠ .ref a) : SrtO.SortableO prog w A s a vs fun v u => HT.lexLt (k v) (k u) := by
  intro h' keep
  have hp' : ∀ v ∈ vs, IsLI h' v (k v) := fun v hm => by
    obtain ⟨b, o, items, n, e, g, c, d, i⟩ := hp v hm
    exact ⟨b, o, items, n, e, keep b o (fun z => ha v hm (by rw [e, z])) g, c, d, i⟩
  refine ⟨oneType', fun Q E hq => ?_, lists_cmp (s := { s with heap := h' }) hu hp'⟩
  refine PySem.W.kas_kind (s := { s with heap := h' }) (T := .type "list") h2 (fun v hm => ?_) (by first | decide +kernel | rfl | decide) (by first | decide +kernel | rfl | decide) hq
  obtain ⟨b, o, items, n, rfl, g, c, d, i⟩ := hp' v hm
  exact fun A Q E s' kk q => wpAny_typeOf_ref (kk _ _ g) (by rw [c]; exact q)
end
end LsL
namespace Sa
open PySem PySem.Spec PyProof.Rows L2
/-- sorted(xs), xs a list of lists of ints -/
def rSortedLs (K : PySem.W.Frag) : List V → Hp → VK → Prop := fun vs H Q => ∃ (a : Addr) (ts : List Addr) (k : Addr → List Int), vs = [V.ref a] ∧ SqL K H a (ts.map V.ref) ∧ (∀ t ∈ ts, H t = some (.lst ((k t).map V.int))) ∧
  ∀ (ts' : List Addr) (p : Addr), ts'.Perm ts → ts'.Pairwise (fun p q => HT.lexLt (k q) (k p) = false) → H p = none → Q (.ref p) (upd H p (.lst (ts'.map V.ref)))
section
variable {X : Cx}
theorem cr_sortedLs (hu : X.A.units + 64 < cLine) : CallR X (.builtin "sorted") (rSortedLs X.K) := by
  intro pins s σ H vs us Q I r h
  obtain ⟨a, ts, k, rfl, hs, hx, q⟩ := h
  obtain ⟨its, rv, hl, hz⟩ := I.list hs
  obtain ⟨u, rfl, ru⟩ := vals1 r
  obtain rfl : u = Value.ref a := ru
  have ei := nts_of rv
  have hv : ∀ u ∈ its, LsL.IsLI s.heap u (k (adO u)) := fun u hm => by
    rw [ei] at hm
    obtain ⟨t, ht, rfl⟩ := List.mem_map.mp hm
    have e := hx t ht
    obtain ⟨_, its2, n, r2, ho⟩ := I.hok _ _ e
    exact ⟨t, _, its2.toArray, n, rfl, ho, rfl, rfl, (show IntsAre its2.toArray.toList (k t) by simpa using r2.ints)⟩
  refine SrtO.sorted_ord (NtL.swo_lexL fun u => k (adO u)) hl.isList (by rw [← rv.length]; exact hz) (fun h2 h₁ a' ha' kk => ?_) fun out h1 h2 => ?_
  · refine LsL.lists_sortable (s := { s with heap := h₁ }) h2 (by show X.A.units + 1 + 1 < cLine; omega) (fun v hm => ?_) fun v hm e => ?_
    · obtain ⟨b, o, items, n, e, g, c, d, i⟩ := hv v hm
      exact ⟨b, o, items, n, e, (kk b o g).2, c, d, i⟩
    · obtain ⟨b, o, items, n, e', g, c, d, i⟩ := hv v hm
      rw [e'] at e
      exact (kk b o g).1 (Value.ref.inj e)
  · obtain ⟨ep, he'⟩ := PyProof.Rows.sortedAll_at s.heap its out.toArray
    have eo : out = (out.map adO).map Value.ref := ref_map fun u hm => by
      have hm' : u ∈ its := h2.perm.mem_iff.mp hm
      rw [ei] at hm'
      obtain ⟨t, _, e⟩ := List.mem_map.mp hm'
      exact ⟨t, e.symm⟩
    have hp : (out.map adO).Perm ts := by
      have p1 := h2.perm.map adO
      rw [ei, ad_map] at p1
      exact p1
    have hso : (out.map adO).Pairwise (fun p q => HT.lexLt (k q) (k p) = false) := List.pairwise_map.mpr (h1.imp fun {x y} z => z)
    have hlen : ((out.map adO).map V.ref).length ≤ sizeLine := by
      rw [List.length_map, hp.length_eq]
      rw [List.length_map] at hz
      exact hz
    have rvo : Vals ((out.map adO).map V.ref) out := by
      have z := of_nts (out.map adO)
      rw [← eo] at z
      exact z
    exact ⟨.ref _, upd H (s.heap.objs.size + 1) (.lst ((out.map adO).map V.ref)), I.laid (t' := s.toks) (fun _ _ => PyProof.Rows.sortedAll_old) (Nat.le_succ _) ⟨hlen, out, ep, rvo, he'⟩, rfl, q _ _ hp hso (I.hok.fresh (Nat.le_succ _))⟩
end

-- IMPORT HandS.NamedTupSort
/-! ### sorted of tuples of ints, any number of them -/
end Sa
namespace TL
open PySem PySem.W PySem.Calls PyProof.Rows Builtin
/-- v is a tuple of these ints -/
def IsTI (h : Heap) (v : Value) (ns : List Int) : Prop := ∃ (a : Addr) (o : Obj) (items : Array Value) (n : Nat), v = .ref a ∧ h.get? a = some o ∧ o.cls = .type "tuple" ∧ o.data = .seq items n ∧ IntsAre items.toList ns
theorem IsTI.keeps {h h' : Heap} {v : Value} {ns : List Int} (x : IsTI h v ns) (k : ∀ b o, v = .ref b → h.get? b = some o → o.cls = .type "tuple" → h'.get? b = some o) : IsTI h' v ns := by
  obtain ⟨a, o, items, n, e, g, c, d, i⟩ := x
  exact ⟨a, o, items, n, e, k _ _ e g c, c, d, i⟩
section
variable {prog : Program} {w : World} {A : Around} {E : Value → Shared → Prop} {s : Shared}
theorem lex_go {b : Bool} {sx sy : Nat} {Q : Bool → Shared → Prop} : ∀ (xs ys : List Value) (ns ms : List Int) (i : Nat), IntsAre xs ns → IntsAre ys ms → ns.length + sy = ms.length + sx → Q (HT.lexLt ns ms) s → KatLex prog w A b (decide (sx < sy)) Q (xs.zip ys) i s
  | _, _, _, _, i, .nil, .nil, hl, h => by
    rw [HT.lexLt_nil_nil] at h
    rw [show decide (sx < sy) = false from decide_eq_false (by simp at hl; omega)]
    exact kat_nil h
  | _, _, _, _, i, .nil, .cons m u r, hl, h => by
    rw [HT.lexLt_nil_cons] at h
    rw [show decide (sx < sy) = true from decide_eq_true (by simp at hl; omega)]
    exact kat_nil h
  | _, _, _, _, i, .cons n t q, .nil, hl, h => by
    rw [HT.lexLt_cons_nil] at h
    rw [show decide (sx < sy) = false from decide_eq_false (by simp at hl; omega)]
    exact kat_nil h
  | _, _, _, _, i, .cons n t q, .cons m u r, hl, h => by
    rw [HT.lexLt_cons] at h
    rw [List.zip_cons_cons]
    refine kat_cons (SeqAt.EqAt.int_int n t m u prog w _ _ ?_)
    refine kat_go (fun e => ?_) (fun e => ?_)
    · have ex : n = m := by simpa using e
      rw [if_pos ex] at h
      exact kat_yes (lex_go _ _ _ _ (i + 1) q r (by simp at hl; omega) h)
    · have ex : ¬ n = m := by simpa using e
      rw [if_neg ex] at h
      refine kat_no ?_
      cases (b && i == 0) with
      | true => exact oneLt_int h
      | false => exact kat_one _ _ (PyProof.Rows.lt_int h)
theorem tups_cmp {vs : List Value} {k : Value → List Int} (hp : ∀ v ∈ vs, IsTI s.heap v (k v)) : SrtO.Cmp prog w A s (tuples' true) (fun p => p.1 ∈ vs) (SrtO.lt2 fun v u => HT.lexLt (k v) (k u)) := by
  intro p q hm hm'
  have h1 := hp _ hm
  have h2 := hp _ hm'
  show wpAny (model prog w) A (keyLt' (tuples' true) p.1 q.1) (fun r s' => s' = s ∧ r = HT.lexLt (k p.1) (k q.1)) (fun _ _ => False) s
  generalize k p.1 = ns at h1 ⊢
  generalize k q.1 = ms at h2 ⊢
  obtain ⟨a, o, items, n, e, ho, hc, hd, hi⟩ := h1
  obtain ⟨a', o', items', n', e', ho', hc', hd', hi'⟩ := h2
  rw [e, e']
  have l1 := hi.length
  have l2 := hi'.length
  rw [Array.length_toList] at l1 l2
  exact kat_lt ho hd ho' hd' (lex_go (Q := fun r s' => s' = s ∧ r = HT.lexLt ns ms) _ _ ns ms 0 hi hi' (by omega) ⟨rfl, rfl⟩)
theorem firsts_ti {h : Heap} : ∀ {vs : List Value}, (∀ v ∈ vs, ∃ ns, IsTI h v ns ∧ ns ≠ []) → ∃ fs, KatTups h vs fs ∧ fs.length = vs.length ∧ ∀ f ∈ fs, ∃ x t, f = Value.int x t
  | [], _ => ⟨[], KatTups.nil, rfl, fun f h => by simp at h⟩
  | v :: vs, hv => by
    obtain ⟨fs, h1, h2, h3⟩ := firsts_ti fun u hu => hv u (List.mem_cons_of_mem _ hu)
    obtain ⟨ns, ⟨a, o, items, n, rfl, ho, hc, hd, hi⟩, hne⟩ := hv v List.mem_cons_self
    obtain ⟨items⟩ := items
    cases hi with
    | nil => exact absurd rfl hne
    | cons x t r => exact ⟨Value.int x t :: fs, KatTups.cons ho hc hd rfl h1, by rw [List.length_cons, List.length_cons, h2], fun f hf => by
        rcases List.mem_cons.mp hf with rfl | hf
        · exact ⟨x, t, rfl⟩
        · exact h3 f hf⟩
theorem tups_sortable {a : Addr} {vs : List Value} {k : Value → List Int} (h0 : 0 < vs.length) (hp : ∀ v ∈ vs, IsTI s.heap v (k v) ∧ k v ≠ []) (ha : ∀ o, s.heap.get? a = some o → o.cls ≠ .type "tuple") : SrtO.SortableO prog w A s a vs fun v u => HT.lexLt (k v) (k u) := by
  intro h' keep
  have hp' : ∀ v ∈ vs, IsTI h' v (k v) := fun v hm => (hp v hm).1.keeps fun b o _ e c => keep b o (fun z => by subst z; exact ha o e c) e
  obtain ⟨fs, h1, h2, h3⟩ := firsts_ti fun v hm => ⟨_, hp' v hm, (hp v hm).2⟩
  refine ⟨tuples' true, fun Q E hq => ?_, tups_cmp (s := { s with heap := h' }) hp'⟩
  refine kat_kind (s := { s with heap := h' }) (T := .type "int") h1 (by omega) (fun f hm => ?_) (by rfl) ?_
  · obtain ⟨x, t, rfl⟩ := h3 f hm
    exact Looks.now
  · have e : (Value.type "int" != Value.type "tuple") = true := by first | decide +kernel | rfl | decide
    rw [e]
    exact hq
end
end TL
namespace Sa
open PySem PySem.Spec PyProof.Rows L2
/-- sorted(xs), xs a list of tuples of ints -/
def rSortedU (K : PySem.W.Frag) : List V → Hp → VK → Prop := fun vs H Q => ∃ (a : Addr) (ts : List Addr) (k : Addr → List Int), vs = [V.ref a] ∧ SqL K H a (ts.map V.ref) ∧ (∀ t ∈ ts, H t = some (.tup ((k t).map V.int)) ∧ k t ≠ []) ∧
  ∀ (ts' : List Addr) (p : Addr), ts'.Perm ts → ts'.Pairwise (fun p q => HT.lexLt (k q) (k p) = false) → H p = none → Q (.ref p) (upd H p (.lst (ts'.map V.ref)))
section
variable {X : Cx}
theorem cr_sortedU : CallR X (.builtin "sorted") (rSortedU X.K) := by
  intro pins s σ H vs us Q I r h
  obtain ⟨a, ts, k, rfl, hs, hx, q⟩ := h
  obtain ⟨its, rv, hl, hz⟩ := I.list hs
  obtain ⟨u, rfl, ru⟩ := vals1 r
  obtain rfl : u = Value.ref a := ru
  have ei := nts_of rv
  have hv : ∀ u ∈ its, TL.IsTI s.heap u (k (adO u)) ∧ k (adO u) ≠ [] := fun u hm => by
    rw [ei] at hm
    obtain ⟨t, ht, rfl⟩ := List.mem_map.mp hm
    obtain ⟨e, ne⟩ := hx t ht
    obtain ⟨_, its2, r2, o, ho, hc, n, hd⟩ := I.hok _ _ e
    exact ⟨⟨t, o, its2.toArray, n, rfl, ho, hc, hd, (show IntsAre its2.toArray.toList (k t) by simpa using r2.ints)⟩, ne⟩
  refine SrtO.sorted_ord (NtL.swo_lexL fun u => k (adO u)) hl.isList (by rw [← rv.length]; exact hz) (fun h2 h₁ a' ha' kk => ?_) fun out h1 h2 => ?_
  · refine TL.tups_sortable (s := { s with heap := h₁ }) (by omega) (fun v hm => ⟨(hv v hm).1.keeps fun b o _ e _ => (kk b o e).2, (hv v hm).2⟩) fun o e => ?_
    have e' : some o = some (seqObj "list" its.toArray 0) := e.symm.trans ha'
    cases e'
    intro c
    exact absurd (Value.type.inj c) (by decide)
  · obtain ⟨ep, he'⟩ := PyProof.Rows.sortedAll_at s.heap its out.toArray
    have eo : out = (out.map adO).map Value.ref := ref_map fun u hm => by
      have hm' : u ∈ its := h2.perm.mem_iff.mp hm
      rw [ei] at hm'
      obtain ⟨t, _, e⟩ := List.mem_map.mp hm'
      exact ⟨t, e.symm⟩
    have hp : (out.map adO).Perm ts := by
      have p1 := h2.perm.map adO
      rw [ei, ad_map] at p1
      exact p1
    have hso : (out.map adO).Pairwise (fun p q => HT.lexLt (k q) (k p) = false) := List.pairwise_map.mpr (h1.imp fun {x y} z => z)
    have hlen : ((out.map adO).map V.ref).length ≤ sizeLine := by
      rw [List.length_map, hp.length_eq]
      rw [List.length_map] at hz
      exact hz
    have rvo : Vals ((out.map adO).map V.ref) out := by
      have z := of_nts (out.map adO)
      rw [← eo] at z
      exact z
    exact ⟨.ref _, upd H (s.heap.objs.size + 1) (.lst ((out.map adO).map V.ref)), I.laid (t' := s.toks) (fun _ _ => PyProof.Rows.sortedAll_old) (Nat.le_succ _) ⟨hlen, out, ep, rvo, he'⟩, rfl, q _ _ hp hso (I.hok.fresh (Nat.le_succ _))⟩
end

-- IMPORT HandS.Conv
/-! ### sorted lists of tuples of ints -/
theorem lex_tri : ∀ xs ys : List Int, HT.lexLt xs ys = false → HT.lexLt ys xs = false → xs = ys
  | [], [], _, _ => rfl
  | [], _ :: _, h, _ => by rw [HT.lexLt_nil_cons] at h; cases h
  | _ :: _, [], _, h => by rw [HT.lexLt_nil_cons] at h; cases h
  | x :: xs, y :: ys, h1, h2 => by
    rw [HT.lexLt_cons] at h1 h2
    by_cases e : x = y
    · rw [if_pos e] at h1
      rw [if_pos e.symm] at h2
      rw [e, lex_tri xs ys h1 h2]
    · rw [if_neg e] at h1
      rw [if_neg (Ne.symm e)] at h2
      have a := of_decide_eq_false h1
      have b := of_decide_eq_false h2
      omega
/-- strictly rising -/
abbrev Rising (Ls : List (List Int)) : Prop := Ls.Pairwise fun x y => HT.lexLt x y = true
theorem rising_of {Ls : List (List Int)} (nd : Ls.Nodup) (h : Ls.Pairwise fun x y => HT.lexLt y x = false) : Rising Ls := by
  refine (nd.and h).imp fun {x y} z => ?_
  obtain ⟨ne, z⟩ := z
  cases e : HT.lexLt x y with
  | true => rfl
  | false => exact absurd (lex_tri x y e z) ne
theorem rising_nodup {Ls : List (List Int)} (h : Rising Ls) : Ls.Nodup := h.imp fun {x y} z e => by
  subst e
  have := NtL.lex_asym _ _ z
  rw [z] at this
  cases this
theorem rising_uniq {Ls Ms : List (List Int)} (h1 : Rising Ls) (h2 : Rising Ms) (p : Ls.Perm Ms) : Ls = Ms :=
  p.eq_of_pairwise (le := fun x y => HT.lexLt y x = false) (fun x y _ _ h1 h2 => lex_tri x y h2 h1) (h1.imp fun {x y} z => NtL.lex_asym _ _ z) (h2.imp fun {x y} z => NtL.lex_asym _ _ z)
def intOf : V → Int
  | .int i => i
  | _ => 0
theorem intOf_map (L : List Int) : (L.map V.int).map intOf = L := by
  rw [List.map_map]
  exact (List.map_congr_left fun _ _ => rfl).trans (List.map_id L)
/-- the ints of the tuple at t -/
def rdT (H : Hp) (t : Addr) : List Int := match H t with
  | some (.tup xs) => xs.map intOf
  | _ => []
theorem rdT_of {H : Hp} {t : Addr} {L : List Int} (h : H t = some (.tup (L.map V.int))) : rdT H t = L := by
  unfold rdT
  rw [h]
  exact intOf_map L
theorem TupsAt.rd : ∀ {H : Hp} {ts : List Addr} {Ls : List (List Int)}, TupsAt H ts Ls → ts.map (rdT H) = Ls
  | _, [], [], _ => rfl
  | _, [], _ :: _, h => by have := h.1; simp at this
  | _, _ :: _, [], h => by have := h.1; simp at this
  | H, t :: ts, L :: Ls, h => by
    rw [List.map_cons, rdT_of (h.2 0 t L rfl rfl), TupsAt.rd h.tail]
theorem TupsAt.at {H : Hp} {ts : List Addr} {Ls : List (List Int)} (h : TupsAt H ts Ls) {t : Addr} (ht : t ∈ ts) : ∃ L, L ∈ Ls ∧ H t = some (.tup (L.map V.int)) ∧ rdT H t = L := by
  obtain ⟨i, hi⟩ := List.getElem?_of_mem ht
  have hl := (List.getElem?_eq_some_iff.mp hi).1
  rw [h.1] at hl
  have e := h.2 i t _ hi (List.getElem?_eq_getElem hl)
  exact ⟨_, List.getElem_mem hl, e, rdT_of e⟩
theorem tupsAt_of {H : Hp} {ts : List Addr} (h : ∀ t ∈ ts, H t = some (.tup ((rdT H t).map V.int))) : TupsAt H ts (ts.map (rdT H)) := by
  refine ⟨by rw [List.length_map], fun i t L h1 h2 => ?_⟩
  rw [List.getElem?_map, h1] at h2
  cases h2
  exact h t (List.mem_of_getElem? h1)
theorem TupsAt.get {H : Hp} {ts : List Addr} {Ls : List (List Int)} (h : TupsAt H ts Ls) {i : Nat} {y : V} (hy : (ts.map V.ref)[i]? = some y) : ∃ t L, y = .ref t ∧ Ls[i]? = some L ∧ H t = some (.tup (L.map V.int)) := by
  rw [List.getElem?_map] at hy
  cases e : ts[i]? with
  | none =>
    rw [e] at hy
    cases hy
  | some t =>
    rw [e] at hy
    have hi := (List.getElem?_eq_some_iff.mp e).1
    rw [h.1] at hi
    exact ⟨t, Ls[i], (Option.some.inj hy).symm, List.getElem?_eq_getElem hi, h.2 i t _ e (List.getElem?_eq_getElem hi)⟩
theorem tups_before {H : Hp} {ts : List Addr} {Ls : List (List Int)} (hT : TupsAt H ts Ls) (ne : ∀ L ∈ Ls, L ≠ []) : ∀ t ∈ ts, H t = some (.tup ((rdT H t).map V.int)) ∧ rdT H t ≠ [] := fun t ht => by
  obtain ⟨L, hL, e, r⟩ := hT.at ht
  rw [r]
  exact ⟨e, ne L hL⟩
theorem tups_after {H : Hp} {ts ts' : List Addr} {Ls : List (List Int)} (hT : TupsAt H ts Ls) (nd : Ls.Nodup) (hp : ts'.Perm ts) (hs : ts'.Pairwise (fun p q => HT.lexLt (rdT H q) (rdT H p) = false)) : ∃ Ls', TupsAt H ts' Ls' ∧ Ls'.Perm Ls ∧ Rising Ls' := by
  have hT' : TupsAt H ts' (ts'.map (rdT H)) := tupsAt_of fun t ht => by
    obtain ⟨L, hL, e, r⟩ := hT.at (hp.mem_iff.mp ht)
    rw [r]
    exact e
  have pm : (ts'.map (rdT H)).Perm Ls := by
    have := hp.map (rdT H)
    rwa [hT.rd] at this
  exact ⟨_, hT', pm, rising_of (pm.nodup_iff.mpr nd) (List.pairwise_map.mpr hs)⟩
/-- sorted of a list of tuples -/
theorem tups_sorted {K : PySem.W.Frag} {H : Hp} {a : Addr} {ts : List Addr} {Ls : List (List Int)} {Q : VK} (hS : SqL K H a (ts.map V.ref)) (hT : TupsAt H ts Ls) (ne : ∀ L ∈ Ls, L ≠ []) (nd : Ls.Nodup)
    (h : ∀ H' p' ts' Ls', Same H H' → H p' = none → H' p' = some (.lst (ts'.map V.ref)) → TupsAt H' ts' Ls' → Ls'.Perm Ls → Rising Ls' → Q (.ref p') H') : rSortedU K [V.ref a] H Q := by
  refine ⟨a, ts, rdT H, rfl, hS, fun t ht => ?_, fun ts' p' hp hs np => ?_⟩
  · obtain ⟨L, hL, e, r⟩ := hT.at ht
    rw [r]
    exact ⟨e, ne L hL⟩
  · have hT' : TupsAt H ts' (ts'.map (rdT H)) := tupsAt_of fun t ht => by
      obtain ⟨L, hL, e, r⟩ := hT.at (hp.mem_iff.mp ht)
      rw [r]
      exact e
    have pm : (ts'.map (rdT H)).Perm Ls := by
      have := hp.map (rdT H)
      rwa [hT.rd] at this
    exact h _ p' ts' _ (same_upd np) np upd_same (hT'.keep (same_upd np)) pm (rising_of (pm.nodup_iff.mpr nd) (List.pairwise_map.mpr hs))
/-- the keys of a dict -/
theorem keys_tups {H : Hp} : ∀ {kvs : List (List Key × V)} {bs : List Addr} {Ls : List (List Int)}, IsKeys H kvs bs → kvs.map (·.1) = Ls.map (fun L => L.map Sum.inl) → TupsAt H bs Ls
  | [], _, Ls, h, e => by
    cases h
    cases Ls with
    | nil => exact ⟨rfl, fun i t L h1 => by simp at h1⟩
    | cons L Ls => cases e
  | p :: kvs, _, Ls, h, e => by
    cases h with
    | cons hb hr =>
      cases Ls with
      | nil => cases e
      | cons L Ls =>
        rw [List.map_cons, List.map_cons] at e
        injection e with e1 e2
        have ih := keys_tups hr e2
        refine ⟨by rw [List.length_cons, List.length_cons, ih.1], fun i t M h1 h2 => ?_⟩
        cases i with
        | zero =>
          cases h1
          cases h2
          rw [hb, e1, List.map_map]
          rfl
        | succ i => exact ih.2 i t M (by simpa using h1) (by simpa using h2)
/-- sorted(list(d)) of a dict whose keys are tuples of ints -/
theorem keys_sorted {K : PySem.W.Frag} {H : Hp} {d : Addr} {kvs : List (List Key × V)} {Ls : List (List Int)} {Q : VK} (e : H d = some (.dT kvs)) (hk : kvs.map (·.1) = Ls.map (fun L => L.map Sum.inl)) (ne : ∀ L ∈ Ls, L ≠ []) (nd : Ls.Nodup)
    (h : ∀ H' p' ts' Ls', Same H H' → H p' = none → H' p' = some (.lst (ts'.map V.ref)) → TupsAt H' ts' Ls' → Ls'.Perm Ls → Rising Ls' → Q (.ref p') H') :
    ∃ d' kvs', [V.ref d] = [V.ref d'] ∧ Rd H d' (.dT kvs') ∧ ∀ p bs, H p = none → IsKeys H kvs' bs → rSortedU K [V.ref p] (upd H p (.lst (bs.map V.ref))) Q := by
  refine ⟨d, kvs, rfl, .inl e, fun p bs np hb => ?_⟩
  have hT := keys_tups hb hk
  refine tups_sorted (SqL.of upd_same) (hT.keep (same_upd np)) ne nd fun H' p' ts' Ls' s np' e' t' pm rs => ?_
  exact h H' p' ts' Ls' ((same_upd np).trans s) ((same_upd np).free np') e' t' pm rs
/-- one more key -/
theorem keys_put {kvs : List (List Key × V)} {Ls : List (List Int)} {L : List Int} {v : V} (hk : kvs.map (·.1) = Ls.map (fun L => L.map Sum.inl)) : (putK kvs (L.map Sum.inl) v).map (·.1) = (if L ∈ Ls then Ls else Ls ++ [L]).map (fun L => L.map Sum.inl) := by
  have inj : ∀ {A B : List Int}, (A.map Sum.inl : List Key) = B.map Sum.inl → A = B := fun {A B} h => by
    have := congrArg (List.map fun k : Key => match k with | .inl i => i | .inr _ => 0) h
    rw [List.map_map, List.map_map] at this
    exact ((List.map_congr_left fun _ _ => rfl).trans (List.map_id A)).symm.trans (this.trans ((List.map_congr_left fun _ _ => rfl).trans (List.map_id B)))
  have hm : (L.map Sum.inl : List Key) ∈ kvs.map (·.1) ↔ L ∈ Ls := by
    rw [hk, List.mem_map]
    constructor
    · rintro ⟨M, hM, e⟩
      rw [← inj e]
      exact hM
    · intro h
      exact ⟨L, h, rfl⟩
  unfold putK
  by_cases c : L ∈ Ls
  · have a : (kvs.any fun kv => decide (kv.1 = L.map Sum.inl)) = true := by
      obtain ⟨kv, h1, h2⟩ := List.mem_map.mp (hm.mpr c)
      exact List.any_eq_true.mpr ⟨kv, h1, decide_eq_true h2⟩
    rw [if_pos a, if_pos c, ← hk, List.map_map]
    refine List.map_congr_left fun kv _ => ?_
    show (if kv.1 = L.map Sum.inl then (kv.1, v) else kv).1 = kv.1
    split <;> rfl
  · have a : (kvs.any fun kv => decide (kv.1 = L.map Sum.inl)) ≠ true := fun z => by
      obtain ⟨kv, h1, h2⟩ := List.any_eq_true.mp z
      exact c (hm.mp (List.mem_map.mpr ⟨kv, h1, of_decide_eq_true h2⟩))
    rw [if_neg a, if_neg c, List.map_append, List.map_append, hk]
    rfl

/-! ### lists of ints in a list -/
/-- at ts stand lists of the ints Ls -/
def LstsAt (H : Hp) (ts : List Addr) (Ls : List (List Int)) : Prop := ts.length = Ls.length ∧ ∀ (i : Nat) (t : Addr) (L : List Int), ts[i]? = some t → Ls[i]? = some L → H t = some (.lst (L.map V.int))
theorem LstsAt.keep {H H' : Hp} {ts : List Addr} {Ls : List (List Int)} (h : LstsAt H ts Ls) (s : Same H H') : LstsAt H' ts Ls := ⟨h.1, fun i t q h1 h2 => s _ _ (h.2 i t q h1 h2)⟩
theorem LstsAt.nil {H : Hp} : LstsAt H [] [] := ⟨rfl, fun i t q h => by simp at h⟩
theorem LstsAt.one {H : Hp} {t : Addr} {L : List Int} (h : H t = some (.lst (L.map V.int))) : LstsAt H [t] [L] := by
  refine ⟨rfl, fun i t' q' h1 h2 => ?_⟩
  cases i with
  | zero =>
    cases h1
    cases h2
    exact h
  | succ i => simp at h1
theorem LstsAt.tail {H : Hp} {t : Addr} {ts : List Addr} {L : List Int} {Ls : List (List Int)} (h : LstsAt H (t :: ts) (L :: Ls)) : LstsAt H ts Ls :=
  ⟨by have := h.1; simpa using this, fun i u M h1 h2 => h.2 (i + 1) u M (by simpa using h1) (by simpa using h2)⟩
theorem LstsAt.append {H : Hp} {ts us : List Addr} {ps qs : List (List Int)} (h : LstsAt H ts ps) (g : LstsAt H us qs) : LstsAt H (ts ++ us) (ps ++ qs) := by
  refine ⟨by rw [List.length_append, List.length_append, h.1, g.1], fun i t q h1 h2 => ?_⟩
  by_cases hi : i < ts.length
  · rw [List.getElem?_append_left hi] at h1
    rw [List.getElem?_append_left (by rw [← h.1]; exact hi)] at h2
    exact h.2 i t q h1 h2
  · rw [List.getElem?_append_right (by omega)] at h1
    rw [List.getElem?_append_right (by rw [← h.1]; omega), ← h.1] at h2
    exact g.2 _ t q h1 h2
theorem LstsAt.upd {H : Hp} {ts : List Addr} {Ls : List (List Int)} {F : Addr} {o : HO} (h : LstsAt H ts Ls) (n : ∀ t ∈ ts, t ≠ F) : LstsAt (upd H F o) ts Ls :=
  ⟨h.1, fun i t L h1 h2 => by rw [upd_ne (n t (List.mem_of_getElem? h1))]; exact h.2 i t L h1 h2⟩
theorem LstsAt.at {H : Hp} {ts : List Addr} {Ls : List (List Int)} (h : LstsAt H ts Ls) {t : Addr} (ht : t ∈ ts) : ∃ L, L ∈ Ls ∧ H t = some (.lst (L.map V.int)) := by
  obtain ⟨i, hi⟩ := List.getElem?_of_mem ht
  have hl := (List.getElem?_eq_some_iff.mp hi).1
  rw [h.1] at hl
  exact ⟨_, List.getElem_mem hl, h.2 i t _ hi (List.getElem?_eq_getElem hl)⟩
theorem LstsAt.get {H : Hp} {ts : List Addr} {Ls : List (List Int)} (h : LstsAt H ts Ls) {i : Nat} {y : V} (hy : (ts.map V.ref)[i]? = some y) : ∃ t L, y = .ref t ∧ t ∈ ts ∧ Ls[i]? = some L ∧ H t = some (.lst (L.map V.int)) := by
  rw [List.getElem?_map] at hy
  cases e : ts[i]? with
  | none =>
    rw [e] at hy
    cases hy
  | some t =>
    rw [e] at hy
    have hi := (List.getElem?_eq_some_iff.mp e).1
    rw [h.1] at hi
    exact ⟨t, Ls[i], (Option.some.inj hy).symm, List.mem_of_getElem? e, List.getElem?_eq_getElem hi, h.2 i t _ e (List.getElem?_eq_getElem hi)⟩
section
variable {K : PySem.W.Frag} {H : Hp}
def dataLL (Ls : List (List Int)) : List PyData := Ls.map fun L => .list (L.map PyData.int)
theorem dpAll_lsts : ∀ {ts : List Addr} {Ls : List (List Int)}, LstsAt H ts Ls → DpAll K H (ts.map V.ref) (dataLL Ls)
  | [], [], _ => .nil
  | [], _ :: _, h => by have := h.1; simp at this
  | _ :: _, [], h => by have := h.1; simp at this
  | t :: ts, L :: Ls, h => .cons (dp_list (SqL.of (h.2 0 t L rfl rfl))) (dpAll_lsts h.tail)
theorem dp_lsts {a : Addr} {ts : List Addr} {Ls : List (List Int)} (h : SqL K H a (ts.map V.ref)) (g : LstsAt H ts Ls) : Dp K H (.ref a) (.list (dataLL Ls)) := .lst h (dpAll_lsts g)
end
theorem lay_lsts : ∀ Ls : List (List Int), PyData.canLayAll0 (dataLL Ls) = true
  | [] => by simp [dataLL, PyData.canLayAll0]
  | L :: r => by
    have ih := lay_lsts r
    unfold dataLL at ih
    simp [dataLL, PyData.canLayAll0, PyData.canLay0, lay_ints L, ih]
theorem depth_lsts : ∀ Ls : List (List Int), PyData.depthAll (dataLL Ls) ≤ 1
  | [] => by simp [dataLL, PyData.depthAll]
  | L :: r => by
    have ih := depth_lsts r
    unfold dataLL at ih
    simp [dataLL, PyData.depthAll, PyData.depth, depth_ints L]
    omega
theorem shaped_lsts (Ls : List (List Int)) : SeqAt.shaped (.list (dataLL Ls)) = true := by
  show (PyData.canLay0 (.list (dataLL Ls)) && decide (PyData.depth (.list (dataLL Ls)) ≤ 64)) = true
  have h1 := lay_lsts Ls
  have h2 := depth_lsts Ls
  simp only [PyData.canLay0, PyData.depth, h1, Bool.true_and]
  exact decide_eq_true (by omega)
theorem eqvAll_lsts : ∀ xs ys : List (List Int), PyData.eqvAll (dataLL xs) (dataLL ys) = decide (xs = ys)
  | [], [] => by simp [dataLL, PyData.eqvAll]
  | [], _ :: _ => by simp [dataLL, PyData.eqvAll]
  | _ :: _, [] => by simp [dataLL, PyData.eqvAll]
  | x :: xs, y :: ys => by
    have ih := eqvAll_lsts xs ys
    unfold dataLL at ih ⊢
    simp only [List.map_cons, PyData.eqvAll, PyData.eqv, ih, List.cons.injEq, eqvAll_ints]
    by_cases h : x = y <;> simp [h]
theorem neD_llists {K : PySem.W.Frag} {H : Hp} {Q : VK} {a b : Addr} {ts us : List Addr} {xs ys : List (List Int)} (ha : SqL K H a (ts.map V.ref)) (ga : LstsAt H ts xs) (hb : SqL K H b (us.map V.ref)) (gb : LstsAt H us ys) (q : Q (.bl (!decide (xs = ys))) H) : rNeD K (.ref a) (.ref b) H Q :=
  ⟨_, _, dp_lsts ha ga, dp_lsts hb gb, shaped_lsts _, shaped_lsts _, by simp only [PyData.eqv, eqvAll_lsts]; exact q⟩
/-- the ints of the list at t -/
def rdL (H : Hp) (t : Addr) : List Int := match H t with
  | some (.lst xs) => xs.map intOf
  | _ => []
theorem rdL_of {H : Hp} {t : Addr} {L : List Int} (h : H t = some (.lst (L.map V.int))) : rdL H t = L := by
  unfold rdL
  rw [h]
  exact intOf_map L
theorem LstsAt.rd : ∀ {H : Hp} {ts : List Addr} {Ls : List (List Int)}, LstsAt H ts Ls → ts.map (rdL H) = Ls
  | _, [], [], _ => rfl
  | _, [], _ :: _, h => by have := h.1; simp at this
  | _, _ :: _, [], h => by have := h.1; simp at this
  | H, t :: ts, L :: Ls, h => by
    rw [List.map_cons, rdL_of (h.2 0 t L rfl rfl), LstsAt.rd h.tail]
theorem lstsAt_of {H : Hp} {ts : List Addr} (h : ∀ t ∈ ts, H t = some (.lst ((rdL H t).map V.int))) : LstsAt H ts (ts.map (rdL H)) := by
  refine ⟨by rw [List.length_map], fun i t L h1 h2 => ?_⟩
  rw [List.getElem?_map, h1] at h2
  cases h2
  exact h t (List.mem_of_getElem? h1)
theorem lsts_before {H : Hp} {ts : List Addr} {Ls : List (List Int)} (hT : LstsAt H ts Ls) : ∀ t ∈ ts, H t = some (.lst ((rdL H t).map V.int)) := fun t ht => by
  obtain ⟨L, hL, e⟩ := hT.at ht
  rw [rdL_of e]
  exact e
theorem lsts_after {H : Hp} {ts ts' : List Addr} {Ls : List (List Int)} (hT : LstsAt H ts Ls) (nd : Ls.Nodup) (hp : ts'.Perm ts) (hs : ts'.Pairwise (fun p q => HT.lexLt (rdL H q) (rdL H p) = false)) : ∃ Ls', LstsAt H ts' Ls' ∧ Ls'.Perm Ls ∧ Rising Ls' := by
  have hT' : LstsAt H ts' (ts'.map (rdL H)) := lstsAt_of fun t ht => lsts_before hT t (hp.mem_iff.mp ht)
  have pm : (ts'.map (rdL H)).Perm Ls := by
    have := hp.map (rdL H)
    rwa [hT.rd] at this
  exact ⟨_, hT', pm, rising_of (pm.nodup_iff.mpr nd) (List.pairwise_map.mpr hs)⟩
theorem grow_rising : ∀ size, size < 6 → Rising (growAt 6 (noughts size) (List.range' 1 size)) := by decide +kernel

/-! ### asked_size -/
abbrev N_asked_size : List Str := ["size", "most"]
theorem sc_asked_size : FnScope N_asked_size ["size", "most"] (defScope st_asked_size) := ⟨rfl, rfl, rfl, by decide +kernel, rfl, by decide +kernel, by decide +kernel⟩
/-- refuses a size below one or above most: E of the class at C -/
def spAskedSize (C : Addr) : Sp := fun vs H Q E => ∃ size most : Int, vs = [.int size, .int most] ∧ (¬ (1 ≤ size ∧ size ≤ most) → E (.ref C) none H) ∧ (1 ≤ size ∧ size ≤ most → Q .non H)
section
variable {P : Program} {w : World} {K : PySem.W.Frag} {mg : Str → Option Value} {base : Heap}
theorem kn_asked_size {C : Addr} (D : Df K mg "asked_size" st_asked_size ["size", "most"]) (X_NoSize : Ec K mg "NoSize" C) : Kn P w K mg base (L2.CX P w) 1 "asked_size" ["size", "most"] (spAskedSize C) := by
  refine D.knX sc_asked_size (fun vs H Q E h => ?_) (fun f cdv A outer s H vs Q E hr h => ?_)
  · obtain ⟨a, b, rfl, _⟩ := h
    rfl
  obtain ⟨size, most, rfl, h1, h2⟩ := h
  refine ⟨_, (pss_one (ps_if (PW.pt (pw_or (pt_cmpR op_lt (pv 0) pe_int (nomark _)) (pw_or1 (pt_cmpR op_gt (pv 0) (pv 1) (nomark _)))))
        (pss_one (ps_raise rfl (takes_of rfl rfl rfl rfl) (pmk_own PySem.F.excBase_ValueError X_NoSize.x X_NoSize.g X_NoSize.k (raises_own X_NoSize.b X_NoSize.t) rfl)))
        pss_nil)), ?_⟩
  refine ⟨_, rfl, _, _, rfl, rfl, _, rfl, ite2 (fun c => ?_) (fun c => ?_)⟩
  · have c' := of_decide_eq_true c
    exact iteT (h1 (by omega))
  · have c' : ¬ size < 1 := of_decide_eq_false (Bool.eq_false_iff.mpr c)
    refine ⟨_, rfl, _, rfl, _, _, rfl, rfl, _, rfl, ite2 (fun d => ?_) (fun d => ?_)⟩
    · have d' : most < size := of_decide_eq_true d
      exact h1 (by omega)
    · have d' : ¬ most < size := of_decide_eq_false (Bool.eq_false_iff.mpr d)
      exact h2 (by omega)
end

/-! ### _law_cell_at -/
abbrev N_law_cell_at : List Str := ["script", "k"]
theorem sc_law_cell_at : FnScope N_law_cell_at ["script", "k"] (defScope st_law_cell_at) := ⟨rfl, rfl, rfl, by decide +kernel, rfl, by decide +kernel, by decide +kernel⟩
/-- a cell of the script, nought beyond -/
def cellAt (ns : List Int) (k : Int) : Int := if k < (ns.length : Int) then ns.getD k.toNat 0 else 0
def spCellAt (K : PySem.W.Frag) : Sp := fun vs H Q _ => ∃ (a : Addr) (ns : List Int) (k : Int), vs = [.ref a, .int k] ∧ SqL K H a (ns.map V.int) ∧ 0 ≤ k ∧ Q (.int (cellAt ns k)) H
section
variable {P : Program} {w : World} {K : PySem.W.Frag} {mg : Str → Option Value} {base : Heap}
theorem kn_law_cell_at (D : Df K mg "_law_cell_at" st_law_cell_at ["script", "k"]) (B : Bl mg) : Kn P w K mg base CX0 1 "_law_cell_at" ["script", "k"] (spCellAt K) := by
  refine D.kn sc_law_cell_at (fun vs H Q E h => ?_) (fun f cdv A outer s H vs Q E hr h => ?_)
  · obtain ⟨a, ns, k, rfl, _⟩ := h
    rfl
  obtain ⟨a, ns, k, rfl, hS, h0, q⟩ := h
  refine ⟨_, (pss_cons (ps_if (pt_cmpR op_lt (pv 1) (pe_callB call_len_seq (by rfl) B.len_ (by decide +kernel) (pa_cons (pv 0) pa_nil)) (nomark _))
        (pss_one (ps_ret (pe_ix ix_list (pv 0) (pv 1) (fun _ _ => rfl))))
        pss_nil)
      (pss_one (ps_ret pe_int))), ?_⟩
  refine ⟨_, rfl, _, rfl, a, _, rfl, .inl hS, _, _, rfl, rfl, _, rfl, ite2 (fun c => ?_) (fun c => ?_)⟩
  · have c' : k < ((ns.map V.int).length : Int) := of_decide_eq_true c
    rw [ints_len] at c'
    have hk : k.toNat < ns.length := by omega
    refine ⟨_, rfl, _, rfl, a, _, k, _, rfl, rfl, hS, at_ints h0 (List.getElem?_eq_getElem hk), ?_⟩
    have e : cellAt ns k = ns[k.toNat] := by
      unfold cellAt
      rw [if_pos c', List.getD_eq_getElem?_getD, List.getElem?_eq_getElem hk]
      rfl
    rw [← e]
    exact q
  · have c' : ¬ k < ((ns.map V.int).length : Int) := of_decide_eq_false (Bool.eq_false_iff.mpr c)
    rw [ints_len] at c'
    have e : cellAt ns k = 0 := if_neg c'
    rw [e] at q
    exact q
end

/-! ### _law_whole -/
abbrev N_law_whole : List Str := ["found"]
theorem sc_law_whole : FnScope N_law_whole ["found"] (defScope st_law_whole) := ⟨rfl, rfl, rfl, by decide +kernel, rfl, by decide +kernel, by decide +kernel⟩
def spWhole : Sp := fun vs H Q _ => ∃ n : Int, vs = [.int n] ∧ Q (.bl true) H
section
variable {P : Program} {w : World} {K : PySem.W.Frag} {mg : Str → Option Value} {base : Heap}
theorem kn_law_whole (D : Df K mg "_law_whole" st_law_whole ["found"]) (B : Bl mg) : Kn P w K mg base CX0 1 "_law_whole" ["found"] spWhole := by
  refine D.kn sc_law_whole (fun vs H Q E h => ?_) (fun f cdv A outer s H vs Q E hr h => ?_)
  · obtain ⟨a, rfl, _⟩ := h
    rfl
  obtain ⟨n, rfl, q⟩ := h
  refine ⟨_, (pss_one (ps_ret (pe_and (pe_callB call_isi (by rfl) B.isinstance_ (by decide +kernel) (pa_cons (pv 0) (pa_cons (pe_bltn (v := .ty "int") (by rfl) B.int_ (by decide +kernel) rfl) pa_nil))) (pe_one (pe_not (pe_callB call_isi (by rfl) B.isinstance_ (by decide +kernel) (pa_cons (pv 0) (pa_cons (pe_bltn (v := .ty "bool") (by rfl) B.bool_ (by decide +kernel) rfl) pa_nil)))))))), ?_⟩
  refine ⟨_, rfl, _, _, _, _, true, rfl, .ty _, .base (.int _), kit_ty (by decide +kernel), true, rfl, iteT ?_⟩
  exact ⟨_, rfl, _, _, _, _, false, rfl, .ty _, .base (.int _), kit_ty (by decide +kernel), false, rfl, q⟩
end

/-! ### all([_law_whole(x) for x in ..]) -/
theorem lc_whole {K : PySem.W.Frag} {a : Addr} {xs : List Int} {j : Nat} {σ : L2.St} {H1 : Hp} {D : Addr} {Qd : Hp → Prop} (hj : j < σ.length) (hS : SqL K H1 a (xs.map V.int)) (nD : H1 D = none) (hl : xs.length < 16777216)
    (hd : ∀ H', Same H1 H' → H' D = some (.lst ((List.replicate xs.length true).map V.bl)) → Qd H') :
    ∃ W : Nat → Nat → Hp → Prop, (∃ m, W 0 m (upd H1 D (.lst []))) ∧ ∀ i m H, W i m H →
      ((Itl K a).stop i H ∧ Qd H) ∨ ((Itl K a).go i H ∧ ∃ Nx : Hp → Prop, (∀ H', Nx H' → ∃ m', m' < m ∧ W (i + 1) m' H') ∧ ∀ x H', (Itl K a).yld i H x H' → gName j x (wipe σ [j]) H' fun σ2 H2 => wipe σ2 [j] = wipe σ [j] ∧ tYes σ2 H2 fun b H3 =>
        if b = true then tCall spWhole [] E0 (tCons (tVar j) tNil) σ2 H3 fun y H4 => ∃ acc, H4 D = some (.lst acc) ∧ acc.length < sizeLine ∧ Nx (upd H4 D (.lst (acc ++ [y]))) else Nx H3) := by
  refine lc_list (K := K) (a := a) (xs := xs.map V.int) (fun i H' => Same H1 H' ∧ H' D = some (.lst ((List.replicate i true).map V.bl))) ⟨same_upd nD, upd_same⟩ (fun i H _ h => h.1.seq hS) ?_ ?_
  · rintro i x H hx ⟨s, e⟩
    have hi := (List.getElem?_eq_some_iff.mp hx).1
    rw [List.length_map] at hi
    obtain ⟨n, hn, rfl⟩ := of_ints_get hx
    refine ⟨?_, ?_⟩
    · show ((σ.set j none).set j (some (V.int n))).set j none = σ.set j none
      rw [List.set_set, List.set_set]
    refine iteT (B := Same H1 H ∧ H D = some (.lst ((List.replicate (i + 1) true).map V.bl))) ?_
    refine ⟨V.int n, ?_, n, rfl, _, e, ?_, ?_, ?_⟩
    · show ((σ.set j none).set j (some (V.int n)))[j]? = some (some (V.int n))
      rw [List.set_set, List.getElem?_set_self hj]
    · rw [List.length_map, List.length_replicate]
      exact smaller (by omega)
    · exact s.own nD
    · rw [upd_same, List.replicate_succ', List.map_append]
      rfl
  · rintro H ⟨s, e⟩
    rw [List.length_map] at e
    exact hd H s e
theorem all_whole (n : Nat) : (List.replicate n true).all id = true := by
  induction n with
  | zero => rfl
  | succ n ih => rw [List.replicate_succ, List.all_cons, ih]; rfl

/-! ### filled -/
abbrev N_filled : List Str := ["row", "number", "found", "place", "more"]
theorem sc_filled : FnScope N_filled ["row", "number"] (defScope st_filled) := ⟨rfl, rfl, rfl, by decide +kernel, rfl, by decide +kernel, by decide +kernel⟩
def spFilledAll (n : Nat) : Sp := fun vs H Q _ => ∃ (a : Addr) (row : List Int) (m : Nat) (z : Int), vs = [.ref a, .int z] ∧ z = (m : Int) ∧ H a = some (.lst (row.map V.int)) ∧ m < n ∧ m ≤ 1000 ∧ row.length ≤ 1000 ∧ (fillAt m row).length ≤ 100000 ∧
  ∀ H' p ts, Same H H' → H p = none → H' p = some (.lst (ts.map V.ref)) → LstsAt H' ts (fillAt m row) → (∀ t ∈ ts, H t = none ∨ t = a) → Q (.ref p) H'
section
variable {P : Program} {w : World} {K : PySem.W.Frag} {mg : Str → Option Value} {base : Heap}
theorem Df.never {CX : CXT} {k : Nat} {x : Str} {st : Stmt} {ps : List Str} {sp : Sp} (D : Df K mg x st ps) (no : ∀ vs H Q E, ¬ sp vs H Q E) : Kn P w K mg base CX k x ps sp := by
  obtain ⟨f, fd, F, b, g⟩ := D.ex
  exact ⟨f, fd, ⟨fun vs H Q E h => absurd h (no vs H Q E), fun A outer s H args us vs Q E _ _ _ _ h => absurd h (no vs H Q E)⟩, F.kp, b, g⟩
theorem kn_filled1 {n : Nat} (D : Df K mg "filled" st_filled ["row", "number"]) (B : Bl mg) (K_filled : Kn P w K mg base CX0 (n + 1) "filled" ["row", "number"] (spFilledAll n)) :
    Kn P w K mg base CX0 (n + 2) "filled" ["row", "number"] (spFilledAll (n + 1)) := by
  refine D.kn sc_filled (fun vs H Q E h => ?_) (fun f cdv A outer s H vs Q E hr h => ?_)
  · obtain ⟨a, row, m, z, rfl, _⟩ := h
    rfl
  obtain ⟨a, row, m, z, rfl, rfl, eA, hm, hm2, hlen, hbig, q⟩ := h
  refine ⟨_, (pss_cons (ps_if (pt_cmpR op_eq (pv 1) pe_int (nomark _))
        (pss_one (ps_ret (pe_lst (pa_cons (pv 0) pa_nil))))
        pss_nil)
      (pss_cons (ps_set (i := 2) sc_filled.nd rfl (Or.inl rfl) (pe_lst pa_nil))
      (pss_cons (ps_for PassesOwn.never rfl (pi_range1 (by rfl) B.range_ (pa_cons (pe_op op_sub (pe_callB call_len_seq (by rfl) B.len_ (by decide +kernel) (pa_cons (pv 0) pa_nil)) (pv 1)) pa_nil)) (pg_name (i := 3) sc_filled.nd rfl (Or.inl rfl))
        (pss_one (ps_if (PW.pt (pw_and (pt_cmpR op_eq (pe_ix ix_list (pv 0) (pv 3) (fun _ _ => rfl)) pe_int (nomark _)) (pw_and1 (pt_cmpR op_eq (pe_ix ix_list (pv 0) (pe_op op_add (pv 3) (pv 1)) (fun _ _ => rfl)) pe_int (nomark _)))))
          (pss_cons (ps_set (i := 4) sc_filled.nd rfl (Or.inl rfl) (pe_callTy call_list_of (by rfl) B.list_ (by decide +kernel) (pa_cons (pv 0) pa_nil)))
          (pss_cons (ps_asg (pv 1) (pg_sub (pv 4) (pv 3) set_list))
          (pss_cons (ps_asg (pv 1) (pg_sub (pv 4) (pe_op op_add (pv 3) (pv 1)) set_list))
          (pss_one (ps_expr (pe_bm PySem.F.plainAttrs_list PySem.F.slot_list_extend PySem.F.type_list_extend mt_extend (pv 2) (pa_cons (pe_k0 K_filled (hr.mono (by first | decide | omega)) (by rfl) (pa_cons (pv 4) (pa_cons (pe_op op_sub (pv 1) pe_int) pa_nil))) pa_nil)))))))
          pss_nil)))
      (pss_one (ps_ret (pv 2)))))), ?_⟩
  refine ⟨_, rfl, rfl, _, rfl, ite2 (fun c => ?_) (fun c => ?_)⟩
  · have c1 : (m : Int) = 0 := V.int.inj (of_decide_eq_true c)
    have c2 : m = 0 := by omega
    subst c2
    refine ⟨_, rfl, small (show 1 ≤ 16777216 by decide), fun l nl => ?_⟩
    exact q _ l [a] (same_upd nl) nl upd_same (.one ((same_upd nl) _ _ eA)) fun t ht => .inr (List.mem_singleton.mp ht)
  have c1 : ¬ (m : Int) = 0 := fun z => c (decide_eq_true (congrArg V.int z))
  obtain ⟨m, rfl⟩ : ∃ m', m = m' + 1 := ⟨m - 1, by omega⟩
  have hL := ints_len row
  refine ⟨small (show 0 ≤ 16777216 by decide), fun F nF => ?_⟩
  generalize hg : (fun p => if row[p]? = some 0 ∧ row[p + (m + 1)]? = some 0 then fillAt m (setTwo row p (m + 1)) else []) = g
  have e0 : fillAt (m + 1) row = (List.range (row.length - (m + 1))).flatMap g := by rw [← hg]; rfl
  rw [e0] at hbig q
  have eA0 : (upd H F (.lst [])) a = some (.lst (row.map V.int)) := (same_upd nF) _ _ eA
  refine ⟨_, rfl, a, _, rfl, .inl (SqL.of eA0), _, rfl, _, _, rfl, rfl, ((row.map V.int).length : Int) - ((m + 1 : Nat) : Int), rfl, by omega, by omega, ?_⟩
  have hn : (((row.map V.int).length : Int) - ((m + 1 : Nat) : Int)).toNat = row.length - (m + 1) := by rw [hL]; omega
  rw [hn]
  refine for_range (lo := 0) (n := row.length - (m + 1)) (fun i σ H' => ∃ y3 y4 ts, σ = [some (.ref a), some (.int ((m + 1 : Nat) : Int)), some (.ref F), y3, y4] ∧ Same H H' ∧ H' F = some (.lst (ts.map V.ref)) ∧ LstsAt H' ts ((List.range i).flatMap g) ∧ ∀ t ∈ ts, H t = none ∧ t ≠ F) ⟨none, none, [], rfl, same_upd nF, upd_same, .nil, fun t ht => by simp at ht⟩ ?_ ?_
  · rintro i σ H1 hi ⟨y3, y4, ts, rfl, s1, eF, hT, hF⟩
    have eA1 := s1 _ _ eA
    obtain ⟨x, hx⟩ : ∃ x, row[i]? = some x := ⟨row[i]'(by omega), List.getElem?_eq_getElem (by omega)⟩
    obtain ⟨y, hy⟩ : ∃ y, row[i + (m + 1)]? = some y := ⟨row[i + (m + 1)]'(by omega), List.getElem?_eq_getElem (by omega)⟩
    have hgi : g i = if row[i]? = some 0 ∧ row[i + (m + 1)]? = some 0 then fillAt m (setTwo row i (m + 1)) else [] := by rw [← hg]
    have hpre := fm_range_le g (i := i + 1) (n := row.length - (m + 1)) (by omega)
    rw [fm_range, List.length_append] at hpre
    have e00 : (0 : Int) + (i : Int) = (i : Int) := Int.zero_add _
    refine ⟨_, rfl, _, rfl, a, _, _, V.int x, rfl, rfl, SqL.of eA1, at_ints (by omega) (by rw [e00, Int.toNat_natCast]; exact hx), rfl, _, rfl, ite2 (fun d => ?_) (fun d => ?_)⟩
    · have d1 : x = 0 := V.int.inj (of_decide_eq_true d)
      have ea : (0 : Int) + (i : Int) + ((m + 1 : Nat) : Int) = ((i + (m + 1) : Nat) : Int) := by omega
      refine ⟨_, rfl, _, rfl, _, rfl, _, _, rfl, rfl, a, _, _, V.int y, rfl, rfl, SqL.of eA1, at_ints (by omega) (by rw [ea, Int.toNat_natCast]; exact hy), rfl, _, rfl, ite2 (fun d2 => ?_) (fun d2 => ?_)⟩
      · have d3 : y = 0 := V.int.inj (of_decide_eq_true d2)
        rw [d1] at hx
        rw [d3] at hy
        rw [if_pos ⟨hx, hy⟩] at hgi
        refine ⟨_, rfl, a, _, rfl, .inl (SqL.of eA1), fun l nl => ?_⟩
        have nlH : H l = none := s1.free nl
        have nlF : l ≠ F := fun e => by
          rw [e, eF] at nl
          cases nl
        refine ⟨_, rfl, _, rfl, _, rfl, l, _, _, _, rfl, rfl, upd_same, ixN_at (by omega) (by rw [hL]; omega), ?_⟩
        rw [upd_upd, set_ints, e00, Int.toNat_natCast]
        refine ⟨_, rfl, _, rfl, _, rfl, _, rfl, _, _, rfl, rfl, l, _, _, _, rfl, rfl, upd_same, ixN_at (by omega) (by rw [ints_len, List.length_set]; omega), ?_⟩
        rw [upd_upd, set_ints]
        rw [show ((row.set i ((m + 1 : Nat) : Int)).set ((i : Int) + ((m + 1 : Nat) : Int)).toNat ((m + 1 : Nat) : Int)) = setTwo row i (m + 1) by rw [show (i : Int) + ((m + 1 : Nat) : Int) = ((i + (m + 1) : Nat) : Int) by omega, Int.toNat_natCast]; rfl]
        generalize hH2 : upd H1 l (.lst ((setTwo row i (m + 1)).map V.int)) = H2
        have s12 : Same H1 H2 := hH2 ▸ same_upd nl
        have el : H2 l = some (.lst ((setTwo row i (m + 1)).map V.int)) := hH2 ▸ upd_same
        clear hH2
        refine ⟨_, rfl, .inl ⟨rfl, _, .inl (.inl (s12 _ _ eF))⟩, _, rfl, _, rfl, _, _, rfl, rfl, l, setTwo row i (m + 1), m, ((m + 1 : Nat) : Int) - 1, rfl, by omega, el, by omega, by omega, by rw [setTwo_length]; omega, by rw [← hgi]; omega, fun H3 p us s23 np ep hU hUf => ?_⟩
        rw [← hgi] at hU
        have s13 := s12.trans s23
        have eF3 := s13 _ _ eF
        refine ⟨F, p, _, _, rfl, rfl, eF3, ep, ?_, ?_⟩
        · rw [List.length_map, List.length_map, hT.1, hU.1]
          exact small (by omega)
        have usF : ∀ t ∈ us, t ≠ F := fun t ht e => by
          rcases hUf t ht with h | h
          · rw [e, s12 _ _ eF] at h
            cases h
          · exact nlF (h.symm.trans e)
        refine ⟨_, _, ts ++ us, rfl, (s1.trans s13).own nF, ?_, ?_, fun t ht => ?_⟩
        · rw [upd_same, List.map_append]
        · rw [fm_range]
          refine LstsAt.upd ((hT.keep s13).append hU) fun t ht => ?_
          rcases List.mem_append.mp ht with ht | ht
          · exact (hF t ht).2
          · exact usF t ht
        · rcases List.mem_append.mp ht with ht | ht
          · exact hF t ht
          · refine ⟨?_, usF t ht⟩
            rcases hUf t ht with h | h
            · exact (s1.trans s12).free h
            · rw [h]; exact nlH
      · have d3 : ¬ y = 0 := fun z => d2 (decide_eq_true (congrArg V.int z))
        have hN : g i = [] := by
          rw [hgi, if_neg]
          rintro ⟨_, z⟩
          rw [hy] at z
          exact d3 (Option.some.inj z)
        refine ⟨_, _, ts, rfl, s1, eF, ?_, hF⟩
        rw [fm_range, hN, List.append_nil]
        exact hT
    · have d1 : ¬ x = 0 := fun z => d (decide_eq_true (congrArg V.int z))
      have hN : g i = [] := by
        rw [hgi, if_neg]
        rintro ⟨z, _⟩
        rw [hx] at z
        exact d1 (Option.some.inj z)
      refine iteF ?_
      refine ⟨_, _, ts, rfl, s1, eF, ?_, hF⟩
      rw [fm_range, hN, List.append_nil]
      exact hT
  · rintro σ H1 ⟨y3, y4, ts, rfl, s1, eF, hT, hF⟩
    exact ⟨_, rfl, q H1 F ts s1 nF eF hT fun t ht => .inl (hF t ht).1⟩
theorem kn_filled (D : Df K mg "filled" st_filled ["row", "number"]) (B : Bl mg) : ∀ n : Nat, Kn P w K mg base CX0 (n + 1) "filled" ["row", "number"] (spFilledAll n)
  | 0 => D.never fun vs H Q E h => by
    obtain ⟨_, _, m, _, _, _, _, hm, _⟩ := h
    exact absurd hm (Nat.not_lt_zero _)
  | n + 1 => kn_filled1 D B (kn_filled D B n)
end

/-! ### many -/
abbrev N_many : List Str := ["size", "k"]
theorem sc_many : FnScope N_many ["size"] (defScope st_many) := ⟨rfl, rfl, rfl, by decide +kernel, rfl, by decide +kernel, by decide +kernel⟩
def spMany (C : Addr) : Sp := fun vs H Q E => ∃ size : Int, vs = [.int size] ∧ (¬ (1 ≤ size ∧ size ≤ 8) → E (.ref C) none H) ∧ (1 ≤ size ∧ size ≤ 8 → ∀ H', Same H H' → Q (.int (howMany size.toNat : Nat)) H')
section
variable {P : Program} {w : World} {K : PySem.W.Frag} {mg : Str → Option Value} {base : Heap}
theorem kn_many {C : Addr} {t1 : Tok} (D : Df K mg "many" st_many ["size"]) (B : Bl mg) (C_MOST_COUNTED : mg "MOST_COUNTED" = some (.int 8 t1)) (K_asked_size : Kn P w K mg base (L2.CX P w) 1 "asked_size" ["size", "most"] (spAskedSize C)) (K_filled : Kn P w K mg base CX0 10 "filled" ["row", "number"] (spFilledAll 9)) :
    Kn P w K mg base (L2.CX P w) 11 "many" ["size"] (spMany C) := by
  refine D.knX sc_many (fun vs H Q E h => ?_) (fun f cdv A outer s H vs Q E hr h => ?_)
  · obtain ⟨size, rfl, _⟩ := h
    rfl
  obtain ⟨size, rfl, h1, h2⟩ := h
  refine ⟨_, (pss_cons (ps_expr (pe_kE K_asked_size (takes_of rfl rfl rfl rfl) (hr.mono (by first | decide | omega)) (by rfl) (pa_cons (pv 0) (pa_cons (pe_globI (by rfl) C_MOST_COUNTED) pa_nil))))
      (pss_cons (ps_if (pt_cmpR op_gt (pe_op op_mod (pv 0) pe_int) pe_int (nomark _))
        (pss_one (ps_ret pe_int))
        pss_nil)
      (pss_one (ps_ret (pe_callB call_len_seq (by rfl) B.len_ (by decide +kernel) (pa_cons (pe_k0 K_filled (hr.mono (by first | decide | omega)) (by rfl) (pa_cons (pe_lc (own := [("k", 1)]) (g := gName 1) (tt := tYes) rfl sc_many.nd (pi_range1 (by rfl) B.range_ (pa_cons (pe_op op_mul pe_int (pv 0)) pa_nil)) (blkOk_by (own := [("k", 1)]) (N := N_many) (sc := defScope st_many) (by decide +kernel)) (fun _ _ _ _ _ => pg_name (i := 1) sc_many.nd rfl (Or.inl rfl)) (fun _ _ _ _ _ => pts_nil) (fun _ _ _ _ _ => pe_int)) (pa_cons (pv 0) pa_nil))) pa_nil)))))), ?_⟩
  refine ⟨_, rfl, size, 8, rfl, h1, fun c => ?_⟩
  obtain ⟨n, hn, hn1, hn2⟩ : ∃ n : Nat, size = (n : Int) ∧ 1 ≤ n ∧ n ≤ 8 := ⟨size.toNat, by omega, by omega, by omega⟩
  subst hn
  have q := h2 c
  rw [Int.toNat_natCast] at q
  refine ⟨_, rfl, _, _, rfl, rfl, (by decide : (0 : Int) < 4), _, _, rfl, rfl, _, rfl, ite2 (fun d => ?_) (fun d => ?_)⟩
  · have d' : ¬ n % 4 < 2 := by have := of_decide_eq_true d; omega
    have e : howMany n = 0 := by unfold howMany; rw [if_neg d']
    have q' := q H (Same.refl _)
    rw [e] at q'
    exact q'
  have d' : n % 4 < 2 := by
    have d2 := of_decide_eq_false (Bool.eq_false_iff.mpr d)
    omega
  have e : howMany n = (fillAt n (noughts n)).length := by unfold howMany; rw [if_pos d']
  have hb := fill_bound8 n (by omega) d'
  refine ⟨_, rfl, _, _, rfl, rfl, .inl ⟨by decide, by decide⟩, 2 * (n : Int), rfl, by omega, by omega, fun D nD => ?_⟩
  refine lc_noughts (n := (2 * (n : Int)).toNat) (by omega) ?_
  have e2n : (2 * (n : Int)).toNat = 2 * n := by omega
  rw [e2n]
  refine ⟨_, rfl, D, noughts n, n, _, rfl, rfl, upd_same, by omega, by omega, by rw [List.length_replicate]; omega, by omega, fun H2 p ts s2 np ep hT _ => ?_⟩
  refine ⟨p, _, rfl, .inl (SqL.of ep), ?_⟩
  rw [List.length_map, hT.1, ← e]
  exact q _ ((same_upd nD).trans s2)
end

/-! ### rows -/
abbrev N_rows : List Str := ["size", "k"]
theorem sc_rows : FnScope N_rows ["size"] (defScope st_rows) := ⟨rfl, rfl, rfl, by decide +kernel, rfl, by decide +kernel, by decide +kernel⟩
def spRows (C : Addr) : Sp := fun vs H Q E => ∃ size : Int, vs = [.int size] ∧ (¬ (1 ≤ size ∧ size ≤ 5) → E (.ref C) none H) ∧ (1 ≤ size ∧ size ≤ 5 → ∀ H' p ts, Same H H' → H p = none → H' p = some (.lst (ts.map V.ref)) → LstsAt H' ts (growAt 6 (noughts size.toNat) (List.range' 1 size.toNat)) → (∀ t ∈ ts, H t = none ∧ t ≠ p) → Q (.ref p) H')
section
variable {P : Program} {w : World} {K : PySem.W.Frag} {mg : Str → Option Value} {base : Heap}
theorem kn_rows {C : Addr} {t1 : Tok} (D : Df K mg "rows" st_rows ["size"]) (B : Bl mg) (C_MOST_LISTED : mg "MOST_LISTED" = some (.int 5 t1)) (K_asked_size : Kn P w K mg base (L2.CX P w) 1 "asked_size" ["size", "most"] (spAskedSize C)) (K_filled : Kn P w K mg base CX0 10 "filled" ["row", "number"] (spFilledAll 9)) :
    Kn P w K mg base (L2.CX P w) 11 "rows" ["size"] (spRows C) := by
  refine D.knX sc_rows (fun vs H Q E h => ?_) (fun f cdv A outer s H vs Q E hr h => ?_)
  · obtain ⟨size, rfl, _⟩ := h
    rfl
  obtain ⟨size, rfl, h1, h2⟩ := h
  refine ⟨_, (pss_cons (ps_expr (pe_kE K_asked_size (takes_of rfl rfl rfl rfl) (hr.mono (by first | decide | omega)) (by rfl) (pa_cons (pv 0) (pa_cons (pe_globI (by rfl) C_MOST_LISTED) pa_nil))))
      (pss_one (ps_ret (pe_callB (cr_sortedLs hr.units) (by rfl) B.sorted_ (by decide +kernel) (pa_cons (pe_k0 K_filled (hr.mono (by first | decide | omega)) (by rfl) (pa_cons (pe_lc (own := [("k", 1)]) (g := gName 1) (tt := tYes) rfl sc_rows.nd (pi_range1 (by rfl) B.range_ (pa_cons (pe_op op_mul pe_int (pv 0)) pa_nil)) (blkOk_by (own := [("k", 1)]) (N := N_rows) (sc := defScope st_rows) (by decide +kernel)) (fun _ _ _ _ _ => pg_name (i := 1) sc_rows.nd rfl (Or.inl rfl)) (fun _ _ _ _ _ => pts_nil) (fun _ _ _ _ _ => pe_int)) (pa_cons (pv 0) pa_nil))) pa_nil))))), ?_⟩
  refine ⟨_, rfl, size, 5, rfl, h1, fun c => ?_⟩
  obtain ⟨n, hn, hn1, hn2⟩ : ∃ n : Nat, size = (n : Int) ∧ 1 ≤ n ∧ n ≤ 5 := ⟨size.toNat, by omega, by omega, by omega⟩
  subst hn
  have q := h2 c
  rw [Int.toNat_natCast] at q
  have hb := fill_bound n (by omega)
  refine ⟨_, rfl, _, _, rfl, rfl, .inl ⟨by decide, by decide⟩, 2 * (n : Int), rfl, by omega, by omega, fun D nD => ?_⟩
  refine lc_noughts (n := (2 * (n : Int)).toNat) (by omega) ?_
  have e2n : (2 * (n : Int)).toNat = 2 * n := by omega
  rw [e2n]
  refine ⟨_, rfl, D, noughts n, n, _, rfl, rfl, upd_same, by omega, by omega, by rw [List.length_replicate]; omega, by omega, fun H2 p ts s2 np ep hT hF => ?_⟩
  refine ⟨p, ts, rdL H2, rfl, SqL.of ep, lsts_before hT, fun ts' p' hp hs np' => ?_⟩
  have g := grow_rising n (by omega)
  have pm := fill_small n (by omega)
  obtain ⟨Ls', hT', pm', rs'⟩ := lsts_after hT (pm.nodup_iff.mpr (rising_nodup g)) hp hs
  have eLs := rising_uniq rs' g (pm'.trans pm)
  rw [eLs] at hT'
  have s3 := (same_upd nD).trans s2
  refine q _ p' ts' (s3.new np') (s3.free np') upd_same (hT'.keep (same_upd np')) fun t ht => ?_
  refine ⟨?_, ne_of_none (lsts_before hT t (hp.mem_iff.mp ht)) np'⟩
  rcases hF t (hp.mem_iff.mp ht) with h | h
  · exact (same_upd nD).free h
  · rw [h]; exact nD
end

/-! ### _law_grown -/
abbrev N_law_grown : List Str := ["row", "left", "at", "found", "number", "more", "other"]
theorem sc_law_grown : FnScope N_law_grown ["row", "left"] (defScope st_law_grown) := ⟨rfl, rfl, rfl, by decide +kernel, rfl, by decide +kernel, by decide +kernel⟩
theorem inV_ints (x : Int) (L : List Int) : inV (.int x) (L.map V.int) = decide (x ∈ L) := by
  unfold inV
  induction L with
  | nil => simp
  | cons y L ih =>
    rw [List.map_cons, List.any_cons, ih]
    show ((y == x) || _) = _
    by_cases h : y = x
    · subst h; simp
    · rw [beq_false_of_ne h, Bool.false_or, decide_eq_decide, List.mem_cons]
      constructor
      · exact .inr
      · rintro (e | e)
        · exact absurd e.symm h
        · exact e
theorem ints_flat (L : List Int) : (L.map V.int).all flatV = true := by
  rw [List.all_eq_true]
  intro x hx
  obtain ⟨i, _, rfl⟩ := List.mem_map.mp hx
  rfl
theorem idx_at : ∀ row : List Int, 0 ∈ row → row[row.idxOf 0]? = some 0 ∧ ∀ m, m < row.idxOf 0 → ∀ x, row[m]? = some x → x ≠ 0
  | [], h => absurd h (by simp)
  | x :: r, h => by
    by_cases c : x = 0
    · subst c
      rw [List.idxOf_cons_self]
      exact ⟨rfl, fun m hm => absurd hm (Nat.not_lt_zero _)⟩
    · have hr : 0 ∈ r := by
        rcases List.mem_cons.mp h with e | e
        · exact absurd e.symm c
        · exact e
      obtain ⟨h1, h2⟩ := idx_at r hr
      have ec : (x :: r).idxOf 0 = r.idxOf 0 + 1 := by
        rw [List.idxOf_cons, beq_false_of_ne c]
        rfl
      rw [ec]
      refine ⟨h1, fun m hm y hy => ?_⟩
      cases m with
      | zero =>
        cases hy
        exact c
      | succ m => exact h2 m (by omega) y hy
/-- the numbers as ints -/
abbrev ofNats (l : List Nat) : List Int := l.map fun (n : Nat) => (n : Int)
theorem ofNats_snoc (l : List Nat) (u : Nat) : (ofNats (l ++ [u])).map V.int = (ofNats l).map V.int ++ [V.int (u : Int)] := by
  rw [ofNats, List.map_append, List.map_append]
  rfl
theorem ofNats_get {l : List Nat} {i : Nat} {y : V} (h : ((ofNats l).map V.int)[i]? = some y) : ∃ v, l[i]? = some v ∧ y = V.int (v : Int) := by
  obtain ⟨z, hz, rfl⟩ := of_ints_get h
  rw [List.getElem?_map] at hz
  cases e : l[i]? with
  | none =>
    rw [e] at hz
    cases hz
  | some v =>
    rw [e] at hz
    exact ⟨v, rfl, congrArg V.int (Option.some.inj hz).symm⟩
def spGrown (n : Nat) : Sp := fun vs H Q _ => ∃ (a b : Addr) (row : List Int) (left : List Nat), vs = [.ref a, .ref b] ∧ H a = some (.lst (row.map V.int)) ∧ H b = some (.lst ((ofNats left).map V.int)) ∧ left.length < n ∧ left.length ≤ 1000 ∧ (∀ v ∈ left, 1 ≤ v ∧ v ≤ 1000) ∧ row.length ≤ 1000 ∧ (growAt n row left).length ≤ 100000 ∧
  ∀ H' p ts, Same H H' → H p = none → H' p = some (.lst (ts.map V.ref)) → LstsAt H' ts (growAt n row left) → Q (.ref p) H'
section
variable {P : Program} {w : World} {K : PySem.W.Frag} {mg : Str → Option Value} {base : Heap}
theorem kn_law_grown1 {n : Nat} (D : Df K mg "_law_grown" st_law_grown ["row", "left"]) (B : Bl mg) (K_law_grown : Kn P w K mg base CX0 (n + 1) "_law_grown" ["row", "left"] (spGrown n)) :
    Kn P w K mg base CX0 (n + 2) "_law_grown" ["row", "left"] (spGrown (n + 1)) := by
  refine D.kn sc_law_grown (fun vs H Q E h => ?_) (fun f cdv A outer s H vs Q E hr h => ?_)
  · obtain ⟨a, b, row, left, rfl, _⟩ := h
    rfl
  obtain ⟨a, b, row, left, rfl, eA, eB, hm, hm2, hv1, hlen, hbig, q⟩ := h
  refine ⟨_, (pss_cons (ps_if (pt_cmpR op_notIn_seq pe_int (pv 0) rfl)
        (pss_one (ps_ret (pe_lst (pa_cons (pv 0) pa_nil))))
        pss_nil)
      (pss_cons (ps_set (i := 2) sc_law_grown.nd rfl (Or.inl rfl) (pe_bm PySem.F.plainAttrs_list PySem.F.slot_list_index PySem.F.type_list_index mt_index (pv 0) (pa_cons pe_int pa_nil)))
      (pss_cons (ps_set (i := 3) sc_law_grown.nd rfl (Or.inl rfl) (pe_lst pa_nil))
      (pss_cons (ps_for PassesOwn.never rfl (pi_list (pv 1)) (pg_name (i := 4) sc_law_grown.nd rfl (Or.inr rfl))
        (pss_one (ps_if (PW.pt (pw_and (pt_cmpR op_lt (pe_op op_add (pv 2) (pv 4)) (pe_callB call_len_seq (by rfl) B.len_ (by decide +kernel) (pa_cons (pv 0) pa_nil)) (nomark _)) (pw_and1 (pt_cmpR op_eq (pe_ix ix_list (pv 0) (pe_op op_add (pv 2) (pv 4)) (fun _ _ => rfl)) pe_int (nomark _)))))
          (pss_cons (ps_set (i := 5) sc_law_grown.nd rfl (Or.inl rfl) (pe_callTy call_list_of (by rfl) B.list_ (by decide +kernel) (pa_cons (pv 0) pa_nil)))
          (pss_cons (ps_asg (pv 4) (pg_sub (pv 5) (pv 2) set_list))
          (pss_cons (ps_asg (pv 4) (pg_sub (pv 5) (pe_op op_add (pv 2) (pv 4)) set_list))
          (pss_one (ps_set (i := 3) sc_law_grown.nd rfl (Or.inl rfl) (pe_op op_cat (pv 3) (pe_k0 K_law_grown (hr.mono (by first | decide | omega)) (by rfl) (pa_cons (pv 5) (pa_cons (pe_lc (own := [("other", 6)]) (g := gName 6) rfl sc_law_grown.nd (pi_list (pv 1)) (blkOk_by (own := [("other", 6)]) (N := N_law_grown) (sc := defScope st_law_grown) (by decide +kernel)) (fun _ _ _ _ _ => pg_name (i := 6) sc_law_grown.nd rfl (Or.inl rfl)) (fun _ _ _ _ _ => pts_one (pt_cmpR op_ne (pv 6) (pv 4) (nomark _))) (fun _ _ _ _ _ => pv 6)) pa_nil)))))))))
          pss_nil)))
      (pss_one (ps_ret (pv 3))))))), ?_⟩
  have hL := ints_len row
  refine ⟨_, rfl, a, _, rfl, .inl (SqL.of eA), rfl, ints_flat row, _, rfl, ite2 (fun c => ?_) (fun c => ?_)⟩
  · have c' : ¬ 0 ∈ row := fun z => by
      have e : (!inV (V.int 0) (row.map V.int)) = true := c
      rw [inV_ints, decide_eq_true z] at e
      cases e
    have eg : growAt (n + 1) row left = [row] := if_neg c'
    rw [eg] at q
    refine ⟨_, rfl, small (show 1 ≤ 16777216 by decide), fun l nl => ?_⟩
    exact q _ l [a] (same_upd nl) nl upd_same (.one ((same_upd nl) _ _ eA))
  have c' : 0 ∈ row := by
    have e : ¬ (!inV (V.int 0) (row.map V.int)) = true := c
    rw [inV_ints] at e
    by_cases z : 0 ∈ row
    · exact z
    · rw [decide_eq_false z] at e
      exact absurd rfl e
  obtain ⟨hz, hno⟩ := idx_at row c'
  have eg : growAt (n + 1) row left = left.flatMap fun v => if row.idxOf 0 + v < row.length ∧ row[row.idxOf 0 + v]? = some 0 then growAt n (setTwo row (row.idxOf 0) v) (left.filter fun u => !decide (u = v)) else [] := if_pos c'
  generalize hat : row.idxOf 0 = at_ at hz hno eg
  have hal : at_ < row.length := (List.getElem?_eq_some_iff.mp hz).1
  generalize hg : (fun v => if at_ + v < row.length ∧ row[at_ + v]? = some 0 then growAt n (setTwo row at_ v) (left.filter fun u => !decide (u = v)) else []) = g at eg
  rw [eg] at hbig q
  refine ⟨_, rfl, .inl ⟨rfl, _, .inl (.inl eA)⟩, a, _, _, at_, V.int 0, rfl, rfl, SqL.of eA, rfl, ints_flat row, ints_get hz, rfl, fun m z' hm' hz' => ?_, ?_⟩
  · obtain ⟨x, hx, rfl⟩ := of_ints_get hz'
    exact beq_false_of_ne (hno m hm' x hx)
  refine ⟨small (show 0 ≤ 16777216 by decide), fun F nF => ?_⟩
  have s0 := same_upd nF (o := .lst [])
  refine ⟨_, rfl, b, rfl, ⟨_, SqL.of (s0 _ _ eB)⟩, for_list (K := K) (a := b) (xs := (ofNats left).map V.int) (fun i σ H' => ∃ F y4 y5 ts, σ = [some (.ref a), some (.ref b), some (.int (at_ : Nat)), some (.ref F), y4, y5, none] ∧ Same H H' ∧ H F = none ∧ H' F = some (.lst (ts.map V.ref)) ∧ LstsAt H' ts ((left.take i).flatMap g)) ⟨F, none, none, [], rfl, s0, nF, upd_same, .nil⟩ ?_ ?_ ?_⟩
  · rintro i σ H' _ ⟨F, y4, y5, ts, rfl, s', _⟩
    exact SqL.of (s' _ _ eB)
  · rintro i x σ H1 hx ⟨F, y4, y5, ts, rfl, s1, nF, eF, hT⟩
    obtain ⟨v, hv, rfl⟩ := ofNats_get hx
    have hvm := List.mem_of_getElem? hv
    obtain ⟨v1, v2⟩ := hv1 v hvm
    have eA1 := s1 _ _ eA
    have eB1 := s1 _ _ eB
    have hgv : g v = if at_ + v < row.length ∧ row[at_ + v]? = some 0 then growAt n (setTwo row at_ v) (left.filter fun u => !decide (u = v)) else [] := by rw [← hg]
    have hpre := fm_take_le g left (i + 1)
    rw [fm_take g hv, List.length_append] at hpre
    have ea : ((at_ : Nat) : Int) + ((v : Nat) : Int) = ((at_ + v : Nat) : Int) := by omega
    refine ⟨_, rfl, _, rfl, _, _, rfl, rfl, _, rfl, a, _, rfl, .inl (SqL.of eA1), _, _, rfl, rfl, _, rfl, ite2 (fun d => ?_) (fun d => ?_)⟩
    · have d1 : at_ + v < row.length := by
        have d0 := of_decide_eq_true d
        omega
      obtain ⟨y, hy⟩ : ∃ y, row[at_ + v]? = some y := ⟨row[at_ + v], List.getElem?_eq_getElem d1⟩
      refine ⟨_, rfl, _, rfl, _, rfl, _, _, rfl, rfl, a, _, _, V.int y, rfl, rfl, SqL.of eA1, at_ints (by omega) (by rw [ea, Int.toNat_natCast]; exact hy), rfl, _, rfl, ite2 (fun d2 => ?_) (fun d2 => ?_)⟩
      · have d3 : y = 0 := V.int.inj (of_decide_eq_true d2)
        rw [d3] at hy
        rw [if_pos ⟨d1, hy⟩] at hgv
        refine ⟨_, rfl, a, _, rfl, .inl (SqL.of eA1), fun l nl => ?_⟩
        refine ⟨_, rfl, _, rfl, _, rfl, l, _, _, _, rfl, rfl, upd_same, ixN_at (by omega) (by rw [hL]; omega), ?_⟩
        rw [upd_upd, set_ints, Int.toNat_natCast]
        refine ⟨_, rfl, _, rfl, _, rfl, _, rfl, _, _, rfl, rfl, l, _, _, _, rfl, rfl, upd_same, ixN_at (by omega) (by rw [ints_len, List.length_set]; omega), ?_⟩
        rw [upd_upd, set_ints]
        rw [show ((row.set at_ ((v : Nat) : Int)).set ((at_ : Int) + ((v : Nat) : Int)).toNat ((v : Nat) : Int)) = setTwo row at_ v by rw [ea, Int.toNat_natCast]; rfl]
        generalize hH2 : upd H1 l (.lst ((setTwo row at_ v).map V.int)) = H2
        have s12 : Same H1 H2 := hH2 ▸ same_upd nl
        have el : H2 l = some (.lst ((setTwo row at_ v).map V.int)) := hH2 ▸ upd_same
        clear hH2
        have eB2 := s12 _ _ eB1
        refine ⟨_, rfl, _, rfl, _, rfl, b, rfl, ⟨_, SqL.of eB2⟩, fun D nD => ?_⟩
        refine lc_list (K := K) (a := b) (xs := (ofNats left).map V.int) (fun j H' => Same H2 H' ∧ H' D = some (.lst ((ofNats ((left.take j).filter fun u => !decide (u = v))).map V.int))) ⟨same_upd nD, upd_same⟩ (fun j H' _ h => SqL.of (h.1 _ _ eB2)) ?_ ?_
        · rintro j x H3 hx ⟨s3, e3⟩
          obtain ⟨u, hu, rfl⟩ := ofNats_get hx
          have hjl : j < left.length := (List.getElem?_eq_some_iff.mp hu).1
          have hsn : (left.take (j + 1)).filter (fun u => !decide (u = v)) = (left.take j).filter (fun u => !decide (u = v)) ++ (if u = v then [] else [u]) := by
            rw [take_snoc hu, List.filter_append]
            congr 1
            by_cases h : u = v <;> simp [h]
          have hle := List.length_filter_le (fun u => !decide (u = v)) (left.take j)
          rw [List.length_take] at hle
          refine ⟨rfl, _, rfl, _, rfl, rfl, _, rfl, ite2 (fun c => ?_) (fun c => ?_)⟩
          · have c' : ¬ u = v := fun z => by
              have e : decide (V.int (u : Int) = V.int (v : Int)) = true := decide_eq_true (congrArg (fun (n : Nat) => V.int (n : Int)) z)
              have c2 : (!decide (V.int (u : Int) = V.int (v : Int))) = true := c
              rw [e] at c2
              cases c2
            refine ⟨_, rfl, _, e3, by rw [List.length_map, List.length_map]; exact smaller (by omega), s3.own nD, ?_⟩
            rw [upd_same, hsn, if_neg c', ofNats_snoc]
          · have c' : u = v := by
              have c2 : ¬ (!decide (V.int (u : Int) = V.int (v : Int))) = true := c
              rw [Bool.not_eq_true', decide_eq_false_iff_not, Decidable.not_not] at c2
              have := V.int.inj c2
              omega
            refine ⟨s3, ?_⟩
            rw [hsn, if_pos c', List.append_nil]
            exact e3
        rintro H3 ⟨s23, eD⟩
        rw [show ((ofNats left).map V.int).length = left.length by rw [List.length_map, List.length_map], List.take_length] at eD
        have hfl : (left.filter fun u => !decide (u = v)).length < left.length := by
          refine Nat.lt_of_le_of_ne (List.length_filter_le _ _) fun e => ?_
          have := List.length_filter_eq_length_iff.mp e v hvm
          simp at this
        refine ⟨l, D, setTwo row at_ v, left.filter fun u => !decide (u = v), rfl, s23 _ _ el, eD, by omega, by omega, fun u hu => hv1 u (List.mem_filter.mp hu).1, by rw [setTwo_length]; omega, by rw [← hgv]; omega, fun H4 p us s34 np ep hU => ?_⟩
        rw [← hgv] at hU
        have s14 := (s12.trans s23).trans s34
        refine ⟨F, p, _, _, rfl, rfl, s14 _ _ eF, ep, ?_, fun c nc => ?_⟩
        · rw [List.length_map, List.length_map, hT.1, hU.1]
          exact small (by omega)
        refine ⟨c, _, _, ts ++ us, rfl, (s1.trans s14).new nc, (s1.trans s14).free nc, ?_, ?_⟩
        · rw [upd_same, List.map_append]
        · rw [fm_take g hv]
          exact ((hT.keep s14).append hU).keep (same_upd nc)
      · have d3 : ¬ y = 0 := fun z => d2 (decide_eq_true (congrArg V.int z))
        have hN : g v = [] := by
          rw [hgv, if_neg]
          rintro ⟨_, z⟩
          rw [hy] at z
          exact d3 (Option.some.inj z)
        refine ⟨F, _, _, ts, rfl, s1, nF, eF, ?_⟩
        rw [fm_take g hv, hN, List.append_nil]
        exact hT
    · have hN : g v = [] := by
        rw [hgv, if_neg]
        rintro ⟨z, _⟩
        exact d (decide_eq_true (by rw [hL]; omega))
      refine iteF ?_
      refine ⟨F, _, _, ts, rfl, s1, nF, eF, ?_⟩
      rw [fm_take g hv, hN, List.append_nil]
      exact hT
  · rintro σ H1 ⟨F, y4, y5, ts, rfl, s1, nF, eF, hT⟩
    rw [show ((ofNats left).map V.int).length = left.length by rw [List.length_map, List.length_map], List.take_length] at hT
    exact ⟨_, rfl, q H1 F ts s1 nF eF hT⟩
theorem kn_law_grown (D : Df K mg "_law_grown" st_law_grown ["row", "left"]) (B : Bl mg) : ∀ n : Nat, Kn P w K mg base CX0 (n + 1) "_law_grown" ["row", "left"] (spGrown n)
  | 0 => D.never fun vs H Q E h => by
    obtain ⟨_, _, _, _, _, _, _, hm, _⟩ := h
    exact absurd hm (Nat.not_lt_zero _)
  | n + 1 => kn_law_grown1 D B (kn_law_grown D B n)
end

-- LAWTYPES script=l size=i due=l found=l row=l number=i count=i
/-! ### the law -/
abbrev lawLevel : Nat := 12
abbrev N_law : List Str := ["script", "size", "due", "k", "turn", "found", "row", "number", "count"]
theorem sc_law : FnScope N_law ["script"] (defScope st_law) := ⟨rfl, rfl, rfl, by decide +kernel, rfl, by decide +kernel, by decide +kernel⟩
def spLaw (K : PySem.W.Frag) : Sp := fun vs H Q _ => ∃ (a : Addr) (ns : List Int), vs = [.ref a] ∧ SqL K H a (ns.map V.int) ∧ ns.length ≤ 63 ∧ ∀ H', Q (.bl true) H'
theorem rgV_one (n : Nat) : rgV 1 ((n : Int) + 1) = (ofNats (List.range' 1 n)).map V.int := by
  unfold rgV
  rw [show ((n : Int) + 1 - 1).toNat = n by omega, List.range'_eq_map_range, ofNats, List.map_map, List.map_map]
  rfl
theorem grow_rows : ∀ size, size < 6 → ∀ L ∈ growAt 6 (noughts size) (List.range' 1 size), L.length ≤ 10 := by decide +kernel
theorem grow_len : ∀ size, size < 6 → (growAt 6 (noughts size) (List.range' 1 size)).length ≤ 504 := by decide +kernel
theorem pick_size : ∀ k : Nat, k < 8 → ∃ v : Nat, ([6, 7, 4, 5, 3, 8, 1, 2] : List Nat)[k]? = some v ∧ 1 ≤ v ∧ v ≤ 8 := by
  intro k hk
  match k, hk with
  | 0, _ => exact ⟨6, rfl, by decide, by decide⟩
  | 1, _ => exact ⟨7, rfl, by decide, by decide⟩
  | 2, _ => exact ⟨4, rfl, by decide, by decide⟩
  | 3, _ => exact ⟨5, rfl, by decide, by decide⟩
  | 4, _ => exact ⟨3, rfl, by decide, by decide⟩
  | 5, _ => exact ⟨8, rfl, by decide, by decide⟩
  | 6, _ => exact ⟨1, rfl, by decide, by decide⟩
  | 7, _ => exact ⟨2, rfl, by decide, by decide⟩
theorem nats_at {l : List Nat} {k v : Nat} (h : l[k]? = some v) : (l.map fun (n : Nat) => V.int (n : Int))[k]? = some (V.int (v : Int)) := by
  rw [List.getElem?_map, h]
  rfl
theorem known_at : ∀ v : Nat, 1 ≤ v → v ≤ 8 → ([1, 0, 0, 6, 10, 0, 0, 504] : List Nat)[v - 1]? = some (howMany v) := by
  intro v h1 h2
  have h := howMany_list v (by omega) (by omega)
  rw [h]
  have : ∀ k, k < 8 → ([1, 0, 0, 6, 10, 0, 0, 504] : List Nat)[k]? = some (([1, 0, 0, 6, 10, 0, 0, 504] : List Nat).getD k 0) := by decide
  exact this _ (by omega)
section
variable {P : Program} {w : World} {K : PySem.W.Frag} {mg : Str → Option Value} {base : Heap}
theorem ok_law {C0 f : Addr} {fd : FuncData} (F : Fun K "law" "law" st_law f fd) (B : Bl mg) (K_law_cell_at : Kn P w K mg base CX0 1 "_law_cell_at" ["script", "k"] (spCellAt K)) (K_law_whole : Kn P w K mg base CX0 1 "_law_whole" ["found"] spWhole)
    (K_law_grown : Kn P w K mg base CX0 7 "_law_grown" ["row", "left"] (spGrown 6)) (K_rows : Kn P w K mg base (L2.CX P w) 11 "rows" ["size"] (spRows C0)) (K_many : Kn P w K mg base (L2.CX P w) 11 "many" ["size"] (spMany C0)) :
    FnOk P w K mg base CX0 12 f fd ["script"] (spLaw K) := by
  refine F.ok sc_law (fun vs H Q E h => ?_) (fun cdv A outer s H vs Q E hr h => ?_)
  · obtain ⟨a, ns, rfl, _⟩ := h
    rfl
  obtain ⟨a, ns, rfl, hS, hlen, q⟩ := h
  refine ⟨_, (pss_cons (ps_set (i := 1) sc_law.nd rfl (Or.inl rfl) (pe_op op_add pe_int (pe_op op_mod (pe_k0 K_law_cell_at (hr.mono (by first | decide | omega)) (by rfl) (pa_cons (pv 0) (pa_cons pe_int pa_nil))) pe_int)))
      (pss_cons (ps_set (i := 2) sc_law.nd rfl (Or.inl rfl) (pe_k0 K_law_grown (hr.mono (by first | decide | omega)) (by rfl) (pa_cons (pe_lc (own := [("k", 3)]) (g := gName 3) (tt := tYes) rfl sc_law.nd (pi_range1 (by rfl) B.range_ (pa_cons (pe_op op_mul pe_int (pv 1)) pa_nil)) (blkOk_by (own := [("k", 3)]) (N := N_law) (sc := defScope st_law) (by decide +kernel)) (fun _ _ _ _ _ => pg_name (i := 3) sc_law.nd rfl (Or.inl rfl)) (fun _ _ _ _ _ => pts_nil) (fun _ _ _ _ _ => pe_int)) (pa_cons (pe_listRg rfl (by rfl) B.list_ (prg_2 (by rfl) B.range_ pe_int (pe_op op_add (pv 1) pe_int))) pa_nil))))
      (pss_cons (ps_for PassesOwn.never rfl (pi_range1 (by rfl) B.range_ (pa_cons pe_int pa_nil)) (pg_name (i := 4) sc_law.nd rfl (Or.inl rfl))
        (pss_cons (ps_set (i := 5) sc_law.nd rfl (Or.inl rfl) (pe_kL K_rows (hr.mono (by first | decide | omega)) (by rfl) (pa_cons (pv 1) pa_nil)))
        (pss_cons (ps_if (PW.pt (pw_or (pt_not (pt_val (pe_callB call_isi (by rfl) B.isinstance_ (by decide +kernel) (pa_cons (pv 5) (pa_cons (pe_bltn (v := .ty "list") (by rfl) B.list_ (by decide +kernel) rfl) pa_nil))))) (pw_or1 (pt_cmpR (op_neD hr.units) (pv 5) (pv 2) (nomark _)))))
          (pss_one (ps_ret pe_bl))
          pss_nil)
        (pss_cons (ps_for PassesOwn.never rfl (pi_list (pv 5)) (pg_name (i := 6) sc_law.nd rfl (Or.inl rfl))
          (pss_one (ps_if (PW.pt (pw_or (pt_not (pt_val (pe_callB call_isi (by rfl) B.isinstance_ (by decide +kernel) (pa_cons (pv 6) (pa_cons (pe_bltn (v := .ty "list") (by rfl) B.list_ (by decide +kernel) rfl) pa_nil))))) (pw_or1 (pt_not (pt_val (pe_callB (cr_all rfl) (by rfl) B.all_ (by decide +kernel) (pa_cons (pe_lc (own := [("number", 7)]) (g := gName 7) (tt := tYes) rfl sc_law.nd (pi_list (pv 6)) (blkOk_by (own := [("number", 7)]) (N := N_law) (sc := defScope st_law) (by decide +kernel)) (fun _ _ _ _ _ => pg_name (i := 7) sc_law.nd rfl (Or.inl rfl)) (fun _ _ _ _ _ => pts_nil) (fun _ _ _ _ _ => pe_k0 K_law_whole (hr.mono (by first | decide | omega)) (by rfl) (pa_cons (pv 7) pa_nil))) pa_nil)))))))
            (pss_one (ps_ret pe_bl))
            pss_nil)))
        (pss_cons (ps_for PassesOwn.never rfl (pi_list (pv 5)) (pg_name (i := 6) sc_law.nd rfl (Or.inl rfl))
          (pss_one (ps_expr (pe_bm PySem.F.plainAttrs_list PySem.F.slot_list_append PySem.F.type_list_append mt_append (pv 6) (pa_cons pe_int pa_nil)))))
        (pss_one (ps_expr (pe_bm PySem.F.plainAttrs_list PySem.F.slot_list_append PySem.F.type_list_append mt_append (pv 5) (pa_cons (pe_lst pa_nil) pa_nil)))))))))
      (pss_cons (ps_set (i := 8) sc_law.nd rfl (Or.inl rfl) (pe_kL K_many (hr.mono (by first | decide | omega)) (by rfl) (pa_cons (pv 1) pa_nil)))
      (pss_cons (ps_if (PW.pt (pw_or (pt_not (pt_val (pe_k0 K_law_whole (hr.mono (by first | decide | omega)) (by rfl) (pa_cons (pv 8) pa_nil)))) (pw_or1 (pt_cmpR op_ne (pv 8) (pe_callB call_len_seq (by rfl) B.len_ (by decide +kernel) (pa_cons (pv 2) pa_nil)) (nomark _)))))
        (pss_one (ps_ret pe_bl))
        pss_nil)
      (pss_cons (ps_set (i := 1) sc_law.nd rfl (Or.inl rfl) (pe_ix ix_list (pe_lst (pa_cons pe_int (pa_cons pe_int (pa_cons pe_int (pa_cons pe_int (pa_cons pe_int (pa_cons pe_int (pa_cons pe_int (pa_cons pe_int pa_nil))))))))) (pe_op op_mod (pe_k0 K_law_cell_at (hr.mono (by first | decide | omega)) (by rfl) (pa_cons (pv 0) (pa_cons pe_int pa_nil))) pe_int) (fun _ _ => rfl)))
      (pss_one (ps_ret (pe_cmpR op_eq (pe_kL K_many (hr.mono (by first | decide | omega)) (by rfl) (pa_cons (pv 1) pa_nil)) (pe_ix ix_list (pe_lst (pa_cons pe_int (pa_cons pe_int (pa_cons pe_int (pa_cons pe_int (pa_cons pe_int (pa_cons pe_int (pa_cons pe_int (pa_cons pe_int pa_nil))))))))) (pe_op op_sub (pv 1) pe_int) (fun _ _ => rfl)) (nomark _)))))))))), ?_⟩
  refine ⟨_, rfl, a, ns, 0, rfl, hS, by decide, _, _, rfl, rfl, (by decide : (0 : Int) < 5), _, _, rfl, rfl, ?_⟩
  obtain ⟨n, hn, n1, n5⟩ : ∃ n : Nat, (1 : Int) + cellAt ns 0 % 5 = (n : Int) ∧ 1 ≤ n ∧ n ≤ 5 := ⟨((1 : Int) + cellAt ns 0 % 5).toNat, by omega, by omega, by omega⟩
  simp only [hn]
  -- due
  refine ⟨_, rfl, _, _, rfl, rfl, .inl ⟨by decide, by decide⟩, 2 * (n : Int), rfl, by omega, by omega, fun D nD => ?_⟩
  refine lc_noughts (n := (2 * (n : Int)).toNat) (by omega) ?_
  have e2n : (2 * (n : Int)).toNat = 2 * n := by omega
  rw [e2n]
  have sD := same_upd nD (o := .lst ((noughts n).map V.int))
  refine ⟨_, rfl, _, _, rfl, rfl, 1, (n : Int) + 1, rfl, rfl, ⟨by omega, by omega, by omega, by omega, by omega⟩, fun b nb => ?_⟩
  rw [rgV_one]
  have sb := same_upd nb (o := .lst ((ofNats (List.range' 1 n)).map V.int))
  have hgl := grow_len n (by omega)
  have hgr := grow_rows n (by omega)
  refine ⟨D, b, noughts n, List.range' 1 n, rfl, sb _ _ upd_same, upd_same, by rw [List.length_range']; omega, by rw [List.length_range']; omega, fun v hv => ?_, by rw [List.length_replicate]; omega, by omega, fun H1 p ds s1 np ep hD => ?_⟩
  · have := List.mem_range'_1.mp hv
    omega
  have sH1 := (sD.trans sb).trans s1
  clear s1 sb sD np nb nD
  -- the two turns
  have hcnt : (growAt 6 (noughts n) (List.range' 1 n)).length = howMany n := by
    rw [howMany_list n (by omega) (by omega)]
    exact grow_list n (by omega) (by omega)
  generalize hG : growAt 6 (noughts n) (List.range' 1 n) = G at hgl hgr hD hcnt
  refine ⟨2, rfl, by decide, by decide, ?_⟩
  refine for_range (lo := 0) (n := 2) (fun i σ H' => ∃ y4 y5 y6, σ = [some (.ref a), some (.int (n : Int)), some (.ref p), none, y4, y5, y6, none, none] ∧ Same H1 H') ⟨none, none, none, rfl, Same.refl _⟩ ?_ ?_
  · rintro i σ H2 hi ⟨y4, y5, y6, rfl, s2⟩
    refine ⟨_, rfl, (n : Int), rfl, (fun c => absurd (show (1 : Int) ≤ (n : Int) ∧ (n : Int) ≤ 5 by omega) c), fun _ H3 fo ts s3 nf ef hT hF => ?_⟩
    rw [Int.toNat_natCast, hG] at hT
    have ep3 := s3 _ _ (s2 _ _ ep)
    have hD3 := (hD.keep s2).keep s3
    refine ⟨_, rfl, _, _, _, _, true, rfl, .ty _, .base (.lst ef), kit_ty (by decide +kernel), true, rfl, iteF ?_⟩
    refine ⟨_, rfl, _, rfl, neD_llists (SqL.of ef) hT (SqL.of ep3) hD3 ⟨_, rfl, iteFa (by rw [decide_eq_true rfl]; rfl) ?_⟩⟩
    -- the rows, one by one
    refine ⟨_, rfl, fo, rfl, ⟨_, SqL.of ef⟩, for_list (K := K) (a := fo) (xs := ts.map V.ref) (fun j σ H' => ∃ y6, σ = [some (.ref a), some (.int (n : Int)), some (.ref p), none, some (.int (0 + (i : Int))), some (.ref fo), y6, none, none] ∧ Same H3 H') ⟨_, rfl, Same.refl _⟩ ?_ ?_ ?_⟩
    · rintro j σ H' _ ⟨y6, rfl, s'⟩
      exact SqL.of (s' _ _ ef)
    · rintro j x σ H4 hx ⟨y6, rfl, s4⟩
      obtain ⟨t, L, rfl, htm, hLj, et⟩ := (hT.keep s4).get hx
      have hLl := hgr L (List.mem_of_getElem? hLj)
      refine ⟨_, rfl, _, _, _, _, true, rfl, .ty _, .base (.lst et), kit_ty (by decide +kernel), true, rfl, iteF ?_⟩
      refine ⟨_, rfl, t, rfl, ⟨_, SqL.of et⟩, fun D nD => ?_⟩
      refine lc_whole (K := K) (by show 7 < 9; decide) (SqL.of et) nD (by omega) fun H5 s5 e5 => ⟨D, _, rfl, SqL.of e5, ?_⟩
      rw [all_whole]
      exact ⟨true, rfl, iteF ⟨_, rfl, s4.trans s5⟩⟩
    rintro σ H4 ⟨y6', rfl, s4⟩
    have ef4 := s4 _ _ ef
    have hT4 := hT.keep s4
    have s24 := (s2.trans s3).trans s4
    -- spoilt
    have nF1 : ∀ t ∈ ts, H2 t = none ∧ t ≠ fo := hF
    refine ⟨_, rfl, fo, rfl, ⟨_, SqL.of ef4⟩, for_list (K := K) (a := fo) (xs := ts.map V.ref) (fun j σ H' => ∃ y6, σ = [some (.ref a), some (.int (n : Int)), some (.ref p), none, some (.int (0 + (i : Int))), some (.ref fo), y6, none, none] ∧ Same H2 H' ∧ H' fo = some (.lst (ts.map V.ref)) ∧ ∀ t ∈ ts, ∃ L : List Int, H' t = some (.lst (L.map V.int)) ∧ L.length ≤ 10 + j) ⟨_, rfl, s3.trans s4, ef4, fun t ht => ?_⟩ ?_ ?_ ?_⟩
    · obtain ⟨L, hL, e⟩ := hT4.at ht
      exact ⟨L, e, hgr L hL⟩
    · rintro j σ H' _ ⟨y6, rfl, _, e', _⟩
      exact SqL.of e'
    · rintro j x σ H5 hx ⟨y6, rfl, s5, ef5, hP⟩
      have hjl := (List.getElem?_eq_some_iff.mp hx).1
      rw [List.length_map, hT.1] at hjl
      rw [List.getElem?_map] at hx
      obtain ⟨t, ht, rfl⟩ := Option.map_eq_some_iff.mp hx
      have htm := List.mem_of_getElem? ht
      obtain ⟨L, et, hL⟩ := hP t htm
      refine ⟨_, rfl, .inl ⟨rfl, _, .inl (.inl et)⟩, t, _, _, rfl, rfl, et, by rw [List.length_map]; exact smaller (by omega), ?_⟩
      refine ⟨_, rfl, s5.own (nF1 t htm).1, ?_, fun u hu => ?_⟩
      · rw [upd_ne (nF1 t htm).2.symm]
        exact ef5
      · by_cases c : u = t
        · subst c
          refine ⟨L ++ [0], ?_, by rw [List.length_append, List.length_singleton]; omega⟩
          rw [upd_same, List.map_append]
          rfl
        · obtain ⟨M, eM, hM⟩ := hP u hu
          exact ⟨M, by rw [upd_ne c]; exact eM, by omega⟩
    rintro σ H5 ⟨y6'', rfl, s5, ef5, hP⟩
    refine ⟨_, rfl, .inl ⟨rfl, _, .inl (.inl ef5)⟩, small (show 0 ≤ 16777216 by decide), fun l nl => ?_⟩
    refine ⟨fo, _, _, rfl, rfl, (same_upd nl) _ _ ef5, by rw [List.length_map, hT.1]; exact smaller (by omega), ?_⟩
    exact ⟨_, _, _, rfl, (s2.trans (s5.new nl)).own (s2.free nf)⟩
  rintro σ H2 ⟨y4, y5, y6, rfl, s2⟩
  -- count
  have ep2 := s2 _ _ ep
  refine ⟨_, rfl, (n : Int), rfl, (fun c => absurd (show (1 : Int) ≤ (n : Int) ∧ (n : Int) ≤ 8 by omega) c), fun _ H3 s3 => ?_⟩
  rw [Int.toNat_natCast]
  refine ⟨_, rfl, _, rfl, true, rfl, iteF ?_⟩
  have ep3 := s3 _ _ ep2
  refine ⟨_, rfl, _, rfl, p, _, rfl, .inl (SqL.of ep3), rfl, _, rfl, iteFa ?_ ?_⟩
  · rw [Bool.not_eq_false', decide_eq_true_iff]
    rw [List.length_map, hD.1, hcnt]
  -- the other size
  have hS3 := ((sH1.trans s2).trans s3).seq hS
  refine ⟨small (show 8 ≤ 16777216 by decide), fun l nl => ?_⟩
  refine ⟨_, rfl, a, ns, 1, rfl, (same_upd nl).seq hS3, by decide, _, _, rfl, rfl, (by decide : (0 : Int) < 8), ?_⟩
  obtain ⟨k, hk, k8⟩ : ∃ k : Nat, cellAt ns 1 % 8 = (k : Int) ∧ k < 8 := ⟨(cellAt ns 1 % 8).toNat, by omega, by omega⟩
  simp only [hk]
  obtain ⟨v, hv, v1, v8⟩ := pick_size k k8
  refine ⟨l, _, _, V.int (v : Int), rfl, rfl, SqL.of upd_same, atI_nat (nats_at hv), ?_⟩
  refine ⟨_, rfl, (v : Int), rfl, (fun c => absurd (show (1 : Int) ≤ (v : Int) ∧ (v : Int) ≤ 8 by omega) c), fun _ H4 s4 => ?_⟩
  rw [Int.toNat_natCast]
  refine ⟨small (show 8 ≤ 16777216 by decide), fun l nl => ?_⟩
  refine ⟨_, rfl, _, _, rfl, rfl, l, _, _, V.int (howMany v : Int), rfl, rfl, SqL.of upd_same, ?_, ?_⟩
  · rw [show (v : Int) - 1 = ((v - 1 : Nat) : Int) by omega]
    exact atI_nat (nats_at (known_at v v1 v8))
  · refine ⟨rfl, ?_⟩
    rw [decide_eq_true rfl]
    exact q _
end
-- CLOSED
/-! ### what the top has written -/
theorem all_mk {l : PySem.W.OpenLaw} {w : World} {K : PySem.W.Frag} {h : Heap} {mg : Str → Option Value} {fa : Addr} (X : K.In h) (G : h.Ns mainGlobals mg) (hfa : mg "law" = some (.ref fa))
    {f0 : Addr} {od0 an0 : Option Addr} {sl0 : Array (Option Value)} {oc0 kV0 dc0 pm0 cd0 ct0 : Value}
    {f1 : Addr} {od1 an1 : Option Addr} {sl1 : Array (Option Value)} {oc1 kV1 dc1 pm1 cd1 ct1 : Value}
    {f2 : Addr} {od2 an2 : Option Addr} {sl2 : Array (Option Value)} {oc2 kV2 dc2 pm2 cd2 ct2 : Value}
    {f3 : Addr} {od3 an3 : Option Addr} {sl3 : Array (Option Value)} {oc3 kV3 dc3 pm3 cd3 ct3 : Value}
    {f4 : Addr} {od4 an4 : Option Addr} {sl4 : Array (Option Value)} {oc4 kV4 dc4 pm4 cd4 ct4 : Value}
    {f5 : Addr} {od5 an5 : Option Addr} {sl5 : Array (Option Value)} {oc5 kV5 dc5 pm5 cd5 ct5 : Value}
    {f6 : Addr} {od6 an6 : Option Addr} {sl6 : Array (Option Value)} {oc6 kV6 dc6 pm6 cd6 ct6 : Value}
    {f7 : Addr} {od7 an7 : Option Addr} {sl7 : Array (Option Value)} {oc7 kV7 dc7 pm7 cd7 ct7 : Value}
    {tk0 : Tok}
    {tk1 : Tok}
    {C0 : Addr}
    (a0 : PySem.W.nsIn K mainGlobals "asked_size" = some (some (.ref f0))) (l0 : K.lookup f0 = some ⟨oc0, od0, .func (PySem.W.fnOf "asked_size" "asked_size" (defArgs st_asked_size) (defBody st_asked_size) (defScope st_asked_size) .none kV0 dc0 pm0 an0 cd0 ct0), sl0⟩) (c0 : PySem.W.codeIn K cd0 "asked_size" = true) (k0 : PySem.W.keepIn K (.ref f0) = true)
    (a1 : PySem.W.nsIn K mainGlobals "filled" = some (some (.ref f1))) (l1 : K.lookup f1 = some ⟨oc1, od1, .func (PySem.W.fnOf "filled" "filled" (defArgs st_filled) (defBody st_filled) (defScope st_filled) .none kV1 dc1 pm1 an1 cd1 ct1), sl1⟩) (c1 : PySem.W.codeIn K cd1 "filled" = true) (k1 : PySem.W.keepIn K (.ref f1) = true)
    (a2 : PySem.W.nsIn K mainGlobals "many" = some (some (.ref f2))) (l2 : K.lookup f2 = some ⟨oc2, od2, .func (PySem.W.fnOf "many" "many" (defArgs st_many) (defBody st_many) (defScope st_many) .none kV2 dc2 pm2 an2 cd2 ct2), sl2⟩) (c2 : PySem.W.codeIn K cd2 "many" = true) (k2 : PySem.W.keepIn K (.ref f2) = true)
    (a3 : PySem.W.nsIn K mainGlobals "rows" = some (some (.ref f3))) (l3 : K.lookup f3 = some ⟨oc3, od3, .func (PySem.W.fnOf "rows" "rows" (defArgs st_rows) (defBody st_rows) (defScope st_rows) .none kV3 dc3 pm3 an3 cd3 ct3), sl3⟩) (c3 : PySem.W.codeIn K cd3 "rows" = true) (k3 : PySem.W.keepIn K (.ref f3) = true)
    (a4 : PySem.W.nsIn K mainGlobals "_law_cell_at" = some (some (.ref f4))) (l4 : K.lookup f4 = some ⟨oc4, od4, .func (PySem.W.fnOf "_law_cell_at" "_law_cell_at" (defArgs st_law_cell_at) (defBody st_law_cell_at) (defScope st_law_cell_at) .none kV4 dc4 pm4 an4 cd4 ct4), sl4⟩) (c4 : PySem.W.codeIn K cd4 "_law_cell_at" = true) (k4 : PySem.W.keepIn K (.ref f4) = true)
    (a5 : PySem.W.nsIn K mainGlobals "_law_whole" = some (some (.ref f5))) (l5 : K.lookup f5 = some ⟨oc5, od5, .func (PySem.W.fnOf "_law_whole" "_law_whole" (defArgs st_law_whole) (defBody st_law_whole) (defScope st_law_whole) .none kV5 dc5 pm5 an5 cd5 ct5), sl5⟩) (c5 : PySem.W.codeIn K cd5 "_law_whole" = true) (k5 : PySem.W.keepIn K (.ref f5) = true)
    (a6 : PySem.W.nsIn K mainGlobals "_law_grown" = some (some (.ref f6))) (l6 : K.lookup f6 = some ⟨oc6, od6, .func (PySem.W.fnOf "_law_grown" "_law_grown" (defArgs st_law_grown) (defBody st_law_grown) (defScope st_law_grown) .none kV6 dc6 pm6 an6 cd6 ct6), sl6⟩) (c6 : PySem.W.codeIn K cd6 "_law_grown" = true) (k6 : PySem.W.keepIn K (.ref f6) = true)
    (a7 : PySem.W.nsIn K mainGlobals "law" = some (some (.ref f7))) (l7 : K.lookup f7 = some ⟨oc7, od7, .func (PySem.W.fnOf "law" "law" (defArgs st_law) (defBody st_law) (defScope st_law) .none kV7 dc7 pm7 an7 cd7 ct7), sl7⟩) (c7 : PySem.W.codeIn K cd7 "law" = true) (k7 : PySem.W.keepIn K (.ref f7) = true)
    (z0 : PySem.W.nsIn K mainGlobals "len" = some none)
    (z1 : PySem.W.nsIn K mainGlobals "range" = some none)
    (z2 : PySem.W.nsIn K mainGlobals "enumerate" = some none)
    (z3 : PySem.W.nsIn K mainGlobals "list" = some none)
    (z4 : PySem.W.nsIn K mainGlobals "reversed" = some none)
    (z5 : PySem.W.nsIn K mainGlobals "sorted" = some none)
    (z6 : PySem.W.nsIn K mainGlobals "tuple" = some none)
    (z7 : PySem.W.nsIn K mainGlobals "min" = some none)
    (z8 : PySem.W.nsIn K mainGlobals "max" = some none)
    (z9 : PySem.W.nsIn K mainGlobals "isinstance" = some none)
    (z10 : PySem.W.nsIn K mainGlobals "int" = some none)
    (z11 : PySem.W.nsIn K mainGlobals "str" = some none)
    (z12 : PySem.W.nsIn K mainGlobals "bool" = some none)
    (z13 : PySem.W.nsIn K mainGlobals "all" = some none)
    (z14 : PySem.W.nsIn K mainGlobals "ValueError" = some none)
    (q0 : PySem.W.nsIn K mainGlobals "MOST_COUNTED" = some (some (.int 8 tk0)))
    (q1 : PySem.W.nsIn K mainGlobals "MOST_LISTED" = some (some (.int 5 tk1)))
    (eg0 : PySem.W.nsIn K mainGlobals "NoSize" = some (some (.ref C0))) (ex0 : PySem.W.excIn K C0 [.type "ValueError", .type "Exception", .type "BaseException", .type "object"] "ValueError.__new__" = true) (ee0 : PySem.W.keepIn K (.ref C0) = true) (eb0 : PySem.W.subIn K (.ref C0) (.type "BaseException") = some true) (et0 : PySem.W.typeIn K (.ref C0) = some (.type "type"))
    : ∃ fd : FuncData, (∀ (s : Shared) (v : Value), BindsTo s fd ⟨[v], []⟩ [("script", v)]) ∧ ∀ base : Heap, K.In base → base.Ns mainGlobals mg → FnOk l.prog w K mg base CX0 lawLevel fa fd ["script"] (spLaw K) := by
  have e := hfa.symm.trans (PySem.W.mg_of X G a7)
  cases e
  have B : Bl mg := ⟨PySem.W.mg_none_of X G z0, PySem.W.mg_none_of X G z1, PySem.W.mg_none_of X G z2, PySem.W.mg_none_of X G z3, PySem.W.mg_none_of X G z4, PySem.W.mg_none_of X G z5, PySem.W.mg_none_of X G z6, PySem.W.mg_none_of X G z7, PySem.W.mg_none_of X G z8, PySem.W.mg_none_of X G z9, PySem.W.mg_none_of X G z10, PySem.W.mg_none_of X G z11, PySem.W.mg_none_of X G z12, PySem.W.mg_none_of X G z13, PySem.W.mg_none_of X G z14⟩
  have D_asked_size : Df K mg "asked_size" st_asked_size ["size", "most"] := ⟨f0, _, fun_mk (st := st_asked_size) l0 c0 k0, (fun_mk (st := st_asked_size) l0 c0 k0).binds (ps := ["size", "most"]) (fun _ _ _ _ _ _ us hl => match us, hl with | [_, _], _ => rfl), PySem.W.mg_of X G a0⟩
  have D_filled : Df K mg "filled" st_filled ["row", "number"] := ⟨f1, _, fun_mk (st := st_filled) l1 c1 k1, (fun_mk (st := st_filled) l1 c1 k1).binds (ps := ["row", "number"]) (fun _ _ _ _ _ _ us hl => match us, hl with | [_, _], _ => rfl), PySem.W.mg_of X G a1⟩
  have D_many : Df K mg "many" st_many ["size"] := ⟨f2, _, fun_mk (st := st_many) l2 c2 k2, (fun_mk (st := st_many) l2 c2 k2).binds (ps := ["size"]) (fun _ _ _ _ _ _ us hl => match us, hl with | [_], _ => rfl), PySem.W.mg_of X G a2⟩
  have D_rows : Df K mg "rows" st_rows ["size"] := ⟨f3, _, fun_mk (st := st_rows) l3 c3 k3, (fun_mk (st := st_rows) l3 c3 k3).binds (ps := ["size"]) (fun _ _ _ _ _ _ us hl => match us, hl with | [_], _ => rfl), PySem.W.mg_of X G a3⟩
  have D_law_cell_at : Df K mg "_law_cell_at" st_law_cell_at ["script", "k"] := ⟨f4, _, fun_mk (st := st_law_cell_at) l4 c4 k4, (fun_mk (st := st_law_cell_at) l4 c4 k4).binds (ps := ["script", "k"]) (fun _ _ _ _ _ _ us hl => match us, hl with | [_, _], _ => rfl), PySem.W.mg_of X G a4⟩
  have D_law_whole : Df K mg "_law_whole" st_law_whole ["found"] := ⟨f5, _, fun_mk (st := st_law_whole) l5 c5 k5, (fun_mk (st := st_law_whole) l5 c5 k5).binds (ps := ["found"]) (fun _ _ _ _ _ _ us hl => match us, hl with | [_], _ => rfl), PySem.W.mg_of X G a5⟩
  have D_law_grown : Df K mg "_law_grown" st_law_grown ["row", "left"] := ⟨f6, _, fun_mk (st := st_law_grown) l6 c6 k6, (fun_mk (st := st_law_grown) l6 c6 k6).binds (ps := ["row", "left"]) (fun _ _ _ _ _ _ us hl => match us, hl with | [_, _], _ => rfl), PySem.W.mg_of X G a6⟩
  have C_MOST_COUNTED := PySem.W.mg_of X G q0
  have C_MOST_LISTED := PySem.W.mg_of X G q1
  have X_NoSize : Ec K mg "NoSize" C0 := ⟨PySem.W.mg_of X G eg0, ex0, ee0, eb0, et0⟩
  refine ⟨PySem.W.fnOf "law" "law" (defArgs st_law) (defBody st_law) (defScope st_law) .none kV7 dc7 pm7 an7 cd7 ct7, fun s v => .of_eq rfl, fun base _ _ => ?_⟩
  have F := fun_mk (st := st_law) l7 c7 k7
  have K_asked := kn_asked_size (P := l.prog) (w := w) (base := base) D_asked_size X_NoSize
  have K_filled := kn_filled (P := l.prog) (w := w) (base := base) D_filled B 9
  exact ok_law F B (kn_law_cell_at D_law_cell_at B) (kn_law_whole D_law_whole B) (kn_law_grown D_law_grown B 6) (kn_rows D_rows B C_MOST_LISTED K_asked K_filled) (kn_many D_many B C_MOST_COUNTED K_asked K_filled)
end Sa
open PySem PySem.W PyProof.Rows
set_option maxHeartbeats 0 in
theorem PySem.Challenge.cw_sameapart_k05_all_rows_of_few_holds : PySem.Challenge.rw_sameapart_k05_all_rows_of_few.Holds := by
  w_on; o_law; k_head; (case hw => w_witness2)
  k_fill
  refine L2.walk_of (l := PySem.Challenge.rw_sameapart_k05_all_rows_of_few) (n := 63) (k := Sa.lawLevel) (x := "script") (CX := fun _ => L2.CX0) (sp := fun w => Sa.spLaw _) rfl (by decide) rfl ⟨rfl, by decide, by decide⟩ (fun w h Y => PySem.W.kIn_of Y) ?F (fun _ H a ns hl hO hS => ⟨a, ns, rfl, hS, hl, fun _ => rfl⟩) (fun _ _ _ _ _ h => h)
  case F =>
    intro w mg fa h KX G hmg
    refine' Sa.all_mk KX G hmg ?a0 ?l0 ?c0 ?k0 ?a1 ?l1 ?c1 ?k1 ?a2 ?l2 ?c2 ?k2 ?a3 ?l3 ?c3 ?k3 ?a4 ?l4 ?c4 ?k4 ?a5 ?l5 ?c5 ?k5 ?a6 ?l6 ?c6 ?k6 ?a7 ?l7 ?c7 ?k7 ?z0 ?z1 ?z2 ?z3 ?z4 ?z5 ?z6 ?z7 ?z8 ?z9 ?z10 ?z11 ?z12 ?z13 ?z14 ?q0 ?q1 ?eg0 ?ex0 ?ee0 ?eb0 ?et0
    (case a0 => k_is)
    (case l0 => k_is)
    (case c0 => k_is)
    (case k0 => k_is)
    (case a1 => k_is)
    (case l1 => k_is)
    (case c1 => k_is)
    (case k1 => k_is)
    (case a2 => k_is)
    (case l2 => k_is)
    (case c2 => k_is)
    (case k2 => k_is)
    (case a3 => k_is)
    (case l3 => k_is)
    (case c3 => k_is)
    (case k3 => k_is)
    (case a4 => k_is)
    (case l4 => k_is)
    (case c4 => k_is)
    (case k4 => k_is)
    (case a5 => k_is)
    (case l5 => k_is)
    (case c5 => k_is)
    (case k5 => k_is)
    (case a6 => k_is)
    (case l6 => k_is)
    (case c6 => k_is)
    (case k6 => k_is)
    (case a7 => k_is)
    (case l7 => k_is)
    (case c7 => k_is)
    (case k7 => k_is)
    (case z0 => k_is)
    (case z1 => k_is)
    (case z2 => k_is)
    (case z3 => k_is)
    (case z4 => k_is)
    (case z5 => k_is)
    (case z6 => k_is)
    (case z7 => k_is)
    (case z8 => k_is)
    (case z9 => k_is)
    (case z10 => k_is)
    (case z11 => k_is)
    (case z12 => k_is)
    (case z13 => k_is)
    (case z14 => k_is)
    (case q0 => k_is)
    (case q1 => k_is)
    (case eg0 => k_is)
    (case ex0 => k_exc)
    (case ee0 => k_is)
    (case eb0 => k_is)
    (case et0 => k_is)

