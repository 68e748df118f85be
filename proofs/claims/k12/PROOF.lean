import PyProof.Rows.All
import Wide.All
import OpenK.AllK
import Wide.FinOn
import HandS.ForMost
import HandS.Walk
import HandS.Exc
import HandS.ExcOwn
import HandS.WordsExc
import HandS.TryOnly
import HandS.IsInst
import HandS.Style
import HandS.Conv
import HandS.Codes
import KE.LtSeq
import HandS.NamedTupSort
import HandS.Rev
import HandS.SortInts
import HandS.TupLen
import HandS.ExcIs
import HandS.HotCalls
import PySem.Challenge.RW_sameapart_k12_refused
set_option Elab.async false
set_option linter.all false
set_option maxRecDepth 100000
set_option maxHeartbeats 4000000
namespace Sa
end Sa
/-! PLAIN rows -/
namespace Sa
/-- the places of k in a list, counted from i -/
def spotsFrom (k : Int) : Nat → List Int → List Int
  | _, [] => []
  | i, x :: r => if x = k then (i : Int) :: spotsFrom k (i + 1) r else spotsFrom k (i + 1) r
def spots (row : List Int) (k : Int) : List Int := spotsFrom k 0 row
/-- the number k stands at two places, k apart -/
def good (row : List Int) (k : Int) : Bool := match spots row k with
  | [a, b] => decide (b - a = k)
  | _ => false
def isRow (row : List Int) : Bool :=
  decide (row.length = 2 * (row.length / 2)) && decide (1 ≤ row.length / 2) && decide (row.length / 2 ≤ 400) && (List.range (row.length / 2)).all fun i => good row ((i : Int) + 1)

theorem spotsFrom_append (k : Int) : ∀ (xs ys : List Int) (i : Nat), spotsFrom k i (xs ++ ys) = spotsFrom k i xs ++ spotsFrom k (i + xs.length) ys
  | [], ys, i => by simp [spotsFrom]
  | x :: r, ys, i => by
    have ih := spotsFrom_append k r ys (i + 1)
    simp only [List.cons_append, spotsFrom, List.length_cons]
    split <;> simp [ih, Nat.add_assoc, Nat.add_comm 1]
theorem spots_snoc (row : List Int) (x k : Int) : spots (row ++ [x]) k = spots row k ++ (if x = k then [(row.length : Int)] else []) := by
  unfold spots
  rw [spotsFrom_append]
  simp [spotsFrom]
theorem mem_spotsFrom (k : Int) : ∀ (row : List Int) (i : Nat) (p : Int), p ∈ spotsFrom k i row ↔ ∃ j : Nat, row[j]? = some k ∧ p = ((i + j : Nat) : Int)
  | [], i, p => by simp [spotsFrom]
  | x :: r, i, p => by
    have ih := mem_spotsFrom k r (i + 1) p
    unfold spotsFrom
    split
    · rename_i e
      rw [List.mem_cons, ih]
      constructor
      · rintro (rfl | ⟨j, h1, h2⟩)
        · exact ⟨0, by simp [e], by simp⟩
        · exact ⟨j + 1, by simpa using h1, by rw [h2]; congr 1; omega⟩
      · rintro ⟨j, h1, h2⟩
        cases j with
        | zero => exact .inl (by simpa using h2)
        | succ j => exact .inr ⟨j, by simpa using h1, by rw [h2]; congr 1; omega⟩
    · rename_i e
      rw [ih]
      constructor
      · rintro ⟨j, h1, h2⟩
        exact ⟨j + 1, by simpa using h1, by rw [h2]; congr 1; omega⟩
      · rintro ⟨j, h1, h2⟩
        cases j with
        | zero => exact absurd (by simpa using h1) e
        | succ j => exact ⟨j, by simpa using h1, by rw [h2]; congr 1; omega⟩
theorem mem_spots (row : List Int) (k p : Int) : p ∈ spots row k ↔ ∃ j : Nat, row[j]? = some k ∧ p = (j : Int) := by
  unfold spots
  rw [mem_spotsFrom]
  simp
theorem spotsFrom_sorted (k : Int) : ∀ (row : List Int) (i : Nat), (spotsFrom k i row).Pairwise (· < ·) ∧ ∀ p ∈ spotsFrom k i row, (i : Int) ≤ p
  | [], i => by simp [spotsFrom]
  | x :: r, i => by
    have ih := spotsFrom_sorted k r (i + 1)
    unfold spotsFrom
    split
    · refine ⟨List.pairwise_cons.mpr ⟨fun p hp => ?_, ih.1⟩, fun p hp => ?_⟩
      · have := ih.2 p hp
        omega
      · rcases List.mem_cons.mp hp with rfl | hp
        · exact Int.le_refl _
        · have := ih.2 p hp
          omega
    · refine ⟨ih.1, fun p hp => ?_⟩
      have := ih.2 p hp
      omega
theorem spots_sorted (row : List Int) (k : Int) : (spots row k).Pairwise (· < ·) := (spotsFrom_sorted k row 0).1
theorem spots_length (row : List Int) (k : Int) : (spots row k).length = row.count k := by
  have h : ∀ (row : List Int) (i : Nat), (spotsFrom k i row).length = row.count k := by
    intro row
    induction row with
    | nil => intro i; simp [spotsFrom]
    | cons x r ih =>
      intro i
      unfold spotsFrom
      split
      · rename_i e
        rw [List.length_cons, ih, e, List.count_cons_self]
      · rename_i e
        rw [ih, List.count_cons_of_ne e]
  exact h row 0
/-- what a good number is -/
theorem good_iff (row : List Int) (k : Int) (hk : 0 < k) : good row k = true ↔ ∃ p : Nat, row[p]? = some k ∧ row[p + k.toNat]? = some k ∧ ∀ q : Nat, row[q]? = some k → q = p ∨ q = p + k.toNat := by
  unfold good
  have hm := mem_spots row k
  have hs := spots_sorted row k
  generalize spots row k = l at hm hs
  constructor
  · intro h
    match l, h with
    | [a, b], h =>
      have e : b - a = k := of_decide_eq_true h
      obtain ⟨p, h1, rfl⟩ := (hm a).mp (by simp)
      obtain ⟨q, h2, rfl⟩ := (hm b).mp (by simp)
      have eq : q = p + k.toNat := by omega
      subst eq
      refine ⟨p, h1, h2, fun j hj => ?_⟩
      have := (hm j).mpr ⟨j, hj, rfl⟩
      simp at this
      omega
  · rintro ⟨p, h1, h2, h3⟩
    have m1 := (hm p).mpr ⟨p, h1, rfl⟩
    have m2 := (hm ((p + k.toNat : Nat) : Int)).mpr ⟨p + k.toNat, h2, rfl⟩
    have m3 : ∀ z ∈ l, z = (p : Int) ∨ z = ((p + k.toNat : Nat) : Int) := fun z hz => by
      obtain ⟨j, hj, rfl⟩ := (hm z).mp hz
      rcases h3 j hj with e | e
      · exact .inl (by rw [e])
      · exact .inr (by rw [e])
    match l, hs, m1, m2, m3 with
    | [], _, m1, _, _ => simp at m1
    | [a], _, m1, m2, _ => simp at m1 m2; omega
    | [a, b], hs, m1, m2, m3 =>
      have hab : a < b := by simpa using hs
      have ha := m3 a (by simp)
      have hb := m3 b (by simp)
      exact decide_eq_true (by omega)
    | a :: b :: c :: r, hs, m1, m2, m3 =>
      have ha := m3 a (by simp)
      have hb := m3 b (by simp)
      have hc := m3 c (by simp)
      simp at hs
      omega
end Sa

/-! PLAIN rows, looked at from the first place on -/
namespace Sa
theorem isRow_iff (row : List Int) : isRow row = true ↔ row.length = 2 * (row.length / 2) ∧ 1 ≤ row.length / 2 ∧ row.length / 2 ≤ 400 ∧ ∀ k : Int, 1 ≤ k → k ≤ ((row.length / 2 : Nat) : Int) → good row k = true := by
  unfold isRow
  rw [Bool.and_eq_true, Bool.and_eq_true, Bool.and_eq_true, decide_eq_true_iff, decide_eq_true_iff, decide_eq_true_iff, List.all_eq_true]
  constructor
  · rintro ⟨⟨⟨h1, h2⟩, h3⟩, h4⟩
    refine ⟨h1, h2, h3, fun k k1 k2 => ?_⟩
    have := h4 (k.toNat - 1) (List.mem_range.mpr (by omega))
    rw [show ((k.toNat - 1 : Nat) : Int) + 1 = k by omega] at this
    exact this
  · rintro ⟨h1, h2, h3, h4⟩
    refine ⟨⟨⟨h1, h2⟩, h3⟩, fun i hi => ?_⟩
    have := List.mem_range.mp hi
    exact h4 _ (by omega) (by omega)
theorem good_count {row : List Int} {k : Int} (h : good row k = true) : row.count k = 2 := by
  rw [← spots_length]
  unfold good at h
  match spots row k, h with
  | [a, b], _ => rfl
theorem countP_range (row : List Int) : ∀ n : Nat, (∀ k : Int, 1 ≤ k → k ≤ (n : Int) → row.count k = 2) → row.countP (fun x => decide (1 ≤ x ∧ x ≤ (n : Int))) = 2 * n
  | 0, _ => by
    rw [List.countP_eq_zero]
    intro x _
    simp
    omega
  | n + 1, h => by
    have ih := countP_range row n fun k h1 h2 => h k h1 (by omega)
    have hc := h ((n : Int) + 1) (by omega) (by omega)
    have e : ∀ l : List Int, l.countP (fun x => decide (1 ≤ x ∧ x ≤ ((n + 1 : Nat) : Int))) = l.countP (fun x => decide (1 ≤ x ∧ x ≤ (n : Int))) + l.count ((n : Int) + 1) := by
      intro l
      induction l with
      | nil => rfl
      | cons x r ih =>
        rw [List.countP_cons, List.countP_cons, List.count_cons, ih]
        by_cases e1 : x = (n : Int) + 1
        · subst e1
          have a1 : decide (1 ≤ (n : Int) + 1 ∧ (n : Int) + 1 ≤ ((n + 1 : Nat) : Int)) = true := decide_eq_true (by omega)
          have a2 : decide (1 ≤ (n : Int) + 1 ∧ (n : Int) + 1 ≤ (n : Int)) = false := decide_eq_false (by omega)
          simp only [a1, a2, beq_self_eq_true, if_true]
          simp
          omega
        · have a3 : (x == (n : Int) + 1) = false := by simpa using e1
          have a4 : decide (1 ≤ x ∧ x ≤ ((n + 1 : Nat) : Int)) = decide (1 ≤ x ∧ x ≤ (n : Int)) := by
            rw [decide_eq_decide]
            omega
          rw [a3, a4]
          simp
          omega
    rw [e, ih, hc]
    omega
/-- in a row each number is from one to the size -/
theorem isRow_bound {row : List Int} (h : isRow row = true) : ∀ x ∈ row, 1 ≤ x ∧ x ≤ ((row.length / 2 : Nat) : Int) := by
  obtain ⟨h1, _, _, h4⟩ := (isRow_iff row).mp h
  have c := countP_range row (row.length / 2) fun k k1 k2 => good_count (h4 k k1 k2)
  rw [← h1] at c
  have := List.countP_eq_length.mp c
  intro x hx
  exact of_decide_eq_true (this x hx)
/-- .. and stands at two places -/
theorem isRow_spots {row : List Int} (h : isRow row = true) {k : Int} (h1 : 1 ≤ k) (h2 : k ≤ ((row.length / 2 : Nat) : Int)) : ∃ a b : Nat, spots row k = [(a : Int), (b : Int)] ∧ (b : Int) - a = k ∧ b < row.length := by
  have g := ((isRow_iff row).mp h).2.2.2 k h1 h2
  unfold good at g
  have hm := mem_spots row k
  match e : spots row k, g with
  | [a, b], g =>
    rw [e] at hm
    have e2 : b - a = k := of_decide_eq_true g
    obtain ⟨p, p1, rfl⟩ := (hm a).mp (by simp)
    obtain ⟨q, q1, rfl⟩ := (hm b).mp (by simp)
    exact ⟨p, q, rfl, e2, (List.getElem?_eq_some_iff.mp q1).1⟩
/-- the reverse -/
theorem spots_of_good {row : List Int} {k : Int} {a b : Int} (e : spots row k = [a, b]) (h : b - a = k) : good row k = true := by
  unfold good
  rw [e]
  exact decide_eq_true h

/-! ### a row looked at from the first place on -/
/-- what has been passed is in order so far -/
def okPre (n : Nat) (pre : List Int) : Prop := (∀ x ∈ pre, 1 ≤ x ∧ x ≤ (n : Int)) ∧ ∀ k : Int, spots pre k = [] ∨ (∃ a, spots pre k = [a]) ∨ ∃ a b, spots pre k = [a, b] ∧ b - a = k
theorem okPre_nil (n : Nat) : okPre n [] := ⟨by simp, fun k => .inl rfl⟩
theorem spots_take (row : List Int) (k : Int) (i : Nat) : ∃ r, spots row k = spots (row.take i) k ++ r := by
  refine ⟨spotsFrom k (0 + (row.take i).length) (row.drop i), ?_⟩
  unfold spots
  rw [← spotsFrom_append, List.take_append_drop]
theorem isRow_okPre {row : List Int} (h : isRow row = true) (i : Nat) : okPre (row.length / 2) (row.take i) := by
  refine ⟨fun x hx => isRow_bound h x (List.mem_of_mem_take hx), fun k => ?_⟩
  obtain ⟨r, e⟩ := spots_take row k i
  by_cases hk : 1 ≤ k ∧ k ≤ ((row.length / 2 : Nat) : Int)
  · obtain ⟨a, b, e2, e3, _⟩ := isRow_spots h hk.1 hk.2
    rw [e2] at e
    match hs : spots (row.take i) k with
    | [] => exact .inl rfl
    | [c] => exact .inr (.inl ⟨c, rfl⟩)
    | [c, d] =>
      rw [hs] at e
      simp at e
      exact .inr (.inr ⟨c, d, rfl, by omega⟩)
    | c :: d :: f :: t =>
      rw [hs] at e
      simp at e
  · refine .inl ?_
    match hs : spots (row.take i) k with
    | [] => rfl
    | c :: t =>
      obtain ⟨j, hj, _⟩ := (mem_spots (row.take i) k c).mp (by rw [hs]; simp)
      have := isRow_bound h k (List.mem_of_mem_take (List.mem_of_getElem? hj))
      exact absurd this hk
theorem isRow_of_okPre {row : List Int} (h1 : row.length = 2 * (row.length / 2)) (h2 : 1 ≤ row.length / 2) (h3 : row.length / 2 ≤ 400) (ok : okPre (row.length / 2) row)
    (full : ∀ k : Int, 1 ≤ k → k ≤ ((row.length / 2 : Nat) : Int) → (spots row k).length = 2) : isRow row = true := by
  refine (isRow_iff row).mpr ⟨h1, h2, h3, fun k k1 k2 => ?_⟩
  have f := full k k1 k2
  rcases ok.2 k with e | ⟨a, e⟩ | ⟨a, b, e, e2⟩
  · rw [e] at f; simp at f
  · rw [e] at f; simp at f
  · exact spots_of_good e e2
theorem okPre_snoc {n : Nat} {pre : List Int} {x : Int} (ok : okPre n pre) (h1 : 1 ≤ x) (h2 : x ≤ (n : Int)) (h : spots pre x = [] ∨ ∃ a, spots pre x = [a] ∧ (pre.length : Int) - a = x) : okPre n (pre ++ [x]) := by
  refine ⟨fun y hy => ?_, fun k => ?_⟩
  · rcases List.mem_append.mp hy with hy | hy
    · exact ok.1 y hy
    · rw [List.mem_singleton.mp hy]
      exact ⟨h1, h2⟩
  · rw [spots_snoc]
    by_cases e : x = k
    · subst e
      rw [if_pos rfl]
      rcases h with h | ⟨a, h, h'⟩
      · rw [h]
        exact .inr (.inl ⟨_, rfl⟩)
      · rw [h]
        exact .inr (.inr ⟨a, _, rfl, h'⟩)
    · rw [if_neg e, List.append_nil]
      exact ok.2 k
/-- n different numbers from one to n are all of them -/
theorem all_of_nodup {n : Nat} {l : List Int} (hl : l.length = n) (hn : l.Nodup) (hb : ∀ x ∈ l, 1 ≤ x ∧ x ≤ (n : Int)) : ∀ k : Int, 1 ≤ k → k ≤ (n : Int) → k ∈ l := by
  induction n generalizing l with
  | zero => intro k h1 h2; omega
  | succ n ih =>
    by_cases hm : ((n + 1 : Nat) : Int) ∈ l
    · intro k h1 h2
      by_cases e : k = ((n + 1 : Nat) : Int)
      · rw [e]; exact hm
      · have q := ih (l := l.erase ((n + 1 : Nat) : Int)) (by rw [List.length_erase_of_mem hm]; omega) (hn.erase _) (fun x hx => by
          have h1 := hb x (List.mem_of_mem_erase hx)
          have h2 := (List.Nodup.mem_erase_iff hn).mp hx
          have : x ≠ ((n + 1 : Nat) : Int) := h2.1
          omega) k h1 (by omega)
        exact List.mem_of_mem_erase q
    · exfalso
      have big : ∀ (m : Nat) (l : List Int), l.Nodup → (∀ x ∈ l, 1 ≤ x ∧ x ≤ (m : Int)) → l.length ≤ m := by
        intro m
        induction m with
        | zero =>
          intro l _ hb
          cases l with
          | nil => simp
          | cons x r =>
            have := hb x (by simp)
            omega
        | succ m ih2 =>
          intro l hn hb
          have := ih2 (l.erase ((m + 1 : Nat) : Int)) (hn.erase _) (fun x hx => by
            have h1 := hb x (List.mem_of_mem_erase hx)
            have h2 := (List.Nodup.mem_erase_iff hn).mp hx
            have : x ≠ ((m + 1 : Nat) : Int) := h2.1
            omega)
          by_cases hm : ((m + 1 : Nat) : Int) ∈ l
          · rw [List.length_erase_of_mem hm] at this
            omega
          · rw [List.erase_of_not_mem hm] at this
            omega
      have := big n l hn (fun x hx => by
        have h1 := hb x hx
        have : x ≠ ((n + 1 : Nat) : Int) := fun e => hm (e ▸ hx)
        omega)
      omega
theorem length_of_all {n : Nat} {l : List Int} (hn : l.Nodup) (hb : ∀ x ∈ l, 1 ≤ x ∧ x ≤ (n : Int)) (ha : ∀ k : Int, 1 ≤ k → k ≤ (n : Int) → k ∈ l) : l.length = n := by
  induction n generalizing l with
  | zero =>
    cases l with
    | nil => rfl
    | cons x r =>
      have := hb x (by simp)
      omega
  | succ n ih =>
    have hm : ((n + 1 : Nat) : Int) ∈ l := ha _ (by omega) (Int.le_refl _)
    have q := ih (l := l.erase ((n + 1 : Nat) : Int)) (hn.erase _) (fun x hx => by
      have h1 := hb x (List.mem_of_mem_erase hx)
      have h2 := (List.Nodup.mem_erase_iff hn).mp hx
      have : x ≠ ((n + 1 : Nat) : Int) := h2.1
      omega) (fun k h1 h2 => (List.Nodup.mem_erase_iff hn).mpr ⟨by omega, ha k h1 (by omega)⟩)
    rw [List.length_erase_of_mem hm] at q
    have := List.length_pos_of_mem hm
    omega
end Sa

/-! PLAIN rows made of pairs of places -/
namespace Sa
/-- f of the n numbers from lo on -/
def fam (lo : Int) (n : Nat) (f : Int → Int × Int) : List (Int × Int) := (List.range n).map fun (i : Nat) => f (lo + (i : Int))
theorem mem_fam {lo : Int} {n : Nat} {f : Int → Int × Int} {q : Int × Int} : q ∈ fam lo n f ↔ ∃ k : Int, lo ≤ k ∧ k < lo + n ∧ f k = q := by
  unfold fam
  rw [List.mem_map]
  constructor
  · rintro ⟨i, hi, rfl⟩
    have := List.mem_range.mp hi
    exact ⟨lo + i, by omega, by omega, rfl⟩
  · rintro ⟨k, h1, h2, rfl⟩
    exact ⟨(k - lo).toNat, List.mem_range.mpr (by omega), by congr 1; omega⟩
theorem fam_length (lo : Int) (n : Nat) (f : Int → Int × Int) : (fam lo n f).length = n := by
  unfold fam
  rw [List.length_map, List.length_range]
def pairs4g (f : Int) : List (Int × Int) :=
  fam 0 (2 * f).toNat (fun k => (4 * f + k, 8 * f - k)) ++ fam 1 (f - 1).toNat (fun k => (k, 4 * f - 1 - k)) ++ fam 0 (f - 2).toNat (fun k => (f + 2 + k, 3 * f - 1 - k)) ++ [(f, f + 1), (2 * f, 4 * f - 1), (2 * f + 1, 6 * f)]
def pairs4 (f : Int) : List (Int × Int) := if f = 1 then [(4, 8), (5, 7), (1, 2), (3, 6)] else pairs4g f
def pairs5g (f : Int) : List (Int × Int) :=
  fam 0 (2 * f).toNat (fun k => (4 * f + 2 + k, 8 * f + 2 - k)) ++ fam 1 (f + 1 - 1).toNat (fun k => (k, 4 * f + 1 - k)) ++ fam 1 (f - 1 - 1).toNat (fun k => (f + 2 + k, 3 * f + 1 - k)) ++ [(f + 1, f + 2), (2 * f + 1, 6 * f + 2), (2 * f + 2, 4 * f + 1)]
def pairs5 (f : Int) : List (Int × Int) := if f = 0 then [(1, 2)] else if f = 1 then [(1, 2), (3, 6), (4, 8), (5, 10), (7, 9)] else pairs5g f
/-- one pair's places filled -/
def fill1 (row : List Int) (q : Int × Int) : List Int := (row.set (q.1 - 1).toNat (q.2 - q.1)).set (q.2 - 1).toNat (q.2 - q.1)
def fillRow (row : List Int) (ps : List (Int × Int)) : List Int := ps.foldl fill1 row
theorem fill1_length (row : List Int) (q : Int × Int) : (fill1 row q).length = row.length := by simp [fill1]
theorem fillRow_length (ps : List (Int × Int)) : ∀ row : List Int, (fillRow row ps).length = row.length := by
  induction ps with
  | nil => intro row; rfl
  | cons q r ih =>
    intro row
    show (fillRow (fill1 row q) r).length = _
    rw [ih, fill1_length]
/-- q has the place p (counted from nought) -/
def touch (q : Int × Int) (p : Nat) : Prop := (q.1 - 1).toNat = p ∨ (q.2 - 1).toNat = p
theorem fill1_at {row : List Int} {q : Int × Int} {p : Nat} (hp : p < row.length) (h : touch q p) : (fill1 row q)[p]? = some (q.2 - q.1) := by
  unfold fill1
  rw [List.getElem?_set]
  split
  · rename_i e
    rw [if_pos (by rw [List.length_set, e]; exact hp)]
  · rename_i e
    rcases h with h | h
    · rw [h, List.getElem?_set_self hp]
    · exact absurd h e
theorem fill1_off {row : List Int} {q : Int × Int} {p : Nat} (h : ¬ touch q p) : (fill1 row q)[p]? = row[p]? := by
  unfold fill1
  rw [List.getElem?_set_ne (fun e => h (.inr e)), List.getElem?_set_ne (fun e => h (.inl e))]
theorem fillRow_at : ∀ (ps : List (Int × Int)) (row : List Int) (p : Nat), p < row.length → (∀ q ∈ ps, ∀ q' ∈ ps, touch q p → touch q' p → q = q') →
    (∀ q ∈ ps, touch q p → (fillRow row ps)[p]? = some (q.2 - q.1)) ∧ ((∀ q ∈ ps, ¬ touch q p) → (fillRow row ps)[p]? = row[p]?)
  | [], row, p, _, _ => ⟨fun q hq => absurd hq (by simp), fun _ => rfl⟩
  | q :: r, row, p, hp, u => by
    obtain ⟨i1, i2⟩ := fillRow_at r (fill1 row q) p (by rw [fill1_length]; exact hp) fun a ha b hb => u a (List.mem_cons_of_mem _ ha) b (List.mem_cons_of_mem _ hb)
    refine ⟨fun q' hq' ht => ?_, fun h => ?_⟩
    · show (fillRow (fill1 row q) r)[p]? = _
      by_cases hr : ∃ a ∈ r, touch a p
      · obtain ⟨a, ha, hta⟩ := hr
        have e := u q' hq' a (List.mem_cons_of_mem _ ha) ht hta
        rw [e]
        exact i1 a ha hta
      · have hno : ∀ a ∈ r, ¬ touch a p := fun a ha z => hr ⟨a, ha, z⟩
        rw [i2 hno]
        rcases List.mem_cons.mp hq' with e | e
        · rw [e] at ht ⊢
          exact fill1_at hp ht
        · exact absurd ht (hno q' e)
    · show (fillRow (fill1 row q) r)[p]? = _
      rw [i2 fun a ha => h a (List.mem_cons_of_mem _ ha), fill1_off (h q (by simp))]
/-- what pairs make a row of size n -/
structure RowPairs (n : Nat) (ps : List (Int × Int)) : Prop where
  one : 1 ≤ n
  most : n ≤ 400
  inn : ∀ q ∈ ps, 1 ≤ q.1 ∧ q.1 < q.2 ∧ q.2 ≤ 2 * (n : Int)
  apart : ∀ q ∈ ps, ∀ q' ∈ ps, (q.1 = q'.1 ∨ q.1 = q'.2 ∨ q.2 = q'.1 ∨ q.2 = q'.2) → q = q'
  all : ∀ k : Int, 1 ≤ k → k ≤ (n : Int) → ∃ q ∈ ps, q.2 - q.1 = k
  uniq : ∀ q ∈ ps, ∀ q' ∈ ps, q.2 - q.1 = q'.2 - q'.1 → q = q'
theorem RowPairs.isRow {n : Nat} {ps : List (Int × Int)} (R : RowPairs n ps) : isRow (fillRow (List.replicate (2 * n) 0) ps) = true := by
  have hl : (fillRow (List.replicate (2 * n) 0) ps).length = 2 * n := by rw [fillRow_length, List.length_replicate]
  have hat := fun p (hp : p < 2 * n) => fillRow_at ps (List.replicate (2 * n) 0) p (by rw [List.length_replicate]; exact hp) (fun q hq q' hq' t t' => R.apart q hq q' hq' (by
    have h1 := R.inn q hq
    have h2 := R.inn q' hq'
    rcases t with t | t <;> rcases t' with t' | t'
    · exact .inl (by omega)
    · exact .inr (.inl (by omega))
    · exact .inr (.inr (.inl (by omega)))
    · exact .inr (.inr (.inr (by omega)))))
  have hh : (fillRow (List.replicate (2 * n) 0) ps).length / 2 = n := by rw [hl]; omega
  refine (isRow_iff _).mpr ⟨by rw [hh, hl], by rw [hh]; exact R.one, by rw [hh]; exact R.most, fun k k1 k2 => ?_⟩
  rw [hh] at k2
  obtain ⟨q, hq, e⟩ := R.all k k1 k2
  have hi := R.inn q hq
  refine (good_iff _ k (by omega)).mpr ⟨(q.1 - 1).toNat, ?_, ?_, fun j hj => ?_⟩
  · rw [(hat (q.1 - 1).toNat (by omega)).1 q hq (.inl rfl), e]
  · have ep : (q.1 - 1).toNat + k.toNat = (q.2 - 1).toNat := by omega
    rw [ep, (hat (q.2 - 1).toNat (by omega)).1 q hq (.inr rfl), e]
  · have hj2 : j < 2 * n := by
      have := (List.getElem?_eq_some_iff.mp hj).1
      rwa [hl] at this
    by_cases ht : ∃ a ∈ ps, touch a j
    · obtain ⟨a, ha, t⟩ := ht
      have e1 := (hat j hj2).1 a ha t
      rw [hj] at e1
      have e2 : a = q := R.uniq a ha q hq (by have := Option.some.inj e1; omega)
      rw [e2] at t
      rcases t with t | t
      · exact .inl t.symm
      · exact .inr (by omega)
    · have e1 := (hat j hj2).2 fun a ha t => ht ⟨a, ha, t⟩
      rw [hj, List.getElem?_replicate, if_pos hj2] at e1
      have := Option.some.inj e1
      omega
theorem mem_pairs4g {f : Int} {q : Int × Int} (hf : 2 ≤ f) : q ∈ pairs4g f ↔ (∃ k, 0 ≤ k ∧ k < 2 * f ∧ q = (4 * f + k, 8 * f - k)) ∨ (∃ k, 1 ≤ k ∧ k < f ∧ q = (k, 4 * f - 1 - k)) ∨ (∃ k, 0 ≤ k ∧ k < f - 2 ∧ q = (f + 2 + k, 3 * f - 1 - k)) ∨ q = (f, f + 1) ∨ q = (2 * f, 4 * f - 1) ∨ q = (2 * f + 1, 6 * f) := by
  unfold pairs4g
  simp only [List.mem_append, mem_fam, List.mem_cons, List.not_mem_nil, or_false]
  have e1 : (((2 * f).toNat : Nat) : Int) = 2 * f := by omega
  have e2 : (((f - 1).toNat : Nat) : Int) = f - 1 := by omega
  have e3 : (((f - 2).toNat : Nat) : Int) = f - 2 := by omega
  rw [e1, e2, e3]
  constructor
  · rintro (((⟨k, h1, h2, rfl⟩ | ⟨k, h1, h2, rfl⟩) | ⟨k, h1, h2, rfl⟩) | h)
    · exact .inl ⟨k, h1, by omega, rfl⟩
    · exact .inr (.inl ⟨k, h1, by omega, rfl⟩)
    · exact .inr (.inr (.inl ⟨k, h1, by omega, rfl⟩))
    · exact .inr (.inr (.inr h))
  · rintro (⟨k, h1, h2, rfl⟩ | ⟨k, h1, h2, rfl⟩ | ⟨k, h1, h2, rfl⟩ | h)
    · exact .inl (.inl (.inl ⟨k, h1, by omega, rfl⟩))
    · exact .inl (.inl (.inr ⟨k, h1, by omega, rfl⟩))
    · exact .inl (.inr ⟨k, h1, by omega, rfl⟩)
    · exact .inr h
theorem mem_pairs5g {f : Int} {q : Int × Int} (hf : 2 ≤ f) : q ∈ pairs5g f ↔ (∃ k, 0 ≤ k ∧ k < 2 * f ∧ q = (4 * f + 2 + k, 8 * f + 2 - k)) ∨ (∃ k, 1 ≤ k ∧ k < f + 1 ∧ q = (k, 4 * f + 1 - k)) ∨ (∃ k, 1 ≤ k ∧ k < f - 1 ∧ q = (f + 2 + k, 3 * f + 1 - k)) ∨ q = (f + 1, f + 2) ∨ q = (2 * f + 1, 6 * f + 2) ∨ q = (2 * f + 2, 4 * f + 1) := by
  unfold pairs5g
  simp only [List.mem_append, mem_fam, List.mem_cons, List.not_mem_nil, or_false]
  have e1 : (((2 * f).toNat : Nat) : Int) = 2 * f := by omega
  have e2 : (((f + 1 - 1).toNat : Nat) : Int) = f := by omega
  have e3 : (((f - 1 - 1).toNat : Nat) : Int) = f - 2 := by omega
  rw [e1, e2, e3]
  constructor
  · rintro (((⟨k, h1, h2, rfl⟩ | ⟨k, h1, h2, rfl⟩) | ⟨k, h1, h2, rfl⟩) | h)
    · exact .inl ⟨k, h1, by omega, rfl⟩
    · exact .inr (.inl ⟨k, h1, by omega, rfl⟩)
    · exact .inr (.inr (.inl ⟨k, h1, by omega, rfl⟩))
    · exact .inr (.inr (.inr h))
  · rintro (⟨k, h1, h2, rfl⟩ | ⟨k, h1, h2, rfl⟩ | ⟨k, h1, h2, rfl⟩ | h)
    · exact .inl (.inl (.inl ⟨k, h1, by omega, rfl⟩))
    · exact .inl (.inl (.inr ⟨k, h1, by omega, rfl⟩))
    · exact .inl (.inr ⟨k, h1, by omega, rfl⟩)
    · exact .inr h
theorem pairs4_row {f : Int} (h1 : 1 ≤ f) (h2 : f ≤ 100) : RowPairs (4 * f).toNat (pairs4 f) := by
  unfold pairs4
  by_cases e : f = 1
  · subst e
    rw [if_pos rfl]
    refine ⟨by decide, by decide, by decide, by decide, fun k k1 k2 => ?_, by decide⟩
    have : k = 1 ∨ k = 2 ∨ k = 3 ∨ k = 4 := by omega
    rcases this with rfl | rfl | rfl | rfl <;> decide
  · rw [if_neg e]
    have hf : 2 ≤ f := by omega
    have hn : (((4 * f).toNat : Nat) : Int) = 4 * f := by omega
    refine ⟨by omega, by omega, fun q hq => ?_, fun q hq q' hq' h => ?_, fun k k1 k2 => ?_, fun q hq q' hq' h => ?_⟩
    · rw [hn]
      rcases (mem_pairs4g hf).mp hq with ⟨k, a, b, rfl⟩ | ⟨k, a, b, rfl⟩ | ⟨k, a, b, rfl⟩ | rfl | rfl | rfl <;> simp <;> omega
    · rcases (mem_pairs4g hf).mp hq with ⟨k, a, b, rfl⟩ | ⟨k, a, b, rfl⟩ | ⟨k, a, b, rfl⟩ | rfl | rfl | rfl <;>
        rcases (mem_pairs4g hf).mp hq' with ⟨k', a', b', rfl⟩ | ⟨k', a', b', rfl⟩ | ⟨k', a', b', rfl⟩ | rfl | rfl | rfl <;> simp at h ⊢ <;> omega
    · rw [hn] at k2
      by_cases hk : k % 2 = 0
      · exact ⟨(4 * f + (4 * f - k) / 2, 8 * f - (4 * f - k) / 2), (mem_pairs4g hf).mpr (.inl ⟨(4 * f - k) / 2, by omega, by omega, rfl⟩), by simp; omega⟩
      · by_cases c1 : 2 * f < k
        · by_cases c2 : k = 4 * f - 1
          · exact ⟨(2 * f + 1, 6 * f), (mem_pairs4g hf).mpr (.inr (.inr (.inr (.inr (.inr rfl))))), by simp; omega⟩
          · exact ⟨((4 * f - 1 - k) / 2, 4 * f - 1 - (4 * f - 1 - k) / 2), (mem_pairs4g hf).mpr (.inr (.inl ⟨(4 * f - 1 - k) / 2, by omega, by omega, rfl⟩)), by simp; omega⟩
        · by_cases c2 : k = 2 * f - 1
          · exact ⟨(2 * f, 4 * f - 1), (mem_pairs4g hf).mpr (.inr (.inr (.inr (.inr (.inl rfl))))), by simp; omega⟩
          · by_cases c3 : k = 1
            · exact ⟨(f, f + 1), (mem_pairs4g hf).mpr (.inr (.inr (.inr (.inl rfl)))), by simp; omega⟩
            · exact ⟨(f + 2 + (2 * f - 3 - k) / 2, 3 * f - 1 - (2 * f - 3 - k) / 2), (mem_pairs4g hf).mpr (.inr (.inr (.inl ⟨(2 * f - 3 - k) / 2, by omega, by omega, rfl⟩))), by simp; omega⟩
    · rcases (mem_pairs4g hf).mp hq with ⟨k, a, b, rfl⟩ | ⟨k, a, b, rfl⟩ | ⟨k, a, b, rfl⟩ | rfl | rfl | rfl <;>
        rcases (mem_pairs4g hf).mp hq' with ⟨k', a', b', rfl⟩ | ⟨k', a', b', rfl⟩ | ⟨k', a', b', rfl⟩ | rfl | rfl | rfl <;> simp at h ⊢ <;> omega
theorem pairs5_row {f : Int} (h1 : 0 ≤ f) (h2 : f ≤ 99) : RowPairs (4 * f + 1).toNat (pairs5 f) := by
  unfold pairs5
  by_cases e0 : f = 0
  · subst e0
    rw [if_pos rfl]
    refine ⟨by decide, by decide, by decide, by decide, fun k k1 k2 => ?_, by decide⟩
    have : k = 1 := by omega
    rcases this with rfl
    decide
  rw [if_neg e0]
  by_cases e : f = 1
  · subst e
    rw [if_pos rfl]
    refine ⟨by decide, by decide, by decide, by decide, fun k k1 k2 => ?_, by decide⟩
    have : k = 1 ∨ k = 2 ∨ k = 3 ∨ k = 4 ∨ k = 5 := by omega
    rcases this with rfl | rfl | rfl | rfl | rfl <;> decide
  · rw [if_neg e]
    have hf : 2 ≤ f := by omega
    have hn : (((4 * f + 1).toNat : Nat) : Int) = 4 * f + 1 := by omega
    refine ⟨by omega, by omega, fun q hq => ?_, fun q hq q' hq' h => ?_, fun k k1 k2 => ?_, fun q hq q' hq' h => ?_⟩
    · rw [hn]
      rcases (mem_pairs5g hf).mp hq with ⟨k, a, b, rfl⟩ | ⟨k, a, b, rfl⟩ | ⟨k, a, b, rfl⟩ | rfl | rfl | rfl <;> simp <;> omega
    · rcases (mem_pairs5g hf).mp hq with ⟨k, a, b, rfl⟩ | ⟨k, a, b, rfl⟩ | ⟨k, a, b, rfl⟩ | rfl | rfl | rfl <;>
        rcases (mem_pairs5g hf).mp hq' with ⟨k', a', b', rfl⟩ | ⟨k', a', b', rfl⟩ | ⟨k', a', b', rfl⟩ | rfl | rfl | rfl <;> simp at h ⊢ <;> omega
    · rw [hn] at k2
      by_cases hk : k % 2 = 0
      · exact ⟨(4 * f + 2 + (4 * f - k) / 2, 8 * f + 2 - (4 * f - k) / 2), (mem_pairs5g hf).mpr (.inl ⟨(4 * f - k) / 2, by omega, by omega, rfl⟩), by simp; omega⟩
      · by_cases c1 : 2 * f < k
        · by_cases c2 : k = 4 * f + 1
          · exact ⟨(2 * f + 1, 6 * f + 2), (mem_pairs5g hf).mpr (.inr (.inr (.inr (.inr (.inl rfl))))), by simp; omega⟩
          · exact ⟨((4 * f + 1 - k) / 2, 4 * f + 1 - (4 * f + 1 - k) / 2), (mem_pairs5g hf).mpr (.inr (.inl ⟨(4 * f + 1 - k) / 2, by omega, by omega, rfl⟩)), by simp; omega⟩
        · by_cases c2 : k = 2 * f - 1
          · exact ⟨(2 * f + 2, 4 * f + 1), (mem_pairs5g hf).mpr (.inr (.inr (.inr (.inr (.inr rfl))))), by simp; omega⟩
          · by_cases c3 : k = 1
            · exact ⟨(f + 1, f + 2), (mem_pairs5g hf).mpr (.inr (.inr (.inr (.inl rfl)))), by simp; omega⟩
            · exact ⟨(f + 2 + (2 * f - 1 - k) / 2, 3 * f + 1 - (2 * f - 1 - k) / 2), (mem_pairs5g hf).mpr (.inr (.inr (.inl ⟨(2 * f - 1 - k) / 2, by omega, by omega, rfl⟩))), by simp; omega⟩
    · rcases (mem_pairs5g hf).mp hq with ⟨k, a, b, rfl⟩ | ⟨k, a, b, rfl⟩ | ⟨k, a, b, rfl⟩ | rfl | rfl | rfl <;>
        rcases (mem_pairs5g hf).mp hq' with ⟨k', a', b', rfl⟩ | ⟨k', a', b', rfl⟩ | ⟨k', a', b', rfl⟩ | rfl | rfl | rfl <;> simp at h ⊢ <;> omega
/-- the row of a size -/
def rowOf (size : Int) : List Int := fillRow (List.replicate (2 * size.toNat) 0) (if size % 4 = 0 then pairs4 (size / 4) else pairs5 (size / 4))
theorem rowOf_pairs {size : Int} (h1 : 1 ≤ size) (h2 : size ≤ 400) (h3 : size % 4 < 2) : RowPairs size.toNat (if size % 4 = 0 then pairs4 (size / 4) else pairs5 (size / 4)) := by
  by_cases e : size % 4 = 0
  · rw [if_pos e]
    have := pairs4_row (f := size / 4) (by omega) (by omega)
    rwa [show 4 * (size / 4) = size by omega] at this
  · rw [if_neg e]
    have := pairs5_row (f := size / 4) (by omega) (by omega)
    rwa [show 4 * (size / 4) + 1 = size by omega] at this
theorem rowOf_row {size : Int} (h1 : 1 ≤ size) (h2 : size ≤ 400) (h3 : size % 4 < 2) : isRow (rowOf size) = true := (rowOf_pairs h1 h2 h3).isRow
theorem rowOf_length (size : Int) : (rowOf size).length = 2 * size.toNat := by
  unfold rowOf
  rw [fillRow_length, List.length_replicate]
end Sa

/-! PLAIN rows found by trying places in a drawn order -/
namespace Sa
/-- what the first of n turns from i on that finds one finds -/
def firstFrom {α : Type} (f : Nat → Option α) : Nat → Nat → Option α
  | _, 0 => none
  | i, n + 1 => match f i with
    | some r => some r
    | none => firstFrom f (i + 1) n
theorem firstFrom_some {α : Type} {f : Nat → Option α} : ∀ {n i : Nat} {r : α}, firstFrom f i n = some r → ∃ j, i ≤ j ∧ j < i + n ∧ f j = some r
  | 0, i, r, h => by cases h
  | n + 1, i, r, h => by
    unfold firstFrom at h
    split at h
    · rename_i r' e
      exact ⟨i, Nat.le_refl _, by omega, by rw [e]; exact h⟩
    · obtain ⟨j, h1, h2, h3⟩ := firstFrom_some h
      exact ⟨j, by omega, by omega, h3⟩
theorem firstFrom_ne {α : Type} {f : Nat → Option α} : ∀ {n i j : Nat}, i ≤ j → j < i + n → f j ≠ none → firstFrom f i n ≠ none
  | 0, i, j, h1, h2, _ => by omega
  | n + 1, i, j, h1, h2, h3 => by
    unfold firstFrom
    split
    · simp
    · rename_i e
      have : i ≠ j := fun z => h3 (z ▸ e)
      exact firstFrom_ne (i := i + 1) (j := j) (by omega) (by omega) h3
theorem firstFrom_hit {α : Type} {f : Nat → Option α} {i n : Nat} {r : α} (h : f i = some r) : firstFrom f i (n + 1) = some r := by
  unfold firstFrom
  rw [h]
theorem firstFrom_miss {α : Type} {f : Nat → Option α} {i n : Nat} (h : f i = none) : firstFrom f i (n + 1) = firstFrom f (i + 1) n := by
  rw [firstFrom, h]
def lawDraw (cell k bound : Int) : Int :=
  let s1 := (cell % 2147483647 + 977 * k + 1) * 48271 % 2147483647
  let s2 := s1 * s1 % 2147483629
  let s3 := (s2 + 40692 * (k + 3)) * 69621 % 2147483647
  s3 / 8 % bound
/-- the place that the i-th turn tries -/
def placeOf (cell : Int) (m spare i : Nat) : Nat := (((i : Int) + lawDraw cell (m : Int) (spare : Int)) % (spare : Int)).toNat
def put2 (row : List Int) (p m : Nat) : List Int := (row.set p (m : Int)).set (p + m) (m : Int)
def lawFilled (cell : Int) : Nat → List Int → Option (List Int)
  | 0, row => some row
  | n + 1, row => firstFrom (fun i =>
      let p := placeOf cell (n + 1) (row.length - (n + 1)) i
      if row[p]? = some 0 ∧ row[p + (n + 1)]? = some 0 then lawFilled cell n (put2 row p (n + 1)) else none) 0 (row.length - (n + 1))
theorem put2_length (row : List Int) (p m : Nat) : (put2 row p m).length = row.length := by simp [put2]
theorem put2_at {row : List Int} {p m j : Nat} (hm : 0 < m) (hp : p + m < row.length) : (put2 row p m)[j]? = if j = p ∨ j = p + m then some (m : Int) else row[j]? := by
  unfold put2
  rw [List.getElem?_set, List.getElem?_set, List.length_set]
  by_cases h1 : p + m = j
  · rw [if_pos h1, if_pos (by omega), if_pos (.inr h1.symm)]
  · rw [if_neg h1]
    by_cases h2 : p = j
    · rw [if_pos h2, if_pos (by omega), if_pos (.inl h2.symm)]
    · rw [if_neg h2, if_neg (by omega)]
theorem placeOf_lt {cell : Int} {m spare i : Nat} (h : 0 < spare) : placeOf cell m spare i < spare := by
  unfold placeOf
  have h1 := Int.emod_nonneg ((i : Int) + lawDraw cell (m : Int) (spare : Int)) (show (spare : Int) ≠ 0 by omega)
  have h2 := Int.emod_lt_of_pos ((i : Int) + lawDraw cell (m : Int) (spare : Int)) (show (0 : Int) < spare by omega)
  omega
theorem placeOf_hit {cell : Int} {m spare p : Nat} (h : p < spare) : ∃ i, i < spare ∧ placeOf cell m spare i = p := by
  refine ⟨(((p : Int) - lawDraw cell (m : Int) (spare : Int)) % (spare : Int)).toNat, ?_, ?_⟩
  · have h1 := Int.emod_nonneg ((p : Int) - lawDraw cell (m : Int) (spare : Int)) (show (spare : Int) ≠ 0 by omega)
    have h2 := Int.emod_lt_of_pos ((p : Int) - lawDraw cell (m : Int) (spare : Int)) (show (0 : Int) < spare by omega)
    omega
  · unfold placeOf
    have h1 := Int.emod_nonneg ((p : Int) - lawDraw cell (m : Int) (spare : Int)) (show (spare : Int) ≠ 0 by omega)
    rw [Int.toNat_of_nonneg h1, Int.emod_add_emod, Int.sub_add_cancel, Int.emod_eq_of_lt (by omega) (by omega)]
    omega
/-- the numbers above n stand as they must, the rest is nought -/
structure Part (n size : Nat) (row : List Int) : Prop where
  len : row.length = 2 * size
  val : ∀ x ∈ row, x = 0 ∨ (n : Int) < x
  ok : ∀ m : Int, (n : Int) < m → m ≤ (size : Int) → good row m = true
theorem Part.put {n size : Nat} {row : List Int} {p : Nat} (h : Part (n + 1) size row) (h1 : row[p]? = some 0) (h2 : row[p + (n + 1)]? = some 0) : Part n size (put2 row p (n + 1)) := by
  have hp : p + (n + 1) < row.length := (List.getElem?_eq_some_iff.mp h2).1
  have hat := fun j => put2_at (row := row) (p := p) (m := n + 1) (j := j) (by omega) hp
  refine ⟨by rw [put2_length]; exact h.len, fun x hx => ?_, fun m m1 m2 => ?_⟩
  · obtain ⟨j, hj⟩ := List.getElem?_of_mem hx
    rw [hat] at hj
    split at hj
    · have := Option.some.inj hj
      exact .inr (by omega)
    · rcases h.val x (List.mem_of_getElem? hj) with e | e
      · exact .inl e
      · exact .inr (by omega)
  · by_cases hm : m = ((n + 1 : Nat) : Int)
    · subst hm
      refine (good_iff _ _ (by omega)).mpr ⟨p, ?_, ?_, fun q hq => ?_⟩
      · rw [hat, if_pos (.inl rfl)]
      · have e : (((n + 1 : Nat) : Int)).toNat = n + 1 := by omega
        rw [e, hat, if_pos (.inr rfl)]
      · rw [hat] at hq
        split at hq
        · rename_i e
          have e2 : (((n + 1 : Nat) : Int)).toNat = n + 1 := by omega
          rw [e2]
          exact e
        · rcases h.val _ (List.mem_of_getElem? hq) with e | e
          · omega
          · exact absurd e (Int.lt_irrefl _)
    · obtain ⟨q, q1, q2, q3⟩ := (good_iff _ _ (by omega)).mp (h.ok m (by omega) m2)
      have no : ∀ j, row[j]? = some m → ¬ (j = p ∨ j = p + (n + 1)) := fun j hj z => by
        rcases z with rfl | rfl
        · rw [h1] at hj
          have := Option.some.inj hj
          omega
        · rw [h2] at hj
          have := Option.some.inj hj
          omega
      refine (good_iff _ _ (by omega)).mpr ⟨q, ?_, ?_, fun j hj => ?_⟩
      · rw [hat, if_neg (no _ q1)]
        exact q1
      · rw [hat, if_neg (no _ q2)]
        exact q2
      · rw [hat] at hj
        split at hj
        · have := Option.some.inj hj
          omega
        · exact q3 j hj
theorem lawFilled_part (cell : Int) {size : Nat} : ∀ (n : Nat) (row r : List Int), Part n size row → lawFilled cell n row = some r → Part 0 size r
  | 0, row, r, h, e => by
    cases e
    exact h
  | n + 1, row, r, h, e => by
    unfold lawFilled at e
    obtain ⟨j, _, _, e2⟩ := firstFrom_some e
    simp only at e2
    split at e2
    · rename_i c
      exact lawFilled_part cell n _ r (h.put c.1 c.2) e2
    · cases e2
def mask (n : Nat) (S : List Int) : List Int := S.map fun x => if (n : Int) < x then x else 0
theorem mask_at (n : Nat) (S : List Int) (j : Nat) : (mask n S)[j]? = S[j]?.map fun x => if (n : Int) < x then x else 0 := by
  unfold mask
  rw [List.getElem?_map]
theorem lawFilled_found (cell : Int) {size : Nat} {S : List Int} (hS : isRow S = true) (hl : S.length = 2 * size) : ∀ n : Nat, n ≤ size → lawFilled cell n (mask n S) ≠ none
  | 0, _ => by simp [lawFilled]
  | n + 1, hn => by
    have ih := lawFilled_found cell hS hl n (by omega)
    have hml : (mask (n + 1) S).length = 2 * size := by unfold mask; rw [List.length_map, hl]
    have hg := ((isRow_iff S).mp hS).2.2.2 ((n + 1 : Nat) : Int) (by omega) (by rw [hl]; omega)
    obtain ⟨p, p1, p2, p3⟩ := (good_iff _ _ (by omega)).mp hg
    have e : (((n + 1 : Nat) : Int)).toNat = n + 1 := by omega
    rw [e] at p2 p3
    have hp : p + (n + 1) < 2 * size := by
      have := (List.getElem?_eq_some_iff.mp p2).1
      rwa [hl] at this
    unfold lawFilled
    obtain ⟨i, i1, i2⟩ := placeOf_hit (cell := cell) (m := n + 1) (spare := (mask (n + 1) S).length - (n + 1)) (p := p) (by rw [hml]; omega)
    refine firstFrom_ne (j := i) (Nat.zero_le _) (by omega) ?_
    simp only [i2]
    have z1 : (mask (n + 1) S)[p]? = some 0 := by
      rw [mask_at, p1]
      simp
    have z2 : (mask (n + 1) S)[p + (n + 1)]? = some 0 := by
      rw [mask_at, p2]
      simp
    rw [if_pos ⟨z1, z2⟩]
    have em : put2 (mask (n + 1) S) p (n + 1) = mask n S := by
      apply List.ext_getElem?
      intro j
      rw [put2_at (by omega) (by rw [hml]; exact hp), mask_at, mask_at]
      split
      · rename_i c
        have : S[j]? = some ((n + 1 : Nat) : Int) := by
          rcases c with rfl | rfl
          · exact p1
          · exact p2
        rw [this]
        simp
        omega
      · rename_i c
        cases hj : S[j]? with
        | none => rfl
        | some x =>
          have hx : x ≠ ((n + 1 : Nat) : Int) := fun z => by
            rw [z] at hj
            exact c (p3 j hj)
          simp only [Option.map_some]
          congr 1
          by_cases hlt : (n : Int) < x
          · rw [if_pos hlt, if_pos (by omega)]
          · rw [if_neg hlt, if_neg (by omega)]
    rw [em]
    exact ih
/-- trying places finds a row -/
theorem lawFilled_row (cell : Int) {size : Nat} (h1 : 1 ≤ size) (h2 : size ≤ 400) (h3 : size % 4 < 2) : ∃ r, lawFilled cell size (List.replicate (2 * size) 0) = some r ∧ isRow r = true ∧ r.length = 2 * size := by
  have hS := rowOf_row (size := (size : Int)) (by omega) (by omega) (by omega)
  have hl : (rowOf (size : Int)).length = 2 * size := by rw [rowOf_length]; omega
  have em : mask size (rowOf (size : Int)) = List.replicate (2 * size) 0 := by
    refine List.eq_replicate_iff.mpr ⟨by unfold mask; rw [List.length_map, hl], fun x hx => ?_⟩
    unfold mask at hx
    obtain ⟨y, hy, rfl⟩ := List.mem_map.mp hx
    have := isRow_bound hS y hy
    rw [hl] at this
    rw [if_neg (by omega)]
  have hne := lawFilled_found cell hS hl size (Nat.le_refl _)
  rw [em] at hne
  obtain ⟨r, hr⟩ := Option.ne_none_iff_exists'.mp hne
  have hp := lawFilled_part cell size _ r (size := size) ⟨by simp, fun x hx => .inl (List.eq_of_mem_replicate hx), fun m m1 m2 => by omega⟩ hr
  refine ⟨r, hr, (isRow_iff r).mpr ⟨by have := hp.len; omega, by have := hp.len; omega, by have := hp.len; omega, fun k k1 k2 => hp.ok k (by omega) (by have := hp.len; omega)⟩, hp.len⟩
end Sa

/-! PLAIN the contrary row -/
namespace Sa
theorem rev_at (row : List Int) (p : Nat) (hp : p < row.length) : row.reverse[p]? = row[row.length - 1 - p]? := by
  rw [List.getElem?_reverse hp]
theorem good_reverse {row : List Int} {k : Int} (hk : 0 < k) (h : good row k = true) : good row.reverse k = true := by
  obtain ⟨p, p1, p2, p3⟩ := (good_iff row k hk).mp h
  have hp : p + k.toNat < row.length := (List.getElem?_eq_some_iff.mp p2).1
  refine (good_iff _ k hk).mpr ⟨row.length - 1 - (p + k.toNat), ?_, ?_, fun q hq => ?_⟩
  · rw [rev_at _ _ (by omega), show row.length - 1 - (row.length - 1 - (p + k.toNat)) = p + k.toNat by omega]
    exact p2
  · rw [rev_at _ _ (by omega), show row.length - 1 - (row.length - 1 - (p + k.toNat) + k.toNat) = p by omega]
    exact p1
  · have hql : q < row.length := by
      have := (List.getElem?_eq_some_iff.mp hq).1
      rwa [List.length_reverse] at this
    rw [rev_at _ _ hql] at hq
    rcases p3 _ hq with e | e
    · exact .inr (by omega)
    · exact .inl (by omega)
theorem isRow_reverse {row : List Int} (h : isRow row = true) : isRow row.reverse = true := by
  obtain ⟨h1, h2, h3, h4⟩ := (isRow_iff row).mp h
  refine (isRow_iff _).mpr ?_
  rw [List.length_reverse]
  exact ⟨h1, h2, h3, fun k k1 k2 => good_reverse (by omega) (h4 k k1 k2)⟩
end Sa

/-! PLAIN the third of two -/
namespace Sa
def nOf (row : List Int) : Int := ((row.length / 2 : Nat) : Int)
def NOf (row : List Int) : Int := 6 * nOf row + 1
/-- the number k tells of the step d the step e on to the third -/
structure Stp (row : List Int) (k d e : Int) : Prop where
  ex : ∃ p q : Nat, spots row k = [(p : Int), (q : Int)] ∧ (q : Int) - p = k ∧ (q : Int) < 2 * nOf row ∧ 1 ≤ k ∧ k ≤ nOf row ∧
    ((d = k ∧ e = nOf row + q + 1) ∨ (d = nOf row + q + 1 ∧ e = k) ∨ (d = nOf row + p + 1 ∧ e = 0 - k))
theorem isRow_two {row : List Int} (h : isRow row = true) : (row.length : Int) = 2 * nOf row := by
  have := ((isRow_iff row).mp h).1
  unfold nOf
  omega
theorem nOf_pos {row : List Int} (h : isRow row = true) : 1 ≤ nOf row ∧ nOf row ≤ 400 := by
  obtain ⟨_, h2, h3, _⟩ := (isRow_iff row).mp h
  unfold nOf
  omega
/-- the two places of a number of a row -/
theorem row_spots {row : List Int} (h : isRow row = true) {k : Int} (h1 : 1 ≤ k) (h2 : k ≤ nOf row) : ∃ p q : Nat, spots row k = [(p : Int), (q : Int)] ∧ (q : Int) - p = k ∧ (q : Int) < 2 * nOf row := by
  obtain ⟨a, b, e, e2, e3⟩ := isRow_spots h h1 h2
  exact ⟨a, b, e, e2, by rw [← isRow_two h]; omega⟩
theorem stp_range {row : List Int} {k d e : Int} (h : Stp row k d e) : 1 ≤ d ∧ d ≤ 3 * nOf row ∧ 0 - nOf row ≤ e ∧ e ≤ 3 * nOf row ∧ e ≠ 0 ∧ e ≠ d ∧ 1 ≤ k ∧ k ≤ nOf row := by
  obtain ⟨p, q, _, h2, h3, h4, h5, h6⟩ := h.ex
  omega
theorem stp_total {row : List Int} (h : isRow row = true) {d : Int} (h1 : 1 ≤ d) (h2 : d ≤ 3 * nOf row) : ∃ k e, Stp row k d e := by
  by_cases hd : d ≤ nOf row
  · obtain ⟨p, q, e1, e2, e3⟩ := row_spots h h1 hd
    exact ⟨d, _, ⟨p, q, e1, e2, e3, h1, hd, .inl ⟨rfl, rfl⟩⟩⟩
  · have hp : (d - nOf row - 1).toNat < row.length := by
      have := isRow_two h
      omega
    obtain ⟨k, hk⟩ : ∃ k, row[(d - nOf row - 1).toNat]? = some k := ⟨_, List.getElem?_eq_getElem hp⟩
    have hb := isRow_bound h k (List.mem_of_getElem? hk)
    obtain ⟨p, q, e1, e2, e3⟩ := row_spots h hb.1 hb.2
    have hm := (mem_spots row k (((d - nOf row - 1).toNat : Nat) : Int)).mpr ⟨_, hk, rfl⟩
    rw [e1] at hm
    simp at hm
    rcases hm with hm | hm
    · exact ⟨k, _, ⟨p, q, e1, e2, e3, hb.1, hb.2, .inr (.inr ⟨by omega, rfl⟩)⟩⟩
    · exact ⟨k, _, ⟨p, q, e1, e2, e3, hb.1, hb.2, .inr (.inl ⟨by omega, rfl⟩)⟩⟩
theorem stp_fun {row : List Int} {k d e k' e' : Int} (h : Stp row k d e) (h' : Stp row k' d e') : k = k' ∧ e = e' := by
  obtain ⟨p, q, a1, a2, a3, a4, a5, a6⟩ := h.ex
  obtain ⟨p', q', b1, b2, b3, b4, b5, b6⟩ := h'.ex
  have at1 : row[p]? = some k := by
    obtain ⟨j, hj, e⟩ := (mem_spots row k p).mp (by rw [a1]; simp)
    rw [show p = j by omega]; exact hj
  have at2 : row[q]? = some k := by
    obtain ⟨j, hj, e⟩ := (mem_spots row k q).mp (by rw [a1]; simp)
    rw [show q = j by omega]; exact hj
  have at3 : row[p']? = some k' := by
    obtain ⟨j, hj, e⟩ := (mem_spots row k' p').mp (by rw [b1]; simp)
    rw [show p' = j by omega]; exact hj
  have at4 : row[q']? = some k' := by
    obtain ⟨j, hj, e⟩ := (mem_spots row k' q').mp (by rw [b1]; simp)
    rw [show q' = j by omega]; exact hj
  have same : k = k' := by
    rcases a6 with ⟨c1, c2⟩ | ⟨c1, c2⟩ | ⟨c1, c2⟩ <;> rcases b6 with ⟨d1, d2⟩ | ⟨d1, d2⟩ | ⟨d1, d2⟩
    · omega
    · omega
    · omega
    · omega
    · have : q = q' := by omega
      rw [this, at4] at at2; exact (Option.some.inj at2).symm
    · have : q = p' := by omega
      rw [this, at3] at at2; exact (Option.some.inj at2).symm
    · omega
    · have : p = q' := by omega
      rw [this, at4] at at1; exact (Option.some.inj at1).symm
    · have : p = p' := by omega
      rw [this, at3] at at1; exact (Option.some.inj at1).symm
  subst same
  rw [a1] at b1
  have e1 : (p : Int) = p' ∧ (q : Int) = q' := by simpa using b1
  refine ⟨rfl, ?_⟩
  omega
/-- x and y differ by N, or not at all -/
def Cg (N x y : Int) : Prop := x = y ∨ x = y - N ∨ x = y + N
theorem cg_emod {N x : Int} (h : 0 < N) (h1 : 0 - N ≤ x) (h2 : x < 2 * N) : Cg N (x % N) x ∧ 0 ≤ x % N ∧ x % N < N := by
  refine ⟨?_, Int.emod_nonneg _ (by omega), Int.emod_lt_of_pos _ h⟩
  unfold Cg
  by_cases c : x < 0
  · right; right
    rw [← Int.add_emod_right, Int.emod_eq_of_lt (by omega) (by omega)]
  · by_cases c2 : x < N
    · left
      exact Int.emod_eq_of_lt (by omega) c2
    · right; left
      rw [← Int.sub_emod_right, Int.emod_eq_of_lt (by omega) (by omega)]
/-- c is with a and b -/
structure Thd (row : List Int) (a b c : Int) : Prop where
  ra : 0 ≤ a ∧ a < NOf row
  rb : 0 ≤ b ∧ b < NOf row
  rc : 0 ≤ c ∧ c < NOf row
  ex : ∃ k d e, Stp row k d e ∧ ((Cg (NOf row) (b - a) d ∧ Cg (NOf row) (c - a) e) ∨ (Cg (NOf row) (a - b) d ∧ Cg (NOf row) (c - b) e))
theorem Thd.symm {row : List Int} {a b c : Int} (h : Thd row a b c) : Thd row b a c := by
  obtain ⟨k, d, e, s, g⟩ := h.ex
  exact ⟨h.rb, h.ra, h.rc, k, d, e, s, g.symm⟩
theorem Thd.ne {row : List Int} {a b c : Int} (h : Thd row a b c) : a ≠ b ∧ a ≠ c ∧ b ≠ c := by
  obtain ⟨k, d, e, s, g⟩ := h.ex
  have r := stp_range s
  have ra := h.ra
  have rb := h.rb
  have rc := h.rc
  unfold Cg NOf at *
  omega
theorem Thd.uniq {row : List Int} {a b c c' : Int} (h : Thd row a b c) (h' : Thd row a b c') : c = c' := by
  obtain ⟨k, d, e, s, g⟩ := h.ex
  obtain ⟨k', d', e', s', g'⟩ := h'.ex
  have r := stp_range s
  have r' := stp_range s'
  have ra := h.ra
  have rb := h.rb
  have rc := h.rc
  have rc' := h'.rc
  have ed : d = d' := by
    unfold Cg NOf at *
    omega
  subst ed
  have ee := (stp_fun s s').2
  subst ee
  unfold Cg NOf at *
  omega
theorem thd_total {row : List Int} (h : isRow row = true) {a b : Int} (ra : 0 ≤ a ∧ a < NOf row) (rb : 0 ≤ b ∧ b < NOf row) (ne : a ≠ b) : ∃ c, Thd row a b c := by
  have mk : ∀ x y : Int, 0 ≤ x ∧ x < NOf row → 0 ≤ y ∧ y < NOf row → (∃ d, 1 ≤ d ∧ d ≤ 3 * nOf row ∧ Cg (NOf row) (y - x) d) → ∃ c, Thd row x y c := by
    rintro x y rx ry ⟨d, d1, d2, g⟩
    obtain ⟨k, e, s⟩ := stp_total h d1 d2
    have r := stp_range s
    have q := cg_emod (N := NOf row) (x := x + e) (by omega) (by unfold NOf at *; omega) (by unfold NOf at *; omega)
    exact ⟨(x + e) % NOf row, rx, ry, q.2, k, d, e, s, .inl ⟨g, by have := q.1; unfold Cg at *; omega⟩⟩
  by_cases c : (1 ≤ b - a ∧ b - a ≤ 3 * nOf row) ∨ b - a + NOf row ≤ 3 * nOf row
  · rcases c with c | c
    · exact mk a b ra rb ⟨b - a, c.1, c.2, .inl rfl⟩
    · exact mk a b ra rb ⟨b - a + NOf row, by omega, c, .inr (.inl (by omega))⟩
  · have : ∃ c, Thd row b a c := by
      by_cases c2 : 1 ≤ a - b
      · exact mk b a rb ra ⟨a - b, c2, by unfold NOf at *; omega, .inl rfl⟩
      · exact mk b a rb ra ⟨a - b + NOf row, by unfold NOf at *; omega, by unfold NOf at *; omega, .inr (.inl (by omega))⟩
    obtain ⟨z, hz⟩ := this
    exact ⟨z, hz.symm⟩
theorem Thd.rot {row : List Int} {a b c : Int} (h : Thd row a b c) : Thd row c a b := by
  obtain ⟨k, d, e, s, g⟩ := h.ex
  obtain ⟨p, q, a1, a2, a3, a4, a5, a6⟩ := s.ex
  have s1 : Stp row k k (nOf row + q + 1) := ⟨p, q, a1, a2, a3, a4, a5, .inl ⟨rfl, rfl⟩⟩
  have s2 : Stp row k (nOf row + q + 1) k := ⟨p, q, a1, a2, a3, a4, a5, .inr (.inl ⟨rfl, rfl⟩)⟩
  have s3 : Stp row k (nOf row + p + 1) (0 - k) := ⟨p, q, a1, a2, a3, a4, a5, .inr (.inr ⟨rfl, rfl⟩)⟩
  have ra := h.ra
  have rb := h.rb
  have rc := h.rc
  have cg : ∀ {x y x' y' : Int}, x - y = x' - y' → Cg (NOf row) x y → Cg (NOf row) x' y' := fun h1 h2 => by
    unfold Cg at *
    omega
  unfold Cg NOf at g ra rb rc
  refine ⟨h.rc, h.ra, h.rb, ?_⟩
  unfold Cg NOf
  rcases g with ⟨g1, g2⟩ | ⟨g1, g2⟩ <;> rcases a6 with ⟨c1, c2⟩ | ⟨c1, c2⟩ | ⟨c1, c2⟩
  · exact ⟨k, _, _, s2, .inr ⟨by omega, by omega⟩⟩
  · exact ⟨k, _, _, s1, .inr ⟨by omega, by omega⟩⟩
  · exact ⟨k, _, _, s1, .inl ⟨by omega, by omega⟩⟩
  · exact ⟨k, _, _, s3, .inr ⟨by omega, by omega⟩⟩
  · exact ⟨k, _, _, s3, .inl ⟨by omega, by omega⟩⟩
  · exact ⟨k, _, _, s2, .inl ⟨by omega, by omega⟩⟩
theorem Thd.rot2 {row : List Int} {a b c : Int} (h : Thd row a b c) : Thd row b c a := h.rot.rot
theorem Thd.turn {row : List Int} {a b c t a' b' c' : Int} (h : Thd row a b c) (ht : 0 ≤ t ∧ t < NOf row) (ha : a' = (a + t) % NOf row) (hb : b' = (b + t) % NOf row) (hc : c' = (c + t) % NOf row) : Thd row a' b' c' := by
  obtain ⟨k, d, e, s, g⟩ := h.ex
  have r := stp_range s
  have ra := h.ra
  have rb := h.rb
  have rc := h.rc
  have qa := cg_emod (N := NOf row) (x := a + t) (by omega) (by omega) (by omega)
  have qb := cg_emod (N := NOf row) (x := b + t) (by omega) (by omega) (by omega)
  have qc := cg_emod (N := NOf row) (x := c + t) (by omega) (by omega) (by omega)
  rw [← ha] at qa
  rw [← hb] at qb
  rw [← hc] at qc
  refine ⟨qa.2, qb.2, qc.2, k, d, e, s, ?_⟩
  obtain ⟨qa, qa2⟩ := qa
  obtain ⟨qb, qb2⟩ := qb
  obtain ⟨qc, qc2⟩ := qc
  clear ha hb hc
  unfold Cg NOf at *
  rcases g with ⟨g1, g2⟩ | ⟨g1, g2⟩
  · left
    constructor <;> omega
  · right
    constructor <;> omega
/-- the three that a number tells, turned -/
theorem thd_base {row : List Int} {k t : Int} {p q : Nat} (e : spots row k = [(p : Int), (q : Int)]) (e2 : (q : Int) - p = k) (e3 : (q : Int) < 2 * nOf row) (h1 : 1 ≤ k) (h2 : k ≤ nOf row) (ht : 0 ≤ t ∧ t < NOf row) :
    Thd row ((0 + t) % NOf row) ((k + t) % NOf row) ((nOf row + q + 1 + t) % NOf row) := by
  have hN : 0 < NOf row := by unfold NOf; omega
  have : Thd row 0 k (nOf row + q + 1) := ⟨⟨by omega, hN⟩, ⟨by omega, by unfold NOf; omega⟩, ⟨by omega, by unfold NOf; omega⟩, k, k, _, ⟨p, q, e, e2, e3, h1, h2, .inl ⟨rfl, rfl⟩⟩, .inl ⟨.inl (by omega), .inl (by omega)⟩⟩
  exact this.turn ht rfl rfl rfl
/-- each two are of three that a number tells, turned -/
theorem thd_made {row : List Int} {a b c : Int} (h : Thd row a b c) : ∃ (k t : Int) (p q : Nat), spots row k = [(p : Int), (q : Int)] ∧ (q : Int) - p = k ∧ (q : Int) < 2 * nOf row ∧ 1 ≤ k ∧ k ≤ nOf row ∧ (0 ≤ t ∧ t < NOf row) ∧
    ∃ x y z, x = (0 + t) % NOf row ∧ y = (k + t) % NOf row ∧ z = (nOf row + q + 1 + t) % NOf row ∧ ((a = x ∧ b = y) ∨ (a = y ∧ b = z) ∨ (a = x ∧ b = z) ∨ (b = x ∧ a = y) ∨ (b = y ∧ a = z) ∨ (b = x ∧ a = z)) := by
  obtain ⟨k, d, e, s, g⟩ := h.ex
  obtain ⟨p, q, a1, a2, a3, a4, a5, a6⟩ := s.ex
  have ra := h.ra
  have rb := h.rb
  have key : ∀ x y d : Int, 0 ≤ x ∧ x < NOf row → 0 ≤ y ∧ y < NOf row → Cg (NOf row) (y - x) d → (d = k ∨ d = nOf row + q + 1 ∨ d = nOf row + p + 1) → ∃ t, (0 ≤ t ∧ t < NOf row) ∧ ∃ u v w, u = (0 + t) % NOf row ∧ v = (k + t) % NOf row ∧ w = (nOf row + q + 1 + t) % NOf row ∧ ((x = u ∧ y = v) ∨ (x = v ∧ y = w) ∨ (x = u ∧ y = w)) := by
    intro x y d rx ry g hd
    have fin : ∀ t : Int, 0 ≤ t ∧ t < NOf row → (Cg (NOf row) x t ∧ Cg (NOf row) y (k + t)) ∨ (Cg (NOf row) x (k + t) ∧ Cg (NOf row) y (nOf row + q + 1 + t)) ∨ (Cg (NOf row) x t ∧ Cg (NOf row) y (nOf row + q + 1 + t)) →
        ∃ t, (0 ≤ t ∧ t < NOf row) ∧ ∃ u v w, u = (0 + t) % NOf row ∧ v = (k + t) % NOf row ∧ w = (nOf row + q + 1 + t) % NOf row ∧ ((x = u ∧ y = v) ∨ (x = v ∧ y = w) ∨ (x = u ∧ y = w)) := by
      intro t ht o
      refine ⟨t, ht, _, _, _, rfl, rfl, rfl, ?_⟩
      have q1 := cg_emod (N := NOf row) (x := 0 + t) (by omega) (by omega) (by omega)
      have q2 := cg_emod (N := NOf row) (x := k + t) (by omega) (by omega) (by unfold NOf at *; omega)
      have q3 := cg_emod (N := NOf row) (x := nOf row + q + 1 + t) (by omega) (by omega) (by unfold NOf at *; omega)
      generalize (0 + t) % NOf row = u at q1
      generalize (k + t) % NOf row = v at q2
      generalize (nOf row + q + 1 + t) % NOf row = w at q3
      obtain ⟨q1, q1b⟩ := q1
      obtain ⟨q2, q2b⟩ := q2
      obtain ⟨q3, q3b⟩ := q3
      rcases o with ⟨o1, o2⟩ | ⟨o1, o2⟩ | ⟨o1, o2⟩
      · left
        unfold Cg at *
        constructor <;> omega
      · right; left
        unfold Cg at *
        constructor <;> omega
      · right; right
        unfold Cg at *
        constructor <;> omega
    rcases hd with rfl | rfl | rfl
    · exact fin x rx (.inl ⟨.inl rfl, by unfold Cg at *; omega⟩)
    · exact fin x rx (.inr (.inr ⟨.inl rfl, by unfold Cg at *; omega⟩))
    · have q1 := cg_emod (N := NOf row) (x := x - k) (by omega) (by unfold NOf at *; omega) (by unfold NOf at *; omega)
      exact fin _ q1.2 (.inr (.inl ⟨by have := q1.1; unfold Cg at *; omega, by have := q1.1; have := q1.2; unfold Cg NOf at *; omega⟩))
  have hd : d = k ∨ d = nOf row + q + 1 ∨ d = nOf row + p + 1 := by
    rcases a6 with ⟨c, _⟩ | ⟨c, _⟩ | ⟨c, _⟩
    · exact .inl c
    · exact .inr (.inl c)
    · exact .inr (.inr c)
  rcases g with ⟨g, _⟩ | ⟨g, _⟩
  · obtain ⟨t, ht, u, v, w, e1, e2, e3, o⟩ := key a b d ra rb g hd
    refine ⟨k, t, p, q, a1, a2, a3, a4, a5, ht, u, v, w, e1, e2, e3, ?_⟩
    rcases o with o | o | o
    · exact .inl o
    · exact .inr (.inl o)
    · exact .inr (.inr (.inl o))
  · obtain ⟨t, ht, u, v, w, e1, e2, e3, o⟩ := key b a d rb ra g hd
    refine ⟨k, t, p, q, a1, a2, a3, a4, a5, ht, u, v, w, e1, e2, e3, ?_⟩
    rcases o with o | o | o
    · exact .inr (.inr (.inr (.inl o)))
    · exact .inr (.inr (.inr (.inr (.inl o))))
    · exact .inr (.inr (.inr (.inr (.inr o))))
end Sa

/-! PLAIN the third by steps -/
namespace Sa
theorem thd_by1 {row : List Int} {a b k e : Int} (ra : 0 ≤ a ∧ a < NOf row) (rb : 0 ≤ b ∧ b < NOf row) (s : Stp row k ((b - a) % NOf row) e) : Thd row a b ((a + e) % NOf row) := by
  have r := stp_range s
  have q1 := cg_emod (N := NOf row) (x := b - a) (by omega) (by omega) (by omega)
  have q2 := cg_emod (N := NOf row) (x := a + e) (by omega) (by unfold NOf at *; omega) (by unfold NOf at *; omega)
  refine ⟨ra, rb, q2.2, k, _, e, s, .inl ⟨?_, ?_⟩⟩
  · have := q1.1
    unfold Cg at *
    omega
  · have := q2.1
    unfold Cg at *
    omega
theorem thd_by2 {row : List Int} {a b k e : Int} (ra : 0 ≤ a ∧ a < NOf row) (rb : 0 ≤ b ∧ b < NOf row) (s : Stp row k (NOf row - (b - a) % NOf row) e) : Thd row a b ((b + e) % NOf row) := by
  have r := stp_range s
  have q1 := cg_emod (N := NOf row) (x := b - a) (by omega) (by omega) (by omega)
  have q2 := cg_emod (N := NOf row) (x := b + e) (by omega) (by unfold NOf at *; omega) (by unfold NOf at *; omega)
  refine ⟨ra, rb, q2.2, k, _, e, s, .inr ⟨?_, ?_⟩⟩
  · have := q1.1
    unfold Cg at *
    omega
  · have := q2.1
    unfold Cg at *
    omega
/-- a step that is told of, or the one back is -/
theorem step_or {row : List Int} (h : isRow row = true) {a b : Int} (ra : 0 ≤ a ∧ a < NOf row) (rb : 0 ≤ b ∧ b < NOf row) (ne : a ≠ b) (no : ¬ ∃ k e, Stp row k ((b - a) % NOf row) e) : ∃ k e, Stp row k (NOf row - (b - a) % NOf row) e := by
  have q1 := cg_emod (N := NOf row) (x := b - a) (by omega) (by omega) (by omega)
  by_cases c : (b - a) % NOf row ≤ 3 * nOf row
  · by_cases c0 : 1 ≤ (b - a) % NOf row
    · exact absurd (stp_total h c0 c) no
    · exfalso
      have := q1.1
      have := q1.2
      unfold Cg at *
      omega
  · exact stp_total h (by have := q1.2; omega) (by unfold NOf at *; omega)
/-- two people that are not one -/
def twoPeople (N a b : Int) : Prop := a ≠ b ∧ (0 ≤ a ∧ a < N) ∧ 0 ≤ b ∧ b < N
/-- three numbers, rising -/
def Trio (a b c : Int) (L : List Int) : Prop := L.Perm [a, b, c] ∧ L.Pairwise (· ≤ ·)
theorem trio_uniq {a b c a' b' c' : Int} {L L' : List Int} (h : Trio a b c L) (h' : Trio a' b' c' L') (p : [a, b, c].Perm [a', b', c']) : L = L' :=
  ((h.1.trans p).trans h'.1.symm).eq_of_pairwise (fun x y _ _ h1 h2 => Int.le_antisymm h1 h2) h.2 h'.2
theorem Trio.length {a b c : Int} {L : List Int} (h : Trio a b c L) : L.length = 3 := h.1.length_eq
/-- drawn numbers -/
theorem drawn_other {N a d : Int} (hN : 2 ≤ N) (ra : 0 ≤ a ∧ a < N) (rd : 0 ≤ d ∧ d < N - 1) : twoPeople N a ((a + 1 + d) % N) := by
  have q := cg_emod (N := N) (x := a + 1 + d) (by omega) (by omega) (by omega)
  refine ⟨?_, ra, q.2⟩
  have := q.1
  unfold Cg at this
  omega
theorem stp_none {row : List Int} {x : Int} : ¬ ∃ k e, k ≤ ((0 : Nat) : Int) ∧ Stp row k x e := by
  rintro ⟨k, e, h, s⟩
  have := stp_range s
  omega
end Sa

/-! PLAIN groups -/
namespace Sa
theorem mem3 {x a b c : Int} (h : x ∈ [a, b, c]) : x = a ∨ x = b ∨ x = c := by simpa using h
theorem nodup3 {a b c : Int} : [a, b, c].Nodup ↔ a ≠ b ∧ a ≠ c ∧ b ≠ c := by simp [and_assoc]
theorem thd_perm {row : List Int} {x y z a b c : Int} (p : [x, y, z].Perm [a, b, c]) (h : Thd row x y z) : Thd row a b c := by
  have ne := h.ne
  have nd : [a, b, c].Nodup := p.nodup_iff.mp (nodup3.mpr ⟨ne.1, ne.2.1, ne.2.2⟩)
  have nd' := nodup3.mp nd
  have ha := mem3 (p.mem_iff.mpr (show a ∈ [a, b, c] by simp))
  have hb := mem3 (p.mem_iff.mpr (show b ∈ [a, b, c] by simp))
  have hc := mem3 (p.mem_iff.mpr (show c ∈ [a, b, c] by simp))
  rcases ha with rfl | rfl | rfl <;> rcases hb with rfl | rfl | rfl <;> rcases hc with rfl | rfl | rfl <;> first | exact absurd rfl nd'.1 | exact absurd rfl nd'.2.1 | exact absurd rfl nd'.2.2 | skip
  · exact h
  · exact h.rot.symm
  · exact h.symm
  · exact h.rot2
  · exact h.rot
  · exact h.rot2.symm
/-- a group, told rising -/
def IsGrp (row : List Int) (x y z : Int) : Prop := x < y ∧ y < z ∧ Thd row x y z
theorem trio_at {a b c : Int} {L : List Int} (h : Trio a b c L) : ∃ x y z, L = [x, y, z] ∧ [x, y, z].Perm [a, b, c] ∧ x ≤ y ∧ y ≤ z := by
  have hl := h.length
  match L, hl, h with
  | [x, y, z], _, h =>
    have hs := h.2
    simp at hs
    exact ⟨x, y, z, rfl, h.1, hs.1.1, hs.2⟩
theorem trio_grp {row : List Int} {a b c x y z : Int} (p : [x, y, z].Perm [a, b, c]) (h1 : x ≤ y) (h2 : y ≤ z) (h : Thd row a b c) : IsGrp row x y z := by
  have hT := thd_perm p.symm h
  have ne := hT.ne
  exact ⟨by omega, by omega, hT⟩
/-- three that are told are a group just where the third is the third -/
theorem grp_iff {row : List Int} {a b c d x y z : Int} (p : [x, y, z].Perm [a, b, d]) (h1 : x ≤ y) (h2 : y ≤ z) (h : Thd row a b c) : IsGrp row x y z ↔ d = c := by
  constructor
  · rintro ⟨_, _, g⟩
    exact (thd_perm p g).uniq h
  · intro e
    subst e
    exact trio_grp p h1 h2 h
end Sa

/-! PLAIN a person's groups -/
namespace Sa
theorem grp_ne {row : List Int} {x y z : Int} (h : IsGrp row x y z) : x ≠ y ∧ x ≠ z ∧ y ≠ z := by
  obtain ⟨h1, h2, _⟩ := h
  omega
theorem grp_range {row : List Int} {x y z a : Int} (h : IsGrp row x y z) (ha : a ∈ [x, y, z]) : 0 ≤ a ∧ a < NOf row := by
  rcases mem3 ha with rfl | rfl | rfl
  · exact h.2.2.ra
  · exact h.2.2.rb
  · exact h.2.2.rc
/-- two of a group, and the third -/
theorem grp_two {row : List Int} {x y z a b : Int} (h : IsGrp row x y z) (ha : a ∈ [x, y, z]) (hb : b ∈ [x, y, z]) (ne : a ≠ b) : ∃ c, Thd row a b c ∧ [x, y, z].Perm [a, b, c] := by
  have key : ∀ c : Int, [a, b, c].Nodup → a ∈ [x, y, z] → b ∈ [x, y, z] → c ∈ [x, y, z] → [x, y, z].Perm [a, b, c] := fun c nd ha hb hc => by
    have nd' : [x, y, z].Nodup := nodup3.mpr (grp_ne h)
    refine (List.perm_ext_iff_of_nodup nd' nd).mpr fun v => ?_
    have n1 := nodup3.mp nd
    have ha' := mem3 ha
    have hb' := mem3 hb
    have hc' := mem3 hc
    constructor
    · intro hv
      have hv' := mem3 hv
      simp
      omega
    · intro hv
      have hv' := mem3 hv
      simp
      omega
  have go : ∀ c : Int, c ∈ [x, y, z] → a ≠ c → b ≠ c → ∃ c, Thd row a b c ∧ [x, y, z].Perm [a, b, c] := fun c hc h1 h2 => by
    have p := key c (nodup3.mpr ⟨ne, h1, h2⟩) ha hb hc
    exact ⟨c, thd_perm p h.2.2, p⟩
  have n := grp_ne h
  have ha' := mem3 ha
  have hb' := mem3 hb
  by_cases c1 : a ≠ x ∧ b ≠ x
  · exact go x (by simp) c1.1 c1.2
  · by_cases c2 : a ≠ y ∧ b ≠ y
    · exact go y (by simp) c2.1 c2.2
    · exact go z (by simp) (by omega) (by omega)
/-- each two and their third, rising, are a group -/
theorem grp_of {row : List Int} {a b c : Int} (h : Thd row a b c) : ∃ x y z, IsGrp row x y z ∧ [x, y, z].Perm [a, b, c] := by
  have n := h.ne
  have s : ∀ x y z : Int, [x, y, z].Perm [a, b, c] → x < y → y < z → ∃ x y z, IsGrp row x y z ∧ [x, y, z].Perm [a, b, c] := fun x y z p h1 h2 => ⟨x, y, z, ⟨h1, h2, thd_perm p.symm h⟩, p⟩
  have p1 : [a, c, b].Perm [a, b, c] := (List.Perm.swap b c []).cons a
  have p2 : [b, a, c].Perm [a, b, c] := List.Perm.swap a b [c]
  have p3 : [b, c, a].Perm [a, b, c] := ((List.Perm.swap a c []).cons b).trans p2
  have p4 : [c, a, b].Perm [a, b, c] := (List.Perm.swap a c [b]).trans p1
  have p5 : [c, b, a].Perm [a, b, c] := (List.Perm.swap b c [a]).trans p3
  by_cases c1 : a < b
  · by_cases c2 : b < c
    · exact s a b c (List.Perm.refl _) c1 c2
    · by_cases c3 : a < c
      · exact s a c b p1 c3 (by omega)
      · exact s c a b p4 (by omega) c1
  · by_cases c2 : a < c
    · exact s b a c p2 (by omega) c2
    · by_cases c3 : b < c
      · exact s b c a p3 c3 (by omega)
      · exact s c b a p5 (by omega) (by omega)
theorem grp_list {x y z x' y' z' : Int} (h : x < y ∧ y < z) (h' : x' < y' ∧ y' < z') (p : [x, y, z].Perm [x', y', z']) : [x, y, z] = [x', y', z'] :=
  p.eq_of_pairwise (le := fun u v => u ≤ v) (fun u v _ _ h1 h2 => Int.le_antisymm h1 h2) (by simp; omega) (by simp; omega)
/-- two groups with two in common are one -/
theorem grp_uniq {row : List Int} {x y z x' y' z' a b : Int} (h : IsGrp row x y z) (h' : IsGrp row x' y' z') (ha : a ∈ [x, y, z]) (hb : b ∈ [x, y, z]) (ha' : a ∈ [x', y', z']) (hb' : b ∈ [x', y', z']) (ne : a ≠ b) : [x, y, z] = [x', y', z'] := by
  obtain ⟨c, t, p⟩ := grp_two h ha hb ne
  obtain ⟨c', t', p'⟩ := grp_two h' ha' hb' ne
  have e := t.uniq t'
  subst e
  exact grp_list ⟨h.1, h.2.1⟩ ⟨h'.1, h'.2.1⟩ (p.trans p'.symm)
def InGrp (row : List Int) (t : List Int) : Prop := ∃ x y z, t = [x, y, z] ∧ IsGrp row x y z
/-- the groups of a person, in some order -/
structure DayL (row : List Int) (person : Int) (Ls : List (List Int)) : Prop where
  nd : Ls.Nodup
  iff : ∀ t, t ∈ Ls ↔ InGrp row t ∧ person ∈ t
def irange (n : Int) : List Int := (List.range n.toNat).map fun (i : Nat) => (i : Int)
theorem mem_irange {n x : Int} : x ∈ irange n ↔ 0 ≤ x ∧ x < n := by
  unfold irange
  rw [List.mem_map]
  constructor
  · rintro ⟨i, hi, rfl⟩
    have := List.mem_range.mp hi
    omega
  · rintro ⟨h1, h2⟩
    exact ⟨x.toNat, List.mem_range.mpr (by omega), by omega⟩
theorem irange_sorted (n : Int) : (irange n).Pairwise (· < ·) := by
  unfold irange
  rw [List.pairwise_map]
  exact List.pairwise_lt_range.imp fun {a b} h => by omega
theorem irange_nodup (n : Int) : (irange n).Nodup := (irange_sorted n).imp fun {a b} h => by omega
def others (p : Int) (t : List Int) : List Int := t.filter fun o => !decide (o = p)
theorem mem_others {p o : Int} {t : List Int} : o ∈ others p t ↔ o ∈ t ∧ o ≠ p := by
  unfold others
  rw [List.mem_filter]
  simp
theorem others_len {p x y z : Int} (n : x ≠ y ∧ x ≠ z ∧ y ≠ z) (h : p ∈ [x, y, z]) : (others p [x, y, z]).length = 2 := by
  unfold others
  have e : ∀ a : Int, (!decide (a = p)) = if a = p then false else true := fun a => by by_cases h : a = p <;> simp [h]
  rcases mem3 h with rfl | rfl | rfl
  · rw [List.filter_cons, if_neg (by simp), List.filter_cons, if_pos (by simp; omega), List.filter_cons, if_pos (by simp; omega)]
    rfl
  · rw [List.filter_cons, if_pos (by simp; omega), List.filter_cons, if_neg (by simp), List.filter_cons, if_pos (by simp; omega)]
    rfl
  · rw [List.filter_cons, if_pos (by simp; omega), List.filter_cons, if_pos (by simp; omega), List.filter_cons, if_neg (by simp)]
    rfl
theorem flat_len {α β : Type} {f : α → List β} {k : Nat} : ∀ {Ls : List α}, (∀ t ∈ Ls, (f t).length = k) → (Ls.flatMap f).length = k * Ls.length
  | [], _ => by simp
  | t :: Ls, h => by
    rw [List.flatMap_cons, List.length_append, h t (by simp), flat_len fun u hu => h u (List.mem_cons_of_mem _ hu), List.length_cons, Nat.mul_succ, Nat.add_comm]
theorem others_range {n p : Int} (h : 0 ≤ p ∧ p < n) : (others p (irange n)).length + 1 = n.toNat := by
  have h1 : (irange n).length = n.toNat := by unfold irange; rw [List.length_map, List.length_range]
  have h2 := List.length_eq_countP_add_countP (fun o => decide (o = p)) (l := irange n)
  have h3 : (irange n).countP (fun o => decide (o = p)) = 1 := by
    have := (irange_nodup n).count (a := p)
    rw [if_pos (mem_irange.mpr h)] at this
    rw [← this]
    unfold List.count
    congr 1
  rw [h1, h3] at h2
  unfold others
  rw [← List.countP_eq_length_filter, h2, Nat.add_comm]
  congr 1
  exact List.countP_congr fun x _ => by simp
/-- who is met on a person's day: each other person, once -/
theorem day_met {row : List Int} (hR : isRow row = true) {p : Int} (hp : 0 ≤ p ∧ p < NOf row) {Ls : List (List Int)} (h : DayL row p Ls) : (Ls.flatMap (others p)).Perm (others p (irange (NOf row))) := by
  have nd1 : (Ls.flatMap (others p)).Nodup := by
    refine List.pairwise_flatMap.mpr ⟨fun t ht => ?_, ?_⟩
    · obtain ⟨⟨x, y, z, rfl, g⟩, _⟩ := (h.iff t).mp ht
      exact (nodup3.mpr (grp_ne g)).filter _
    · refine h.nd.imp_of_mem fun {t u} ht hu ne x hx y hy e => ?_
      subst e
      obtain ⟨⟨x1, y1, z1, rfl, g1⟩, m1⟩ := (h.iff t).mp ht
      obtain ⟨⟨x2, y2, z2, rfl, g2⟩, m2⟩ := (h.iff u).mp hu
      obtain ⟨o1, o2⟩ := mem_others.mp hx
      obtain ⟨o3, _⟩ := mem_others.mp hy
      exact ne (grp_uniq g1 g2 m1 o1 m2 o3 (Ne.symm o2))
  refine (List.perm_ext_iff_of_nodup nd1 ((irange_nodup _).filter _)).mpr fun o => ?_
  rw [List.mem_flatMap]
  show _ ↔ o ∈ others p (irange (NOf row))
  rw [mem_others, mem_irange]
  constructor
  · rintro ⟨t, ht, ho⟩
    obtain ⟨⟨x, y, z, rfl, g⟩, _⟩ := (h.iff t).mp ht
    obtain ⟨o1, o2⟩ := mem_others.mp ho
    exact ⟨grp_range g o1, o2⟩
  · rintro ⟨ho, ne⟩
    obtain ⟨c, hT⟩ := thd_total hR hp ho (Ne.symm ne)
    obtain ⟨x, y, z, g, pm⟩ := grp_of hT
    have mp : p ∈ [x, y, z] := pm.mem_iff.mpr (by simp)
    have mo : o ∈ [x, y, z] := pm.mem_iff.mpr (by simp)
    exact ⟨[x, y, z], (h.iff _).mpr ⟨⟨x, y, z, rfl, g⟩, mp⟩, mem_others.mpr ⟨mo, ne⟩⟩
theorem day_len {row : List Int} (hR : isRow row = true) {p : Int} (hp : 0 ≤ p ∧ p < NOf row) {Ls : List (List Int)} (h : DayL row p Ls) : (Ls.length : Int) = 3 * nOf row := by
  have h1 := (day_met hR hp h).length_eq
  rw [flat_len (k := 2) (fun t ht => by
    obtain ⟨⟨x, y, z, rfl, g⟩, m⟩ := (h.iff t).mp ht
    exact others_len (grp_ne g) m)] at h1
  have h2 := others_range hp
  have := nOf_pos hR
  unfold NOf at h2 h1
  omega
end Sa

/-! PLAIN all groups -/
namespace Sa
structure AllL (row : List Int) (Ls : List (List Int)) : Prop where
  nd : Ls.Nodup
  iff : ∀ t, t ∈ Ls ↔ InGrp row t
/-- the three pairs of three -/
def pairs3 : List Int → List (Int × Int)
  | [x, y, z] => [(x, y), (x, z), (y, z)]
  | _ => []
def allPairs (n : Nat) : List (Int × Int) := (List.range n).flatMap fun b => (List.range b).map fun (a : Nat) => ((a : Int), (b : Int))
theorem allPairs_len : ∀ n : Nat, 2 * (allPairs n).length = n * (n - 1)
  | 0 => rfl
  | n + 1 => by
    have ih := allPairs_len n
    unfold allPairs at ih ⊢
    rw [List.range_succ, List.flatMap_append, List.length_append, Nat.mul_add, ih]
    simp
    cases n with
    | zero => rfl
    | succ n =>
      simp only [Nat.add_sub_cancel]
      rw [Nat.add_mul (n + 1) 1 (n + 1), Nat.one_mul, Nat.mul_add (n + 1) n 1]
      omega
theorem mem_allPairs {n : Nat} {q : Int × Int} : q ∈ allPairs n ↔ 0 ≤ q.1 ∧ q.1 < q.2 ∧ q.2 < n := by
  unfold allPairs
  rw [List.mem_flatMap]
  constructor
  · rintro ⟨b, hb, hq⟩
    obtain ⟨a, ha, rfl⟩ := List.mem_map.mp hq
    have := List.mem_range.mp ha
    have := List.mem_range.mp hb
    simp
    omega
  · rintro ⟨h1, h2, h3⟩
    refine ⟨q.2.toNat, List.mem_range.mpr (by omega), List.mem_map.mpr ⟨q.1.toNat, List.mem_range.mpr (by omega), ?_⟩⟩
    rw [Int.toNat_of_nonneg h1, Int.toNat_of_nonneg (by omega)]
theorem allPairs_nodup (n : Nat) : (allPairs n).Nodup := by
  refine List.pairwise_flatMap.mpr ⟨fun b _ => ?_, ?_⟩
  · rw [List.pairwise_map]
    refine List.nodup_range.imp fun {x y} h e => h ?_
    have := congrArg Prod.fst e
    simp at this
    omega
  · refine List.nodup_range.imp fun {x y} h u hu v hv e => h ?_
    obtain ⟨a, _, rfl⟩ := List.mem_map.mp hu
    obtain ⟨b, _, rfl⟩ := List.mem_map.mp hv
    have := congrArg Prod.snd e
    simp at this
    omega
theorem mem_pairs3 {row : List Int} {x y z : Int} (h : IsGrp row x y z) {q : Int × Int} : q ∈ pairs3 [x, y, z] ↔ q.1 ∈ [x, y, z] ∧ q.2 ∈ [x, y, z] ∧ q.1 < q.2 := by
  obtain ⟨h1, h2, _⟩ := h
  obtain ⟨a, b⟩ := q
  unfold pairs3
  simp only [List.mem_cons, Prod.mk.injEq, List.not_mem_nil, or_false]
  omega
theorem all_pairs {row : List Int} (hR : isRow row = true) {Ls : List (List Int)} (h : AllL row Ls) : (Ls.flatMap pairs3).Nodup ∧ (Ls.flatMap pairs3).Perm (allPairs (NOf row).toNat) := by
  have nd : (Ls.flatMap pairs3).Nodup := by
    refine List.pairwise_flatMap.mpr ⟨fun t ht => ?_, ?_⟩
    · obtain ⟨x, y, z, rfl, g⟩ := (h.iff t).mp ht
      have := grp_ne g
      unfold pairs3
      simp
      omega
    · refine h.nd.imp_of_mem fun {t u} ht hu ne q hq q' hq' e => ?_
      subst e
      obtain ⟨x1, y1, z1, rfl, g1⟩ := (h.iff t).mp ht
      obtain ⟨x2, y2, z2, rfl, g2⟩ := (h.iff u).mp hu
      obtain ⟨a1, a2, a3⟩ := (mem_pairs3 g1).mp hq
      obtain ⟨b1, b2, _⟩ := (mem_pairs3 g2).mp hq'
      exact ne (grp_uniq g1 g2 a1 a2 b1 b2 (by omega))
  refine ⟨nd, (List.perm_ext_iff_of_nodup nd (allPairs_nodup _)).mpr fun q => ?_⟩
  have hN : ((NOf row).toNat : Int) = NOf row := by have := nOf_pos hR; unfold NOf; omega
  rw [List.mem_flatMap, mem_allPairs, hN]
  constructor
  · rintro ⟨t, ht, hq⟩
    obtain ⟨x, y, z, rfl, g⟩ := (h.iff t).mp ht
    obtain ⟨a1, a2, a3⟩ := (mem_pairs3 g).mp hq
    have := grp_range g a1
    have := grp_range g a2
    omega
  · rintro ⟨h1, h2, h3⟩
    obtain ⟨c, hT⟩ := thd_total hR (a := q.1) (b := q.2) ⟨h1, by omega⟩ ⟨by omega, h3⟩ (by omega)
    obtain ⟨x, y, z, g, pm⟩ := grp_of hT
    exact ⟨[x, y, z], (h.iff _).mpr ⟨x, y, z, rfl, g⟩, (mem_pairs3 g).mpr ⟨pm.mem_iff.mpr (by simp), pm.mem_iff.mpr (by simp), h2⟩⟩
theorem all_len {row : List Int} (hR : isRow row = true) {Ls : List (List Int)} (h : AllL row Ls) : (Ls.length : Int) = nOf row * NOf row ∧ ((Ls.flatMap pairs3).length : Int) = NOf row * (NOf row - 1) / 2 := by
  have h1 := (all_pairs hR h).2.length_eq
  have h2 := allPairs_len (NOf row).toNat
  have h3 := flat_len (f := pairs3) (k := 3) (Ls := Ls) fun t ht => by
    obtain ⟨x, y, z, rfl, g⟩ := (h.iff t).mp ht
    rfl
  have hn := nOf_pos hR
  obtain ⟨n, hn2⟩ : ∃ n : Nat, nOf row = n := ⟨(nOf row).toNat, by omega⟩
  have hN : (NOf row).toNat = 6 * n + 1 := by unfold NOf; omega
  rw [hN, Nat.add_sub_cancel] at h2
  rw [hN] at h1
  have h4 : (6 * n + 1) * (6 * n) = 6 * (n * (6 * n + 1)) := by
    rw [Nat.mul_comm (6 * n + 1), Nat.mul_assoc]
  have e1 : Ls.length = n * (6 * n + 1) := by omega
  have hNI : NOf row = ((6 * n + 1 : Nat) : Int) := by unfold NOf; omega
  refine ⟨?_, ?_⟩
  · rw [e1, hn2, hNI, Int.natCast_mul]
  · rw [hNI, show (((6 * n + 1 : Nat) : Int)) - 1 = ((6 * n : Nat) : Int) by omega, ← Int.natCast_mul, h4]
    omega
end Sa

/-! PLAIN all fillings of a row -/
namespace Sa
def setTwo (row : List Int) (p m : Nat) : List Int := (row.set p (m : Int)).set (p + m) (m : Int)
theorem setTwo_length (row : List Int) (p m : Nat) : (setTwo row p m).length = row.length := by simp [setTwo]
/-- what stands there after every way to put number n and all below it into the row -/
def fillAt : Nat → List Int → List (List Int)
  | 0, row => [row]
  | n + 1, row => (List.range (row.length - (n + 1))).flatMap fun p => if row[p]? = some 0 ∧ row[p + (n + 1)]? = some 0 then fillAt n (setTwo row p (n + 1)) else []
/-- .. by the first place that is free, the numbers left in their order -/
def growAt : Nat → List Int → List Nat → List (List Int)
  | 0, _, _ => []
  | n + 1, row, left => if 0 ∈ row then left.flatMap fun v => if row.idxOf 0 + v < row.length ∧ row[row.idxOf 0 + v]? = some 0 then growAt n (setTwo row (row.idxOf 0) v) (left.filter fun u => !decide (u = v)) else [] else [row]
/-! ### parts of a flatMap -/
theorem fm_snoc {α β : Type} (f : α → List β) (l : List α) (x : α) : (l ++ [x]).flatMap f = l.flatMap f ++ f x := by
  rw [List.flatMap_append, List.flatMap_singleton]
theorem fm_range {β : Type} (f : Nat → List β) (i : Nat) : (List.range (i + 1)).flatMap f = (List.range i).flatMap f ++ f i := by
  rw [List.range_succ, fm_snoc]
theorem fm_range_le {β : Type} (f : Nat → List β) {i n : Nat} (h : i ≤ n) : ((List.range i).flatMap f).length ≤ ((List.range n).flatMap f).length := by
  induction n with
  | zero => obtain rfl : i = 0 := by omega
            exact Nat.le_refl _
  | succ n ih =>
    rcases Nat.lt_or_ge i (n + 1) with h' | h'
    · rw [fm_range, List.length_append]
      exact Nat.le_trans (ih (by omega)) (Nat.le_add_right _ _)
    · obtain rfl : i = n + 1 := by omega
      exact Nat.le_refl _
theorem fm_take {α β : Type} (f : α → List β) {l : List α} {i : Nat} {x : α} (h : l[i]? = some x) : (l.take (i + 1)).flatMap f = (l.take i).flatMap f ++ f x := by
  rw [List.take_add_one, h]
  exact fm_snoc f _ x
theorem fm_take_le {α β : Type} (f : α → List β) (l : List α) (i : Nat) : ((l.take i).flatMap f).length ≤ (l.flatMap f).length := by
  have h : l.flatMap f = (l.take i).flatMap f ++ (l.drop i).flatMap f := by
    rw [← List.flatMap_append, List.take_append_drop]
  rw [h, List.length_append]
  exact Nat.le_add_right _ _
/-! ### how many: by a number whose bits are the places taken -/
def sumTo (f : Nat → Nat) : Nat → Nat
  | 0 => 0
  | n + 1 => sumTo f n + f n
def cntAt (L : Nat) : Nat → Nat → Nat
  | 0, _ => 1
  | n + 1, m => sumTo (fun p => if m &&& (2 ^ p ||| 2 ^ (p + (n + 1))) = 0 then cntAt L n (m ||| (2 ^ p ||| 2 ^ (p + (n + 1)))) else 0) (L - (n + 1))
theorem fm_sum {β : Type} (f : Nat → List β) (g : Nat → Nat) : ∀ n, (∀ p, p < n → (f p).length = g p) → ((List.range n).flatMap f).length = sumTo g n
  | 0, _ => rfl
  | n + 1, h => by
    rw [fm_range, List.length_append, fm_sum f g n fun p hp => h p (by omega), h n (by omega)]
    rfl
/-- the bits of m say which places of the row are taken -/
def Bits (row : List Int) (m : Nat) : Prop := ∀ i, i < row.length → (m.testBit i = false ↔ row[i]? = some 0)
theorem and_two {m p q : Nat} : m &&& (2 ^ p ||| 2 ^ q) = 0 ↔ m.testBit p = false ∧ m.testBit q = false := by
  constructor
  · intro h
    have e : ∀ i, (m &&& (2 ^ p ||| 2 ^ q)).testBit i = false := fun i => by rw [h]; exact Nat.zero_testBit i
    have e1 := e p
    have e2 := e q
    rw [Nat.testBit_and, Nat.testBit_or, Nat.testBit_two_pow_self] at e1
    rw [Nat.testBit_and, Nat.testBit_or, Nat.testBit_two_pow_self] at e2
    simp at e1 e2
    exact ⟨e1, e2⟩
  · rintro ⟨h1, h2⟩
    refine Nat.eq_of_testBit_eq fun i => ?_
    rw [Nat.testBit_and, Nat.testBit_or, Nat.testBit_two_pow, Nat.testBit_two_pow, Nat.zero_testBit]
    by_cases a : p = i
    · subst a
      rw [h1, Bool.false_and]
    · by_cases b : q = i
      · subst b
        rw [h2, Bool.false_and]
      · simp [a, b]
theorem Bits.put {row : List Int} {m p n : Nat} (h : Bits row m) (hn : n ≠ 0) : Bits (setTwo row p n) (m ||| (2 ^ p ||| 2 ^ (p + n))) := by
  intro i hi
  rw [setTwo_length] at hi
  have hz : (n : Int) ≠ 0 := by omega
  rw [Nat.testBit_or, Nat.testBit_or, Nat.testBit_two_pow, Nat.testBit_two_pow]
  unfold setTwo
  rw [List.getElem?_set, List.getElem?_set, List.length_set]
  by_cases a : p + n = i
  · rw [if_pos a, if_pos (by omega)]
    simp [a, hn]
  · rw [if_neg a]
    by_cases b : p = i
    · rw [if_pos b, if_pos (by omega)]
      simp [b, hn]
    · rw [if_neg b]
      simp [a, b, h i hi]
theorem cnt_fill (L : Nat) : ∀ (n : Nat) (row : List Int) (m : Nat), row.length = L → Bits row m → (fillAt n row).length = cntAt L n m
  | 0, _, _, _, _ => rfl
  | n + 1, row, m, hl, h => by
    show ((List.range (row.length - (n + 1))).flatMap _).length = _
    rw [hl]
    refine fm_sum _ _ _ fun p hp => ?_
    have hc : (row[p]? = some 0 ∧ row[p + (n + 1)]? = some 0) ↔ m &&& (2 ^ p ||| 2 ^ (p + (n + 1))) = 0 := by
      rw [and_two, h p (by omega), h (p + (n + 1)) (by omega)]
    by_cases c : row[p]? = some 0 ∧ row[p + (n + 1)]? = some 0
    · rw [if_pos c, if_pos (hc.mp c)]
      exact cnt_fill L n _ _ (by rw [setTwo_length]; exact hl) (h.put (by omega))
    · rw [if_neg c, if_neg (fun z => c (hc.mpr z))]
      rfl
theorem bits_noughts (L : Nat) : Bits (List.replicate L (0 : Int)) 0 := by
  intro i hi
  rw [List.length_replicate] at hi
  rw [Nat.zero_testBit, List.getElem?_replicate, if_pos hi]
  simp
abbrev noughts (size : Nat) : List Int := List.replicate (2 * size) 0
theorem fill_count (size : Nat) : (fillAt size (noughts size)).length = cntAt (2 * size) size 0 := cnt_fill _ _ _ _ List.length_replicate (bits_noughts _)
theorem cnt_8 : cntAt 16 8 0 = 504 := by decide +kernel
theorem cnt_small : ∀ size, size < 6 → cntAt (2 * size) size 0 = (growAt 6 (noughts size) (List.range' 1 size)).length := by decide +kernel
theorem fill_small : ∀ size, size < 6 → (fillAt size (noughts size)).Perm (growAt 6 (noughts size) (List.range' 1 size)) := by decide +kernel
theorem cnt_list : ∀ size, size < 9 → 0 < size → size % 4 < 2 → cntAt (2 * size) size 0 = [1, 0, 0, 6, 10, 0, 0, 504].getD (size - 1) 0 := by
  intro size h1 h2 h3
  have hs : size = 1 ∨ size = 4 ∨ size = 5 ∨ size = 8 := by omega
  rcases hs with rfl | rfl | rfl | rfl
  · decide +kernel
  · decide +kernel
  · decide +kernel
  · exact cnt_8
theorem grow_list : ∀ size, size < 6 → 0 < size → (growAt 6 (noughts size) (List.range' 1 size)).length = [1, 0, 0, 6, 10, 0, 0, 504].getD (size - 1) 0 := by decide +kernel
/-- the answer of many -/
def howMany (size : Nat) : Nat := if size % 4 < 2 then (fillAt size (noughts size)).length else 0
theorem howMany_list : ∀ size, size < 9 → 0 < size → howMany size = [1, 0, 0, 6, 10, 0, 0, 504].getD (size - 1) 0 := by
  intro size h1 h2
  unfold howMany
  by_cases c : size % 4 < 2
  · rw [if_pos c, fill_count]
    exact cnt_list size h1 h2 c
  · rw [if_neg c]
    have hs : size = 2 ∨ size = 3 ∨ size = 6 ∨ size = 7 := by omega
    rcases hs with rfl | rfl | rfl | rfl <;> rfl
theorem fill_bound : ∀ size, size < 6 → (fillAt size (noughts size)).length ≤ 504 := by
  intro size h
  rw [(fill_small size h).length_eq]
  have : ∀ size, size < 6 → (growAt 6 (noughts size) (List.range' 1 size)).length ≤ 504 := by decide +kernel
  exact this size h
theorem fill_bound8 : ∀ size, size < 9 → size % 4 < 2 → (fillAt size (noughts size)).length ≤ 504 := by
  intro size h c
  rcases Nat.eq_zero_or_pos size with rfl | h0
  · decide +kernel
  rw [fill_count, cnt_list size h h0 c]
  have : ∀ i, i < 8 → [1, 0, 0, 6, 10, 0, 0, 504].getD i 0 ≤ 504 := by decide
  exact this _ (by omega)
end Sa

/-! PLAIN bad rows -/
namespace Sa
theorem bad_odd {r : List Int} (h : r.length % 2 = 1) : isRow r = false := by
  rw [Bool.eq_false_iff]
  intro h'
  have := ((isRow_iff r).mp h').1
  omega
theorem bad_set {r : List Int} {i : Nat} {n x : Int} (h : isRow r = true) (hn : r[i]? = some n) (hx : x ≠ n) : isRow (r.set i x) = false := by
  rw [Bool.eq_false_iff]
  intro h'
  have hb := isRow_bound h n (List.mem_of_getElem? hn)
  have hl : (r.set i x).length = r.length := List.length_set
  have g1 := good_count (((isRow_iff r).mp h).2.2.2 n hb.1 hb.2)
  have g2 := good_count (((isRow_iff _).mp h').2.2.2 n hb.1 (by rw [hl]; exact hb.2))
  obtain ⟨hi, e⟩ := List.getElem?_eq_some_iff.mp hn
  rw [List.count_set hi, e, g1] at g2
  have e2 : (x == n) = false := by simpa using hx
  rw [e2] at g2
  simp at g2
end Sa

namespace Sa
open PySem PySem.Spec PyProof.Rows L2
def topS (i : Nat) : Stmt := PySem.Challenge.pw_sameapart_k12_refused.main.body.getD i (.Pass ⟨0, 0, 0, 0⟩)
abbrev st_asked_size : Stmt := topS 11
abbrev st_found_places : Stmt := topS 12
abbrev st_is_row : Stmt := topS 13
abbrev st_asked_row : Stmt := topS 14
abbrev st_contrary : Stmt := topS 15
abbrev st_places_by : Stmt := topS 16
abbrev st_places : Stmt := topS 17
abbrev st_can_be : Stmt := topS 18
abbrev st_reckoned : Stmt := topS 19
abbrev st_pairs_of_four : Stmt := topS 20
abbrev st_pairs_of_one_more : Stmt := topS 21
abbrev st_row_of : Stmt := topS 22
abbrev st_filled : Stmt := topS 23
abbrev st_many : Stmt := topS 24
abbrev st_rows : Stmt := topS 25
abbrev st_people_by : Stmt := topS 28
abbrev st_people : Stmt := topS 29
abbrev st_steps_of : Stmt := topS 30
abbrev st_third_by : Stmt := topS 31
abbrev st_asked_two : Stmt := topS 32
abbrev st_third : Stmt := topS 33
abbrev st_group : Stmt := topS 34
abbrev st_day_by : Stmt := topS 35
abbrev st_day : Stmt := topS 36
abbrev st_is_group : Stmt := topS 37
abbrev st_groups : Stmt := topS 38
abbrev st_shown : Stmt := topS 40
abbrev st_law_cell_at : Stmt := topS 42
abbrev st_law_draw : Stmt := topS 43
abbrev st_law_is_row : Stmt := topS 44
abbrev st_law_filled : Stmt := topS 45
abbrev st_law_small_row : Stmt := topS 46
abbrev st_law_word_of : Stmt := topS 47
abbrev st_law_first : Stmt := topS 48
abbrev st_law_second : Stmt := topS 49
abbrev st_law_tried : Stmt := topS 50
abbrev st_law_bad_row : Stmt := topS 51
abbrev st_law : Stmt := topS 52
/-! ### words for a def of the text, for the built-in names, for an error class -/
section
/-- a def of the text as it stands behind the top, under its name -/
structure Df (K : PySem.W.Frag) (mg : Str → Option Value) (x : Str) (st : Stmt) (ps : List Str) : Prop where
  ex : ∃ (f : Addr) (fd : FuncData), Fun K x x st f fd ∧ Binds K fd ps [] ∧ mg x = some (.ref f)
/-- a def whose promise is known -/
structure Kn (P : Program) (w : World) (K : PySem.W.Frag) (mg : Str → Option Value) (base : Heap) (CX : CXT) (k : Nat) (x : Str) (ps : List Str) (sp : Sp) : Prop where
  ex : ∃ (f : Addr) (fd : FuncData), FnOk P w K mg base CX k f fd ps sp ∧ PySem.W.keepIn K (.ref f) = true ∧ Binds K fd ps [] ∧ mg x = some (.ref f)
/-- the built-in names are not bound by the module -/
structure Bl (mg : Str → Option Value) : Prop where
  len_ : mg "len" = none
  range_ : mg "range" = none
  enumerate_ : mg "enumerate" = none
  list_ : mg "list" = none
  reversed_ : mg "reversed" = none
  sorted_ : mg "sorted" = none
  tuple_ : mg "tuple" = none
  min_ : mg "min" = none
  max_ : mg "max" = none
  isinstance_ : mg "isinstance" = none
  int_ : mg "int" = none
  str_ : mg "str" = none
  bool_ : mg "bool" = none
  all_ : mg "all" = none
  ValueError_ : mg "ValueError" = none
/-- an error class of the text -/
structure Ec (K : PySem.W.Frag) (mg : Str → Option Value) (x : Str) (C : Addr) : Prop where
  g : mg x = some (.ref C)
  x : PySem.W.excIn K C [.type "ValueError", .type "Exception", .type "BaseException", .type "object"] "ValueError.__new__" = true
  k : PySem.W.keepIn K (.ref C) = true
  b : PySem.W.subIn K (.ref C) (.type "BaseException") = some true
  t : PySem.W.typeIn K (.ref C) = some (.type "type")
variable {P : Program} {w : World} {K : PySem.W.Frag} {mg : Str → Option Value} {base : Heap}
theorem Df.kn {x : Str} {st : Stmt} {ps N : List Str} {k : Nat} {sp : Sp} (D : Df K mg x st ps) (S : FnScope N ps (defScope st)) (len : ∀ vs H Q E, sp vs H Q E → vs.length = ps.length)
    (hbody : ∀ (f : Addr) (cdv : Value) (A : Around) (outer : List Env) (s : Shared) (H : Hp) (vs : List V) (Q : VK) (E : XK), Room k (A.deeper (envOfC x (defScope st) s.heap.objs.size f cdv)) → sp vs H Q E →
      ∃ t, PSs (cxOf CX0 P w K mg base N x (defScope st) f cdv A outer s H E).nox (defBody st) t ∧ t { nx := fun _ H' => Q .non H', rt := Q } (start N vs) H) : Kn P w K mg base CX0 (k + 1) x ps sp := by
  obtain ⟨f, fd, F, b, g⟩ := D.ex
  exact ⟨f, fd, F.ok S len (hbody f), F.kp, b, g⟩
theorem Df.knX {x : Str} {st : Stmt} {ps N : List Str} {k : Nat} {sp : Sp} (D : Df K mg x st ps) (S : FnScope N ps (defScope st)) (len : ∀ vs H Q E, sp vs H Q E → vs.length = ps.length)
    (hbody : ∀ (f : Addr) (cdv : Value) (A : Around) (outer : List Env) (s : Shared) (H : Hp) (vs : List V) (Q : VK) (E : XK), Room k (A.deeper (envOfC x (defScope st) s.heap.objs.size f cdv)) → sp vs H Q E →
      ∃ t, PSs (cxOf (L2.CX P w) P w K mg base N x (defScope st) f cdv A outer s H E) (defBody st) t ∧ t { nx := fun _ H' => Q .non H', rt := Q } (start N vs) H) : Kn P w K mg base (L2.CX P w) (k + 1) x ps sp := by
  obtain ⟨f, fd, F, b, g⟩ := D.ex
  exact ⟨f, fd, F.okX S len (hbody f), F.kp, b, g⟩
theorem Kn.imp {CX : CXT} {k : Nat} {x : Str} {ps : List Str} {sp sp' : Sp} (N : Kn P w K mg base CX k x ps sp) (h : ∀ vs H Q E, sp' vs H Q E → sp vs H Q E) : Kn P w K mg base CX k x ps sp' := by
  obtain ⟨f, fd, F, r⟩ := N.ex
  exact ⟨f, fd, F.imp h, r⟩
theorem Kn.mono {CX : CXT} {j k : Nat} {x : Str} {ps : List Str} {sp : Sp} (N : Kn P w K mg base CX j x ps sp) (h : j ≤ k) : Kn P w K mg base CX k x ps sp := by
  obtain ⟨f, fd, F, r⟩ := N.ex
  exact ⟨f, fd, F.mono h, r⟩
end
section
variable {X : Cx} {CX : CXT} {k : Nat} {x : Str} {ps : List Str} {sp : Sp} {p pos : Pos} {e : Expr} {es : List Expr} {t : TA}
/-- a call of a def that lets no error out -/
theorem pe_k0 (N : Kn X.prog X.w X.K X.mg X.base CX0 k x ps sp) (hr : Room k X.A) (hg : Gl X x) (ha : PA X (e :: es) t) (hdb : (x == ("__debug__" : Str)) = false := by decide)
    (he : starEach (e :: es) X.env = (false, eval e X.env) :: starEach es X.env := by rfl) (hpl : (backTo pos (starEach es X.env)).any (·.1) = false := by rfl) : PE X (.Call (.Name x p) (e :: es) [] pos) (tCall sp [] E0 t) := by
  obtain ⟨f, fd, F, kp, b, g⟩ := N.ex
  exact pe_call F hr hg g kp b .nil pass0 ha hdb he hpl
/-- a call of a def that may let one out but here does not -/
theorem pe_kL (N : Kn X.prog X.w X.K X.mg X.base (L2.CX X.prog X.w) k x ps sp) (hr : Room k X.A) (hg : Gl X x) (ha : PA X (e :: es) t) (hdb : (x == ("__debug__" : Str)) = false := by decide)
    (he : starEach (e :: es) X.env = (false, eval e X.env) :: starEach es X.env := by rfl) (hpl : (backTo pos (starEach es X.env)).any (·.1) = false := by rfl) : PE X (.Call (.Name x p) (e :: es) [] pos) (tCall sp [] E0 t) := by
  obtain ⟨f, fd, F, kp, b, g⟩ := N.ex
  exact pe_call F hr hg g kp b .nil passL ha hdb he hpl
/-- .. whose error goes on out of the def at hand -/
theorem pe_kE {E : XK} (N : Kn X.prog X.w X.K X.mg X.base (L2.CX X.prog X.w) k x ps sp) (tk : Takes X (fun cls d _ H => E cls d H)) (hr : Room k X.A) (hg : Gl X x) (ha : PA X (e :: es) t) (hdb : (x == ("__debug__" : Str)) = false := by decide)
    (he : starEach (e :: es) X.env = (false, eval e X.env) :: starEach es X.env := by rfl) (hpl : (backTo pos (starEach es X.env)).any (·.1) = false := by rfl) : PE X (.Call (.Name x p) (e :: es) [] pos) (tCall sp [] E t) := by
  obtain ⟨f, fd, F, kp, b, g⟩ := N.ex
  exact pe_call F hr hg g kp b .nil (passes_call tk (fun _ _ _ _ h => h)) ha hdb he hpl
end
section
variable {X : Cx} {x : Str} {pos : Pos}
theorem pe_globI {n : Int} {tk : Tok} (hg : Gl X x) (hm : X.mg x = some (.int n tk)) (hd : (x == ("__debug__" : Str)) = false := by decide) : PE X (.Name x pos) (tC (.int n)) := pe_glob hg hm ⟨_, rfl⟩ hd
theorem pe_globS {n : Str} {tk : Tok} (hg : Gl X x) (hm : X.mg x = some (.str n tk)) (hd : (x == ("__debug__" : Str)) = false := by decide) : PE X (.Name x pos) (tC (.str n)) := pe_glob hg hm ⟨_, rfl⟩ hd
end
/-! ### heaps, lists of ints -/
theorem same_upd {H : Hp} {p : Addr} {o : HO} (h : H p = none) : Same H (upd H p o) := fun b x e => by
  rw [upd_ne (ne_of_none e h)]
  exact e
theorem _root_.L2.Same.new {H H' : Hp} {p : Addr} {o : HO} (s : Same H H') (h : H' p = none) : Same H (upd H' p o) := s.trans (same_upd h)
/-- what was made behind H may be changed -/
theorem _root_.L2.Same.own {H H' : Hp} {p : Addr} {o : HO} (s : Same H H') (h : H p = none) : Same H (upd H' p o) := fun b x e => by
  rw [upd_ne (ne_of_none e h)]
  exact s b x e
theorem line_eq : (sizeLine : Nat) = 16777216 := sizeLine_eq
theorem small {n : Nat} (h : n ≤ 16777216) : n ≤ sizeLine := by rw [line_eq]; exact h
theorem smaller {n : Nat} (h : n < 16777216) : n < sizeLine := by rw [line_eq]; exact h
theorem ints_get {ns : List Int} {i : Nat} {n : Int} (h : ns[i]? = some n) : (ns.map V.int)[i]? = some (.int n) := by
  rw [List.getElem?_map, h]
  rfl
theorem of_ints_get {ns : List Int} {i : Nat} {y : V} (h : (ns.map V.int)[i]? = some y) : ∃ z, ns[i]? = some z ∧ y = V.int z := by
  rw [List.getElem?_map] at h
  cases e : ns[i]? with
  | none =>
    rw [e] at h
    cases h
  | some z =>
    rw [e] at h
    exact ⟨z, rfl, (Option.some.inj h).symm⟩
theorem ints_len (ns : List Int) : (ns.map V.int).length = ns.length := List.length_map _
/-- an item at a place that is not below nought -/
theorem at_ints {ns : List Int} {i : Int} {n : Int} (h0 : 0 ≤ i) (h : ns[i.toNat]? = some n) : atI (ns.map V.int) i = some (.int n) := by
  have q : atI (ns.map V.int) ((i.toNat : Nat) : Int) = some (.int n) := atI_nat (ints_get h)
  rwa [Int.toNat_of_nonneg h0] at q
theorem at_vals {α : Type} {xs : List α} {i : Int} {v : α} (h0 : 0 ≤ i) (h : xs[i.toNat]? = some v) : atI xs i = some v := by
  have q : atI xs ((i.toNat : Nat) : Int) = some v := atI_nat h
  rwa [Int.toNat_of_nonneg h0] at q
theorem take_snoc {α : Type} {l : List α} {i : Nat} {x : α} (h : l[i]? = some x) : l.take (i + 1) = l.take i ++ [x] := by
  rw [List.take_add_one, h]
  rfl

/-! ### == of data made of ints -/
section
variable {K : PySem.W.Frag} {H : Hp}
theorem dpAll_ints : ∀ ns : List Int, DpAll K H (ns.map V.int) (ns.map PyData.int)
  | [] => .nil
  | n :: r => .cons (.int n) (dpAll_ints r)
theorem dp_list {a : Addr} {ns : List Int} (h : SqL K H a (ns.map V.int)) : Dp K H (.ref a) (.list (ns.map PyData.int)) := .lst h (dpAll_ints ns)
theorem dp_tup {a : Addr} {ns : List Int} (h : SqT K H a (ns.map V.int)) : Dp K H (.ref a) (.tuple (ns.map PyData.int)) := .tup h (dpAll_ints ns)
end
theorem lay_ints : ∀ ns : List Int, PyData.canLayAll0 (ns.map PyData.int) = true
  | [] => by simp [PyData.canLayAll0]
  | n :: r => by simp [PyData.canLayAll0, PyData.canLay0, lay_ints r]
theorem depth_ints : ∀ ns : List Int, PyData.depthAll (ns.map PyData.int) = 0
  | [] => by simp [PyData.depthAll]
  | n :: r => by simp [PyData.depthAll, PyData.depth, depth_ints r]
theorem shaped_list (ns : List Int) : SeqAt.shaped (.list (ns.map PyData.int)) = true := by
  show (PyData.canLay0 (.list (ns.map PyData.int)) && decide (PyData.depth (.list (ns.map PyData.int)) ≤ 64)) = true
  simp [PyData.canLay0, PyData.depth, lay_ints, depth_ints]
theorem shaped_tup (ns : List Int) : SeqAt.shaped (.tuple (ns.map PyData.int)) = true := by
  show (PyData.canLay0 (.tuple (ns.map PyData.int)) && decide (PyData.depth (.tuple (ns.map PyData.int)) ≤ 64)) = true
  simp [PyData.canLay0, PyData.depth, lay_ints, depth_ints]
theorem eqvAll_ints : ∀ xs ys : List Int, PyData.eqvAll (xs.map PyData.int) (ys.map PyData.int) = decide (xs = ys)
  | [], [] => by simp [PyData.eqvAll]
  | [], _ :: _ => by simp [PyData.eqvAll]
  | _ :: _, [] => by simp [PyData.eqvAll]
  | x :: xs, y :: ys => by
    have ih := eqvAll_ints xs ys
    simp only [List.map_cons, PyData.eqvAll, PyData.eqv, ih, List.cons.injEq]
    by_cases h : x = y <;> simp [h]
theorem eqv_lists (xs ys : List Int) : PyData.eqv (.list (xs.map PyData.int)) (.list (ys.map PyData.int)) = decide (xs = ys) := by
  simp only [PyData.eqv, eqvAll_ints]
theorem eqv_tups (xs ys : List Int) : PyData.eqv (.tuple (xs.map PyData.int)) (.tuple (ys.map PyData.int)) = decide (xs = ys) := by
  simp only [PyData.eqv, eqvAll_ints]
/-- .. the answers of == and != of two lists, two tuples of ints -/
theorem eqD_lists {K : PySem.W.Frag} {H : Hp} {Q : VK} {a b : Addr} {xs ys : List Int} (ha : SqL K H a (xs.map V.int)) (hb : SqL K H b (ys.map V.int)) (q : Q (.bl (decide (xs = ys))) H) : rEqD K (.ref a) (.ref b) H Q :=
  ⟨_, _, dp_list ha, dp_list hb, shaped_list _, shaped_list _, by rw [eqv_lists]; exact q⟩
theorem neD_lists {K : PySem.W.Frag} {H : Hp} {Q : VK} {a b : Addr} {xs ys : List Int} (ha : SqL K H a (xs.map V.int)) (hb : SqL K H b (ys.map V.int)) (q : Q (.bl (!decide (xs = ys))) H) : rNeD K (.ref a) (.ref b) H Q :=
  ⟨_, _, dp_list ha, dp_list hb, shaped_list _, shaped_list _, by rw [eqv_lists]; exact q⟩
theorem eqD_tups {K : PySem.W.Frag} {H : Hp} {Q : VK} {a b : Addr} {xs ys : List Int} (ha : SqT K H a (xs.map V.int)) (hb : SqT K H b (ys.map V.int)) (q : Q (.bl (decide (xs = ys))) H) : rEqD K (.ref a) (.ref b) H Q :=
  ⟨_, _, dp_tup ha, dp_tup hb, shaped_tup _, shaped_tup _, by rw [eqv_tups]; exact q⟩
theorem neD_tups {K : PySem.W.Frag} {H : Hp} {Q : VK} {a b : Addr} {xs ys : List Int} (ha : SqT K H a (xs.map V.int)) (hb : SqT K H b (ys.map V.int)) (q : Q (.bl (!decide (xs = ys))) H) : rNeD K (.ref a) (.ref b) H Q :=
  ⟨_, _, dp_tup ha, dp_tup hb, shaped_tup _, shaped_tup _, by rw [eqv_tups]; exact q⟩
/-- a test whose answer is known -/
theorem iteTr {c : Bool} {A B : Prop} (hc : c = true) (h : A) : if c = true then A else B := by
  rw [if_pos hc]
  exact h
theorem iteFa {c : Bool} {A B : Prop} (hc : c = false) (h : B) : if c = true then A else B := by
  rw [hc]
  exact iteF h

/-! ### lists of pairs, lists of noughts -/
theorem fam_succ (lo : Int) (n : Nat) (f : Int → Int × Int) : fam lo (n + 1) f = fam lo n f ++ [f (lo + (n : Int))] := by
  unfold fam
  rw [List.range_succ, List.map_append]
  rfl
/-- at ts stand the pairs of numbers ps -/
def PairsAt (H : Hp) (ts : List Addr) (ps : List (Int × Int)) : Prop := ts.length = ps.length ∧ ∀ (i : Nat) (t : Addr) (q : Int × Int), ts[i]? = some t → ps[i]? = some q → H t = some (.tup [.int q.1, .int q.2])
theorem PairsAt.nil {H : Hp} : PairsAt H [] [] := ⟨rfl, fun i t q h => by simp at h⟩
theorem PairsAt.keep {H H' : Hp} {ts : List Addr} {ps : List (Int × Int)} (h : PairsAt H ts ps) (s : Same H H') : PairsAt H' ts ps := ⟨h.1, fun i t q h1 h2 => s _ _ (h.2 i t q h1 h2)⟩
theorem PairsAt.append {H : Hp} {ts us : List Addr} {ps qs : List (Int × Int)} (h : PairsAt H ts ps) (g : PairsAt H us qs) : PairsAt H (ts ++ us) (ps ++ qs) := by
  refine ⟨by rw [List.length_append, List.length_append, h.1, g.1], fun i t q h1 h2 => ?_⟩
  by_cases hi : i < ts.length
  · rw [List.getElem?_append_left hi] at h1
    rw [List.getElem?_append_left (by rw [← h.1]; exact hi)] at h2
    exact h.2 i t q h1 h2
  · rw [List.getElem?_append_right (by omega)] at h1
    rw [List.getElem?_append_right (by rw [← h.1]; omega), ← h.1] at h2
    exact g.2 _ t q h1 h2
theorem PairsAt.one {H : Hp} {t : Addr} {q : Int × Int} (h : H t = some (.tup [.int q.1, .int q.2])) : PairsAt H [t] [q] := by
  refine ⟨rfl, fun i t' q' h1 h2 => ?_⟩
  cases i with
  | zero =>
    cases h1
    cases h2
    exact h
  | succ i => simp at h1
theorem PairsAt.get {H : Hp} {ts : List Addr} {ps : List (Int × Int)} (h : PairsAt H ts ps) {i : Nat} {y : V} (hy : (ts.map V.ref)[i]? = some y) : ∃ t q, y = .ref t ∧ ps[i]? = some q ∧ H t = some (.tup [.int q.1, .int q.2]) := by
  rw [List.getElem?_map] at hy
  cases e : ts[i]? with
  | none =>
    rw [e] at hy
    cases hy
  | some t =>
    rw [e] at hy
    have hi := (List.getElem?_eq_some_iff.mp e).1
    rw [h.1] at hi
    exact ⟨t, ps[i], (Option.some.inj hy).symm, List.getElem?_eq_getElem hi, h.2 i t _ e (List.getElem?_eq_getElem hi)⟩
/-- a comprehension of pairs over a range -/
theorem lc_pairs {lo : Int} {n j : Nat} {te : TE} {σ : L2.St} {H1 : Hp} {D : Addr} {Qd : Hp → Prop} (nD : H1 D = none) (hn : n < 16777216) (f : Int → Int × Int)
    (hs : ∀ (i : Nat) (H : Hp) (Q : VK), i < n → (∀ p, H p = none → Q (.ref p) (upd H p (.tup [.int (f (lo + (i : Int))).1, .int (f (lo + (i : Int))).2]))) → te ((σ.set j none).set j (some (.int (lo + (i : Int))))) H Q)
    (hd : ∀ H' ts, Same H1 H' → H' D = some (.lst (ts.map V.ref)) → PairsAt H' ts (fam lo n f) → Qd H') :
    ∃ W : Nat → Nat → Hp → Prop, (∃ m, W 0 m (upd H1 D (.lst []))) ∧ ∀ i m H, W i m H →
      ((Itr lo n).stop i H ∧ Qd H) ∨ ((Itr lo n).go i H ∧ ∃ Nx : Hp → Prop, (∀ H', Nx H' → ∃ m', m' < m ∧ W (i + 1) m' H') ∧ ∀ x H', (Itr lo n).yld i H x H' → gName j x (wipe σ [j]) H' fun σ2 H2 => wipe σ2 [j] = wipe σ [j] ∧ tYes σ2 H2 fun b H3 =>
        if b = true then te σ2 H3 fun y H4 => ∃ acc, H4 D = some (.lst acc) ∧ acc.length < sizeLine ∧ Nx (upd H4 D (.lst (acc ++ [y]))) else Nx H3) := by
  refine lc_range (fun i H' => ∃ ts, Same H1 H' ∧ H' D = some (.lst (ts.map V.ref)) ∧ PairsAt H' ts (fam lo i f)) ⟨[], same_upd nD, upd_same, .nil⟩ ?_ ?_
  · rintro i H hi ⟨ts, s1, e1, p1⟩
    refine ⟨?_, ?_⟩
    · show ((σ.set j none).set j (some (V.int (lo + (i : Int))))).set j none = σ.set j none
      rw [List.set_set, List.set_set]
    refine iteT (B := ∃ ts, Same H1 H ∧ H D = some (HO.lst (List.map V.ref ts)) ∧ PairsAt H ts (fam lo (i + 1) f)) ?_
    refine hs i H _ hi fun p np => ?_
    refine ⟨ts.map V.ref, ?_, ?_, ts ++ [p], ?_, ?_, ?_⟩
    · have nDp : D ≠ p := ne_of_none e1 np
      rw [upd_ne nDp]
      exact e1
    · rw [List.length_map, p1.1, fam_length]
      exact smaller (by omega)
    · exact (s1.new np).own nD
    · rw [upd_same, List.map_append]
      rfl
    · rw [fam_succ]
      have nDp : p ≠ D := fun e => by
        rw [e, e1] at np
        cases np
      have nt : ∀ {t : Addr} {q : Int × Int}, H t = some (.tup [.int q.1, .int q.2]) → t ≠ D := fun h e => by
        rw [e, e1] at h
        cases h
      refine PairsAt.append ⟨p1.1, fun k t q h1 h2 => ?_⟩ (.one ?_)
      · have h3 := p1.2 k t q h1 h2
        rw [upd_ne (nt h3), upd_ne (ne_of_none h3 np)]
        exact h3
      · rw [upd_ne nDp, upd_same]
  · rintro H ⟨ts, s1, e1, p1⟩
    exact hd H ts s1 e1 p1
/-- [0 for k in range(n)] -/
theorem lc_noughts {n j : Nat} {σ : L2.St} {H1 : Hp} {D : Addr} {Qd : Hp → Prop} (hn : n < 16777216) (hd : Qd (upd H1 D (.lst ((List.replicate n (0 : Int)).map V.int)))) :
    ∃ W : Nat → Nat → Hp → Prop, (∃ m, W 0 m (upd H1 D (.lst []))) ∧ ∀ i m H, W i m H →
      ((Itr 0 n).stop i H ∧ Qd H) ∨ ((Itr 0 n).go i H ∧ ∃ Nx : Hp → Prop, (∀ H', Nx H' → ∃ m', m' < m ∧ W (i + 1) m' H') ∧ ∀ x H', (Itr 0 n).yld i H x H' → gName j x (wipe σ [j]) H' fun σ2 H2 => wipe σ2 [j] = wipe σ [j] ∧ tYes σ2 H2 fun b H3 =>
        if b = true then tC (.int 0) σ2 H3 fun y H4 => ∃ acc, H4 D = some (.lst acc) ∧ acc.length < sizeLine ∧ Nx (upd H4 D (.lst (acc ++ [y]))) else Nx H3) := by
  refine lc_range (lo := 0) (fun i H' => H' = upd H1 D (.lst ((List.replicate i (0 : Int)).map V.int))) rfl ?_ ?_
  · rintro i H hi rfl
    refine ⟨?_, iteT (B := upd H1 D (HO.lst (List.map V.int (List.replicate i (0 : Int)))) = upd H1 D (HO.lst (List.map V.int (List.replicate (i + 1) (0 : Int))))) ⟨_, upd_same, ?_, ?_⟩⟩
    · show ((σ.set j none).set j (some (V.int (0 + (i : Int))))).set j none = σ.set j none
      rw [List.set_set, List.set_set]
    · rw [List.length_map, List.length_replicate]
      exact smaller (by omega)
    · rw [upd_upd, List.replicate_succ', List.map_append]
      rfl
  · rintro H rfl
    exact hd
/-- a place that set_list asks -/
theorem ixN_at {n : Nat} {i : Int} (h0 : 0 ≤ i) (h1 : i < n) : ixN n i = some i.toNat := by
  unfold ixN
  rw [if_pos h0, if_pos h1]
theorem set_ints (ns : List Int) (j : Nat) (x : Int) : (ns.map V.int).set j (.int x) = (ns.set j x).map V.int := by
  rw [List.map_set]

/-! ### tuples of ints in a list -/
/-- at ts stand tuples of the ints Ls -/
def TupsAt (H : Hp) (ts : List Addr) (Ls : List (List Int)) : Prop := ts.length = Ls.length ∧ ∀ (i : Nat) (t : Addr) (L : List Int), ts[i]? = some t → Ls[i]? = some L → H t = some (.tup (L.map V.int))
theorem TupsAt.keep {H H' : Hp} {ts : List Addr} {Ls : List (List Int)} (h : TupsAt H ts Ls) (s : Same H H') : TupsAt H' ts Ls := ⟨h.1, fun i t q h1 h2 => s _ _ (h.2 i t q h1 h2)⟩
theorem TupsAt.tail {H : Hp} {t : Addr} {ts : List Addr} {L : List Int} {Ls : List (List Int)} (h : TupsAt H (t :: ts) (L :: Ls)) : TupsAt H ts Ls :=
  ⟨by have := h.1; simpa using this, fun i u M h1 h2 => h.2 (i + 1) u M (by simpa using h1) (by simpa using h2)⟩
theorem PairsAt.tups {H : Hp} {ts : List Addr} {ps : List (Int × Int)} (h : PairsAt H ts ps) : TupsAt H ts (ps.map fun q => [q.1, q.2]) := by
  refine ⟨by rw [List.length_map]; exact h.1, fun i t L h1 h2 => ?_⟩
  rw [List.getElem?_map] at h2
  cases e : ps[i]? with
  | none =>
    rw [e] at h2
    cases h2
  | some q =>
    rw [e] at h2
    cases h2
    exact h.2 i t q h1 e
theorem PairsAt.set {H : Hp} {ts : List Addr} {ps : List (Int × Int)} {j : Nat} {t : Addr} {q : Int × Int} (h : PairsAt H ts ps) (ht : H t = some (.tup [.int q.1, .int q.2])) : PairsAt H (ts.set j t) (ps.set j q) := by
  refine ⟨by rw [List.length_set, List.length_set]; exact h.1, fun i u r h1 h2 => ?_⟩
  rw [List.getElem?_set] at h1 h2
  by_cases e : j = i
  · rw [if_pos e] at h1 h2
    split at h1
    · split at h2
      · cases h1
        cases h2
        exact ht
      · cases h2
    · cases h1
  · rw [if_neg e] at h1 h2
    exact h.2 i u r h1 h2
section
variable {K : PySem.W.Frag} {H : Hp}
def dataT (Ls : List (List Int)) : List PyData := Ls.map fun L => .tuple (L.map PyData.int)
theorem dpAll_tups : ∀ {ts : List Addr} {Ls : List (List Int)}, TupsAt H ts Ls → DpAll K H (ts.map V.ref) (dataT Ls)
  | [], [], _ => .nil
  | [], _ :: _, h => by have := h.1; simp at this
  | _ :: _, [], h => by have := h.1; simp at this
  | t :: ts, L :: Ls, h => .cons (dp_tup (SqT.of (h.2 0 t L rfl rfl))) (dpAll_tups h.tail)
theorem dp_tups {a : Addr} {ts : List Addr} {Ls : List (List Int)} (h : SqL K H a (ts.map V.ref)) (g : TupsAt H ts Ls) : Dp K H (.ref a) (.list (dataT Ls)) := .lst h (dpAll_tups g)
end
theorem lay_tups : ∀ Ls : List (List Int), PyData.canLayAll0 (dataT Ls) = true
  | [] => by simp [dataT, PyData.canLayAll0]
  | L :: r => by
    have ih := lay_tups r
    unfold dataT at ih
    simp [dataT, PyData.canLayAll0, PyData.canLay0, lay_ints L, ih]
theorem depth_tups : ∀ Ls : List (List Int), PyData.depthAll (dataT Ls) ≤ 1
  | [] => by simp [dataT, PyData.depthAll]
  | L :: r => by
    have ih := depth_tups r
    unfold dataT at ih
    simp [dataT, PyData.depthAll, PyData.depth, depth_ints L]
    omega
theorem shaped_tups (Ls : List (List Int)) : SeqAt.shaped (.list (dataT Ls)) = true := by
  show (PyData.canLay0 (.list (dataT Ls)) && decide (PyData.depth (.list (dataT Ls)) ≤ 64)) = true
  have h1 := lay_tups Ls
  have h2 := depth_tups Ls
  simp only [PyData.canLay0, PyData.depth, h1, Bool.true_and]
  exact decide_eq_true (by omega)
theorem eqvAll_tups : ∀ xs ys : List (List Int), PyData.eqvAll (dataT xs) (dataT ys) = decide (xs = ys)
  | [], [] => by simp [dataT, PyData.eqvAll]
  | [], _ :: _ => by simp [dataT, PyData.eqvAll]
  | _ :: _, [] => by simp [dataT, PyData.eqvAll]
  | x :: xs, y :: ys => by
    have ih := eqvAll_tups xs ys
    unfold dataT at ih ⊢
    simp only [List.map_cons, PyData.eqvAll, PyData.eqv, ih, List.cons.injEq, eqvAll_ints]
    by_cases h : x = y <;> simp [h]
theorem eqD_tlists {K : PySem.W.Frag} {H : Hp} {Q : VK} {a b : Addr} {ts us : List Addr} {xs ys : List (List Int)} (ha : SqL K H a (ts.map V.ref)) (ga : TupsAt H ts xs) (hb : SqL K H b (us.map V.ref)) (gb : TupsAt H us ys) (q : Q (.bl (decide (xs = ys))) H) : rEqD K (.ref a) (.ref b) H Q :=
  ⟨_, _, dp_tups ha ga, dp_tups hb gb, shaped_tups _, shaped_tups _, by simp only [PyData.eqv, eqvAll_tups]; exact q⟩
theorem neD_tlists {K : PySem.W.Frag} {H : Hp} {Q : VK} {a b : Addr} {ts us : List Addr} {xs ys : List (List Int)} (ha : SqL K H a (ts.map V.ref)) (ga : TupsAt H ts xs) (hb : SqL K H b (us.map V.ref)) (gb : TupsAt H us ys) (q : Q (.bl (!decide (xs = ys))) H) : rNeD K (.ref a) (.ref b) H Q :=
  ⟨_, _, dp_tups ha ga, dp_tups hb gb, shaped_tups _, shaped_tups _, by simp only [PyData.eqv, eqvAll_tups]; exact q⟩

-- IMPORT KE.LtSeq
-- IMPORT HandS.NamedTupSort
/-! ### sorted of lists of ints, any number of them -/
end Sa
namespace LsL
open PySem PySem.W PySem.Calls PyProof.Rows Builtin SeqAt
/-- v is a list of these ints -/
def IsLI (h : Heap) (v : Value) (ns : List Int) : Prop := ∃ (a : Addr) (o : Obj) (items : Array Value) (n : Nat), v = .ref a ∧ h.get? a = some o ∧ o.cls = .type "list" ∧ o.data = .seq items n ∧ IntsAre items.toList ns
def eqI (ns ms : List Int) (j : Nat) : Bool := ns.getD j 0 == ms.getD j 0
def ltI (ns ms : List Int) (j : Nat) : Bool := decide (ns.getD j 0 < ms.getD j 0)
theorem firstLt_shift (e r : Nat → Bool) (fin : Bool) : ∀ l : List Nat, firstLt e r fin (l.map (· + 1)) = firstLt (fun j => e (j + 1)) (fun j => r (j + 1)) fin l
  | [] => rfl
  | j :: l => by
    show (if e (j + 1) = true then firstLt e r fin (l.map (· + 1)) else r (j + 1)) = _
    rw [firstLt_shift e r fin l]
    rfl
theorem lex_first : ∀ ns ms : List Int, firstLt (eqI ns ms) (ltI ns ms) (decide (ns.length < ms.length)) (List.range (min ns.length ms.length)) = HT.lexLt ns ms
  | [], [] => by rw [HT.lexLt_nil_nil]; rfl
  | [], m :: ms => by rw [HT.lexLt_nil_cons, List.length_nil, Nat.zero_min]; exact decide_eq_true (by simp)
  | n :: ns, [] => by rw [HT.lexLt_cons_nil, List.length_nil, Nat.min_zero]; exact decide_eq_false (by simp)
  | n :: ns, m :: ms => by
    rw [HT.lexLt_cons, List.length_cons, List.length_cons, Nat.succ_min_succ, List.range_succ_eq_map]
    have hl : decide (ns.length + 1 < ms.length + 1) = decide (ns.length < ms.length) := by
      rw [decide_eq_decide]
      omega
    rw [hl]
    by_cases c : n = m
    · rw [if_pos c, firstLt_yes (show eqI (n :: ns) (m :: ms) 0 = true from by unfold eqI; simp [c])]
      have h1 := firstLt_shift (eqI (n :: ns) (m :: ms)) (ltI (n :: ns) (m :: ms)) (decide (ns.length < ms.length)) (List.range (min ns.length ms.length))
      exact h1.trans (lex_first ns ms)
    · rw [if_neg c, firstLt_no (show eqI (n :: ns) (m :: ms) 0 = false from by unfold eqI; simp [c])]
      rfl
theorem nth_ints : ∀ {vs : List Value} {ns : List Int}, IntsAre vs ns → ∀ (j : Nat) (h : j < vs.length), ∃ t, vs[j] = Value.int (ns.getD j 0) t
  | _, _, .nil, j, h => absurd h (by simp)
  | _, _, .cons n t r, 0, h => ⟨t, rfl⟩
  | _, _, .cons n t r, j + 1, h => nth_ints r j (by simpa using h)
section
variable {prog : Program} {w : World} {A : Around} {E : Value → Shared → Prop} {s : Shared}
theorem one_lt {a b : Value} {ns ms : List Int} {Q : Bool → Shared → Prop} (h1 : IsLI s.heap a ns) (h2 : IsLI s.heap b ms) (hu : A.units < cLine) (hq : Q (HT.lexLt ns ms) s) : wpAny (model prog w) A (oneLt' true a b) Q E s := by
  obtain ⟨l, o, items, n, rfl, g1, c1, d1, i1⟩ := h1
  obtain ⟨l', o', items', n', rfl, g2, c2, d2, i2⟩ := h2
  have n1 : items.size = ns.length := by rw [← i1.length, Array.length_toList]
  have n2 : items'.size = ms.length := by rw [← i2.length, Array.length_toList]
  rw [oneLt'_eq]
  simp only [if_true]
  refine wpAny_bind (wpAny_cRoomFor hu ?_)
  refine wpAny_bind (wpAny_callSpecialIfBound?_slot (T := "list") ⟨_, g1, c1⟩ PySem.F.slot_list_lt (call_list_lt (e := eqI ns ms) (r := ltI ns ms) ⟨_, g1, c1, _, d1⟩ ⟨_, g2, c2, _, d2⟩ (fun j j1 j2 => ?_) (fun j j1 j2 hj => ?_) ?_))
  · obtain ⟨t, e1⟩ := nth_ints i1 j (by simpa using j1)
    obtain ⟨u, e2⟩ := nth_ints i2 j (by simpa using j2)
    rw [Array.getElem_toList] at e1 e2
    rw [e1, e2]
    exact SeqAt.EqAt.int_int _ _ _ _
  · obtain ⟨t, e1⟩ := nth_ints i1 j (by simpa using j1)
    obtain ⟨u, e2⟩ := nth_ints i2 j (by simpa using j2)
    rw [Array.getElem_toList] at e1 e2
    rw [e1, e2]
    exact fun prog w E Q h => PyProof.Rows.lt_int h
  · rw [n1, n2, lex_first]
    exact wpAny_truthy_bool hq
theorem lists_cmp {vs : List Value} {k : Value → List Int} (hu : A.units < cLine) (hp : ∀ v ∈ vs, IsLI s.heap v (k v)) : SrtO.Cmp prog w A s oneType' (fun p => p.1 ∈ vs) (SrtO.lt2 fun v u => HT.lexLt (k v) (k u)) := by
  intro p q hm hm'
  show wpAny (model prog w) A (keyLt' oneType' p.1 q.1) (fun r s' => s' = s ∧ r = HT.lexLt (k p.1) (k q.1)) (fun _ _ => False) s
  rw [keyLt'_oneType]
  exact one_lt (hp _ hm) (hp _ hm') hu ⟨rfl, rfl⟩
theorem lists_sortable {a : Addr} {vs : List Value} {k : Value → List Int} (h2 : 2 ≤ vs.length) (hu : A.units < cLine) (hp : ∀ v ∈ vs, IsLI s.heap v (k v)) (ha : ∀ v ∈ vs, v ≠ .ref a) : SrtO.SortableO prog w A s a vs fun v u => HT.lexLt (k v) (k u) := by
  intro h' keep
  have hp' : ∀ v ∈ vs, IsLI h' v (k v) := fun v hm => by
    obtain ⟨b, o, items, n, e, g, c, d, i⟩ := hp v hm
    exact ⟨b, o, items, n, e, keep b o (fun z => ha v hm (by rw [e, z])) g, c, d, i⟩
  refine ⟨oneType', fun Q E hq => ?_, lists_cmp (s := { s with heap := h' }) hu hp'⟩
  refine PySem.W.kas_kind (s := { s with heap := h' }) (T := .type "list") h2 (fun v hm => ?_) (by first | decide +kernel | rfl | decide) (by first | decide +kernel | rfl | decide) hq
  obtain ⟨b, o, items, n, rfl, g, c, d, i⟩ := hp' v hm
  exact fun A Q E s' kk q => wpAny_typeOf_ref (kk _ _ g) (by rw [c]; exact q)
end
end LsL
namespace Sa
open PySem PySem.Spec PyProof.Rows L2
/-- sorted(xs), xs a list of lists of ints -/
def rSortedLs (K : PySem.W.Frag) : List V → Hp → VK → Prop := fun vs H Q => ∃ (a : Addr) (ts : List Addr) (k : Addr → List Int), vs = [V.ref a] ∧ SqL K H a (ts.map V.ref) ∧ (∀ t ∈ ts, H t = some (.lst ((k t).map V.int))) ∧
  ∀ (ts' : List Addr) (p : Addr), ts'.Perm ts → ts'.Pairwise (fun p q => HT.lexLt (k q) (k p) = false) → H p = none → Q (.ref p) (upd H p (.lst (ts'.map V.ref)))
section
variable {X : Cx}
theorem cr_sortedLs (hu : X.A.units + 64 < cLine) : CallR X (.builtin "sorted") (rSortedLs X.K) := by
  intro pins s σ H vs us Q I r h
  obtain ⟨a, ts, k, rfl, hs, hx, q⟩ := h
  obtain ⟨its, rv, hl, hz⟩ := I.list hs
  obtain ⟨u, rfl, ru⟩ := vals1 r
  obtain rfl : u = Value.ref a := ru
  have ei := nts_of rv
  have hv : ∀ u ∈ its, LsL.IsLI s.heap u (k (adO u)) := fun u hm => by
    rw [ei] at hm
    obtain ⟨t, ht, rfl⟩ := List.mem_map.mp hm
    have e := hx t ht
    obtain ⟨_, its2, n, r2, ho⟩ := I.hok _ _ e
    exact ⟨t, _, its2.toArray, n, rfl, ho, rfl, rfl, (show IntsAre its2.toArray.toList (k t) by simpa using r2.ints)⟩
  refine SrtO.sorted_ord (NtL.swo_lexL fun u => k (adO u)) hl.isList (by rw [← rv.length]; exact hz) (fun h2 h₁ a' ha' kk => ?_) fun out h1 h2 => ?_
  · refine LsL.lists_sortable (s := { s with heap := h₁ }) h2 (by show X.A.units + 1 + 1 < cLine; omega) (fun v hm => ?_) fun v hm e => ?_
    · obtain ⟨b, o, items, n, e, g, c, d, i⟩ := hv v hm
      exact ⟨b, o, items, n, e, (kk b o g).2, c, d, i⟩
    · obtain ⟨b, o, items, n, e', g, c, d, i⟩ := hv v hm
      rw [e'] at e
      exact (kk b o g).1 (Value.ref.inj e)
  · obtain ⟨ep, he'⟩ := PyProof.Rows.sortedAll_at s.heap its out.toArray
    have eo : out = (out.map adO).map Value.ref := ref_map fun u hm => by
      have hm' : u ∈ its := h2.perm.mem_iff.mp hm
      rw [ei] at hm'
      obtain ⟨t, _, e⟩ := List.mem_map.mp hm'
      exact ⟨t, e.symm⟩
    have hp : (out.map adO).Perm ts := by
      have p1 := h2.perm.map adO
      rw [ei, ad_map] at p1
      exact p1
    have hso : (out.map adO).Pairwise (fun p q => HT.lexLt (k q) (k p) = false) := List.pairwise_map.mpr (h1.imp fun {x y} z => z)
    have hlen : ((out.map adO).map V.ref).length ≤ sizeLine := by
      rw [List.length_map, hp.length_eq]
      rw [List.length_map] at hz
      exact hz
    have rvo : Vals ((out.map adO).map V.ref) out := by
      have z := of_nts (out.map adO)
      rw [← eo] at z
      exact z
    exact ⟨.ref _, upd H (s.heap.objs.size + 1) (.lst ((out.map adO).map V.ref)), I.laid (t' := s.toks) (fun _ _ => PyProof.Rows.sortedAll_old) (Nat.le_succ _) ⟨hlen, out, ep, rvo, he'⟩, rfl, q _ _ hp hso (I.hok.fresh (Nat.le_succ _))⟩
end

-- IMPORT HandS.NamedTupSort
/-! ### sorted of tuples of ints, any number of them -/
end Sa
namespace TL
open PySem PySem.W PySem.Calls PyProof.Rows Builtin
/-- v is a tuple of these ints -/
def IsTI (h : Heap) (v : Value) (ns : List Int) : Prop := ∃ (a : Addr) (o : Obj) (items : Array Value) (n : Nat), v = .ref a ∧ h.get? a = some o ∧ o.cls = .type "tuple" ∧ o.data = .seq items n ∧ IntsAre items.toList ns
theorem IsTI.keeps {h h' : Heap} {v : Value} {ns : List Int} (x : IsTI h v ns) (k : ∀ b o, v = .ref b → h.get? b = some o → o.cls = .type "tuple" → h'.get? b = some o) : IsTI h' v ns := by
  obtain ⟨a, o, items, n, e, g, c, d, i⟩ := x
  exact ⟨a, o, items, n, e, k _ _ e g c, c, d, i⟩
section
variable {prog : Program} {w : World} {A : Around} {E : Value → Shared → Prop} {s : Shared}
theorem lex_go {b : Bool} {sx sy : Nat} {Q : Bool → Shared → Prop} : ∀ (xs ys : List Value) (ns ms : List Int) (i : Nat), IntsAre xs ns → IntsAre ys ms → ns.length + sy = ms.length + sx → Q (HT.lexLt ns ms) s → KatLex prog w A b (decide (sx < sy)) Q (xs.zip ys) i s
  | _, _, _, _, i, .nil, .nil, hl, h => by
    rw [HT.lexLt_nil_nil] at h
    rw [show decide (sx < sy) = false from decide_eq_false (by simp at hl; omega)]
    exact kat_nil h
  | _, _, _, _, i, .nil, .cons m u r, hl, h => by
    rw [HT.lexLt_nil_cons] at h
    rw [show decide (sx < sy) = true from decide_eq_true (by simp at hl; omega)]
    exact kat_nil h
  | _, _, _, _, i, .cons n t q, .nil, hl, h => by
    rw [HT.lexLt_cons_nil] at h
    rw [show decide (sx < sy) = false from decide_eq_false (by simp at hl; omega)]
    exact kat_nil h
  | _, _, _, _, i, .cons n t q, .cons m u r, hl, h => by
    rw [HT.lexLt_cons] at h
    rw [List.zip_cons_cons]
    refine kat_cons (SeqAt.EqAt.int_int n t m u prog w _ _ ?_)
    refine kat_go (fun e => ?_) (fun e => ?_)
    · have ex : n = m := by simpa using e
      rw [if_pos ex] at h
      exact kat_yes (lex_go _ _ _ _ (i + 1) q r (by simp at hl; omega) h)
    · have ex : ¬ n = m := by simpa using e
      rw [if_neg ex] at h
      refine kat_no ?_
      cases (b && i == 0) with
      | true => exact oneLt_int h
      | false => exact kat_one _ _ (PyProof.Rows.lt_int h)
theorem tups_cmp {vs : List Value} {k : Value → List Int} (hp : ∀ v ∈ vs, IsTI s.heap v (k v)) : SrtO.Cmp prog w A s (tuples' true) (fun p => p.1 ∈ vs) (SrtO.lt2 fun v u => HT.lexLt (k v) (k u)) := by
  intro p q hm hm'
  have h1 := hp _ hm
  have h2 := hp _ hm'
  show wpAny (model prog w) A (keyLt' (tuples' true) p.1 q.1) (fun r s' => s' = s ∧ r = HT.lexLt (k p.1) (k q.1)) (fun _ _ => False) s
  generalize k p.1 = ns at h1 ⊢
  generalize k q.1 = ms at h2 ⊢
  obtain ⟨a, o, items, n, e, ho, hc, hd, hi⟩ := h1
  obtain ⟨a', o', items', n', e', ho', hc', hd', hi'⟩ := h2
  rw [e, e']
  have l1 := hi.length
  have l2 := hi'.length
  rw [Array.length_toList] at l1 l2
  exact kat_lt ho hd ho' hd' (lex_go (Q := fun r s' => s' = s ∧ r = HT.lexLt ns ms) _ _ ns ms 0 hi hi' (by omega) ⟨rfl, rfl⟩)
theorem firsts_ti {h : Heap} : ∀ {vs : List Value}, (∀ v ∈ vs, ∃ ns, IsTI h v ns ∧ ns ≠ []) → ∃ fs, KatTups h vs fs ∧ fs.length = vs.length ∧ ∀ f ∈ fs, ∃ x t, f = Value.int x t
  | [], _ => ⟨[], KatTups.nil, rfl, fun f h => by simp at h⟩
  | v :: vs, hv => by
    obtain ⟨fs, h1, h2, h3⟩ := firsts_ti fun u hu => hv u (List.mem_cons_of_mem _ hu)
    obtain ⟨ns, ⟨a, o, items, n, rfl, ho, hc, hd, hi⟩, hne⟩ := hv v List.mem_cons_self
    obtain ⟨items⟩ := items
    cases hi with
    | nil => exact absurd rfl hne
    | cons x t r => exact ⟨Value.int x t :: fs, KatTups.cons ho hc hd rfl h1, by rw [List.length_cons, List.length_cons, h2], fun f hf => by
        rcases List.mem_cons.mp hf with rfl | hf
        · exact ⟨x, t, rfl⟩
        · exact h3 f hf⟩
theorem tups_sortable {a : Addr} {vs : List Value} {k : Value → List Int} (h0 : 0 < vs.length) (hp : ∀ v ∈ vs, IsTI s.heap v (k v) ∧ k v ≠ []) (ha : ∀ o, s.heap.get? a = some o → o.cls ≠ .type "tuple") : SrtO.SortableO prog w A s a vs fun v u => HT.lexLt (k v) (k u) := by
  intro h' keep
  have hp' : ∀ v ∈ vs, IsTI h' v (k v) := fun v hm => (hp v hm).1.keeps fun b o _ e c => keep b o (fun z => by subst z; exact ha o e c) e
  obtain ⟨fs, h1, h2, h3⟩ := firsts_ti fun v hm => ⟨_, hp' v hm, (hp v hm).2⟩
  refine ⟨tuples' true, fun Q E hq => ?_, tups_cmp (s := { s with heap := h' }) hp'⟩
  refine kat_kind (s := { s with heap := h' }) (T := .type "int") h1 (by omega) (fun f hm => ?_) (by rfl) ?_
  · obtain ⟨x, t, rfl⟩ := h3 f hm
    exact Looks.now
  · have e : (Value.type "int" != Value.type "tuple") = true := by first | decide +kernel | rfl | decide
    rw [e]
    exact hq
end
end TL
namespace Sa
open PySem PySem.Spec PyProof.Rows L2
/-- sorted(xs), xs a list of tuples of ints -/
def rSortedU (K : PySem.W.Frag) : List V → Hp → VK → Prop := fun vs H Q => ∃ (a : Addr) (ts : List Addr) (k : Addr → List Int), vs = [V.ref a] ∧ SqL K H a (ts.map V.ref) ∧ (∀ t ∈ ts, H t = some (.tup ((k t).map V.int)) ∧ k t ≠ []) ∧
  ∀ (ts' : List Addr) (p : Addr), ts'.Perm ts → ts'.Pairwise (fun p q => HT.lexLt (k q) (k p) = false) → H p = none → Q (.ref p) (upd H p (.lst (ts'.map V.ref)))
section
variable {X : Cx}
theorem cr_sortedU : CallR X (.builtin "sorted") (rSortedU X.K) := by
  intro pins s σ H vs us Q I r h
  obtain ⟨a, ts, k, rfl, hs, hx, q⟩ := h
  obtain ⟨its, rv, hl, hz⟩ := I.list hs
  obtain ⟨u, rfl, ru⟩ := vals1 r
  obtain rfl : u = Value.ref a := ru
  have ei := nts_of rv
  have hv : ∀ u ∈ its, TL.IsTI s.heap u (k (adO u)) ∧ k (adO u) ≠ [] := fun u hm => by
    rw [ei] at hm
    obtain ⟨t, ht, rfl⟩ := List.mem_map.mp hm
    obtain ⟨e, ne⟩ := hx t ht
    obtain ⟨_, its2, r2, o, ho, hc, n, hd⟩ := I.hok _ _ e
    exact ⟨⟨t, o, its2.toArray, n, rfl, ho, hc, hd, (show IntsAre its2.toArray.toList (k t) by simpa using r2.ints)⟩, ne⟩
  refine SrtO.sorted_ord (NtL.swo_lexL fun u => k (adO u)) hl.isList (by rw [← rv.length]; exact hz) (fun h2 h₁ a' ha' kk => ?_) fun out h1 h2 => ?_
  · refine TL.tups_sortable (s := { s with heap := h₁ }) (by omega) (fun v hm => ⟨(hv v hm).1.keeps fun b o _ e _ => (kk b o e).2, (hv v hm).2⟩) fun o e => ?_
    have e' : some o = some (seqObj "list" its.toArray 0) := e.symm.trans ha'
    cases e'
    intro c
    exact absurd (Value.type.inj c) (by decide)
  · obtain ⟨ep, he'⟩ := PyProof.Rows.sortedAll_at s.heap its out.toArray
    have eo : out = (out.map adO).map Value.ref := ref_map fun u hm => by
      have hm' : u ∈ its := h2.perm.mem_iff.mp hm
      rw [ei] at hm'
      obtain ⟨t, _, e⟩ := List.mem_map.mp hm'
      exact ⟨t, e.symm⟩
    have hp : (out.map adO).Perm ts := by
      have p1 := h2.perm.map adO
      rw [ei, ad_map] at p1
      exact p1
    have hso : (out.map adO).Pairwise (fun p q => HT.lexLt (k q) (k p) = false) := List.pairwise_map.mpr (h1.imp fun {x y} z => z)
    have hlen : ((out.map adO).map V.ref).length ≤ sizeLine := by
      rw [List.length_map, hp.length_eq]
      rw [List.length_map] at hz
      exact hz
    have rvo : Vals ((out.map adO).map V.ref) out := by
      have z := of_nts (out.map adO)
      rw [← eo] at z
      exact z
    exact ⟨.ref _, upd H (s.heap.objs.size + 1) (.lst ((out.map adO).map V.ref)), I.laid (t' := s.toks) (fun _ _ => PyProof.Rows.sortedAll_old) (Nat.le_succ _) ⟨hlen, out, ep, rvo, he'⟩, rfl, q _ _ hp hso (I.hok.fresh (Nat.le_succ _))⟩
end

-- IMPORT HandS.Conv
/-! ### sorted lists of tuples of ints -/
theorem lex_tri : ∀ xs ys : List Int, HT.lexLt xs ys = false → HT.lexLt ys xs = false → xs = ys
  | [], [], _, _ => rfl
  | [], _ :: _, h, _ => by rw [HT.lexLt_nil_cons] at h; cases h
  | _ :: _, [], _, h => by rw [HT.lexLt_nil_cons] at h; cases h
  | x :: xs, y :: ys, h1, h2 => by
    rw [HT.lexLt_cons] at h1 h2
    by_cases e : x = y
    · rw [if_pos e] at h1
      rw [if_pos e.symm] at h2
      rw [e, lex_tri xs ys h1 h2]
    · rw [if_neg e] at h1
      rw [if_neg (Ne.symm e)] at h2
      have a := of_decide_eq_false h1
      have b := of_decide_eq_false h2
      omega
/-- strictly rising -/
abbrev Rising (Ls : List (List Int)) : Prop := Ls.Pairwise fun x y => HT.lexLt x y = true
theorem rising_of {Ls : List (List Int)} (nd : Ls.Nodup) (h : Ls.Pairwise fun x y => HT.lexLt y x = false) : Rising Ls := by
  refine (nd.and h).imp fun {x y} z => ?_
  obtain ⟨ne, z⟩ := z
  cases e : HT.lexLt x y with
  | true => rfl
  | false => exact absurd (lex_tri x y e z) ne
theorem rising_nodup {Ls : List (List Int)} (h : Rising Ls) : Ls.Nodup := h.imp fun {x y} z e => by
  subst e
  have := NtL.lex_asym _ _ z
  rw [z] at this
  cases this
theorem rising_uniq {Ls Ms : List (List Int)} (h1 : Rising Ls) (h2 : Rising Ms) (p : Ls.Perm Ms) : Ls = Ms :=
  p.eq_of_pairwise (le := fun x y => HT.lexLt y x = false) (fun x y _ _ h1 h2 => lex_tri x y h2 h1) (h1.imp fun {x y} z => NtL.lex_asym _ _ z) (h2.imp fun {x y} z => NtL.lex_asym _ _ z)
def intOf : V → Int
  | .int i => i
  | _ => 0
theorem intOf_map (L : List Int) : (L.map V.int).map intOf = L := by
  rw [List.map_map]
  exact (List.map_congr_left fun _ _ => rfl).trans (List.map_id L)
/-- the ints of the tuple at t -/
def rdT (H : Hp) (t : Addr) : List Int := match H t with
  | some (.tup xs) => xs.map intOf
  | _ => []
theorem rdT_of {H : Hp} {t : Addr} {L : List Int} (h : H t = some (.tup (L.map V.int))) : rdT H t = L := by
  unfold rdT
  rw [h]
  exact intOf_map L
theorem TupsAt.rd : ∀ {H : Hp} {ts : List Addr} {Ls : List (List Int)}, TupsAt H ts Ls → ts.map (rdT H) = Ls
  | _, [], [], _ => rfl
  | _, [], _ :: _, h => by have := h.1; simp at this
  | _, _ :: _, [], h => by have := h.1; simp at this
  | H, t :: ts, L :: Ls, h => by
    rw [List.map_cons, rdT_of (h.2 0 t L rfl rfl), TupsAt.rd h.tail]
theorem TupsAt.at {H : Hp} {ts : List Addr} {Ls : List (List Int)} (h : TupsAt H ts Ls) {t : Addr} (ht : t ∈ ts) : ∃ L, L ∈ Ls ∧ H t = some (.tup (L.map V.int)) ∧ rdT H t = L := by
  obtain ⟨i, hi⟩ := List.getElem?_of_mem ht
  have hl := (List.getElem?_eq_some_iff.mp hi).1
  rw [h.1] at hl
  have e := h.2 i t _ hi (List.getElem?_eq_getElem hl)
  exact ⟨_, List.getElem_mem hl, e, rdT_of e⟩
theorem tupsAt_of {H : Hp} {ts : List Addr} (h : ∀ t ∈ ts, H t = some (.tup ((rdT H t).map V.int))) : TupsAt H ts (ts.map (rdT H)) := by
  refine ⟨by rw [List.length_map], fun i t L h1 h2 => ?_⟩
  rw [List.getElem?_map, h1] at h2
  cases h2
  exact h t (List.mem_of_getElem? h1)
theorem TupsAt.get {H : Hp} {ts : List Addr} {Ls : List (List Int)} (h : TupsAt H ts Ls) {i : Nat} {y : V} (hy : (ts.map V.ref)[i]? = some y) : ∃ t L, y = .ref t ∧ Ls[i]? = some L ∧ H t = some (.tup (L.map V.int)) := by
  rw [List.getElem?_map] at hy
  cases e : ts[i]? with
  | none =>
    rw [e] at hy
    cases hy
  | some t =>
    rw [e] at hy
    have hi := (List.getElem?_eq_some_iff.mp e).1
    rw [h.1] at hi
    exact ⟨t, Ls[i], (Option.some.inj hy).symm, List.getElem?_eq_getElem hi, h.2 i t _ e (List.getElem?_eq_getElem hi)⟩
theorem tups_before {H : Hp} {ts : List Addr} {Ls : List (List Int)} (hT : TupsAt H ts Ls) (ne : ∀ L ∈ Ls, L ≠ []) : ∀ t ∈ ts, H t = some (.tup ((rdT H t).map V.int)) ∧ rdT H t ≠ [] := fun t ht => by
  obtain ⟨L, hL, e, r⟩ := hT.at ht
  rw [r]
  exact ⟨e, ne L hL⟩
theorem tups_after {H : Hp} {ts ts' : List Addr} {Ls : List (List Int)} (hT : TupsAt H ts Ls) (nd : Ls.Nodup) (hp : ts'.Perm ts) (hs : ts'.Pairwise (fun p q => HT.lexLt (rdT H q) (rdT H p) = false)) : ∃ Ls', TupsAt H ts' Ls' ∧ Ls'.Perm Ls ∧ Rising Ls' := by
  have hT' : TupsAt H ts' (ts'.map (rdT H)) := tupsAt_of fun t ht => by
    obtain ⟨L, hL, e, r⟩ := hT.at (hp.mem_iff.mp ht)
    rw [r]
    exact e
  have pm : (ts'.map (rdT H)).Perm Ls := by
    have := hp.map (rdT H)
    rwa [hT.rd] at this
  exact ⟨_, hT', pm, rising_of (pm.nodup_iff.mpr nd) (List.pairwise_map.mpr hs)⟩
/-- sorted of a list of tuples -/
theorem tups_sorted {K : PySem.W.Frag} {H : Hp} {a : Addr} {ts : List Addr} {Ls : List (List Int)} {Q : VK} (hS : SqL K H a (ts.map V.ref)) (hT : TupsAt H ts Ls) (ne : ∀ L ∈ Ls, L ≠ []) (nd : Ls.Nodup)
    (h : ∀ H' p' ts' Ls', Same H H' → H p' = none → H' p' = some (.lst (ts'.map V.ref)) → TupsAt H' ts' Ls' → Ls'.Perm Ls → Rising Ls' → Q (.ref p') H') : rSortedU K [V.ref a] H Q := by
  refine ⟨a, ts, rdT H, rfl, hS, fun t ht => ?_, fun ts' p' hp hs np => ?_⟩
  · obtain ⟨L, hL, e, r⟩ := hT.at ht
    rw [r]
    exact ⟨e, ne L hL⟩
  · have hT' : TupsAt H ts' (ts'.map (rdT H)) := tupsAt_of fun t ht => by
      obtain ⟨L, hL, e, r⟩ := hT.at (hp.mem_iff.mp ht)
      rw [r]
      exact e
    have pm : (ts'.map (rdT H)).Perm Ls := by
      have := hp.map (rdT H)
      rwa [hT.rd] at this
    exact h _ p' ts' _ (same_upd np) np upd_same (hT'.keep (same_upd np)) pm (rising_of (pm.nodup_iff.mpr nd) (List.pairwise_map.mpr hs))
/-- the keys of a dict -/
theorem keys_tups {H : Hp} : ∀ {kvs : List (List Key × V)} {bs : List Addr} {Ls : List (List Int)}, IsKeys H kvs bs → kvs.map (·.1) = Ls.map (fun L => L.map Sum.inl) → TupsAt H bs Ls
  | [], _, Ls, h, e => by
    cases h
    cases Ls with
    | nil => exact ⟨rfl, fun i t L h1 => by simp at h1⟩
    | cons L Ls => cases e
  | p :: kvs, _, Ls, h, e => by
    cases h with
    | cons hb hr =>
      cases Ls with
      | nil => cases e
      | cons L Ls =>
        rw [List.map_cons, List.map_cons] at e
        injection e with e1 e2
        have ih := keys_tups hr e2
        refine ⟨by rw [List.length_cons, List.length_cons, ih.1], fun i t M h1 h2 => ?_⟩
        cases i with
        | zero =>
          cases h1
          cases h2
          rw [hb, e1, List.map_map]
          rfl
        | succ i => exact ih.2 i t M (by simpa using h1) (by simpa using h2)
/-- sorted(list(d)) of a dict whose keys are tuples of ints -/
theorem keys_sorted {K : PySem.W.Frag} {H : Hp} {d : Addr} {kvs : List (List Key × V)} {Ls : List (List Int)} {Q : VK} (e : H d = some (.dT kvs)) (hk : kvs.map (·.1) = Ls.map (fun L => L.map Sum.inl)) (ne : ∀ L ∈ Ls, L ≠ []) (nd : Ls.Nodup)
    (h : ∀ H' p' ts' Ls', Same H H' → H p' = none → H' p' = some (.lst (ts'.map V.ref)) → TupsAt H' ts' Ls' → Ls'.Perm Ls → Rising Ls' → Q (.ref p') H') :
    ∃ d' kvs', [V.ref d] = [V.ref d'] ∧ Rd H d' (.dT kvs') ∧ ∀ p bs, H p = none → IsKeys H kvs' bs → rSortedU K [V.ref p] (upd H p (.lst (bs.map V.ref))) Q := by
  refine ⟨d, kvs, rfl, .inl e, fun p bs np hb => ?_⟩
  have hT := keys_tups hb hk
  refine tups_sorted (SqL.of upd_same) (hT.keep (same_upd np)) ne nd fun H' p' ts' Ls' s np' e' t' pm rs => ?_
  exact h H' p' ts' Ls' ((same_upd np).trans s) ((same_upd np).free np') e' t' pm rs
/-- one more key -/
theorem keys_put {kvs : List (List Key × V)} {Ls : List (List Int)} {L : List Int} {v : V} (hk : kvs.map (·.1) = Ls.map (fun L => L.map Sum.inl)) : (putK kvs (L.map Sum.inl) v).map (·.1) = (if L ∈ Ls then Ls else Ls ++ [L]).map (fun L => L.map Sum.inl) := by
  have inj : ∀ {A B : List Int}, (A.map Sum.inl : List Key) = B.map Sum.inl → A = B := fun {A B} h => by
    have := congrArg (List.map fun k : Key => match k with | .inl i => i | .inr _ => 0) h
    rw [List.map_map, List.map_map] at this
    exact ((List.map_congr_left fun _ _ => rfl).trans (List.map_id A)).symm.trans (this.trans ((List.map_congr_left fun _ _ => rfl).trans (List.map_id B)))
  have hm : (L.map Sum.inl : List Key) ∈ kvs.map (·.1) ↔ L ∈ Ls := by
    rw [hk, List.mem_map]
    constructor
    · rintro ⟨M, hM, e⟩
      rw [← inj e]
      exact hM
    · intro h
      exact ⟨L, h, rfl⟩
  unfold putK
  by_cases c : L ∈ Ls
  · have a : (kvs.any fun kv => decide (kv.1 = L.map Sum.inl)) = true := by
      obtain ⟨kv, h1, h2⟩ := List.mem_map.mp (hm.mpr c)
      exact List.any_eq_true.mpr ⟨kv, h1, decide_eq_true h2⟩
    rw [if_pos a, if_pos c, ← hk, List.map_map]
    refine List.map_congr_left fun kv _ => ?_
    show (if kv.1 = L.map Sum.inl then (kv.1, v) else kv).1 = kv.1
    split <;> rfl
  · have a : (kvs.any fun kv => decide (kv.1 = L.map Sum.inl)) ≠ true := fun z => by
      obtain ⟨kv, h1, h2⟩ := List.any_eq_true.mp z
      exact c (hm.mp (List.mem_map.mpr ⟨kv, h1, of_decide_eq_true h2⟩))
    rw [if_neg a, if_neg c, List.map_append, List.map_append, hk]
    rfl

/-! ### lists of ints in a list -/
/-- at ts stand lists of the ints Ls -/
def LstsAt (H : Hp) (ts : List Addr) (Ls : List (List Int)) : Prop := ts.length = Ls.length ∧ ∀ (i : Nat) (t : Addr) (L : List Int), ts[i]? = some t → Ls[i]? = some L → H t = some (.lst (L.map V.int))
theorem LstsAt.keep {H H' : Hp} {ts : List Addr} {Ls : List (List Int)} (h : LstsAt H ts Ls) (s : Same H H') : LstsAt H' ts Ls := ⟨h.1, fun i t q h1 h2 => s _ _ (h.2 i t q h1 h2)⟩
theorem LstsAt.nil {H : Hp} : LstsAt H [] [] := ⟨rfl, fun i t q h => by simp at h⟩
theorem LstsAt.one {H : Hp} {t : Addr} {L : List Int} (h : H t = some (.lst (L.map V.int))) : LstsAt H [t] [L] := by
  refine ⟨rfl, fun i t' q' h1 h2 => ?_⟩
  cases i with
  | zero =>
    cases h1
    cases h2
    exact h
  | succ i => simp at h1
theorem LstsAt.tail {H : Hp} {t : Addr} {ts : List Addr} {L : List Int} {Ls : List (List Int)} (h : LstsAt H (t :: ts) (L :: Ls)) : LstsAt H ts Ls :=
  ⟨by have := h.1; simpa using this, fun i u M h1 h2 => h.2 (i + 1) u M (by simpa using h1) (by simpa using h2)⟩
theorem LstsAt.append {H : Hp} {ts us : List Addr} {ps qs : List (List Int)} (h : LstsAt H ts ps) (g : LstsAt H us qs) : LstsAt H (ts ++ us) (ps ++ qs) := by
  refine ⟨by rw [List.length_append, List.length_append, h.1, g.1], fun i t q h1 h2 => ?_⟩
  by_cases hi : i < ts.length
  · rw [List.getElem?_append_left hi] at h1
    rw [List.getElem?_append_left (by rw [← h.1]; exact hi)] at h2
    exact h.2 i t q h1 h2
  · rw [List.getElem?_append_right (by omega)] at h1
    rw [List.getElem?_append_right (by rw [← h.1]; omega), ← h.1] at h2
    exact g.2 _ t q h1 h2
theorem LstsAt.upd {H : Hp} {ts : List Addr} {Ls : List (List Int)} {F : Addr} {o : HO} (h : LstsAt H ts Ls) (n : ∀ t ∈ ts, t ≠ F) : LstsAt (upd H F o) ts Ls :=
  ⟨h.1, fun i t L h1 h2 => by rw [upd_ne (n t (List.mem_of_getElem? h1))]; exact h.2 i t L h1 h2⟩
theorem LstsAt.at {H : Hp} {ts : List Addr} {Ls : List (List Int)} (h : LstsAt H ts Ls) {t : Addr} (ht : t ∈ ts) : ∃ L, L ∈ Ls ∧ H t = some (.lst (L.map V.int)) := by
  obtain ⟨i, hi⟩ := List.getElem?_of_mem ht
  have hl := (List.getElem?_eq_some_iff.mp hi).1
  rw [h.1] at hl
  exact ⟨_, List.getElem_mem hl, h.2 i t _ hi (List.getElem?_eq_getElem hl)⟩
theorem LstsAt.get {H : Hp} {ts : List Addr} {Ls : List (List Int)} (h : LstsAt H ts Ls) {i : Nat} {y : V} (hy : (ts.map V.ref)[i]? = some y) : ∃ t L, y = .ref t ∧ t ∈ ts ∧ Ls[i]? = some L ∧ H t = some (.lst (L.map V.int)) := by
  rw [List.getElem?_map] at hy
  cases e : ts[i]? with
  | none =>
    rw [e] at hy
    cases hy
  | some t =>
    rw [e] at hy
    have hi := (List.getElem?_eq_some_iff.mp e).1
    rw [h.1] at hi
    exact ⟨t, Ls[i], (Option.some.inj hy).symm, List.mem_of_getElem? e, List.getElem?_eq_getElem hi, h.2 i t _ e (List.getElem?_eq_getElem hi)⟩
section
variable {K : PySem.W.Frag} {H : Hp}
def dataLL (Ls : List (List Int)) : List PyData := Ls.map fun L => .list (L.map PyData.int)
theorem dpAll_lsts : ∀ {ts : List Addr} {Ls : List (List Int)}, LstsAt H ts Ls → DpAll K H (ts.map V.ref) (dataLL Ls)
  | [], [], _ => .nil
  | [], _ :: _, h => by have := h.1; simp at this
  | _ :: _, [], h => by have := h.1; simp at this
  | t :: ts, L :: Ls, h => .cons (dp_list (SqL.of (h.2 0 t L rfl rfl))) (dpAll_lsts h.tail)
theorem dp_lsts {a : Addr} {ts : List Addr} {Ls : List (List Int)} (h : SqL K H a (ts.map V.ref)) (g : LstsAt H ts Ls) : Dp K H (.ref a) (.list (dataLL Ls)) := .lst h (dpAll_lsts g)
end
theorem lay_lsts : ∀ Ls : List (List Int), PyData.canLayAll0 (dataLL Ls) = true
  | [] => by simp [dataLL, PyData.canLayAll0]
  | L :: r => by
    have ih := lay_lsts r
    unfold dataLL at ih
    simp [dataLL, PyData.canLayAll0, PyData.canLay0, lay_ints L, ih]
theorem depth_lsts : ∀ Ls : List (List Int), PyData.depthAll (dataLL Ls) ≤ 1
  | [] => by simp [dataLL, PyData.depthAll]
  | L :: r => by
    have ih := depth_lsts r
    unfold dataLL at ih
    simp [dataLL, PyData.depthAll, PyData.depth, depth_ints L]
    omega
theorem shaped_lsts (Ls : List (List Int)) : SeqAt.shaped (.list (dataLL Ls)) = true := by
  show (PyData.canLay0 (.list (dataLL Ls)) && decide (PyData.depth (.list (dataLL Ls)) ≤ 64)) = true
  have h1 := lay_lsts Ls
  have h2 := depth_lsts Ls
  simp only [PyData.canLay0, PyData.depth, h1, Bool.true_and]
  exact decide_eq_true (by omega)
theorem eqvAll_lsts : ∀ xs ys : List (List Int), PyData.eqvAll (dataLL xs) (dataLL ys) = decide (xs = ys)
  | [], [] => by simp [dataLL, PyData.eqvAll]
  | [], _ :: _ => by simp [dataLL, PyData.eqvAll]
  | _ :: _, [] => by simp [dataLL, PyData.eqvAll]
  | x :: xs, y :: ys => by
    have ih := eqvAll_lsts xs ys
    unfold dataLL at ih ⊢
    simp only [List.map_cons, PyData.eqvAll, PyData.eqv, ih, List.cons.injEq, eqvAll_ints]
    by_cases h : x = y <;> simp [h]
theorem neD_llists {K : PySem.W.Frag} {H : Hp} {Q : VK} {a b : Addr} {ts us : List Addr} {xs ys : List (List Int)} (ha : SqL K H a (ts.map V.ref)) (ga : LstsAt H ts xs) (hb : SqL K H b (us.map V.ref)) (gb : LstsAt H us ys) (q : Q (.bl (!decide (xs = ys))) H) : rNeD K (.ref a) (.ref b) H Q :=
  ⟨_, _, dp_lsts ha ga, dp_lsts hb gb, shaped_lsts _, shaped_lsts _, by simp only [PyData.eqv, eqvAll_lsts]; exact q⟩
/-- the ints of the list at t -/
def rdL (H : Hp) (t : Addr) : List Int := match H t with
  | some (.lst xs) => xs.map intOf
  | _ => []
theorem rdL_of {H : Hp} {t : Addr} {L : List Int} (h : H t = some (.lst (L.map V.int))) : rdL H t = L := by
  unfold rdL
  rw [h]
  exact intOf_map L
theorem LstsAt.rd : ∀ {H : Hp} {ts : List Addr} {Ls : List (List Int)}, LstsAt H ts Ls → ts.map (rdL H) = Ls
  | _, [], [], _ => rfl
  | _, [], _ :: _, h => by have := h.1; simp at this
  | _, _ :: _, [], h => by have := h.1; simp at this
  | H, t :: ts, L :: Ls, h => by
    rw [List.map_cons, rdL_of (h.2 0 t L rfl rfl), LstsAt.rd h.tail]
theorem lstsAt_of {H : Hp} {ts : List Addr} (h : ∀ t ∈ ts, H t = some (.lst ((rdL H t).map V.int))) : LstsAt H ts (ts.map (rdL H)) := by
  refine ⟨by rw [List.length_map], fun i t L h1 h2 => ?_⟩
  rw [List.getElem?_map, h1] at h2
  cases h2
  exact h t (List.mem_of_getElem? h1)
theorem lsts_before {H : Hp} {ts : List Addr} {Ls : List (List Int)} (hT : LstsAt H ts Ls) : ∀ t ∈ ts, H t = some (.lst ((rdL H t).map V.int)) := fun t ht => by
  obtain ⟨L, hL, e⟩ := hT.at ht
  rw [rdL_of e]
  exact e
theorem lsts_after {H : Hp} {ts ts' : List Addr} {Ls : List (List Int)} (hT : LstsAt H ts Ls) (nd : Ls.Nodup) (hp : ts'.Perm ts) (hs : ts'.Pairwise (fun p q => HT.lexLt (rdL H q) (rdL H p) = false)) : ∃ Ls', LstsAt H ts' Ls' ∧ Ls'.Perm Ls ∧ Rising Ls' := by
  have hT' : LstsAt H ts' (ts'.map (rdL H)) := lstsAt_of fun t ht => lsts_before hT t (hp.mem_iff.mp ht)
  have pm : (ts'.map (rdL H)).Perm Ls := by
    have := hp.map (rdL H)
    rwa [hT.rd] at this
  exact ⟨_, hT', pm, rising_of (pm.nodup_iff.mpr nd) (List.pairwise_map.mpr hs)⟩
theorem grow_rising : ∀ size, size < 6 → Rising (growAt 6 (noughts size) (List.range' 1 size)) := by decide +kernel

/-! ### asked_size -/
abbrev N_asked_size : List Str := ["size", "most"]
theorem sc_asked_size : FnScope N_asked_size ["size", "most"] (defScope st_asked_size) := ⟨rfl, rfl, rfl, by decide +kernel, rfl, by decide +kernel, by decide +kernel⟩
/-- refuses a size below one or above most: E of the class at C -/
def spAskedSize (C : Addr) : Sp := fun vs H Q E => ∃ size most : Int, vs = [.int size, .int most] ∧ (¬ (1 ≤ size ∧ size ≤ most) → E (.ref C) none H) ∧ (1 ≤ size ∧ size ≤ most → Q .non H)
section
variable {P : Program} {w : World} {K : PySem.W.Frag} {mg : Str → Option Value} {base : Heap}
theorem kn_asked_size {C : Addr} (D : Df K mg "asked_size" st_asked_size ["size", "most"]) (X_NoSize : Ec K mg "NoSize" C) : Kn P w K mg base (L2.CX P w) 1 "asked_size" ["size", "most"] (spAskedSize C) := by
  refine D.knX sc_asked_size (fun vs H Q E h => ?_) (fun f cdv A outer s H vs Q E hr h => ?_)
  · obtain ⟨a, b, rfl, _⟩ := h
    rfl
  obtain ⟨size, most, rfl, h1, h2⟩ := h
  refine ⟨_, (pss_one (ps_if (PW.pt (pw_or (pt_cmpR op_lt (pv 0) pe_int (nomark _)) (pw_or1 (pt_cmpR op_gt (pv 0) (pv 1) (nomark _)))))
        (pss_one (ps_raise rfl (takes_of rfl rfl rfl rfl) (pmk_own PySem.F.excBase_ValueError X_NoSize.x X_NoSize.g X_NoSize.k (raises_own X_NoSize.b X_NoSize.t) rfl)))
        pss_nil)), ?_⟩
  refine ⟨_, rfl, _, _, rfl, rfl, _, rfl, ite2 (fun c => ?_) (fun c => ?_)⟩
  · have c' := of_decide_eq_true c
    exact iteT (h1 (by omega))
  · have c' : ¬ size < 1 := of_decide_eq_false (Bool.eq_false_iff.mpr c)
    refine ⟨_, rfl, _, rfl, _, _, rfl, rfl, _, rfl, ite2 (fun d => ?_) (fun d => ?_)⟩
    · have d' : most < size := of_decide_eq_true d
      exact h1 (by omega)
    · have d' : ¬ most < size := of_decide_eq_false (Bool.eq_false_iff.mpr d)
      exact h2 (by omega)
end

/-! ### can_be -/
abbrev N_can_be : List Str := ["size"]
theorem sc_can_be : FnScope N_can_be ["size"] (defScope st_can_be) := ⟨rfl, rfl, rfl, by decide +kernel, rfl, by decide +kernel, by decide +kernel⟩
def spCanBe (C : Addr) : Sp := fun vs H Q E => ∃ size : Int, vs = [.int size] ∧ (¬ (1 ≤ size ∧ size ≤ 400) → E (.ref C) none H) ∧ (1 ≤ size ∧ size ≤ 400 → Q (.bl (decide (size % 4 < 2))) H)
section
variable {P : Program} {w : World} {K : PySem.W.Frag} {mg : Str → Option Value} {base : Heap}
theorem kn_can_be {C : Addr} {tk : Tok} (D : Df K mg "can_be" st_can_be ["size"]) (K_asked_size : Kn P w K mg base (L2.CX P w) 1 "asked_size" ["size", "most"] (spAskedSize C)) (C_MOST : mg "MOST" = some (.int 400 tk)) :
    Kn P w K mg base (L2.CX P w) 2 "can_be" ["size"] (spCanBe C) := by
  refine D.knX sc_can_be (fun vs H Q E h => ?_) (fun f cdv A outer s H vs Q E hr h => ?_)
  · obtain ⟨a, rfl, _⟩ := h
    rfl
  obtain ⟨size, rfl, h1, h2⟩ := h
  refine ⟨_, (pss_cons (ps_expr (pe_kE K_asked_size (takes_of rfl rfl rfl rfl) (hr.mono (by first | decide | omega)) (by rfl) (pa_cons (pv 0) (pa_cons (pe_globI (by rfl) C_MOST) pa_nil))))
      (pss_one (ps_ret (pe_cmpR op_lt (pe_op op_mod (pv 0) pe_int) pe_int (nomark _))))), ?_⟩
  exact ⟨_, rfl, size, 400, rfl, h1, fun c => ⟨_, rfl, _, _, rfl, rfl, (by decide : (0 : Int) < 4), _, _, rfl, rfl, h2 c⟩⟩
end

/-! ### reckoned -/
abbrev N_reckoned : List Str := ["size", "odd"]
theorem sc_reckoned : FnScope N_reckoned ["size"] (defScope st_reckoned) := ⟨rfl, rfl, rfl, by decide +kernel, rfl, by decide +kernel, by decide +kernel⟩
def spReckoned (C : Addr) : Sp := fun vs H Q E => ∃ size : Int, vs = [.int size] ∧ (¬ (1 ≤ size ∧ size ≤ 400) → E (.ref C) none H) ∧
  (1 ≤ size ∧ size ≤ 400 → ∀ p, H p = none → Q (.ref p) (upd H p (.tup [.int ((size + 1) / 2), .int (size - (size + 1) / 2)])))
section
variable {P : Program} {w : World} {K : PySem.W.Frag} {mg : Str → Option Value} {base : Heap}
theorem kn_reckoned {C : Addr} {tk : Tok} (D : Df K mg "reckoned" st_reckoned ["size"]) (K_asked_size : Kn P w K mg base (L2.CX P w) 1 "asked_size" ["size", "most"] (spAskedSize C)) (C_MOST : mg "MOST" = some (.int 400 tk)) :
    Kn P w K mg base (L2.CX P w) 2 "reckoned" ["size"] (spReckoned C) := by
  refine D.knX sc_reckoned (fun vs H Q E h => ?_) (fun f cdv A outer s H vs Q E hr h => ?_)
  · obtain ⟨a, rfl, _⟩ := h
    rfl
  obtain ⟨size, rfl, h1, h2⟩ := h
  refine ⟨_, (pss_cons (ps_expr (pe_kE K_asked_size (takes_of rfl rfl rfl rfl) (hr.mono (by first | decide | omega)) (by rfl) (pa_cons (pv 0) (pa_cons (pe_globI (by rfl) C_MOST) pa_nil))))
      (pss_cons (ps_set (i := 1) sc_reckoned.nd rfl (Or.inl rfl) (pe_op op_fdiv (pe_op op_add (pv 0) pe_int) pe_int))
      (pss_one (ps_ret (pe_tup (pa_cons (pv 1) (pa_cons (pe_op op_sub (pv 0) (pv 1)) pa_nil))))))), ?_⟩
  exact ⟨_, rfl, size, 400, rfl, h1, fun c => ⟨_, rfl, _, _, rfl, rfl, _, _, rfl, rfl, ⟨by decide, by decide⟩, _, rfl, _, rfl, _, rfl, _, _, rfl, rfl, small (show 2 ≤ 16777216 by decide), fun p hp => h2 c p hp⟩⟩
end

/-! ### found_places -/
abbrev N_found_places : List Str := ["row", "found", "place", "number"]
theorem sc_found_places : FnScope N_found_places ["row"] (defScope st_found_places) := ⟨rfl, rfl, rfl, by decide +kernel, rfl, by decide +kernel, by decide +kernel⟩
/-- a dict that holds for each number of a list the list of its places -/
def PlD (H : Hp) (d : Addr) (ns : List Int) : Prop := ∃ kvs : List (Key × V), H d = some (.dK kvs) ∧ kvs.length ≤ ns.length ∧
  ∀ k : Int, (spots ns k = [] ∧ valV kvs (.inl k) = none) ∨ (spots ns k ≠ [] ∧ ∃ p, valV kvs (.inl k) = some (.ref p) ∧ H p = some (.lst ((spots ns k).map V.int)))
theorem PlD.keep {H H' : Hp} {d : Addr} {ns : List Int} (s : Same H H') (h : PlD H d ns) : PlD H' d ns := by
  obtain ⟨kvs, e, l, a⟩ := h
  refine ⟨kvs, s _ _ e, l, fun k => ?_⟩
  rcases a k with h | ⟨h1, p, h2, h3⟩
  · exact .inl h
  · exact .inr ⟨h1, p, h2, s _ _ h3⟩
/-- what get tells, with a new empty list where there is none -/
theorem PlD.get {H : Hp} {d e : Addr} {ns : List Int} (h : PlD H d ns) (k : Int) (he : H e = some (.lst [])) : ∃ (o : Option V) (p : Addr), DGet H d (.int k) o ∧ o.getD (.ref e) = .ref p ∧ H p = some (.lst ((spots ns k).map V.int)) := by
  obtain ⟨kvs, e1, l, a⟩ := h
  refine ⟨valV kvs (.inl k), ?_⟩
  rcases a k with ⟨h1, h2⟩ | ⟨h1, p, h2, h3⟩
  · rw [h1, h2]
    exact ⟨e, h2 ▸ DGet.k (k := Sum.inl k) e1, rfl, he⟩
  · rw [h2]
    exact ⟨p, h2 ▸ DGet.k (k := Sum.inl k) e1, rfl, h3⟩
theorem PlD.get' {H : Hp} {d : Addr} {ns : List Int} (h : PlD H d ns) {k : Int} (hk : spots ns k ≠ []) : ∃ p : Addr, DGet H d (.int k) (some (.ref p)) ∧ H p = some (.lst ((spots ns k).map V.int)) := by
  obtain ⟨kvs, e1, l, a⟩ := h
  rcases a k with ⟨h1, h2⟩ | ⟨h1, p, h2, h3⟩
  · exact absurd h1 hk
  · exact ⟨p, h2 ▸ DGet.k (k := Sum.inl k) e1, h3⟩
theorem PlD.isD {H : Hp} {d : Addr} {ns : List Int} (h : PlD H d ns) : IsD H d := by
  obtain ⟨kvs, e1, _⟩ := h
  exact .inl ⟨kvs, .inl e1⟩
/-- one more place -/
theorem PlD.put {H : Hp} {d c : Addr} {ns : List Int} {x : Int} (h : PlD H d ns) (hl : ns.length < 16777216) (hc : H c = some (.lst ((spots (ns ++ [x]) x).map V.int))) :
    ∃ H', DPut H d (.int x) (.ref c) H' ∧ PlD H' d (ns ++ [x]) ∧ ∀ b, b ≠ d → H' b = H b := by
  obtain ⟨kvs, e1, l, a⟩ := h
  refine ⟨upd H d (.dK (putK kvs (Sum.inl x) (.ref c))), DPut.k (k := Sum.inl x) e1 (smaller (by omega)), ⟨_, upd_same, ?_, fun k => ?_⟩, fun b hb => upd_ne hb⟩
  · have := length_putK kvs (Sum.inl x : Key) (.ref c)
    rw [List.length_append, List.length_singleton]
    omega
  · have nd : ∀ {p : Addr} {xs : List V}, H p = some (.lst xs) → p ≠ d := fun h => ne_of h e1 (by intro z; cases z)
    rw [valV_put]
    by_cases hk : x = k
    · subst hk
      rw [if_pos rfl]
      refine .inr ⟨?_, c, rfl, by rw [upd_ne (nd hc)]; exact hc⟩
      rw [spots_snoc, if_pos rfl]
      simp
    · have hk' : ¬ (Sum.inl k : Key) = Sum.inl x := fun z => hk (Sum.inl.inj z).symm
      rw [if_neg hk', spots_snoc, if_neg hk, List.append_nil]
      rcases a k with h | ⟨h1, p, h2, h3⟩
      · exact .inl h
      · exact .inr ⟨h1, p, h2, by rw [upd_ne (nd h3)]; exact h3⟩
def spFoundPlaces (K : PySem.W.Frag) : Sp := fun vs H Q _ => ∃ (a : Addr) (ns : List Int), vs = [.ref a] ∧ SqL K H a (ns.map V.int) ∧ ns.length ≤ 100000 ∧ ∀ H' d, Same H H' → PlD H' d ns → Q (.ref d) H'
section
variable {P : Program} {w : World} {K : PySem.W.Frag} {mg : Str → Option Value} {base : Heap}
theorem kn_found_places (D : Df K mg "found_places" st_found_places ["row"]) (B : Bl mg) : Kn P w K mg base CX0 1 "found_places" ["row"] (spFoundPlaces K) := by
  refine D.kn sc_found_places (fun vs H Q E h => ?_) (fun f cdv A outer s H vs Q E hr h => ?_)
  · obtain ⟨a, ns, rfl, _⟩ := h
    rfl
  obtain ⟨a, ns, rfl, hS, hlen, q⟩ := h
  refine ⟨_, (pss_cons (ps_set (i := 1) sc_found_places.nd rfl (Or.inl rfl) pe_dnewK)
      (pss_cons (ps_for PassesOwn.never rfl (pi_enum (by rfl) B.enumerate_ (pa_cons (pv 0) pa_nil)) (pg_tup rfl (pgs_cons (pg_name (i := 2) sc_found_places.nd rfl (Or.inl rfl)) (pgs_cons (pg_name (i := 3) sc_found_places.nd rfl (Or.inl rfl)) pgs_nil)))
        (pss_one (ps_dput (hu_of hr) (pv 1) (pv 3) (pe_op op_cat (pe_dget2 (hu_of hr) (pv 1) (pv 3) (pe_lst pa_nil) ⟨rfl, rfl, rfl, rfl⟩) (pe_lst (pa_cons (pv 2) pa_nil))) rfl)))
      (pss_one (ps_ret (pv 1))))), ?_⟩
  intro d nd
  have s1 : Same H (upd H d (.dK [])) := same_upd nd
  refine ⟨.ref a, rfl, a, ns.map V.int, rfl, s1.seq hS, ?_⟩
  refine for_it (walk_enum (K := K) (a := a) (xs := ns.map V.int)) (fun i σ H' => ∃ y2 y3, σ = [some (.ref a), some (.ref d), y2, y3] ∧ Same H H' ∧ PlD H' d (ns.take i)) ⟨none, none, rfl, s1, ⟨[], upd_same, Nat.le_refl _, fun k => .inl ⟨rfl, rfl⟩⟩⟩ ?_ ?_ ?_
  · rintro i σ H' hi ⟨_, _, _, s2, _⟩
    exact s2.seq hS
  · rintro i x σ H2 H3 hi ⟨y2, y3, rfl, s2, hD⟩ ⟨T, x1, x2, rfl, nT, rfl, f1, f2⟩
    obtain ⟨n, hn, rfl⟩ := of_ints_get f2
    cases f1
    generalize hT : upd H2 T (.tup [V.int ((i : Nat) : Int), V.int n]) = H3
    have s3 : Same H2 H3 := hT ▸ same_upd nT
    have e3 : H3 T = some (.tup [V.int ((i : Nat) : Int), V.int n]) := hT ▸ upd_same
    clear hT
    refine ⟨T, _, rfl, SqT.of e3, rfl, _, _, rfl, _, _, rfl, rfl, ?_⟩
    -- found.get(number, [])
    refine ⟨_, rfl, d, rfl, (hD.keep s3).isD, _, rfl, Nat.zero_le _, fun e ne => ?_⟩
    generalize hE : upd H3 e (.lst []) = H4
    have s4 : Same H3 H4 := hE ▸ same_upd ne
    have e4 : H4 e = some (.lst []) := hE ▸ upd_same
    clear hE
    have hD4 := (hD.keep s3).keep s4
    obtain ⟨o, p, g1, g2, g3⟩ := hD4.get n e4
    refine ⟨o, g1, ?_⟩
    rw [g2]
    -- [place]
    refine ⟨_, rfl, small (show 1 ≤ 16777216 by decide), fun l nl => ?_⟩
    generalize hL : upd H4 l (.lst [V.int ((i : Nat) : Int)]) = H5
    have s5 : Same H4 H5 := hL ▸ same_upd nl
    have e5 : H5 l = some (.lst [V.int ((i : Nat) : Int)]) := hL ▸ upd_same
    clear hL
    have hsp : (spots (ns.take i) n).length ≤ i := by
      rw [spots_length]
      have := List.count_le_length (a := n) (l := ns.take i)
      rw [List.length_take] at this
      omega
    have hi' : i < ns.length := by
      rw [ints_len] at hi
      exact hi
    refine ⟨p, l, _, _, rfl, rfl, s5 _ _ g3, e5, ?_, fun c nc => ?_⟩
    · rw [List.length_map, List.length_singleton]
      exact small (by omega)
    have ec : spots (ns.take i ++ [n]) n = spots (ns.take i) n ++ [(i : Int)] := by
      rw [spots_snoc, if_pos rfl, List.length_take, Nat.min_eq_left (Nat.le_of_lt hi')]
    have ec2 : (spots (ns.take i) n).map V.int ++ [V.int (i : Int)] = (spots (ns.take i ++ [n]) n).map V.int := by
      rw [ec, List.map_append]
      rfl
    rw [ec2]
    generalize hC : upd H5 c (.lst ((spots (ns.take i ++ [n]) n).map V.int)) = H6
    have s6 : Same H5 H6 := hC ▸ same_upd nc
    have e6 : H6 c = some (.lst ((spots (ns.take i ++ [n]) n).map V.int)) := hC ▸ upd_same
    clear hC
    have hD6 := (hD4.keep s5).keep s6
    obtain ⟨H7, p1, p2, p3⟩ := hD6.put (x := n) (by rw [List.length_take]; omega) e6
    refine ⟨_, rfl, _, rfl, d, H7, rfl, p1, _, _, rfl, fun b o hb => ?_, ?_⟩
    · have hbd : b ≠ d := ne_of_none hb nd
      rw [p3 b hbd]
      exact s6 _ _ (s5 _ _ (s4 _ _ (s3 _ _ (s2 _ _ hb))))
    · rw [take_snoc hn]
      exact p2
  · rintro σ H2 ⟨y2, y3, rfl, s2, hD⟩
    rw [ints_len, List.take_length] at hD
    exact ⟨_, rfl, q _ _ s2 hD⟩
end

/-! ### is_row -/
abbrev N_is_row : List Str := ["row", "size", "known", "number", "spots"]
theorem sc_is_row : FnScope N_is_row ["row"] (defScope st_is_row) := ⟨rfl, rfl, rfl, by decide +kernel, rfl, by decide +kernel, by decide +kernel⟩
def spIsRow (K : PySem.W.Frag) : Sp := fun vs H Q _ => ∃ (a : Addr) (ns : List Int), vs = [.ref a] ∧ SqL K H a (ns.map V.int) ∧ ns.length ≤ 100000 ∧ ∀ H', Same H H' → Q (.bl (isRow ns)) H'
theorem isRow_no {row : List Int} (h : ¬ isRow row = true) : isRow row = false := Bool.eq_false_iff.mpr h
section
variable {P : Program} {w : World} {K : PySem.W.Frag} {mg : Str → Option Value} {base : Heap}
theorem kn_is_row {tk : Tok} (D : Df K mg "is_row" st_is_row ["row"]) (B : Bl mg) (C_MOST : mg "MOST" = some (.int 400 tk)) (K_found_places : Kn P w K mg base CX0 1 "found_places" ["row"] (spFoundPlaces K)) : Kn P w K mg base CX0 2 "is_row" ["row"] (spIsRow K) := by
  refine D.kn sc_is_row (fun vs H Q E h => ?_) (fun f cdv A outer s H vs Q E hr h => ?_)
  · obtain ⟨a, ns, rfl, _⟩ := h
    rfl
  obtain ⟨a, ns, rfl, hS, hlen, q⟩ := h
  refine ⟨_, (pss_cons (ps_set (i := 1) sc_is_row.nd rfl (Or.inl rfl) (pe_op op_fdiv (pe_callB call_len_seq (by rfl) B.len_ (by decide +kernel) (pa_cons (pv 0) pa_nil)) pe_int))
      (pss_cons (ps_if (PW.pt (pw_or (pt_cmpR op_ne (pe_callB call_len_seq (by rfl) B.len_ (by decide +kernel) (pa_cons (pv 0) pa_nil)) (pe_op op_mul pe_int (pv 1)) (nomark _)) (pw_or (pt_cmpR op_lt (pv 1) pe_int (nomark _)) (pw_or1 (pt_cmpR op_gt (pv 1) (pe_globI (by rfl) C_MOST) (nomark _))))))
        (pss_one (ps_ret pe_bl))
        pss_nil)
      (pss_cons (ps_set (i := 2) sc_is_row.nd rfl (Or.inl rfl) (pe_k0 K_found_places (hr.mono (by first | decide | omega)) (by rfl) (pa_cons (pv 0) pa_nil)))
      (pss_cons (ps_for PassesOwn.never rfl (pi_range2 (by rfl) B.range_ (pa_cons pe_int (pa_cons (pe_op op_add (pv 1) pe_int) pa_nil))) (pg_name (i := 3) sc_is_row.nd rfl (Or.inl rfl))
        (pss_cons (ps_set (i := 4) sc_is_row.nd rfl (Or.inl rfl) (pe_dget2 (hu_of hr) (pv 2) (pv 3) (pe_lst pa_nil) ⟨rfl, rfl, rfl, rfl⟩))
        (pss_one (ps_if (PW.pt (pw_or (pt_cmpR op_ne (pe_callB call_len_seq (by rfl) B.len_ (by decide +kernel) (pa_cons (pv 4) pa_nil)) pe_int (nomark _)) (pw_or1 (pt_cmpR op_ne (pe_op op_sub (pe_ix ix_list (pv 4) pe_int (fun _ _ => rfl)) (pe_ix ix_list (pv 4) pe_int (fun _ _ => rfl))) (pv 3) (nomark _)))))
          (pss_one (ps_ret pe_bl))
          pss_nil))))
      (pss_one (ps_ret pe_bl)))))), ?_⟩
  refine ⟨_, rfl, a, _, rfl, .inl hS, _, _, rfl, rfl, ⟨by decide, by decide⟩, ?_⟩
  have hL := ints_len ns
  have hsz : (((ns.map V.int).length : Nat) : Int) / 2 = ((ns.length / 2 : Nat) : Int) := by
    rw [hL]
    omega
  simp only [hsz]
  -- len(row) != 2 * size or size < 1 or size > MOST
  refine ⟨_, rfl, a, _, rfl, .inl hS, _, rfl, _, _, rfl, rfl, .inl ⟨by decide, by decide⟩, rfl, _, rfl, ite2 (fun c => ?_) (fun c => ?_)⟩
  · refine iteT ?_
    have c' : ¬ ns.length = 2 * (ns.length / 2) := fun z => by
      have e : decide (V.int (((ns.map V.int).length : Nat) : Int) = V.int (2 * ((ns.length / 2 : Nat) : Int))) = true := decide_eq_true (congrArg V.int (by rw [hL]; omega))
      have c2 : (!decide (V.int (((ns.map V.int).length : Nat) : Int) = V.int (2 * ((ns.length / 2 : Nat) : Int)))) = true := c
      rw [e] at c2
      cases c2
    have := q H (Same.refl _)
    rw [isRow_no (fun z => c' ((isRow_iff ns).mp z).1)] at this
    exact this
  have c0 : ns.length = 2 * (ns.length / 2) := by
    have c2 : ¬ (!decide (V.int (((ns.map V.int).length : Nat) : Int) = V.int (2 * ((ns.length / 2 : Nat) : Int)))) = true := c
    rw [Bool.not_eq_true', decide_eq_false_iff_not, Decidable.not_not] at c2
    have := V.int.inj c2
    rw [hL] at this
    omega
  refine ⟨_, rfl, _, _, rfl, rfl, _, rfl, ite2 (fun c => ?_) (fun c => ?_)⟩
  · refine iteT ?_
    have c1 : ((ns.length / 2 : Nat) : Int) < 1 := of_decide_eq_true c
    have := q H (Same.refl _)
    rw [isRow_no (fun z => by have := ((isRow_iff ns).mp z).2.1; omega)] at this
    exact this
  have c1 : ¬ ((ns.length / 2 : Nat) : Int) < 1 := of_decide_eq_false (Bool.eq_false_iff.mpr c)
  refine ⟨_, rfl, _, _, rfl, rfl, _, rfl, ite2 (fun c => ?_) (fun c => ?_)⟩
  · have c2 : (400 : Int) < ((ns.length / 2 : Nat) : Int) := of_decide_eq_true c
    have := q H (Same.refl _)
    rw [isRow_no (fun z => by have := ((isRow_iff ns).mp z).2.2.1; omega)] at this
    exact this
  have c2 : ¬ (400 : Int) < ((ns.length / 2 : Nat) : Int) := of_decide_eq_false (Bool.eq_false_iff.mpr c)
  -- known
  refine ⟨_, rfl, a, ns, rfl, hS, hlen, fun H1 d s1 hD => ?_⟩
  refine ⟨_, rfl, _, _, rfl, rfl, 1, ((ns.length / 2 : Nat) : Int) + 1, rfl, ⟨by omega, by omega, by omega, by omega⟩, ?_⟩
  refine for_range (lo := 1) (n := (((ns.length / 2 : Nat) : Int) + 1 - 1).toNat) (fun i σ H' => ∃ y3 y4, σ = [some (.ref a), some (.int ((ns.length / 2 : Nat) : Int)), some (.ref d), y3, y4] ∧ Same H H' ∧ PlD H' d ns ∧ ∀ k : Int, 1 ≤ k → k ≤ (i : Int) → good ns k = true) ⟨none, none, rfl, s1, hD, fun k h1 h2 => by omega⟩ ?_ ?_
  · rintro i σ H2 hi ⟨y3, y4, rfl, s2, hD2, hg⟩
    refine ⟨_, rfl, d, rfl, hD2.isD, _, rfl, Nat.zero_le _, fun e ne => ?_⟩
    generalize hE : upd H2 e (.lst []) = H3
    have s3 : Same H2 H3 := hE ▸ same_upd ne
    have e3 : H3 e = some (.lst []) := hE ▸ upd_same
    clear hE
    have hD3 := hD2.keep s3
    obtain ⟨o, p, g1, g2, g3⟩ := hD3.get ((1 : Int) + (i : Int)) e3
    refine ⟨o, g1, ?_⟩
    rw [g2]
    have h1 : 1 + (i : Int) ≤ ((ns.length / 2 : Nat) : Int) := by omega
    have bad : good ns (1 + (i : Int)) = false → isRow ns = false := fun hb => isRow_no fun z => by
      have := ((isRow_iff ns).mp z).2.2.2 (1 + (i : Int)) (by omega) h1
      rw [hb] at this
      cases this
    have sAll : Same H H3 := s2.trans s3
    -- len(spots) != 2 or spots[1] - spots[0] != number
    refine ⟨_, rfl, p, _, rfl, .inl (SqL.of g3), rfl, _, rfl, ite2 (fun c => ?_) (fun c => ?_)⟩
    · refine iteT ?_
      have c3 : ¬ (spots ns (1 + (i : Int))).length = 2 := fun z => by
        have e : decide (V.int ((((spots ns (1 + (i : Int))).map V.int).length : Nat) : Int) = V.int 2) = true := decide_eq_true (congrArg V.int (by rw [ints_len, z]; rfl))
        have c2 : (!decide (V.int ((((spots ns (1 + (i : Int))).map V.int).length : Nat) : Int) = V.int 2)) = true := c
        rw [e] at c2
        cases c2
      have hb : good ns (1 + (i : Int)) = false := Bool.eq_false_iff.mpr fun z => c3 (by rw [spots_length]; exact good_count z)
      have := q H3 sAll
      rw [bad hb] at this
      exact this
    have c3 : (spots ns (1 + (i : Int))).length = 2 := by
      have c2 : ¬ (!decide (V.int ((((spots ns (1 + (i : Int))).map V.int).length : Nat) : Int) = V.int 2)) = true := c
      rw [Bool.not_eq_true', decide_eq_false_iff_not, Decidable.not_not] at c2
      have := V.int.inj c2
      rw [ints_len] at this
      omega
    obtain ⟨x, y, exy⟩ : ∃ x y, spots ns (1 + (i : Int)) = [x, y] := by
      match spots ns (1 + (i : Int)), c3 with
      | [x, y], _ => exact ⟨x, y, rfl⟩
    rw [exy] at g3
    refine ⟨_, rfl, p, _, _, _, rfl, rfl, SqL.of g3, atI_nat (j := 1) rfl, _, rfl, p, _, _, _, rfl, rfl, SqL.of g3, atI_nat (j := 0) rfl, _, _, rfl, rfl, _, rfl, rfl, _, rfl, ite2 (fun c => ?_) (fun c => ?_)⟩
    · have c4 : ¬ y - x = 1 + (i : Int) := fun z => by
        have e : decide (V.int (y - x) = V.int (1 + (i : Int))) = true := decide_eq_true (congrArg V.int z)
        have c2 : (!decide (V.int (y - x) = V.int (1 + (i : Int)))) = true := c
        rw [e] at c2
        cases c2
      have hb : good ns (1 + (i : Int)) = false := by
        unfold good
        rw [exy]
        exact decide_eq_false c4
      have := q H3 sAll
      rw [bad hb] at this
      exact this
    · have c4 : y - x = 1 + (i : Int) := by
        have c2 : ¬ (!decide (V.int (y - x) = V.int (1 + (i : Int)))) = true := c
        rw [Bool.not_eq_true', decide_eq_false_iff_not, Decidable.not_not] at c2
        exact V.int.inj c2
      refine ⟨_, _, rfl, sAll, hD3, fun k h1 h2 => ?_⟩
      by_cases hk : k = 1 + (i : Int)
      · rw [hk]
        exact spots_of_good exy c4
      · exact hg k h1 (by omega)
  · rintro σ H2 ⟨y3, y4, rfl, s2, hD2, hg⟩
    have hr : isRow ns = true := (isRow_iff ns).mpr ⟨c0, by omega, by omega, fun k h1 h2 => hg k h1 (by omega)⟩
    have := q H2 s2
    rw [hr] at this
    exact this
end

/-! ### pairs_of_four, pairs_of_one_more -/
abbrev N_pairs_of_four : List Str := ["fourth", "found", "k"]
theorem sc_pairs_of_four : FnScope N_pairs_of_four ["fourth"] (defScope st_pairs_of_four) := ⟨rfl, rfl, rfl, by decide +kernel, rfl, by decide +kernel, by decide +kernel⟩
abbrev N_pairs_of_one_more : List Str := ["fourth", "found", "k"]
theorem sc_pairs_of_one_more : FnScope N_pairs_of_one_more ["fourth"] (defScope st_pairs_of_one_more) := ⟨rfl, rfl, rfl, by decide +kernel, rfl, by decide +kernel, by decide +kernel⟩
def spPairs (lo : Int) (g : Int → List (Int × Int)) : Sp := fun vs H Q _ => ∃ f : Int, vs = [.int f] ∧ lo ≤ f ∧ f ≤ 1000 ∧ ∀ H' p ts, Same H H' → H' p = some (.lst (ts.map V.ref)) → PairsAt H' ts (g f) → Q (.ref p) H'
/-- two lists of pairs, one behind the other -/
theorem cat_pairs {H1 H2 H3 : Hp} {a b : Addr} {ts us : List Addr} {ps qs : List (Int × Int)} {Q : VK} (s1 : Same H1 H2) (s2 : Same H2 H3) (ea : H1 a = some (.lst (ts.map V.ref))) (pa : PairsAt H1 ts ps) (eb : H3 b = some (.lst (us.map V.ref))) (pb : PairsAt H3 us qs)
    (hl : ps.length + qs.length ≤ 16777216) (h : ∀ p H4, Same H3 H4 → H4 p = some (.lst ((ts ++ us).map V.ref)) → PairsAt H4 (ts ++ us) (ps ++ qs) → Q (.ref p) H4) : rCat (.ref a) (.ref b) H3 Q := by
  refine ⟨a, b, _, _, rfl, rfl, s2 _ _ (s1 _ _ ea), eb, ?_, fun p np => ?_⟩
  · rw [List.length_map, List.length_map, pa.1, pb.1]
    exact small hl
  · rw [← List.map_append]
    exact h p _ (same_upd np) upd_same ((((pa.keep s1).keep s2).append pb).keep (same_upd np))
section
variable {P : Program} {w : World} {K : PySem.W.Frag} {mg : Str → Option Value} {base : Heap}
theorem kn_pairs_of_four (D : Df K mg "pairs_of_four" st_pairs_of_four ["fourth"]) (B : Bl mg) : Kn P w K mg base CX0 1 "pairs_of_four" ["fourth"] (spPairs 1 pairs4) := by
  refine D.kn sc_pairs_of_four (fun vs H Q E h => ?_) (fun f cdv A outer s H vs Q E hr h => ?_)
  · obtain ⟨a, rfl, _⟩ := h
    rfl
  obtain ⟨n, rfl, n1, n2, q⟩ := h
  refine ⟨_, (pss_cons (ps_if (pt_cmpR op_eq (pv 0) pe_int (nomark _))
        (pss_one (ps_ret (pe_lst (pa_cons (pe_tup (pa_cons pe_int (pa_cons pe_int pa_nil))) (pa_cons (pe_tup (pa_cons pe_int (pa_cons pe_int pa_nil))) (pa_cons (pe_tup (pa_cons pe_int (pa_cons pe_int pa_nil))) (pa_cons (pe_tup (pa_cons pe_int (pa_cons pe_int pa_nil))) pa_nil)))))))
        pss_nil)
      (pss_cons (ps_setLc (i := 1) (own := [("k", 2)]) (g := gName 2) (tt := tYes) rfl sc_pairs_of_four.nd rfl rfl (sw_true rfl rfl rfl (by decide +kernel)) (pi_range1 (by rfl) B.range_ (pa_cons (pe_op op_mul pe_int (pv 0)) pa_nil)) (blkOk_by (own := [("k", 2)]) (N := N_pairs_of_four) (sc := defScope st_pairs_of_four) (by decide +kernel)) (fun _ _ _ _ _ => pg_name (i := 2) sc_pairs_of_four.nd rfl (Or.inl rfl)) (fun _ _ _ _ _ => pts_nil) (fun _ _ _ _ _ => pe_tup (pa_cons (pe_op op_add (pe_op op_mul pe_int (pv 0)) (pv 2)) (pa_cons (pe_op op_sub (pe_op op_mul pe_int (pv 0)) (pv 2)) pa_nil))))
      (pss_cons (ps_set (i := 1) sc_pairs_of_four.nd rfl (Or.inl rfl) (pe_op op_cat (pv 1) (pe_lc (own := [("k", 2)]) (g := gName 2) (tt := tYes) rfl sc_pairs_of_four.nd (pi_range2 (by rfl) B.range_ (pa_cons pe_int (pa_cons (pv 0) pa_nil))) (blkOk_by (own := [("k", 2)]) (N := N_pairs_of_four) (sc := defScope st_pairs_of_four) (by decide +kernel)) (fun _ _ _ _ _ => pg_name (i := 2) sc_pairs_of_four.nd rfl (Or.inl rfl)) (fun _ _ _ _ _ => pts_nil) (fun _ _ _ _ _ => pe_tup (pa_cons (pv 2) (pa_cons (pe_op op_sub (pe_op op_sub (pe_op op_mul pe_int (pv 0)) pe_int) (pv 2)) pa_nil))))))
      (pss_cons (ps_set (i := 1) sc_pairs_of_four.nd rfl (Or.inl rfl) (pe_op op_cat (pv 1) (pe_lc (own := [("k", 2)]) (g := gName 2) (tt := tYes) rfl sc_pairs_of_four.nd (pi_range1 (by rfl) B.range_ (pa_cons (pe_op op_sub (pv 0) pe_int) pa_nil)) (blkOk_by (own := [("k", 2)]) (N := N_pairs_of_four) (sc := defScope st_pairs_of_four) (by decide +kernel)) (fun _ _ _ _ _ => pg_name (i := 2) sc_pairs_of_four.nd rfl (Or.inl rfl)) (fun _ _ _ _ _ => pts_nil) (fun _ _ _ _ _ => pe_tup (pa_cons (pe_op op_add (pe_op op_add (pv 0) pe_int) (pv 2)) (pa_cons (pe_op op_sub (pe_op op_sub (pe_op op_mul pe_int (pv 0)) pe_int) (pv 2)) pa_nil))))))
      (pss_cons (ps_set (i := 1) sc_pairs_of_four.nd rfl (Or.inl rfl) (pe_op op_cat (pv 1) (pe_lst (pa_cons (pe_tup (pa_cons (pv 0) (pa_cons (pe_op op_add (pv 0) pe_int) pa_nil))) (pa_cons (pe_tup (pa_cons (pe_op op_mul pe_int (pv 0)) (pa_cons (pe_op op_sub (pe_op op_mul pe_int (pv 0)) pe_int) pa_nil))) (pa_cons (pe_tup (pa_cons (pe_op op_add (pe_op op_mul pe_int (pv 0)) pe_int) (pa_cons (pe_op op_mul pe_int (pv 0)) pa_nil))) pa_nil))))))
      (pss_one (ps_ret (pv 1)))))))), ?_⟩
  refine ⟨_, rfl, rfl, _, rfl, ite2 (fun c => ?_) (fun c => ?_)⟩
  · have c1 : n = 1 := V.int.inj (of_decide_eq_true c)
    have eP : pairs4 n = [(4, 8), (5, 7), (1, 2), (3, 6)] := by
      unfold pairs4
      rw [if_pos c1]
    refine ⟨small (show 2 ≤ 16777216 by decide), fun p1 np1 => ⟨small (show 2 ≤ 16777216 by decide), fun p2 np2 => ⟨small (show 2 ≤ 16777216 by decide), fun p3 np3 => ⟨small (show 2 ≤ 16777216 by decide), fun p4 np4 => ⟨small (show 4 ≤ 16777216 by decide), fun p np => ?_⟩⟩⟩⟩⟩
    have s1 := same_upd np1 (o := .tup [V.int 4, V.int 8])
    have s2 := same_upd np2 (o := .tup [V.int 5, V.int 7])
    have s3 := same_upd np3 (o := .tup [V.int 1, V.int 2])
    have s4 := same_upd np4 (o := .tup [V.int 3, V.int 6])
    have s5 := same_upd np (o := .lst [V.ref p1, V.ref p2, V.ref p3, V.ref p4])
    refine q _ p [p1, p2, p3, p4] ((((s1.trans s2).trans s3).trans s4).trans s5) upd_same ?_
    rw [eP]
    exact ((((PairsAt.one (q := (4, 8)) upd_same).keep (s2.trans (s3.trans (s4.trans s5)))).append ((PairsAt.one (q := (5, 7)) upd_same).keep (s3.trans (s4.trans s5)))).append ((PairsAt.one (q := (1, 2)) upd_same).keep (s4.trans s5))).append ((PairsAt.one (q := (3, 6)) upd_same).keep s5)
  · have c1 : ¬ n = 1 := fun z => c (decide_eq_true (congrArg V.int z))
    have eP : pairs4 n = pairs4g n := by
      unfold pairs4
      rw [if_neg c1]
    -- the first family
    refine ⟨_, rfl, _, _, rfl, rfl, .inl ⟨by decide, by decide⟩, 2 * n, rfl, by omega, by omega, fun D1 nD1 => ?_⟩
    refine lc_pairs (n := (2 * n).toNat) nD1 (by omega) (fun k => (4 * n + k, 8 * n - k)) (fun i H Q hi q => ⟨_, rfl, _, _, rfl, rfl, .inl ⟨by decide, by decide⟩, _, rfl, _, _, rfl, rfl, _, rfl, _, _, rfl, rfl, .inl ⟨by decide, by decide⟩, _, rfl, _, _, rfl, rfl, small (show 2 ≤ 16777216 by decide), q⟩) (fun H1 ts1 s1 e1 p1 => ?_)
    -- the second
    refine ⟨_, rfl, _, rfl, 1, n, rfl, ⟨by omega, by omega, by omega, by omega⟩, fun D2 nD2 => ?_⟩
    refine lc_pairs (lo := 1) (n := (n - 1).toNat) nD2 (by omega) (fun k => (k, 4 * n - 1 - k)) (fun i H Q hi q => ⟨_, rfl, _, rfl, _, _, rfl, rfl, .inl ⟨by decide, by decide⟩, _, _, rfl, rfl, _, rfl, _, _, rfl, rfl, small (show 2 ≤ 16777216 by decide), q⟩) (fun H2 ts2 s2 e2 p2 => ?_)
    refine cat_pairs (Same.refl _) s2 e1 p1 e2 p2 (by rw [fam_length, fam_length]; omega) fun D3 H3 s3 e3 p3 => ?_
    -- the third
    refine ⟨_, rfl, _, rfl, _, _, rfl, rfl, n - 2, rfl, by omega, by omega, fun D4 nD4 => ?_⟩
    refine lc_pairs (n := (n - 2).toNat) nD4 (by omega) (fun k => (n + 2 + k, 3 * n - 1 - k)) (fun i H Q hi q => ⟨_, rfl, _, _, rfl, rfl, _, rfl, _, _, rfl, rfl, _, rfl, _, _, rfl, rfl, .inl ⟨by decide, by decide⟩, _, _, rfl, rfl, _, rfl, _, _, rfl, rfl, small (show 2 ≤ 16777216 by decide), q⟩) (fun H4 ts4 s4 e4 p4 => ?_)
    refine cat_pairs (Same.refl _) s4 e3 p3 e4 p4 (by rw [List.length_append, fam_length, fam_length, fam_length]; omega) fun D5 H5 s5 e5 p5 => ?_
    -- the last three
    refine ⟨_, rfl, _, rfl, _, rfl, _, _, rfl, rfl, small (show 2 ≤ 16777216 by decide), fun q1 nq1 => ⟨_, rfl, _, _, rfl, rfl, .inl ⟨by decide, by decide⟩, _, rfl, _, _, rfl, rfl, .inl ⟨by decide, by decide⟩, _, _, rfl, rfl, small (show 2 ≤ 16777216 by decide), fun q2 nq2 =>
      ⟨_, rfl, _, _, rfl, rfl, .inl ⟨by decide, by decide⟩, _, _, rfl, rfl, _, rfl, _, _, rfl, rfl, .inl ⟨by decide, by decide⟩, small (show 2 ≤ 16777216 by decide), fun q3 nq3 => ⟨small (show 3 ≤ 16777216 by decide), fun D6 nD6 => ?_⟩⟩⟩⟩
    have t1 := same_upd nq1 (o := .tup [V.int n, V.int (n + 1)])
    have t2 := same_upd nq2 (o := .tup [V.int (2 * n), V.int (4 * n - 1)])
    have t3 := same_upd nq3 (o := .tup [V.int (2 * n + 1), V.int (6 * n)])
    have t4 := same_upd nD6 (o := .lst [V.ref q1, V.ref q2, V.ref q3])
    have p6 := (((PairsAt.one (q := (n, n + 1)) upd_same).keep (t2.trans (t3.trans t4))).append ((PairsAt.one (q := (2 * n, 4 * n - 1)) upd_same).keep (t3.trans t4))).append ((PairsAt.one (q := (2 * n + 1, 6 * n)) upd_same).keep t4)
    refine cat_pairs (us := [q1, q2, q3]) (Same.refl _) (((t1.trans t2).trans t3).trans t4) e5 p5 upd_same p6 ?_ fun p H7 s7 e7 p7 => ?_
    · rw [List.length_append, List.length_append, fam_length, fam_length, fam_length]
      show _ + 3 ≤ _
      omega
    refine ⟨_, rfl, q H7 p _ ?_ e7 ?_⟩
    · exact s1.trans (s2.trans (s3.trans (s4.trans (s5.trans ((((t1.trans t2).trans t3).trans t4).trans s7)))))
    · rw [eP]
      exact p7
theorem kn_pairs_of_one_more (D : Df K mg "pairs_of_one_more" st_pairs_of_one_more ["fourth"]) (B : Bl mg) : Kn P w K mg base CX0 1 "pairs_of_one_more" ["fourth"] (spPairs 0 pairs5) := by
  refine D.kn sc_pairs_of_one_more (fun vs H Q E h => ?_) (fun f cdv A outer s H vs Q E hr h => ?_)
  · obtain ⟨a, rfl, _⟩ := h
    rfl
  obtain ⟨n, rfl, n1, n2, q⟩ := h
  refine ⟨_, (pss_cons (ps_if (pt_cmpR op_eq (pv 0) pe_int (nomark _))
        (pss_one (ps_ret (pe_lst (pa_cons (pe_tup (pa_cons pe_int (pa_cons pe_int pa_nil))) pa_nil))))
        pss_nil)
      (pss_cons (ps_if (pt_cmpR op_eq (pv 0) pe_int (nomark _))
        (pss_one (ps_ret (pe_lst (pa_cons (pe_tup (pa_cons pe_int (pa_cons pe_int pa_nil))) (pa_cons (pe_tup (pa_cons pe_int (pa_cons pe_int pa_nil))) (pa_cons (pe_tup (pa_cons pe_int (pa_cons pe_int pa_nil))) (pa_cons (pe_tup (pa_cons pe_int (pa_cons pe_int pa_nil))) (pa_cons (pe_tup (pa_cons pe_int (pa_cons pe_int pa_nil))) pa_nil))))))))
        pss_nil)
      (pss_cons (ps_setLc (i := 1) (own := [("k", 2)]) (g := gName 2) (tt := tYes) rfl sc_pairs_of_one_more.nd rfl rfl (sw_true rfl rfl rfl (by decide +kernel)) (pi_range1 (by rfl) B.range_ (pa_cons (pe_op op_mul pe_int (pv 0)) pa_nil)) (blkOk_by (own := [("k", 2)]) (N := N_pairs_of_one_more) (sc := defScope st_pairs_of_one_more) (by decide +kernel)) (fun _ _ _ _ _ => pg_name (i := 2) sc_pairs_of_one_more.nd rfl (Or.inl rfl)) (fun _ _ _ _ _ => pts_nil) (fun _ _ _ _ _ => pe_tup (pa_cons (pe_op op_add (pe_op op_add (pe_op op_mul pe_int (pv 0)) pe_int) (pv 2)) (pa_cons (pe_op op_sub (pe_op op_add (pe_op op_mul pe_int (pv 0)) pe_int) (pv 2)) pa_nil))))
      (pss_cons (ps_set (i := 1) sc_pairs_of_one_more.nd rfl (Or.inl rfl) (pe_op op_cat (pv 1) (pe_lc (own := [("k", 2)]) (g := gName 2) (tt := tYes) rfl sc_pairs_of_one_more.nd (pi_range2 (by rfl) B.range_ (pa_cons pe_int (pa_cons (pe_op op_add (pv 0) pe_int) pa_nil))) (blkOk_by (own := [("k", 2)]) (N := N_pairs_of_one_more) (sc := defScope st_pairs_of_one_more) (by decide +kernel)) (fun _ _ _ _ _ => pg_name (i := 2) sc_pairs_of_one_more.nd rfl (Or.inl rfl)) (fun _ _ _ _ _ => pts_nil) (fun _ _ _ _ _ => pe_tup (pa_cons (pv 2) (pa_cons (pe_op op_sub (pe_op op_add (pe_op op_mul pe_int (pv 0)) pe_int) (pv 2)) pa_nil))))))
      (pss_cons (ps_set (i := 1) sc_pairs_of_one_more.nd rfl (Or.inl rfl) (pe_op op_cat (pv 1) (pe_lc (own := [("k", 2)]) (g := gName 2) (tt := tYes) rfl sc_pairs_of_one_more.nd (pi_range2 (by rfl) B.range_ (pa_cons pe_int (pa_cons (pe_op op_sub (pv 0) pe_int) pa_nil))) (blkOk_by (own := [("k", 2)]) (N := N_pairs_of_one_more) (sc := defScope st_pairs_of_one_more) (by decide +kernel)) (fun _ _ _ _ _ => pg_name (i := 2) sc_pairs_of_one_more.nd rfl (Or.inl rfl)) (fun _ _ _ _ _ => pts_nil) (fun _ _ _ _ _ => pe_tup (pa_cons (pe_op op_add (pe_op op_add (pv 0) pe_int) (pv 2)) (pa_cons (pe_op op_sub (pe_op op_add (pe_op op_mul pe_int (pv 0)) pe_int) (pv 2)) pa_nil))))))
      (pss_cons (ps_set (i := 1) sc_pairs_of_one_more.nd rfl (Or.inl rfl) (pe_op op_cat (pv 1) (pe_lst (pa_cons (pe_tup (pa_cons (pe_op op_add (pv 0) pe_int) (pa_cons (pe_op op_add (pv 0) pe_int) pa_nil))) (pa_cons (pe_tup (pa_cons (pe_op op_add (pe_op op_mul pe_int (pv 0)) pe_int) (pa_cons (pe_op op_add (pe_op op_mul pe_int (pv 0)) pe_int) pa_nil))) (pa_cons (pe_tup (pa_cons (pe_op op_add (pe_op op_mul pe_int (pv 0)) pe_int) (pa_cons (pe_op op_add (pe_op op_mul pe_int (pv 0)) pe_int) pa_nil))) pa_nil))))))
      (pss_one (ps_ret (pv 1))))))))), ?_⟩
  refine ⟨_, rfl, rfl, _, rfl, ite2 (fun c => ?_) (fun c => ?_)⟩
  · have c1 : n = 0 := V.int.inj (of_decide_eq_true c)
    have eP : pairs5 n = [(1, 2)] := by
      unfold pairs5
      rw [if_pos c1]
    refine ⟨small (show 2 ≤ 16777216 by decide), fun p1 np1 => ⟨small (show 1 ≤ 16777216 by decide), fun p np => ?_⟩⟩
    have s1 := same_upd np1 (o := .tup [V.int 1, V.int 2])
    have s2 := same_upd np (o := .lst [V.ref p1])
    refine q _ p [p1] (s1.trans s2) upd_same ?_
    rw [eP]
    exact (PairsAt.one (q := (1, 2)) upd_same).keep s2
  have c0 : ¬ n = 0 := fun z => c (decide_eq_true (congrArg V.int z))
  refine ⟨_, rfl, rfl, _, rfl, ite2 (fun c => ?_) (fun c => ?_)⟩
  · have c1 : n = 1 := V.int.inj (of_decide_eq_true c)
    have eP : pairs5 n = [(1, 2), (3, 6), (4, 8), (5, 10), (7, 9)] := by
      unfold pairs5
      rw [if_neg c0, if_pos c1]
    refine ⟨small (show 2 ≤ 16777216 by decide), fun p1 np1 => ⟨small (show 2 ≤ 16777216 by decide), fun p2 np2 => ⟨small (show 2 ≤ 16777216 by decide), fun p3 np3 => ⟨small (show 2 ≤ 16777216 by decide), fun p4 np4 => ⟨small (show 2 ≤ 16777216 by decide), fun p5 np5 => ⟨small (show 5 ≤ 16777216 by decide), fun p np => ?_⟩⟩⟩⟩⟩⟩
    have s1 := same_upd np1 (o := .tup [V.int 1, V.int 2])
    have s2 := same_upd np2 (o := .tup [V.int 3, V.int 6])
    have s3 := same_upd np3 (o := .tup [V.int 4, V.int 8])
    have s4 := same_upd np4 (o := .tup [V.int 5, V.int 10])
    have s5 := same_upd np5 (o := .tup [V.int 7, V.int 9])
    have s6 := same_upd np (o := .lst [V.ref p1, V.ref p2, V.ref p3, V.ref p4, V.ref p5])
    refine q _ p [p1, p2, p3, p4, p5] (((((s1.trans s2).trans s3).trans s4).trans s5).trans s6) upd_same ?_
    rw [eP]
    exact (((((PairsAt.one (q := (1, 2)) upd_same).keep (s2.trans (s3.trans (s4.trans (s5.trans s6))))).append ((PairsAt.one (q := (3, 6)) upd_same).keep (s3.trans (s4.trans (s5.trans s6))))).append ((PairsAt.one (q := (4, 8)) upd_same).keep (s4.trans (s5.trans s6)))).append ((PairsAt.one (q := (5, 10)) upd_same).keep (s5.trans s6))).append ((PairsAt.one (q := (7, 9)) upd_same).keep s6)
  · have c1 : ¬ n = 1 := fun z => c (decide_eq_true (congrArg V.int z))
    have eP : pairs5 n = pairs5g n := by
      unfold pairs5
      rw [if_neg c0, if_neg c1]
    -- the first family
    refine ⟨_, rfl, _, _, rfl, rfl, .inl ⟨by decide, by decide⟩, 2 * n, rfl, by omega, by omega, fun D1 nD1 => ?_⟩
    refine lc_pairs (n := (2 * n).toNat) nD1 (by omega) (fun k => (4 * n + 2 + k, 8 * n + 2 - k)) (fun i H Q hi q => ⟨_, rfl, _, _, rfl, rfl, .inl ⟨by decide, by decide⟩, _, _, rfl, rfl, _, rfl, _, _, rfl, rfl, _, rfl, _, _, rfl, rfl, .inl ⟨by decide, by decide⟩, _, _, rfl, rfl, _, rfl, _, _, rfl, rfl, small (show 2 ≤ 16777216 by decide), q⟩) (fun H1 ts1 s1 e1 p1 => ?_)
    -- the second
    refine ⟨_, rfl, _, rfl, _, _, rfl, rfl, 1, n + 1, rfl, ⟨by omega, by omega, by omega, by omega⟩, fun D2 nD2 => ?_⟩
    refine lc_pairs (lo := 1) (n := (n + 1 - 1).toNat) nD2 (by omega) (fun k => (k, 4 * n + 1 - k)) (fun i H Q hi q => ⟨_, rfl, _, rfl, _, _, rfl, rfl, .inl ⟨by decide, by decide⟩, _, _, rfl, rfl, _, rfl, _, _, rfl, rfl, small (show 2 ≤ 16777216 by decide), q⟩) (fun H2 ts2 s2 e2 p2 => ?_)
    refine cat_pairs (Same.refl _) s2 e1 p1 e2 p2 (by rw [fam_length, fam_length]; omega) fun D3 H3 s3 e3 p3 => ?_
    -- the third
    refine ⟨_, rfl, _, rfl, _, _, rfl, rfl, 1, n - 1, rfl, ⟨by omega, by omega, by omega, by omega⟩, fun D4 nD4 => ?_⟩
    refine lc_pairs (lo := 1) (n := (n - 1 - 1).toNat) nD4 (by omega) (fun k => (n + 2 + k, 3 * n + 1 - k)) (fun i H Q hi q => ⟨_, rfl, _, _, rfl, rfl, _, rfl, _, _, rfl, rfl, _, rfl, _, _, rfl, rfl, .inl ⟨by decide, by decide⟩, _, _, rfl, rfl, _, rfl, _, _, rfl, rfl, small (show 2 ≤ 16777216 by decide), q⟩) (fun H4 ts4 s4 e4 p4 => ?_)
    refine cat_pairs (Same.refl _) s4 e3 p3 e4 p4 (by rw [List.length_append, fam_length, fam_length, fam_length]; omega) fun D5 H5 s5 e5 p5 => ?_
    -- the last three
    refine ⟨_, rfl, _, rfl, _, _, rfl, rfl, _, rfl, _, _, rfl, rfl, small (show 2 ≤ 16777216 by decide), fun q1 nq1 => ⟨_, rfl, _, _, rfl, rfl, .inl ⟨by decide, by decide⟩, _, _, rfl, rfl, _, rfl, _, _, rfl, rfl, .inl ⟨by decide, by decide⟩, _, _, rfl, rfl, small (show 2 ≤ 16777216 by decide), fun q2 nq2 =>
      ⟨_, rfl, _, _, rfl, rfl, .inl ⟨by decide, by decide⟩, _, _, rfl, rfl, _, rfl, _, _, rfl, rfl, .inl ⟨by decide, by decide⟩, _, _, rfl, rfl, small (show 2 ≤ 16777216 by decide), fun q3 nq3 => ⟨small (show 3 ≤ 16777216 by decide), fun D6 nD6 => ?_⟩⟩⟩⟩
    have t1 := same_upd nq1 (o := .tup [V.int (n + 1), V.int (n + 2)])
    have t2 := same_upd nq2 (o := .tup [V.int (2 * n + 1), V.int (6 * n + 2)])
    have t3 := same_upd nq3 (o := .tup [V.int (2 * n + 2), V.int (4 * n + 1)])
    have t4 := same_upd nD6 (o := .lst [V.ref q1, V.ref q2, V.ref q3])
    have p6 := (((PairsAt.one (q := (n + 1, n + 2)) upd_same).keep (t2.trans (t3.trans t4))).append ((PairsAt.one (q := (2 * n + 1, 6 * n + 2)) upd_same).keep (t3.trans t4))).append ((PairsAt.one (q := (2 * n + 2, 4 * n + 1)) upd_same).keep t4)
    refine cat_pairs (us := [q1, q2, q3]) (Same.refl _) (((t1.trans t2).trans t3).trans t4) e5 p5 upd_same p6 ?_ fun p H7 s7 e7 p7 => ?_
    · rw [List.length_append, List.length_append, fam_length, fam_length, fam_length]
      show _ + 3 ≤ _
      omega
    refine ⟨_, rfl, q H7 p _ ?_ e7 ?_⟩
    · exact s1.trans (s2.trans (s3.trans (s4.trans (s5.trans ((((t1.trans t2).trans t3).trans t4).trans s7)))))
    · rw [eP]
      exact p7
end

/-! ### row_of -/
abbrev N_row_of : List Str := ["size", "pairs", "found", "k", "one", "other"]
theorem sc_row_of : FnScope N_row_of ["size"] (defScope st_row_of) := ⟨rfl, rfl, rfl, by decide +kernel, rfl, by decide +kernel, by decide +kernel⟩
/-- a size that isn't told of: E of the class at CS; one that no row has: of the one at CU; else a new list, the row -/
def spRowOf (CS CU : Addr) : Sp := fun vs H Q E => ∃ size : Int, vs = [.int size] ∧ (¬ (1 ≤ size ∧ size ≤ 400) → E (.ref CS) none H) ∧ (1 ≤ size ∧ size ≤ 400 → ¬ size % 4 < 2 → E (.ref CU) none H) ∧
  (1 ≤ size ∧ size ≤ 400 → size % 4 < 2 → ∀ H' p, Same H H' → H p = none → H' p = some (.lst ((rowOf size).map V.int)) → Q (.ref p) H')
/-- the pairs of a size, by either def -/
theorem if_pairs {σ : L2.St} {H : Hp} {C : VK} {ta tb : TA} {size : Int} (hs : 1 ≤ size ∧ size ≤ 400) (h4 : size % 4 < 2) (ha : ∀ Q', Q' [V.int (size / 4)] H → ta σ H Q') (hb : ∀ Q', Q' [V.int (size / 4)] H → tb σ H Q')
    (h : ∀ H1 p ts, Same H H1 → H1 p = some (.lst (ts.map V.ref)) → PairsAt H1 ts (if size % 4 = 0 then pairs4 (size / 4) else pairs5 (size / 4)) → C (.ref p) H1) :
    if decide (V.int (size % 4) = V.int 0) = true then tCall (spPairs 1 pairs4) [] E0 ta σ H C else tCall (spPairs 0 pairs5) [] E0 tb σ H C := by
  refine ite2 (fun d => ?_) (fun d => ?_)
  · have d' : size % 4 = 0 := V.int.inj (of_decide_eq_true d)
    rw [if_pos d'] at h
    exact ha _ ⟨size / 4, rfl, by omega, by omega, h⟩
  · have d' : ¬ size % 4 = 0 := fun z => d (decide_eq_true (congrArg V.int z))
    rw [if_neg d'] at h
    exact hb _ ⟨size / 4, rfl, by omega, by omega, h⟩
section
variable {P : Program} {w : World} {K : PySem.W.Frag} {mg : Str → Option Value} {base : Heap}
theorem kn_row_of {CS CU : Addr} (D : Df K mg "row_of" st_row_of ["size"]) (B : Bl mg) (X_NoSuch : Ec K mg "NoSuch" CU) (K_can_be : Kn P w K mg base (L2.CX P w) 2 "can_be" ["size"] (spCanBe CS))
    (K_pairs_of_four : Kn P w K mg base CX0 1 "pairs_of_four" ["fourth"] (spPairs 1 pairs4)) (K_pairs_of_one_more : Kn P w K mg base CX0 1 "pairs_of_one_more" ["fourth"] (spPairs 0 pairs5)) : Kn P w K mg base (L2.CX P w) 3 "row_of" ["size"] (spRowOf CS CU) := by
  refine D.knX sc_row_of (fun vs H Q E h => ?_) (fun f cdv A outer s H vs Q E hr h => ?_)
  · obtain ⟨a, rfl, _⟩ := h
    rfl
  obtain ⟨size, rfl, h1, h2, h3⟩ := h
  refine ⟨_, (pss_cons (ps_if (pt_not (pt_val (pe_kE K_can_be (takes_of rfl rfl rfl rfl) (hr.mono (by first | decide | omega)) (by rfl) (pa_cons (pv 0) pa_nil))))
        (pss_one (ps_raise rfl (takes_of rfl rfl rfl rfl) (pmk_own PySem.F.excBase_ValueError X_NoSuch.x X_NoSuch.g X_NoSuch.k (raises_own X_NoSuch.b X_NoSuch.t) rfl)))
        pss_nil)
      (pss_cons (ps_set (i := 1) sc_row_of.nd rfl (Or.inl rfl) (pe_ifExp (pt_cmpR op_eq (pe_op op_mod (pv 0) pe_int) pe_int (nomark _)) (pe_k0 K_pairs_of_four (hr.mono (by first | decide | omega)) (by rfl) (pa_cons (pe_op op_fdiv (pv 0) pe_int) pa_nil)) (pe_k0 K_pairs_of_one_more (hr.mono (by first | decide | omega)) (by rfl) (pa_cons (pe_op op_fdiv (pv 0) pe_int) pa_nil))))
      (pss_cons (ps_setLc (i := 2) (own := [("k", 3)]) (g := gName 3) (tt := tYes) rfl sc_row_of.nd rfl rfl (sw_true rfl rfl rfl (by decide +kernel)) (pi_range1 (by rfl) B.range_ (pa_cons (pe_op op_mul pe_int (pv 0)) pa_nil)) (blkOk_by (own := [("k", 3)]) (N := N_row_of) (sc := defScope st_row_of) (by decide +kernel)) (fun _ _ _ _ _ => pg_name (i := 3) sc_row_of.nd rfl (Or.inl rfl)) (fun _ _ _ _ _ => pts_nil) (fun _ _ _ _ _ => pe_int))
      (pss_cons (ps_for (passes_of rfl) rfl (pi_list (pv 1)) (pg_tup rfl (pgs_cons (pg_name (i := 4) sc_row_of.nd rfl (Or.inl rfl)) (pgs_cons (pg_name (i := 5) sc_row_of.nd rfl (Or.inl rfl)) pgs_nil)))
        (pss_cons (ps_asg (pe_op op_sub (pv 5) (pv 4)) (pg_sub (pv 2) (pe_op op_sub (pv 4) pe_int) set_list))
        (pss_one (ps_asg (pe_op op_sub (pv 5) (pv 4)) (pg_sub (pv 2) (pe_op op_sub (pv 5) pe_int) set_list)))))
      (pss_one (ps_ret (pv 2))))))), ?_⟩
  refine ⟨_, rfl, size, rfl, h1, fun z => ⟨_, rfl, ite2 (fun c => ?_) (fun c => ?_)⟩⟩
  · have c' : ¬ size % 4 < 2 := by
      have q : (!decide (size % 4 < 2)) = true := c
      rw [Bool.not_eq_true', decide_eq_false_iff_not] at q
      exact q
    exact h2 z c'
  have c' : size % 4 < 2 := by
    have q : ¬ (!decide (size % 4 < 2)) = true := c
    rw [Bool.not_eq_true', decide_eq_false_iff_not, Decidable.not_not] at q
    exact q
  have hR := rowOf_pairs z.1 z.2 c'
  have hw := rowOf_length size
  refine ⟨_, rfl, _, _, rfl, rfl, (by decide : (0 : Int) < 4), rfl, _, rfl, ?_⟩
  refine if_pairs z c' (fun Q' q' => ⟨_, rfl, _, _, rfl, rfl, ⟨by decide, by decide⟩, q'⟩) (fun Q' q' => ⟨_, rfl, _, _, rfl, rfl, ⟨by decide, by decide⟩, q'⟩) fun H1 p ts s1 e1 p1 => ?_
  generalize hps : (if size % 4 = 0 then pairs4 (size / 4) else pairs5 (size / 4)) = ps at hR p1
  have hrow : rowOf size = fillRow (List.replicate (2 * size.toNat) 0) ps := by rw [← hps]; rfl
  -- found
  refine ⟨_, rfl, _, _, rfl, rfl, .inl ⟨by decide, by decide⟩, 2 * size, rfl, by omega, by omega, fun D nD => ?_⟩
  refine lc_noughts (n := (2 * size).toNat) (by omega) ?_
  have e2n : (2 * size).toNat = 2 * size.toNat := by omega
  rw [e2n]
  have nDH : H D = none := s1.free nD
  have npD : p ≠ D := ne_of_none e1 nD
  -- the loop
  refine ⟨_, rfl, p, rfl, ⟨_, SqL.of (by rw [upd_ne npD]; exact e1)⟩, for_list (K := K) (a := p) (xs := ts.map V.ref) (fun i σ H' => ∃ y3 y4 y5, σ = [some (.int size), some (.ref p), some (.ref D), y3, y4, y5] ∧ H' = upd H1 D (.lst ((fillRow (List.replicate (2 * size.toNat) 0) (ps.take i)).map V.int))) ⟨none, none, none, rfl, rfl⟩ ?_ ?_ ?_⟩
  · rintro i σ H' _ ⟨y3, y4, y5, rfl, rfl⟩
    exact SqL.of (by rw [upd_ne npD]; exact e1)
  · rintro i y σ H' hy ⟨y3, y4, y5, rfl, rfl⟩
    obtain ⟨t, q, rfl, hq, et⟩ := p1.get hy
    have hin := hR.inn q (List.mem_of_getElem? hq)
    have hlen : (fillRow (List.replicate (2 * size.toNat) 0) (ps.take i)).length = 2 * size.toNat := by rw [fillRow_length, List.length_replicate]
    refine ⟨t, _, rfl, SqT.of (by rw [upd_ne (ne_of_none et nD)]; exact et), rfl, _, _, rfl, _, _, rfl, rfl, ?_⟩
    refine ⟨_, rfl, _, rfl, _, _, rfl, rfl, _, rfl, _, rfl, _, _, rfl, rfl, D, _, _, _, rfl, rfl, upd_same, ixN_at (by omega) (by rw [ints_len, hlen]; omega), ?_⟩
    rw [upd_upd, set_ints]
    refine ⟨_, rfl, _, rfl, _, _, rfl, rfl, _, rfl, _, rfl, _, _, rfl, rfl, D, _, _, _, rfl, rfl, upd_same, ixN_at (by omega) (by rw [ints_len, List.length_set, hlen]; omega), ?_⟩
    rw [upd_upd, set_ints]
    refine ⟨_, _, _, rfl, ?_⟩
    rw [take_snoc hq]
    unfold fillRow
    rw [List.foldl_append]
    rfl
  · rintro σ H' ⟨y3, y4, y5, rfl, rfl⟩
    rw [List.length_map, p1.1, List.take_length, ← hrow]
    exact ⟨_, rfl, h3 z c' _ D (s1.new nD) nDH upd_same⟩
end

/-! ### filled -/
abbrev N_filled : List Str := ["row", "number", "found", "place", "more"]
theorem sc_filled : FnScope N_filled ["row", "number"] (defScope st_filled) := ⟨rfl, rfl, rfl, by decide +kernel, rfl, by decide +kernel, by decide +kernel⟩
def spFilledAll (n : Nat) : Sp := fun vs H Q _ => ∃ (a : Addr) (row : List Int) (m : Nat) (z : Int), vs = [.ref a, .int z] ∧ z = (m : Int) ∧ H a = some (.lst (row.map V.int)) ∧ m < n ∧ m ≤ 1000 ∧ row.length ≤ 1000 ∧ (fillAt m row).length ≤ 100000 ∧
  ∀ H' p ts, Same H H' → H p = none → H' p = some (.lst (ts.map V.ref)) → LstsAt H' ts (fillAt m row) → (∀ t ∈ ts, H t = none ∨ t = a) → Q (.ref p) H'
section
variable {P : Program} {w : World} {K : PySem.W.Frag} {mg : Str → Option Value} {base : Heap}
theorem Df.never {CX : CXT} {k : Nat} {x : Str} {st : Stmt} {ps : List Str} {sp : Sp} (D : Df K mg x st ps) (no : ∀ vs H Q E, ¬ sp vs H Q E) : Kn P w K mg base CX k x ps sp := by
  obtain ⟨f, fd, F, b, g⟩ := D.ex
  exact ⟨f, fd, ⟨fun vs H Q E h => absurd h (no vs H Q E), fun A outer s H args us vs Q E _ _ _ _ h => absurd h (no vs H Q E)⟩, F.kp, b, g⟩
theorem kn_filled1 {n : Nat} (D : Df K mg "filled" st_filled ["row", "number"]) (B : Bl mg) (K_filled : Kn P w K mg base CX0 (n + 1) "filled" ["row", "number"] (spFilledAll n)) :
    Kn P w K mg base CX0 (n + 2) "filled" ["row", "number"] (spFilledAll (n + 1)) := by
  refine D.kn sc_filled (fun vs H Q E h => ?_) (fun f cdv A outer s H vs Q E hr h => ?_)
  · obtain ⟨a, row, m, z, rfl, _⟩ := h
    rfl
  obtain ⟨a, row, m, z, rfl, rfl, eA, hm, hm2, hlen, hbig, q⟩ := h
  refine ⟨_, (pss_cons (ps_if (pt_cmpR op_eq (pv 1) pe_int (nomark _))
        (pss_one (ps_ret (pe_lst (pa_cons (pv 0) pa_nil))))
        pss_nil)
      (pss_cons (ps_set (i := 2) sc_filled.nd rfl (Or.inl rfl) (pe_lst pa_nil))
      (pss_cons (ps_for PassesOwn.never rfl (pi_range1 (by rfl) B.range_ (pa_cons (pe_op op_sub (pe_callB call_len_seq (by rfl) B.len_ (by decide +kernel) (pa_cons (pv 0) pa_nil)) (pv 1)) pa_nil)) (pg_name (i := 3) sc_filled.nd rfl (Or.inl rfl))
        (pss_one (ps_if (PW.pt (pw_and (pt_cmpR op_eq (pe_ix ix_list (pv 0) (pv 3) (fun _ _ => rfl)) pe_int (nomark _)) (pw_and1 (pt_cmpR op_eq (pe_ix ix_list (pv 0) (pe_op op_add (pv 3) (pv 1)) (fun _ _ => rfl)) pe_int (nomark _)))))
          (pss_cons (ps_set (i := 4) sc_filled.nd rfl (Or.inl rfl) (pe_callTy call_list_of (by rfl) B.list_ (by decide +kernel) (pa_cons (pv 0) pa_nil)))
          (pss_cons (ps_asg (pv 1) (pg_sub (pv 4) (pv 3) set_list))
          (pss_cons (ps_asg (pv 1) (pg_sub (pv 4) (pe_op op_add (pv 3) (pv 1)) set_list))
          (pss_one (ps_expr (pe_bm PySem.F.plainAttrs_list PySem.F.slot_list_extend PySem.F.type_list_extend mt_extend (pv 2) (pa_cons (pe_k0 K_filled (hr.mono (by first | decide | omega)) (by rfl) (pa_cons (pv 4) (pa_cons (pe_op op_sub (pv 1) pe_int) pa_nil))) pa_nil)))))))
          pss_nil)))
      (pss_one (ps_ret (pv 2)))))), ?_⟩
  refine ⟨_, rfl, rfl, _, rfl, ite2 (fun c => ?_) (fun c => ?_)⟩
  · have c1 : (m : Int) = 0 := V.int.inj (of_decide_eq_true c)
    have c2 : m = 0 := by omega
    subst c2
    refine ⟨_, rfl, small (show 1 ≤ 16777216 by decide), fun l nl => ?_⟩
    exact q _ l [a] (same_upd nl) nl upd_same (.one ((same_upd nl) _ _ eA)) fun t ht => .inr (List.mem_singleton.mp ht)
  have c1 : ¬ (m : Int) = 0 := fun z => c (decide_eq_true (congrArg V.int z))
  obtain ⟨m, rfl⟩ : ∃ m', m = m' + 1 := ⟨m - 1, by omega⟩
  have hL := ints_len row
  refine ⟨small (show 0 ≤ 16777216 by decide), fun F nF => ?_⟩
  generalize hg : (fun p => if row[p]? = some 0 ∧ row[p + (m + 1)]? = some 0 then fillAt m (setTwo row p (m + 1)) else []) = g
  have e0 : fillAt (m + 1) row = (List.range (row.length - (m + 1))).flatMap g := by rw [← hg]; rfl
  rw [e0] at hbig q
  have eA0 : (upd H F (.lst [])) a = some (.lst (row.map V.int)) := (same_upd nF) _ _ eA
  refine ⟨_, rfl, a, _, rfl, .inl (SqL.of eA0), _, rfl, _, _, rfl, rfl, ((row.map V.int).length : Int) - ((m + 1 : Nat) : Int), rfl, by omega, by omega, ?_⟩
  have hn : (((row.map V.int).length : Int) - ((m + 1 : Nat) : Int)).toNat = row.length - (m + 1) := by rw [hL]; omega
  rw [hn]
  refine for_range (lo := 0) (n := row.length - (m + 1)) (fun i σ H' => ∃ y3 y4 ts, σ = [some (.ref a), some (.int ((m + 1 : Nat) : Int)), some (.ref F), y3, y4] ∧ Same H H' ∧ H' F = some (.lst (ts.map V.ref)) ∧ LstsAt H' ts ((List.range i).flatMap g) ∧ ∀ t ∈ ts, H t = none ∧ t ≠ F) ⟨none, none, [], rfl, same_upd nF, upd_same, .nil, fun t ht => by simp at ht⟩ ?_ ?_
  · rintro i σ H1 hi ⟨y3, y4, ts, rfl, s1, eF, hT, hF⟩
    have eA1 := s1 _ _ eA
    obtain ⟨x, hx⟩ : ∃ x, row[i]? = some x := ⟨row[i]'(by omega), List.getElem?_eq_getElem (by omega)⟩
    obtain ⟨y, hy⟩ : ∃ y, row[i + (m + 1)]? = some y := ⟨row[i + (m + 1)]'(by omega), List.getElem?_eq_getElem (by omega)⟩
    have hgi : g i = if row[i]? = some 0 ∧ row[i + (m + 1)]? = some 0 then fillAt m (setTwo row i (m + 1)) else [] := by rw [← hg]
    have hpre := fm_range_le g (i := i + 1) (n := row.length - (m + 1)) (by omega)
    rw [fm_range, List.length_append] at hpre
    have e00 : (0 : Int) + (i : Int) = (i : Int) := Int.zero_add _
    refine ⟨_, rfl, _, rfl, a, _, _, V.int x, rfl, rfl, SqL.of eA1, at_ints (by omega) (by rw [e00, Int.toNat_natCast]; exact hx), rfl, _, rfl, ite2 (fun d => ?_) (fun d => ?_)⟩
    · have d1 : x = 0 := V.int.inj (of_decide_eq_true d)
      have ea : (0 : Int) + (i : Int) + ((m + 1 : Nat) : Int) = ((i + (m + 1) : Nat) : Int) := by omega
      refine ⟨_, rfl, _, rfl, _, rfl, _, _, rfl, rfl, a, _, _, V.int y, rfl, rfl, SqL.of eA1, at_ints (by omega) (by rw [ea, Int.toNat_natCast]; exact hy), rfl, _, rfl, ite2 (fun d2 => ?_) (fun d2 => ?_)⟩
      · have d3 : y = 0 := V.int.inj (of_decide_eq_true d2)
        rw [d1] at hx
        rw [d3] at hy
        rw [if_pos ⟨hx, hy⟩] at hgi
        refine ⟨_, rfl, a, _, rfl, .inl (SqL.of eA1), fun l nl => ?_⟩
        have nlH : H l = none := s1.free nl
        have nlF : l ≠ F := fun e => by
          rw [e, eF] at nl
          cases nl
        refine ⟨_, rfl, _, rfl, _, rfl, l, _, _, _, rfl, rfl, upd_same, ixN_at (by omega) (by rw [hL]; omega), ?_⟩
        rw [upd_upd, set_ints, e00, Int.toNat_natCast]
        refine ⟨_, rfl, _, rfl, _, rfl, _, rfl, _, _, rfl, rfl, l, _, _, _, rfl, rfl, upd_same, ixN_at (by omega) (by rw [ints_len, List.length_set]; omega), ?_⟩
        rw [upd_upd, set_ints]
        rw [show ((row.set i ((m + 1 : Nat) : Int)).set ((i : Int) + ((m + 1 : Nat) : Int)).toNat ((m + 1 : Nat) : Int)) = setTwo row i (m + 1) by rw [show (i : Int) + ((m + 1 : Nat) : Int) = ((i + (m + 1) : Nat) : Int) by omega, Int.toNat_natCast]; rfl]
        generalize hH2 : upd H1 l (.lst ((setTwo row i (m + 1)).map V.int)) = H2
        have s12 : Same H1 H2 := hH2 ▸ same_upd nl
        have el : H2 l = some (.lst ((setTwo row i (m + 1)).map V.int)) := hH2 ▸ upd_same
        clear hH2
        refine ⟨_, rfl, .inl ⟨rfl, _, .inl (.inl (s12 _ _ eF))⟩, _, rfl, _, rfl, _, _, rfl, rfl, l, setTwo row i (m + 1), m, ((m + 1 : Nat) : Int) - 1, rfl, by omega, el, by omega, by omega, by rw [setTwo_length]; omega, by rw [← hgi]; omega, fun H3 p us s23 np ep hU hUf => ?_⟩
        rw [← hgi] at hU
        have s13 := s12.trans s23
        have eF3 := s13 _ _ eF
        refine ⟨F, p, _, _, rfl, rfl, eF3, ep, ?_, ?_⟩
        · rw [List.length_map, List.length_map, hT.1, hU.1]
          exact small (by omega)
        have usF : ∀ t ∈ us, t ≠ F := fun t ht e => by
          rcases hUf t ht with h | h
          · rw [e, s12 _ _ eF] at h
            cases h
          · exact nlF (h.symm.trans e)
        refine ⟨_, _, ts ++ us, rfl, (s1.trans s13).own nF, ?_, ?_, fun t ht => ?_⟩
        · rw [upd_same, List.map_append]
        · rw [fm_range]
          refine LstsAt.upd ((hT.keep s13).append hU) fun t ht => ?_
          rcases List.mem_append.mp ht with ht | ht
          · exact (hF t ht).2
          · exact usF t ht
        · rcases List.mem_append.mp ht with ht | ht
          · exact hF t ht
          · refine ⟨?_, usF t ht⟩
            rcases hUf t ht with h | h
            · exact (s1.trans s12).free h
            · rw [h]; exact nlH
      · have d3 : ¬ y = 0 := fun z => d2 (decide_eq_true (congrArg V.int z))
        have hN : g i = [] := by
          rw [hgi, if_neg]
          rintro ⟨_, z⟩
          rw [hy] at z
          exact d3 (Option.some.inj z)
        refine ⟨_, _, ts, rfl, s1, eF, ?_, hF⟩
        rw [fm_range, hN, List.append_nil]
        exact hT
    · have d1 : ¬ x = 0 := fun z => d (decide_eq_true (congrArg V.int z))
      have hN : g i = [] := by
        rw [hgi, if_neg]
        rintro ⟨z, _⟩
        rw [hx] at z
        exact d1 (Option.some.inj z)
      refine iteF ?_
      refine ⟨_, _, ts, rfl, s1, eF, ?_, hF⟩
      rw [fm_range, hN, List.append_nil]
      exact hT
  · rintro σ H1 ⟨y3, y4, ts, rfl, s1, eF, hT, hF⟩
    exact ⟨_, rfl, q H1 F ts s1 nF eF hT fun t ht => .inl (hF t ht).1⟩
theorem kn_filled (D : Df K mg "filled" st_filled ["row", "number"]) (B : Bl mg) : ∀ n : Nat, Kn P w K mg base CX0 (n + 1) "filled" ["row", "number"] (spFilledAll n)
  | 0 => D.never fun vs H Q E h => by
    obtain ⟨_, _, m, _, _, _, _, hm, _⟩ := h
    exact absurd hm (Nat.not_lt_zero _)
  | n + 1 => kn_filled1 D B (kn_filled D B n)
end

/-! ### many -/
abbrev N_many : List Str := ["size", "k"]
theorem sc_many : FnScope N_many ["size"] (defScope st_many) := ⟨rfl, rfl, rfl, by decide +kernel, rfl, by decide +kernel, by decide +kernel⟩
def spMany (C : Addr) : Sp := fun vs H Q E => ∃ size : Int, vs = [.int size] ∧ (¬ (1 ≤ size ∧ size ≤ 8) → E (.ref C) none H) ∧ (1 ≤ size ∧ size ≤ 8 → ∀ H', Same H H' → Q (.int (howMany size.toNat : Nat)) H')
section
variable {P : Program} {w : World} {K : PySem.W.Frag} {mg : Str → Option Value} {base : Heap}
theorem kn_many {C : Addr} {t1 : Tok} (D : Df K mg "many" st_many ["size"]) (B : Bl mg) (C_MOST_COUNTED : mg "MOST_COUNTED" = some (.int 8 t1)) (K_asked_size : Kn P w K mg base (L2.CX P w) 1 "asked_size" ["size", "most"] (spAskedSize C)) (K_filled : Kn P w K mg base CX0 10 "filled" ["row", "number"] (spFilledAll 9)) :
    Kn P w K mg base (L2.CX P w) 11 "many" ["size"] (spMany C) := by
  refine D.knX sc_many (fun vs H Q E h => ?_) (fun f cdv A outer s H vs Q E hr h => ?_)
  · obtain ⟨size, rfl, _⟩ := h
    rfl
  obtain ⟨size, rfl, h1, h2⟩ := h
  refine ⟨_, (pss_cons (ps_expr (pe_kE K_asked_size (takes_of rfl rfl rfl rfl) (hr.mono (by first | decide | omega)) (by rfl) (pa_cons (pv 0) (pa_cons (pe_globI (by rfl) C_MOST_COUNTED) pa_nil))))
      (pss_cons (ps_if (pt_cmpR op_gt (pe_op op_mod (pv 0) pe_int) pe_int (nomark _))
        (pss_one (ps_ret pe_int))
        pss_nil)
      (pss_one (ps_ret (pe_callB call_len_seq (by rfl) B.len_ (by decide +kernel) (pa_cons (pe_k0 K_filled (hr.mono (by first | decide | omega)) (by rfl) (pa_cons (pe_lc (own := [("k", 1)]) (g := gName 1) (tt := tYes) rfl sc_many.nd (pi_range1 (by rfl) B.range_ (pa_cons (pe_op op_mul pe_int (pv 0)) pa_nil)) (blkOk_by (own := [("k", 1)]) (N := N_many) (sc := defScope st_many) (by decide +kernel)) (fun _ _ _ _ _ => pg_name (i := 1) sc_many.nd rfl (Or.inl rfl)) (fun _ _ _ _ _ => pts_nil) (fun _ _ _ _ _ => pe_int)) (pa_cons (pv 0) pa_nil))) pa_nil)))))), ?_⟩
  refine ⟨_, rfl, size, 8, rfl, h1, fun c => ?_⟩
  obtain ⟨n, hn, hn1, hn2⟩ : ∃ n : Nat, size = (n : Int) ∧ 1 ≤ n ∧ n ≤ 8 := ⟨size.toNat, by omega, by omega, by omega⟩
  subst hn
  have q := h2 c
  rw [Int.toNat_natCast] at q
  refine ⟨_, rfl, _, _, rfl, rfl, (by decide : (0 : Int) < 4), _, _, rfl, rfl, _, rfl, ite2 (fun d => ?_) (fun d => ?_)⟩
  · have d' : ¬ n % 4 < 2 := by have := of_decide_eq_true d; omega
    have e : howMany n = 0 := by unfold howMany; rw [if_neg d']
    have q' := q H (Same.refl _)
    rw [e] at q'
    exact q'
  have d' : n % 4 < 2 := by
    have d2 := of_decide_eq_false (Bool.eq_false_iff.mpr d)
    omega
  have e : howMany n = (fillAt n (noughts n)).length := by unfold howMany; rw [if_pos d']
  have hb := fill_bound8 n (by omega) d'
  refine ⟨_, rfl, _, _, rfl, rfl, .inl ⟨by decide, by decide⟩, 2 * (n : Int), rfl, by omega, by omega, fun D nD => ?_⟩
  refine lc_noughts (n := (2 * (n : Int)).toNat) (by omega) ?_
  have e2n : (2 * (n : Int)).toNat = 2 * n := by omega
  rw [e2n]
  refine ⟨_, rfl, D, noughts n, n, _, rfl, rfl, upd_same, by omega, by omega, by rw [List.length_replicate]; omega, by omega, fun H2 p ts s2 np ep hT _ => ?_⟩
  refine ⟨p, _, rfl, .inl (SqL.of ep), ?_⟩
  rw [List.length_map, hT.1, ← e]
  exact q _ ((same_upd nD).trans s2)
end

/-! ### rows -/
abbrev N_rows : List Str := ["size", "k"]
theorem sc_rows : FnScope N_rows ["size"] (defScope st_rows) := ⟨rfl, rfl, rfl, by decide +kernel, rfl, by decide +kernel, by decide +kernel⟩
def spRows (C : Addr) : Sp := fun vs H Q E => ∃ size : Int, vs = [.int size] ∧ (¬ (1 ≤ size ∧ size ≤ 5) → E (.ref C) none H) ∧ (1 ≤ size ∧ size ≤ 5 → ∀ H' p ts, Same H H' → H p = none → H' p = some (.lst (ts.map V.ref)) → LstsAt H' ts (growAt 6 (noughts size.toNat) (List.range' 1 size.toNat)) → (∀ t ∈ ts, H t = none ∧ t ≠ p) → Q (.ref p) H')
section
variable {P : Program} {w : World} {K : PySem.W.Frag} {mg : Str → Option Value} {base : Heap}
theorem kn_rows {C : Addr} {t1 : Tok} (D : Df K mg "rows" st_rows ["size"]) (B : Bl mg) (C_MOST_LISTED : mg "MOST_LISTED" = some (.int 5 t1)) (K_asked_size : Kn P w K mg base (L2.CX P w) 1 "asked_size" ["size", "most"] (spAskedSize C)) (K_filled : Kn P w K mg base CX0 10 "filled" ["row", "number"] (spFilledAll 9)) :
    Kn P w K mg base (L2.CX P w) 11 "rows" ["size"] (spRows C) := by
  refine D.knX sc_rows (fun vs H Q E h => ?_) (fun f cdv A outer s H vs Q E hr h => ?_)
  · obtain ⟨size, rfl, _⟩ := h
    rfl
  obtain ⟨size, rfl, h1, h2⟩ := h
  refine ⟨_, (pss_cons (ps_expr (pe_kE K_asked_size (takes_of rfl rfl rfl rfl) (hr.mono (by first | decide | omega)) (by rfl) (pa_cons (pv 0) (pa_cons (pe_globI (by rfl) C_MOST_LISTED) pa_nil))))
      (pss_one (ps_ret (pe_callB (cr_sortedLs hr.units) (by rfl) B.sorted_ (by decide +kernel) (pa_cons (pe_k0 K_filled (hr.mono (by first | decide | omega)) (by rfl) (pa_cons (pe_lc (own := [("k", 1)]) (g := gName 1) (tt := tYes) rfl sc_rows.nd (pi_range1 (by rfl) B.range_ (pa_cons (pe_op op_mul pe_int (pv 0)) pa_nil)) (blkOk_by (own := [("k", 1)]) (N := N_rows) (sc := defScope st_rows) (by decide +kernel)) (fun _ _ _ _ _ => pg_name (i := 1) sc_rows.nd rfl (Or.inl rfl)) (fun _ _ _ _ _ => pts_nil) (fun _ _ _ _ _ => pe_int)) (pa_cons (pv 0) pa_nil))) pa_nil))))), ?_⟩
  refine ⟨_, rfl, size, 5, rfl, h1, fun c => ?_⟩
  obtain ⟨n, hn, hn1, hn2⟩ : ∃ n : Nat, size = (n : Int) ∧ 1 ≤ n ∧ n ≤ 5 := ⟨size.toNat, by omega, by omega, by omega⟩
  subst hn
  have q := h2 c
  rw [Int.toNat_natCast] at q
  have hb := fill_bound n (by omega)
  refine ⟨_, rfl, _, _, rfl, rfl, .inl ⟨by decide, by decide⟩, 2 * (n : Int), rfl, by omega, by omega, fun D nD => ?_⟩
  refine lc_noughts (n := (2 * (n : Int)).toNat) (by omega) ?_
  have e2n : (2 * (n : Int)).toNat = 2 * n := by omega
  rw [e2n]
  refine ⟨_, rfl, D, noughts n, n, _, rfl, rfl, upd_same, by omega, by omega, by rw [List.length_replicate]; omega, by omega, fun H2 p ts s2 np ep hT hF => ?_⟩
  refine ⟨p, ts, rdL H2, rfl, SqL.of ep, lsts_before hT, fun ts' p' hp hs np' => ?_⟩
  have g := grow_rising n (by omega)
  have pm := fill_small n (by omega)
  obtain ⟨Ls', hT', pm', rs'⟩ := lsts_after hT (pm.nodup_iff.mpr (rising_nodup g)) hp hs
  have eLs := rising_uniq rs' g (pm'.trans pm)
  rw [eLs] at hT'
  have s3 := (same_upd nD).trans s2
  refine q _ p' ts' (s3.new np') (s3.free np') upd_same (hT'.keep (same_upd np')) fun t ht => ?_
  refine ⟨?_, ne_of_none (lsts_before hT t (hp.mem_iff.mp ht)) np'⟩
  rcases hF t (hp.mem_iff.mp ht) with h | h
  · exact (same_upd nD).free h
  · rw [h]; exact nD
end

/-! ### _law_cell_at -/
abbrev N_law_cell_at : List Str := ["script", "k"]
theorem sc_law_cell_at : FnScope N_law_cell_at ["script", "k"] (defScope st_law_cell_at) := ⟨rfl, rfl, rfl, by decide +kernel, rfl, by decide +kernel, by decide +kernel⟩
/-- a cell of the script, nought beyond -/
def cellAt (ns : List Int) (k : Int) : Int := if k < (ns.length : Int) then ns.getD k.toNat 0 else 0
def spCellAt (K : PySem.W.Frag) : Sp := fun vs H Q _ => ∃ (a : Addr) (ns : List Int) (k : Int), vs = [.ref a, .int k] ∧ SqL K H a (ns.map V.int) ∧ 0 ≤ k ∧ Q (.int (cellAt ns k)) H
section
variable {P : Program} {w : World} {K : PySem.W.Frag} {mg : Str → Option Value} {base : Heap}
theorem kn_law_cell_at (D : Df K mg "_law_cell_at" st_law_cell_at ["script", "k"]) (B : Bl mg) : Kn P w K mg base CX0 1 "_law_cell_at" ["script", "k"] (spCellAt K) := by
  refine D.kn sc_law_cell_at (fun vs H Q E h => ?_) (fun f cdv A outer s H vs Q E hr h => ?_)
  · obtain ⟨a, ns, k, rfl, _⟩ := h
    rfl
  obtain ⟨a, ns, k, rfl, hS, h0, q⟩ := h
  refine ⟨_, (pss_cons (ps_if (pt_cmpR op_lt (pv 1) (pe_callB call_len_seq (by rfl) B.len_ (by decide +kernel) (pa_cons (pv 0) pa_nil)) (nomark _))
        (pss_one (ps_ret (pe_ix ix_list (pv 0) (pv 1) (fun _ _ => rfl))))
        pss_nil)
      (pss_one (ps_ret pe_int))), ?_⟩
  refine ⟨_, rfl, _, rfl, a, _, rfl, .inl hS, _, _, rfl, rfl, _, rfl, ite2 (fun c => ?_) (fun c => ?_)⟩
  · have c' : k < ((ns.map V.int).length : Int) := of_decide_eq_true c
    rw [ints_len] at c'
    have hk : k.toNat < ns.length := by omega
    refine ⟨_, rfl, _, rfl, a, _, k, _, rfl, rfl, hS, at_ints h0 (List.getElem?_eq_getElem hk), ?_⟩
    have e : cellAt ns k = ns[k.toNat] := by
      unfold cellAt
      rw [if_pos c', List.getD_eq_getElem?_getD, List.getElem?_eq_getElem hk]
      rfl
    rw [← e]
    exact q
  · have c' : ¬ k < ((ns.map V.int).length : Int) := of_decide_eq_false (Bool.eq_false_iff.mpr c)
    rw [ints_len] at c'
    have e : cellAt ns k = 0 := if_neg c'
    rw [e] at q
    exact q
end

/-! ### _law_draw -/
abbrev N_law_draw : List Str := ["cell", "k", "bound", "stir"]
theorem sc_law_draw : FnScope N_law_draw ["cell", "k", "bound"] (defScope st_law_draw) := ⟨rfl, rfl, rfl, by decide +kernel, rfl, by decide +kernel, by decide +kernel⟩
def spDraw : Sp := fun vs H Q _ => ∃ cell k bound : Int, vs = [.int cell, .int k, .int bound] ∧ 0 < bound ∧ Q (.int (lawDraw cell k bound)) H
section
variable {P : Program} {w : World} {K : PySem.W.Frag} {mg : Str → Option Value} {base : Heap}
theorem kn_law_draw (D : Df K mg "_law_draw" st_law_draw ["cell", "k", "bound"]) : Kn P w K mg base CX0 1 "_law_draw" ["cell", "k", "bound"] spDraw := by
  refine D.kn sc_law_draw (fun vs H Q E h => ?_) (fun f cdv A outer s H vs Q E hr h => ?_)
  · obtain ⟨a, b, c, rfl, _⟩ := h
    rfl
  obtain ⟨cell, k, bound, rfl, hb, q⟩ := h
  refine ⟨_, (pss_cons (ps_set (i := 3) sc_law_draw.nd rfl (Or.inl rfl) (pe_op op_mod (pe_op op_mul (pe_op op_add (pe_op op_add (pe_op op_mod (pv 0) pe_int) (pe_op op_mul pe_int (pv 1))) pe_int) pe_int) pe_int))
      (pss_cons (ps_set (i := 3) sc_law_draw.nd rfl (Or.inl rfl) (pe_op op_mod (pe_op op_mul (pv 3) (pv 3)) pe_int))
      (pss_cons (ps_set (i := 3) sc_law_draw.nd rfl (Or.inl rfl) (pe_op op_mod (pe_op op_mul (pe_op op_add (pv 3) (pe_op op_mul pe_int (pe_op op_add (pv 1) pe_int))) pe_int) pe_int))
      (pss_one (ps_ret (pe_op op_mod (pe_op op_fdiv (pv 3) pe_int) (pv 2))))))), ?_⟩
  refine ⟨_, rfl, _, _, rfl, rfl, (by decide : (0 : Int) < 2147483647), _, rfl, _, _, rfl, rfl, .inl ⟨by decide, by decide⟩, _, _, rfl, rfl, _, _, rfl, rfl, _, _, rfl, rfl, .inr ⟨by decide, by decide⟩, _, _, rfl, rfl, (by decide : (0 : Int) < 2147483647), ?_⟩
  obtain ⟨s1, h1⟩ : ∃ s1, (cell % 2147483647 + 977 * k + 1) * 48271 % 2147483647 = s1 := ⟨_, rfl⟩
  simp only [h1]
  refine ⟨_, rfl, _, rfl, _, _, rfl, rfl, .inl ⟨by omega, by omega⟩, _, _, rfl, rfl, (by decide : (0 : Int) < 2147483629), ?_⟩
  obtain ⟨s2, h2⟩ : ∃ s2, s1 * s1 % 2147483629 = s2 := ⟨_, rfl⟩
  simp only [h2]
  refine ⟨_, rfl, _, rfl, _, _, rfl, rfl, _, _, rfl, rfl, .inl ⟨by decide, by decide⟩, _, _, rfl, rfl, _, _, rfl, rfl, .inr ⟨by decide, by decide⟩, _, _, rfl, rfl, (by decide : (0 : Int) < 2147483647), ?_⟩
  refine ⟨_, rfl, _, _, rfl, rfl, ⟨by decide, by decide⟩, _, rfl, _, _, rfl, rfl, hb, ?_⟩
  unfold lawDraw at q
  simp only [h1, h2] at q
  exact q
end

/-! ### _law_filled -/
abbrev N_law_filled : List Str := ["row", "number", "cell", "spare", "k", "place", "more", "found"]
theorem sc_law_filled : FnScope N_law_filled ["row", "number", "cell"] (defScope st_law_filled) := ⟨rfl, rfl, rfl, by decide +kernel, rfl, by decide +kernel, by decide +kernel⟩
def spLawFilled (n : Nat) : Sp := fun vs H Q _ => ∃ (a : Addr) (row : List Int) (m : Nat) (z cell : Int), vs = [.ref a, .int z, .int cell] ∧ z = (m : Int) ∧ H a = some (.lst (row.map V.int)) ∧ m < n ∧ m < row.length ∧ row.length ≤ 1000 ∧
  (lawFilled cell m row = none → ∀ H', Same H H' → Q .non H') ∧ ∀ r, lawFilled cell m row = some r → ∀ H' p, Same H H' → H' p = some (.lst (r.map V.int)) → Q (.ref p) H'
section
variable {P : Program} {w : World} {K : PySem.W.Frag} {mg : Str → Option Value} {base : Heap}
theorem Df.neverL {CX : CXT} {k : Nat} {x : Str} {st : Stmt} {ps : List Str} {sp : Sp} (D : Df K mg x st ps) (no : ∀ vs H Q E, ¬ sp vs H Q E) : Kn P w K mg base CX k x ps sp := by
  obtain ⟨f, fd, F, b, g⟩ := D.ex
  exact ⟨f, fd, ⟨fun vs H Q E h => absurd h (no vs H Q E), fun A outer s H args us vs Q E _ _ _ _ h => absurd h (no vs H Q E)⟩, F.kp, b, g⟩
theorem kn_law_filled1 {n : Nat} (D : Df K mg "_law_filled" st_law_filled ["row", "number", "cell"]) (B : Bl mg) (K_law_draw : Kn P w K mg base CX0 1 "_law_draw" ["cell", "k", "bound"] spDraw) (K_law_filled : Kn P w K mg base CX0 (n + 1) "_law_filled" ["row", "number", "cell"] (spLawFilled n)) :
    Kn P w K mg base CX0 (n + 2) "_law_filled" ["row", "number", "cell"] (spLawFilled (n + 1)) := by
  refine D.kn sc_law_filled (fun vs H Q E h => ?_) (fun f cdv A outer s H vs Q E hr h => ?_)
  · obtain ⟨a, row, m, z, cell, rfl, _⟩ := h
    rfl
  obtain ⟨a, row, m, z, cell, rfl, rfl, eA, hm, hml, hlen, qn, qs⟩ := h
  have hr1 : Room 1 _ := hr.mono (by omega)
  refine ⟨_, (pss_cons (ps_if (pt_cmpR op_eq (pv 1) pe_int (nomark _))
        (pss_one (ps_ret (pv 0)))
        pss_nil)
      (pss_cons (ps_set (i := 3) sc_law_filled.nd rfl (Or.inl rfl) (pe_op op_sub (pe_callB call_len_seq (by rfl) B.len_ (by decide +kernel) (pa_cons (pv 0) pa_nil)) (pv 1)))
      (pss_cons (ps_for PassesOwn.never rfl (pi_range1 (by rfl) B.range_ (pa_cons (pv 3) pa_nil)) (pg_name (i := 4) sc_law_filled.nd rfl (Or.inl rfl))
        (pss_cons (ps_set (i := 5) sc_law_filled.nd rfl (Or.inl rfl) (pe_op op_mod (pe_op op_add (pv 4) (pe_k0 K_law_draw (hr.mono (by first | decide | omega)) (by rfl) (pa_cons (pv 2) (pa_cons (pv 1) (pa_cons (pv 3) pa_nil))))) (pv 3)))
        (pss_one (ps_if (PW.pt (pw_and (pt_cmpR op_eq (pe_ix ix_list (pv 0) (pv 5) (fun _ _ => rfl)) pe_int (nomark _)) (pw_and1 (pt_cmpR op_eq (pe_ix ix_list (pv 0) (pe_op op_add (pv 5) (pv 1)) (fun _ _ => rfl)) pe_int (nomark _)))))
          (pss_cons (ps_set (i := 6) sc_law_filled.nd rfl (Or.inl rfl) (pe_callTy call_list_of (by rfl) B.list_ (by decide +kernel) (pa_cons (pv 0) pa_nil)))
          (pss_cons (ps_asg (pv 1) (pg_sub (pv 6) (pv 5) set_list))
          (pss_cons (ps_asg (pv 1) (pg_sub (pv 6) (pe_op op_add (pv 5) (pv 1)) set_list))
          (pss_cons (ps_set (i := 7) sc_law_filled.nd rfl (Or.inl rfl) (pe_k0 K_law_filled (hr.mono (by first | decide | omega)) (by rfl) (pa_cons (pv 6) (pa_cons (pe_op op_sub (pv 1) pe_int) (pa_cons (pv 2) pa_nil)))))
          (pss_one (ps_if (pt_cmpR op_notN (pv 7) pe_non (nomark _))
            (pss_one (ps_ret (pv 7)))
            pss_nil))))))
          pss_nil))))
      (pss_one (ps_ret pe_non))))), ?_⟩
  refine ⟨_, rfl, rfl, _, rfl, ite2 (fun c => ?_) (fun c => ?_)⟩
  · have c1 : (m : Int) = 0 := V.int.inj (of_decide_eq_true c)
    have c2 : m = 0 := by omega
    subst c2
    exact ⟨_, rfl, qs row rfl H a (Same.refl _) eA⟩
  have c1 : ¬ (m : Int) = 0 := fun z => c (decide_eq_true (congrArg V.int z))
  obtain ⟨m, rfl⟩ : ∃ m', m = m' + 1 := ⟨m - 1, by omega⟩
  have hL := ints_len row
  obtain ⟨spare, hsp, hspl⟩ : ∃ spare : Nat, (((row.map V.int).length : Nat) : Int) - ((m + 1 : Nat) : Int) = (spare : Int) ∧ spare = row.length - (m + 1) := ⟨row.length - (m + 1), by rw [hL]; omega, rfl⟩
  refine ⟨_, rfl, a, _, rfl, .inl (SqL.of eA), _, rfl, _, _, rfl, rfl, ?_⟩
  simp only [hsp]
  refine ⟨_, rfl, (spare : Int), rfl, by omega, by omega, ?_⟩
  -- the search
  have e0 : lawFilled cell (m + 1) row = firstFrom (fun i =>
      let p := placeOf cell (m + 1) spare i
      if row[p]? = some 0 ∧ row[p + (m + 1)]? = some 0 then lawFilled cell m (put2 row p (m + 1)) else none) 0 spare := by
    rw [hspl]
    rfl
  generalize hg : (fun i =>
      let p := placeOf cell (m + 1) spare i
      if row[p]? = some 0 ∧ row[p + (m + 1)]? = some 0 then lawFilled cell m (put2 row p (m + 1)) else none) = g at e0
  refine for_range (lo := 0) (n := ((spare : Nat) : Int).toNat) (fun i σ H' => ∃ y4 y5 y6 y7, σ = [some (.ref a), some (.int ((m + 1 : Nat) : Int)), some (.int cell), some (.int (spare : Int)), y4, y5, y6, y7] ∧ Same H H' ∧ i ≤ spare ∧ lawFilled cell (m + 1) row = firstFrom g i (spare - i)) ⟨none, none, none, none, rfl, Same.refl _, Nat.zero_le _, e0⟩ ?_ ?_
  · rintro i σ H1 hi ⟨y4, y5, y6, y7, rfl, s1, hi2, eF⟩
    have hi3 : i < spare := by omega
    obtain ⟨k, hk⟩ : ∃ k, spare - i = k + 1 := ⟨spare - i - 1, by omega⟩
    have hk2 : spare - (i + 1) = k := by omega
    rw [hk] at eF
    obtain ⟨p, hp, hp2⟩ : ∃ p : Nat, (0 + (i : Int) + lawDraw cell ((m + 1 : Nat) : Int) (spare : Int)) % (spare : Int) = (p : Int) ∧ placeOf cell (m + 1) spare i = p := by
      refine ⟨_, ?_, rfl⟩
      unfold placeOf
      rw [Int.zero_add, Int.toNat_of_nonneg (Int.emod_nonneg _ (by omega))]
    have hp3 : p < spare := hp2 ▸ placeOf_lt (by omega)
    have hgi : g i = if row[p]? = some 0 ∧ row[p + (m + 1)]? = some 0 then lawFilled cell m (put2 row p (m + 1)) else none := by
      rw [← hg, ← hp2]
    refine ⟨_, rfl, _, rfl, _, rfl, _, rfl, cell, ((m + 1 : Nat) : Int), (spare : Int), rfl, by omega, _, _, rfl, rfl, _, rfl, _, _, rfl, rfl, (by omega : (0 : Int) < (spare : Int)), ?_⟩
    simp only [hp]
    have eA1 := s1 _ _ eA
    obtain ⟨x, hx⟩ : ∃ x, row[p]? = some x := ⟨row[p]'(by omega), List.getElem?_eq_getElem (by omega)⟩
    obtain ⟨y, hy⟩ : ∃ y, row[p + (m + 1)]? = some y := ⟨row[p + (m + 1)]'(by omega), List.getElem?_eq_getElem (by omega)⟩
    refine ⟨_, rfl, _, rfl, a, _, (p : Int), V.int x, rfl, rfl, SqL.of eA1, at_ints (by omega) (by rw [Int.toNat_natCast]; exact hx), rfl, _, rfl, ite2 (fun d => ?_) (fun d => ?_)⟩
    · have d1 : x = 0 := V.int.inj (of_decide_eq_true d)
      have ea : (p : Int) + ((m + 1 : Nat) : Int) = ((p + (m + 1) : Nat) : Int) := by omega
      refine ⟨_, rfl, _, rfl, _, rfl, _, _, rfl, rfl, a, _, _, V.int y, rfl, rfl, SqL.of eA1, at_ints (by omega) (by rw [ea, Int.toNat_natCast]; exact hy), rfl, _, rfl, ite2 (fun d2 => ?_) (fun d2 => ?_)⟩
      · have d3 : y = 0 := V.int.inj (of_decide_eq_true d2)
        rw [d1] at hx
        rw [d3] at hy
        rw [if_pos ⟨hx, hy⟩] at hgi
        -- more
        refine ⟨_, rfl, a, _, rfl, .inl (SqL.of eA1), fun l nl => ?_⟩
        have nlH : H l = none := s1.free nl
        refine ⟨_, rfl, _, rfl, _, rfl, l, _, _, _, rfl, rfl, upd_same, ixN_at (by omega) (by rw [hL]; omega), ?_⟩
        rw [upd_upd, set_ints, Int.toNat_natCast]
        refine ⟨_, rfl, _, rfl, _, rfl, _, rfl, _, _, rfl, rfl, l, _, _, _, rfl, rfl, upd_same, ixN_at (by omega) (by rw [ints_len, List.length_set]; omega), ?_⟩
        rw [upd_upd, set_ints]
        rw [show ((row.set p ((m + 1 : Nat) : Int)).set ((p : Int) + ((m + 1 : Nat) : Int)).toNat ((m + 1 : Nat) : Int)) = put2 row p (m + 1) by rw [ea, Int.toNat_natCast]; rfl]
        have s2 : Same H (upd H1 l (.lst ((put2 row p (m + 1)).map V.int))) := s1.new nl
        refine ⟨_, rfl, _, rfl, _, _, rfl, rfl, _, rfl, l, put2 row p (m + 1), m, ((m + 1 : Nat) : Int) - 1, cell, rfl, by omega, upd_same, by omega, by rw [put2_length]; omega, by rw [put2_length]; omega, fun hN H3 s3 => ?_, fun r hS H3 p3 s3 e3 => ?_⟩
        · -- nothing is found there
          refine ⟨_, rfl, rfl, _, rfl, iteFa rfl ?_⟩
          refine ⟨_, _, _, _, rfl, s2.trans s3, by omega, ?_⟩
          rw [hN] at hgi
          rw [eF, firstFrom_miss hgi, hk2]
        · refine ⟨_, rfl, rfl, _, rfl, iteTr rfl ?_⟩
          rw [hS] at hgi
          rw [firstFrom_hit hgi] at eF
          exact ⟨_, rfl, qs r eF H3 p3 (s2.trans s3) e3⟩
      · have d3 : ¬ y = 0 := fun z => d2 (decide_eq_true (congrArg V.int z))
        have hN : g i = none := by
          rw [hgi, if_neg]
          rintro ⟨_, z⟩
          rw [hy] at z
          exact d3 (Option.some.inj z)
        refine ⟨_, _, _, _, rfl, s1, by omega, ?_⟩
        rw [eF, firstFrom_miss hN, hk2]
    · have d1 : ¬ x = 0 := fun z => d (decide_eq_true (congrArg V.int z))
      have hN : g i = none := by
        rw [hgi, if_neg]
        rintro ⟨z, _⟩
        rw [hx] at z
        exact d1 (Option.some.inj z)
      refine iteF ?_
      refine ⟨_, _, _, _, rfl, s1, by omega, ?_⟩
      rw [eF, firstFrom_miss hN, hk2]
  · rintro σ H1 ⟨y4, y5, y6, y7, rfl, s1, _, eF⟩
    rw [Int.toNat_natCast, Nat.sub_self] at eF
    exact qn eF H1 s1
theorem kn_law_filled (D : Df K mg "_law_filled" st_law_filled ["row", "number", "cell"]) (B : Bl mg) (K_law_draw : Kn P w K mg base CX0 1 "_law_draw" ["cell", "k", "bound"] spDraw) : ∀ n : Nat, Kn P w K mg base CX0 (n + 1) "_law_filled" ["row", "number", "cell"] (spLawFilled n)
  | 0 => D.neverL fun vs H Q E h => by
    obtain ⟨_, _, m, _, _, _, _, _, hm, _⟩ := h
    omega
  | n + 1 => kn_law_filled1 D B K_law_draw (kn_law_filled D B K_law_draw n)
end

/-! ### _law_small_row -/
abbrev N_law_small_row : List Str := ["script", "first", "size", "k"]
theorem sc_law_small_row : FnScope N_law_small_row ["script", "first"] (defScope st_law_small_row) := ⟨rfl, rfl, rfl, by decide +kernel, rfl, by decide +kernel, by decide +kernel⟩
/-- one of the five sizes -/
def smallSize (c : Int) : Nat := [1, 4, 5, 8, 9, 4, 5].getD (c % 7).toNat 1
theorem smallSize_is (c : Int) : smallSize c = 1 ∨ smallSize c = 4 ∨ smallSize c = 5 ∨ smallSize c = 8 ∨ smallSize c = 9 := by
  unfold smallSize
  have h : (c % 7).toNat = 0 ∨ (c % 7).toNat = 1 ∨ (c % 7).toNat = 2 ∨ (c % 7).toNat = 3 ∨ (c % 7).toNat = 4 ∨ (c % 7).toNat = 5 ∨ (c % 7).toNat = 6 := by omega
  rcases h with h | h | h | h | h | h | h <;> rw [h] <;> decide
def spSmallRow (K : PySem.W.Frag) : Sp := fun vs H Q _ => ∃ (a : Addr) (ns : List Int) (first : Int), vs = [.ref a, .int first] ∧ SqL K H a (ns.map V.int) ∧ 0 ≤ first ∧
  ∀ r, isRow r = true → r.length ≤ 18 → ∀ H' p, Same H H' → H' p = some (.lst (r.map V.int)) → Q (.ref p) H'
section
variable {P : Program} {w : World} {K : PySem.W.Frag} {mg : Str → Option Value} {base : Heap}
theorem kn_law_small_row (D : Df K mg "_law_small_row" st_law_small_row ["script", "first"]) (B : Bl mg) (K_law_cell_at : Kn P w K mg base CX0 1 "_law_cell_at" ["script", "k"] (spCellAt K)) (K_law_filled : Kn P w K mg base CX0 11 "_law_filled" ["row", "number", "cell"] (spLawFilled 10)) :
    Kn P w K mg base CX0 12 "_law_small_row" ["script", "first"] (spSmallRow K) := by
  refine D.kn sc_law_small_row (fun vs H Q E h => ?_) (fun f cdv A outer s H vs Q E hr h => ?_)
  · obtain ⟨a, ns, k, rfl, _⟩ := h
    rfl
  obtain ⟨a, ns, first, rfl, hS, h0, q⟩ := h
  refine ⟨_, (pss_cons (ps_set (i := 2) sc_law_small_row.nd rfl (Or.inl rfl) (pe_ix ix_list (pe_lst (pa_cons pe_int (pa_cons pe_int (pa_cons pe_int (pa_cons pe_int (pa_cons pe_int (pa_cons pe_int (pa_cons pe_int pa_nil)))))))) (pe_op op_mod (pe_k0 K_law_cell_at (hr.mono (by first | decide | omega)) (by rfl) (pa_cons (pv 0) (pa_cons (pv 1) pa_nil))) pe_int) (fun _ _ => rfl)))
      (pss_one (ps_ret (pe_k0 K_law_filled (hr.mono (by first | decide | omega)) (by rfl) (pa_cons (pe_lc (own := [("k", 3)]) (g := gName 3) (tt := tYes) rfl sc_law_small_row.nd (pi_range1 (by rfl) B.range_ (pa_cons (pe_op op_mul pe_int (pv 2)) pa_nil)) (blkOk_by (own := [("k", 3)]) (N := N_law_small_row) (sc := defScope st_law_small_row) (by decide +kernel)) (fun _ _ _ _ _ => pg_name (i := 3) sc_law_small_row.nd rfl (Or.inl rfl)) (fun _ _ _ _ _ => pts_nil) (fun _ _ _ _ _ => pe_int)) (pa_cons (pv 2) (pa_cons (pe_k0 K_law_cell_at (hr.mono (by first | decide | omega)) (by rfl) (pa_cons (pv 0) (pa_cons (pe_op op_add (pv 1) pe_int) pa_nil))) pa_nil))))))), ?_⟩
  refine ⟨small (show 7 ≤ 16777216 by decide), fun l nl => ?_⟩
  generalize hHl : upd H l (.lst [V.int 1, V.int 4, V.int 5, V.int 8, V.int 9, V.int 4, V.int 5]) = H1
  have s1 : Same H H1 := hHl ▸ same_upd nl
  have e1 : H1 l = some (.lst ((([1, 4, 5, 8, 9, 4, 5] : List Int)).map V.int)) := hHl ▸ upd_same
  clear hHl
  generalize hc : cellAt ns first = c
  have hsz : (([1, 4, 5, 8, 9, 4, 5] : List Int))[(c % 7).toNat]? = some ((smallSize c : Nat) : Int) := by
    unfold smallSize
    have h : (c % 7).toNat = 0 ∨ (c % 7).toNat = 1 ∨ (c % 7).toNat = 2 ∨ (c % 7).toNat = 3 ∨ (c % 7).toNat = 4 ∨ (c % 7).toNat = 5 ∨ (c % 7).toNat = 6 := by omega
    rcases h with h | h | h | h | h | h | h <;> rw [h] <;> rfl
  refine ⟨_, rfl, _, rfl, a, ns, first, rfl, s1.seq hS, h0, _, _, rfl, rfl, (by decide : (0 : Int) < 7), l, _, _, V.int ((smallSize c : Nat) : Int), rfl, rfl, SqL.of e1, ?_, ?_⟩
  · show atI _ (cellAt ns first % 7) = _
    rw [hc]
    exact at_ints (Int.emod_nonneg _ (by decide)) hsz
  have h5 := smallSize_is c
  generalize smallSize c = size at h5
  have z1 : 1 ≤ size := by omega
  have z2 : size ≤ 9 := by omega
  have z3 : size % 4 < 2 := by omega
  refine ⟨_, rfl, _, _, rfl, rfl, .inl ⟨by decide, by decide⟩, 2 * (size : Int), rfl, by omega, by omega, fun D nD => ?_⟩
  refine lc_noughts (n := (2 * (size : Int)).toNat) (by omega) ?_
  have e2n : (2 * (size : Int)).toNat = 2 * size := by omega
  rw [e2n]
  refine ⟨_, rfl, _, rfl, _, rfl, _, _, rfl, rfl, a, ns, first + 1, rfl, (s1.new nD).seq hS, by omega, ?_⟩
  obtain ⟨r, hr1, hr2, hr3⟩ := lawFilled_row (cellAt ns (first + 1)) z1 (by omega) z3
  have hl : (List.replicate (2 * size) (0 : Int)).length = 2 * size := List.length_replicate
  refine ⟨D, _, size, _, _, rfl, rfl, upd_same, by omega, by omega, by omega, fun hN => ?_, fun r' hr' H' p s2 e2 => ?_⟩
  · rw [hr1] at hN
    cases hN
  · rw [hr1] at hr'
    cases hr'
    exact q r hr2 (by omega) H' p ((s1.new nD).trans s2) e2
end

-- IMPORT HandS.Rev
/-! ### list(reversed(a list)) -/
end Sa
namespace RT
open PySem PySem.Spec PyProof.Rows
section
variable {prog : Program} {w : World} {A : Around} {E : Value → Shared → Prop} {s : Shared}
theorem extend_rev {R : Result → Shared → Prop} {it l : Addr} {items : Array Value} (hh : A.handled = none) (hit : s.heap.IsRevIter it l ((items.size : Int) - 1)) (hl : s.heap.IsList l items) (hne : l ≠ it) (hn : items.size ≤ sizeLine) (S : Addr) (res : Value) (c₀ : Nat)
    (hS : s.heap.get? S = some { cls := .type "list", data := .seq #[] c₀ }) (hSl : S ≠ l) (hSi : S ≠ it)
    (hR : ∀ h' tk acc' c', (∀ b o, b ≠ S → b ≠ it → s.heap.get? b = some o → h'.get? b = some o) → h'.get? S = some { cls := .type "list", dict := none, data := .seq acc' c', slots := #[] } →
      ItemsOf (fun i v => items[items.size - 1 - i]? = some v) acc' items.size → R (.ok (.ret res)) { s with heap := h', toks := tk }) :
    wpAny (model prog w) A.in1 (Builtin.List.listExtendWith (.ref S) (.ref it) res)
      (fun fin s' => match fin with | .done f => R (.ok f) s' | .again c' => c'.quiet = true ∧ codeAny (model prog w) A c' R s') (fun e s' => R (.error e) s') s := by
  have W := (Walks.listRev (prog := prog) (w := w) (A := A.in1) hh it l hne items).toS
  have hSf : S ∉ [it, l] := by simp only [List.mem_cons, List.not_mem_nil, or_false, not_or]; exact ⟨hSi, hSl⟩
  have hT : s.TypeIs (.ref it) "list_reverseiterator" := Heap.IsRevIter.typeIs hit
  have h1 : Builtin.List.listSameRef (.ref S) (.ref it) = false := by simp [Builtin.List.listSameRef, hSi]
  unfold Builtin.List.listExtendWith
  refine wpAny_bind (wpAny_typeOf hT ?_)
  rw [if_neg (by rw [h1]; decide)]
  refine wpAny_bind (wpAny_pyIter_revIter hit ?_)
  refine wpAny_bind (wpAny_holding ?_)
  unfold Builtin.List.listLengthHint
  refine wpAny_bind (wpAny_specialOf hT nolen_lri ?_)
  show wpAny _ A.in1 (specialOf (Value.ref it) (Str.ofString "__length_hint__") >>= _) _ _ _
  refine wpAny_bind (wpAny_specialOf hT hint_lri ?_)
  generalize hid : ("list_reverseiterator.__length_hint__" : String) = id0
  wp_delta
  rw [show splitId id0 = some ("list_reverseiterator", "__length_hint__") from by subst hid; decide +kernel]
  subst hid
  refine wpAny_bind (wpAny_isInstance (b := true) hT (by rw [isSubtype_type]; kernel_rfl) ?_)
  refine wpAny_pure ?_
  rw [if_neg (by decide)]
  have e0 : ((items.size : Nat) : Int) - 1 - ((0 : Nat) : Int) = (items.size : Int) - 1 := by omega
  refine wpAny_pure ⟨plainId_quiet F.plain_extend_loop _, codeAny_extend_loopS W hn _ hSf _ items.size 0 _ _ _ rfl (Nat.zero_le _) ⟨Nat.zero_le _, by rw [e0]; exact hit, hl⟩ hS (ItemsOf.nil _) fun s' acc' c' hm hS' hacc => ?_⟩
  rw [Moved.eq_with hm]
  refine hR s'.heap s'.toks acc' c' (fun b o hb hb2 e => hm.heap b o (fun hmem => ?_) e) hS' hacc
  rcases List.mem_cons.mp hmem with e' | hmem
  · exact hb e'
  · exact hb2 (List.mem_singleton.mp hmem)
theorem list_init_rev {R : Result → Shared → Prop} {it l : Addr} {items : Array Value} (hh : A.handled = none) (hit : s.heap.IsRevIter it l ((items.size : Int) - 1)) (hl : s.heap.IsList l items) (hne : l ≠ it) (hn : items.size ≤ sizeLine) (S : Addr)
    (hS : s.heap.get? S = some { cls := .type "list", data := .seq #[] }) (hSl : S ≠ l) (hSi : S ≠ it)
    (hR : ∀ h' tk acc' c', (∀ b o, b ≠ S → b ≠ it → s.heap.get? b = some o → h'.get? b = some o) → h'.get? S = some { cls := .type "list", dict := none, data := .seq acc' c', slots := #[] } →
      ItemsOf (fun i v => items[items.size - 1 - i]? = some v) acc' items.size → R (.ok (.ret .none)) { s with heap := h', toks := tk }) :
    wpAny (model prog w) A.in1 (Builtin.«list.__init__» ⟨[.ref S, .ref it], []⟩)
      (fun fin s' => match fin with | .done f => R (.ok f) s' | .again c' => c'.quiet = true ∧ codeAny (model prog w) A c' R s') (fun e s' => R (.error e) s') s := by
  show wpAny _ _ (do let old ← Builtin.List.listItems (.ref S); Builtin.List.listUpdate (.ref S) (fun _ => #[]); letGo old.toList.reverse; Builtin.List.listExtendWith (.ref S) (.ref it) .none) _ _ s
  refine wpAny_bind ?_
  unfold Builtin.List.listItems
  refine wpAny_bind (wpAny_seqItems hS rfl (wpAny_pure ?_))
  show wpAny _ _ (updateSeq S (fun _ => #[]) >>= fun _ => letGo (#[] : Array Value).toList.reverse >>= fun _ => Builtin.List.listExtendWith (.ref S) (.ref it) .none) _ _ s
  refine wpAny_bind (wpAny_updateSeq hS rfl ?_)
  have hS₂ := Heap.get?_update_self (Obj.mapSeq (fun _ => (#[] : Array Value))) hS rfl
  have oth : ∀ b o, b ≠ S → s.heap.get? b = some o → (s.heap.update S (Obj.mapSeq (fun _ => (#[] : Array Value)))).get? b = some o :=
    fun b o hb e => (Heap.get?_update_other _ _ (Ne.symm hb)).trans e
  refine wpAny_bind (wpAny_letGo ?_)
  have hl2 : (s.heap.update S (Obj.mapSeq (fun _ => (#[] : Array Value)))).IsList l items := by
    obtain ⟨o, ho, r⟩ := hl
    exact ⟨o, oth l o (Ne.symm hSl) ho, r⟩
  refine extend_rev (s := { s with heap := s.heap.update S (Obj.mapSeq (fun _ => (#[] : Array Value))) }) hh (hit.at fun o e => oth it o (Ne.symm hSi) e) hl2 hne hn S .none _ hS₂ hSl hSi fun h' tk acc' c' hk hS' hacc => ?_
  exact hR h' tk acc' c' (fun b o hb hb2 e => hk b o hb hb2 (oth b o hb e)) hS' hacc
theorem call_list_rev {Q : Value → Shared → Prop} {it l : Addr} {items : Array Value} (hh : A.handled = none) (hit : s.heap.IsRevIter it l ((items.size : Int) - 1)) (hl : s.heap.IsList l items) (hne : l ≠ it) (hn : items.size ≤ sizeLine)
    (hQ : ∀ h' tk acc' c', (∀ b o, b ≠ it → s.heap.get? b = some o → h'.get? b = some o) →
      h'.get? s.heap.objs.size = some { cls := .type "list", dict := none, data := .seq acc' c', slots := #[] } → ItemsOf (fun i v => items[items.size - 1 - i]? = some v) acc' items.size → Q (.ref s.heap.objs.size) { s with heap := h', toks := tk }) :
    wpAny (model prog w) A (call (.type "list") [.ref it]) Q E s := by
  obtain ⟨oi, hoi, _⟩ := id hit
  obtain ⟨ol, hol, _⟩ := id hl
  refine callType_codes (Q₁ := fun obj s₁ => obj = .ref s.heap.objs.size ∧ s₁ = { s with heap := s.heap.push { cls := .type "list", data := .seq #[] } }) F.called_list (F.typeCall_list_1 _) F.entry_list_init
    (code_list_new _ ⟨rfl, rfl⟩) fun obj s₁ h₁ => ?_
  obtain ⟨rfl, rfl⟩ := h₁
  have hS : (s.heap.push { cls := .type "list", data := .seq #[] }).get? s.heap.objs.size = some { cls := .type "list", data := .seq #[] } := Heap.get?_push_size _ rfl
  refine ⟨⟨_, hS, rfl⟩, F.args_list_init_2 _ _, list_init_rev (A := A.in1) (s := { s with heap := s.heap.push { cls := .type "list", data := .seq #[] } }) hh (hit.at fun o e => Heap.get?_push_of_some _ e) (hl.push _) hne hn _ hS (Nat.ne_of_gt (Heap.lt_size hol)) (Nat.ne_of_gt (Heap.lt_size hoi)) fun h' tk acc' c' hk hS' hacc => ?_⟩
  exact ⟨rfl, hQ h' tk acc' c' (fun b o hb e => hk b o (Nat.ne_of_lt (Heap.lt_size e)) hb (Heap.get?_push_of_some _ e)) hS' hacc⟩
end
end RT
namespace Sa
open PySem PySem.Spec PyProof.Rows L2 RT
def tListRev (K : PySem.W.Frag) (te : TE) : TE := fun σ H Q => te σ H fun v H1 => ∃ (a : Addr) (xs : List V), v = .ref a ∧ SqL K H1 a xs ∧ ∀ q, H1 q = none → Q (.ref q) (upd H1 q (.lst xs.reverse))
section
variable {X : Cx}
theorem pe_listRev {e : Expr} {te : TE} {p p2 pos pos2 : Pos} (hc : X.calm = true) (hg : Gl X "list") (hm : X.mg "list" = none) (hg2 : Gl X "reversed") (hm2 : X.mg "reversed" = none) (he : PE X e te)
    (hs : starEach [e] X.env = (false, eval e X.env) :: starEach [] X.env := by rfl)
    (hs2 : starEach [.Call (.Name "reversed" p2) [e] [] pos2] X.env = (false, eval (.Call (.Name "reversed" p2) [e] [] pos2) X.env) :: starEach [] X.env := by rfl) :
    PE X (.Call (.Name "list" p) [.Call (.Name "reversed" p2) [e] [] pos2] [] pos) (tListRev X.K te) := by
  refine ⟨fun pins s σ H Q I h => ?_⟩
  refine Call_ (ld_blt I hg hm boot_list (PyProof.Rows.callWith_type1 (args_cons (Call_ (ld_blt I hg2 hm2 PyProof.Rows.boot_reversed (PyProof.Rows.callWith_type1 (args_cons (thn (he.run pins s σ H _ I h) fun u s1 ⟨v, H1, I1, r1, q1⟩ => args_nil ?_) hs) hs rfl))) hs2) hs2 rfl))
  obtain ⟨a, xs, ev, hq, q⟩ := q1
  subst ev
  obtain rfl : u = Value.ref a := r1
  obtain ⟨its, rv, p', hz⟩ := I1.list hq
  refine call_reversed_list p'.isList (args_nil ?_)
  have k0 : ∀ b o, s1.heap.get? b = some o → (s1.heap.push (revObj a ((its.toArray.size : Int) - 1))).get? b = some o := fun b o e => Heap.get?_push_of_some _ e
  have I2 : Inv X pins σ H1 { s1 with heap := s1.heap.push (revObj a ((its.toArray.size : Int) - 1)) } := I1.kept (t' := s1.toks) k0
  obtain ⟨f0, f1, f2, f3, f4, f5⟩ := I1.fpOk (H' := H1) (b := s1.heap.objs.size) (Nat.le_refl _) (I1.hok.fresh (Nat.le_refl _))
  have hl := p'.isList
  obtain ⟨ol, hol, _⟩ := id hl
  have hne : a ≠ s1.heap.objs.size := Nat.ne_of_lt (Heap.lt_size hol)
  have hn : its.toArray.size ≤ sizeLine := by rw [List.size_toArray, ← rv.length]; exact hz
  refine call_list_rev (s := { s1 with heap := s1.heap.push (revObj a ((its.toArray.size : Int) - 1)) }) (I1.ok.hd hc) ⟨_, Heap.get?_push_size _ rfl, rfl, rfl⟩ (hl.push _) hne hn fun h' tk acc c hk hS hi => ?_
  have hfr : s1.heap.objs.size ≤ (s1.heap.push (revObj a ((its.toArray.size : Int) - 1))).objs.size := by
    show _ ≤ (Array.push _ _).size
    rw [Array.size_push]
    exact Nat.le_succ _
  refine ⟨.ref _, upd H1 _ (.lst xs.reverse), ?_, rfl, q _ (I1.hok.fresh hfr)⟩
  exact I1.laid (t' := tk) (fun b o e => hk b o (Nat.ne_of_lt (Heap.lt_size e)) (Heap.get?_push_of_some _ e)) hfr (show ObjOk X.prog X.w _ _ _ (.lst xs.reverse) from ⟨by rw [List.length_reverse]; exact hz, acc.toList, c, vals_rev rv hi, by rw [Array.toArray_toList]; exact hS⟩)
end

/-! ### asked_row -/
abbrev N_asked_row : List Str := ["row"]
theorem sc_asked_row : FnScope N_asked_row ["row"] (defScope st_asked_row) := ⟨rfl, rfl, rfl, by decide +kernel, rfl, by decide +kernel, by decide +kernel⟩
/-- refuses what is no row: E of the class at C -/
def spAskedRow (K : PySem.W.Frag) (C : Addr) : Sp := fun vs H Q E => ∃ (a : Addr) (ns : List Int), vs = [.ref a] ∧ SqL K H a (ns.map V.int) ∧ ns.length ≤ 100000 ∧ (isRow ns = false → ∀ H', Same H H' → E (.ref C) none H') ∧ (isRow ns = true → ∀ H', Same H H' → Q .non H')
section
variable {P : Program} {w : World} {K : PySem.W.Frag} {mg : Str → Option Value} {base : Heap}
theorem kn_asked_row {C : Addr} (D : Df K mg "asked_row" st_asked_row ["row"]) (X_NoRow : Ec K mg "NoRow" C) (K_is_row : Kn P w K mg base CX0 2 "is_row" ["row"] (spIsRow K)) : Kn P w K mg base (L2.CX P w) 3 "asked_row" ["row"] (spAskedRow K C) := by
  refine D.knX sc_asked_row (fun vs H Q E h => ?_) (fun f cdv A outer s H vs Q E hr h => ?_)
  · obtain ⟨a, b, rfl, _⟩ := h
    rfl
  obtain ⟨a, ns, rfl, hS, hl, h1, h2⟩ := h
  refine ⟨_, (pss_one (ps_if (pt_not (pt_val (pe_k0 K_is_row (hr.mono (by first | decide | omega)) (by rfl) (pa_cons (pv 0) pa_nil))))
        (pss_one (ps_raise rfl (takes_of rfl rfl rfl rfl) (pmk_own PySem.F.excBase_ValueError X_NoRow.x X_NoRow.g X_NoRow.k (raises_own X_NoRow.b X_NoRow.t) rfl)))
        pss_nil)), ?_⟩
  refine ⟨_, rfl, a, ns, rfl, hS, hl, fun H1 s1 => ⟨_, rfl, ite2 (fun c => ?_) (fun c => ?_)⟩⟩
  · have c' : isRow ns = false := by
      have q : (!isRow ns) = true := c
      rwa [Bool.not_eq_true'] at q
    exact h1 c' H1 s1
  · have c' : isRow ns = true := by
      have q : ¬ (!isRow ns) = true := c
      rwa [Bool.not_eq_true', Bool.not_eq_false] at q
    exact h2 c' H1 s1
end

/-! ### contrary -/
abbrev N_contrary : List Str := ["row"]
theorem sc_contrary : FnScope N_contrary ["row"] (defScope st_contrary) := ⟨rfl, rfl, rfl, by decide +kernel, rfl, by decide +kernel, by decide +kernel⟩
def spContrary (K : PySem.W.Frag) (C : Addr) : Sp := fun vs H Q E => ∃ (a : Addr) (ns : List Int), vs = [.ref a] ∧ SqL K H a (ns.map V.int) ∧ ns.length ≤ 100000 ∧ (isRow ns = false → ∀ H', Same H H' → E (.ref C) none H') ∧
  (isRow ns = true → ∀ H' p, Same H H' → H p = none → H' p = some (.lst (ns.reverse.map V.int)) → Q (.ref p) H')
section
variable {P : Program} {w : World} {K : PySem.W.Frag} {mg : Str → Option Value} {base : Heap}
theorem kn_contrary {C : Addr} (D : Df K mg "contrary" st_contrary ["row"]) (B : Bl mg) (K_asked_row : Kn P w K mg base (L2.CX P w) 3 "asked_row" ["row"] (spAskedRow K C)) : Kn P w K mg base (L2.CX P w) 4 "contrary" ["row"] (spContrary K C) := by
  refine D.knX sc_contrary (fun vs H Q E h => ?_) (fun f cdv A outer s H vs Q E hr h => ?_)
  · obtain ⟨a, b, rfl, _⟩ := h
    rfl
  obtain ⟨a, ns, rfl, hS, hl, h1, h2⟩ := h
  refine ⟨_, (pss_cons (ps_expr (pe_kE K_asked_row (takes_of rfl rfl rfl rfl) (hr.mono (by first | decide | omega)) (by rfl) (pa_cons (pv 0) pa_nil)))
      (pss_one (ps_ret (pe_listRev rfl (by rfl) B.list_ (by rfl) B.reversed_ (pv 0))))), ?_⟩
  refine ⟨_, rfl, a, ns, rfl, hS, hl, h1, fun z H1 s1 => ?_⟩
  refine ⟨_, rfl, a, _, rfl, s1.seq hS, fun p np => ?_⟩
  rw [← List.map_reverse]
  exact h2 z _ p (s1.new np) (s1.free np) upd_same
end

/-! ### places_by -/
abbrev N_places_by : List Str := ["row", "known", "number"]
theorem sc_places_by : FnScope N_places_by ["row"] (defScope st_places_by) := ⟨rfl, rfl, rfl, by decide +kernel, rfl, by decide +kernel, by decide +kernel⟩
/-- for each number from one to n its two places -/
def placesOf (ns : List Int) (n : Nat) : List (Int × Int) := fam 1 n fun k => ((spots ns k).getD 0 0, (spots ns k).getD 1 0)
def spPlacesBy (K : PySem.W.Frag) : Sp := fun vs H Q _ => ∃ (a : Addr) (ns : List Int), vs = [.ref a] ∧ SqL K H a (ns.map V.int) ∧ isRow ns = true ∧
  ∀ H' p ts, Same H H' → H p = none → H' p = some (.lst (ts.map V.ref)) → PairsAt H' ts (placesOf ns (ns.length / 2)) → Q (.ref p) H'
/-- a comprehension of pairs over a range, with what stands as it was said -/
theorem lc_pairs' {lo : Int} {n j : Nat} {te : TE} {σ : L2.St} {H1 : Hp} {D : Addr} {Qd : Hp → Prop} (nD : H1 D = none) (hn : n < 16777216) (f : Int → Int × Int)
    (hs : ∀ (i : Nat) (H : Hp) (Q : VK), i < n → Same H1 H → (∀ p, H p = none → Q (.ref p) (upd H p (.tup [.int (f (lo + (i : Int))).1, .int (f (lo + (i : Int))).2]))) → te ((σ.set j none).set j (some (.int (lo + (i : Int))))) H Q)
    (hd : ∀ H' ts, Same H1 H' → H' D = some (.lst (ts.map V.ref)) → PairsAt H' ts (fam lo n f) → Qd H') :
    ∃ W : Nat → Nat → Hp → Prop, (∃ m, W 0 m (upd H1 D (.lst []))) ∧ ∀ i m H, W i m H →
      ((Itr lo n).stop i H ∧ Qd H) ∨ ((Itr lo n).go i H ∧ ∃ Nx : Hp → Prop, (∀ H', Nx H' → ∃ m', m' < m ∧ W (i + 1) m' H') ∧ ∀ x H', (Itr lo n).yld i H x H' → gName j x (wipe σ [j]) H' fun σ2 H2 => wipe σ2 [j] = wipe σ [j] ∧ tYes σ2 H2 fun b H3 =>
        if b = true then te σ2 H3 fun y H4 => ∃ acc, H4 D = some (.lst acc) ∧ acc.length < sizeLine ∧ Nx (upd H4 D (.lst (acc ++ [y]))) else Nx H3) := by
  refine lc_range (fun i H' => ∃ ts, Same H1 H' ∧ H' D = some (.lst (ts.map V.ref)) ∧ PairsAt H' ts (fam lo i f)) ⟨[], same_upd nD, upd_same, .nil⟩ ?_ ?_
  · rintro i H hi ⟨ts, s1, e1, p1⟩
    refine ⟨?_, ?_⟩
    · show ((σ.set j none).set j (some (V.int (lo + (i : Int))))).set j none = σ.set j none
      rw [List.set_set, List.set_set]
    refine iteT (B := ∃ ts, Same H1 H ∧ H D = some (HO.lst (List.map V.ref ts)) ∧ PairsAt H ts (fam lo (i + 1) f)) ?_
    refine hs i H _ hi s1 fun p np => ?_
    refine ⟨ts.map V.ref, ?_, ?_, ts ++ [p], ?_, ?_, ?_⟩
    · have nDp : D ≠ p := ne_of_none e1 np
      rw [upd_ne nDp]
      exact e1
    · rw [List.length_map, p1.1, fam_length]
      exact smaller (by omega)
    · exact (s1.new np).own nD
    · rw [upd_same, List.map_append]
      rfl
    · rw [fam_succ]
      have nDp : p ≠ D := fun e => by
        rw [e, e1] at np
        cases np
      have nt : ∀ {t : Addr} {q : Int × Int}, H t = some (.tup [.int q.1, .int q.2]) → t ≠ D := fun h e => by
        rw [e, e1] at h
        cases h
      refine PairsAt.append ⟨p1.1, fun k t q h1 h2 => ?_⟩ (.one ?_)
      · have h3 := p1.2 k t q h1 h2
        rw [upd_ne (nt h3), upd_ne (ne_of_none h3 np)]
        exact h3
      · rw [upd_ne nDp, upd_same]
  · rintro H ⟨ts, s1, e1, p1⟩
    exact hd H ts s1 e1 p1
section
variable {P : Program} {w : World} {K : PySem.W.Frag} {mg : Str → Option Value} {base : Heap}
theorem kn_places_by (D : Df K mg "places_by" st_places_by ["row"]) (B : Bl mg) (K_found_places : Kn P w K mg base CX0 1 "found_places" ["row"] (spFoundPlaces K)) : Kn P w K mg base CX0 2 "places_by" ["row"] (spPlacesBy K) := by
  refine D.kn sc_places_by (fun vs H Q E h => ?_) (fun f cdv A outer s H vs Q E hr h => ?_)
  · obtain ⟨a, b, rfl, _⟩ := h
    rfl
  obtain ⟨a, ns, rfl, hS, hR, q⟩ := h
  obtain ⟨c1, c2, c3, _⟩ := (isRow_iff ns).mp hR
  refine ⟨_, (pss_cons (ps_set (i := 1) sc_places_by.nd rfl (Or.inr rfl) (pe_k0 K_found_places (hr.mono (by first | decide | omega)) (by rfl) (pa_cons (pv 0) pa_nil)))
      (pss_one (ps_ret (pe_lc (own := [("number", 2)]) (g := gName 2) (tt := tYes) rfl sc_places_by.nd (pi_range2 (by rfl) B.range_ (pa_cons pe_int (pa_cons (pe_op op_add (pe_op op_fdiv (pe_callB call_len_seq (by rfl) B.len_ (by decide +kernel) (pa_cons (pv 0) pa_nil)) pe_int) pe_int) pa_nil))) (blkOk_by (own := [("number", 2)]) (N := N_places_by) (sc := defScope st_places_by) (by decide +kernel)) (fun _ _ _ _ _ => pg_name (i := 2) sc_places_by.nd rfl (Or.inl rfl)) (fun _ _ _ _ _ => pts_nil) (fun _ _ _ _ _ => pe_tup (pa_cons (pe_ix (show IxR _ (rIxL K) from ix_list) (pe_dget (hu_of hr) (pv 1) (pv 2) (fun _ _ => rfl)) pe_int (fun _ _ => rfl)) (pa_cons (pe_ix (show IxR _ (rIxL K) from ix_list) (pe_dget (hu_of hr) (pv 1) (pv 2) (fun _ _ => rfl)) pe_int (fun _ _ => rfl)) pa_nil))))))), ?_⟩
  refine ⟨_, rfl, a, ns, rfl, hS, by omega, fun H1 d s1 hD => ?_⟩
  have hL := ints_len ns
  have hsz : (((ns.map V.int).length : Nat) : Int) / 2 + 1 = ((ns.length / 2 : Nat) : Int) + 1 := by
    rw [hL]
    omega
  refine ⟨_, rfl, a, _, rfl, .inl (s1.seq hS), _, _, rfl, rfl, ⟨by decide, by decide⟩, _, _, rfl, rfl, 1, ((ns.length / 2 : Nat) : Int) + 1, by simp only [hsz], ⟨by omega, by omega, by omega, by omega⟩, fun p np => ?_⟩
  have en : (((ns.length / 2 : Nat) : Int) + 1 - 1).toNat = ns.length / 2 := by omega
  refine lc_pairs' (lo := 1) (n := (((ns.length / 2 : Nat) : Int) + 1 - 1).toNat) np (by omega) (fun k => ((spots ns k).getD 0 0, (spots ns k).getD 1 0)) (fun i H2 Q' hi s2 q' => ?_) (fun H2 ts s2 e2 p2 => ?_)
  · obtain ⟨x, y, exy, _, _⟩ := isRow_spots hR (k := 1 + (i : Int)) (by omega) (by omega)
    obtain ⟨t, g1, g2⟩ := (hD.keep s2).get' (k := 1 + (i : Int)) (by rw [exy]; simp)
    rw [exy] at g2 q'
    refine ⟨_, rfl, _, rfl, d, _, rfl, g1, t, _, _, _, rfl, rfl, SqL.of g2, atI_nat (j := 0) rfl, _, rfl, _, rfl, d, _, rfl, g1, t, _, _, _, rfl, rfl, SqL.of g2, atI_nat (j := 1) rfl, small (show 2 ≤ 16777216 by decide), q'⟩
  · rw [en] at p2
    exact q H2 p ts (s1.trans s2) (s1.free np) e2 p2
end

/-! ### places -/
abbrev N_places : List Str := ["row"]
theorem sc_places : FnScope N_places ["row"] (defScope st_places) := ⟨rfl, rfl, rfl, by decide +kernel, rfl, by decide +kernel, by decide +kernel⟩
def spPlaces (K : PySem.W.Frag) (C : Addr) : Sp := fun vs H Q E => ∃ (a : Addr) (ns : List Int), vs = [.ref a] ∧ SqL K H a (ns.map V.int) ∧ ns.length ≤ 100000 ∧ (isRow ns = false → ∀ H', Same H H' → E (.ref C) none H') ∧
  (isRow ns = true → ∀ H' p ts, Same H H' → H p = none → H' p = some (.lst (ts.map V.ref)) → PairsAt H' ts (placesOf ns (ns.length / 2)) → Q (.ref p) H')
section
variable {P : Program} {w : World} {K : PySem.W.Frag} {mg : Str → Option Value} {base : Heap}
theorem kn_places {C : Addr} (D : Df K mg "places" st_places ["row"]) (K_asked_row : Kn P w K mg base (L2.CX P w) 3 "asked_row" ["row"] (spAskedRow K C)) (K_places_by : Kn P w K mg base CX0 2 "places_by" ["row"] (spPlacesBy K)) : Kn P w K mg base (L2.CX P w) 4 "places" ["row"] (spPlaces K C) := by
  refine D.knX sc_places (fun vs H Q E h => ?_) (fun f cdv A outer s H vs Q E hr h => ?_)
  · obtain ⟨a, b, rfl, _⟩ := h
    rfl
  obtain ⟨a, ns, rfl, hS, hl, h1, h2⟩ := h
  refine ⟨_, (pss_cons (ps_expr (pe_kE K_asked_row (takes_of rfl rfl rfl rfl) (hr.mono (by first | decide | omega)) (by rfl) (pa_cons (pv 0) pa_nil)))
      (pss_one (ps_ret (pe_k0 K_places_by (hr.mono (by first | decide | omega)) (by rfl) (pa_cons (pv 0) pa_nil))))), ?_⟩
  refine ⟨_, rfl, a, ns, rfl, hS, hl, h1, fun z H1 s1 => ?_⟩
  exact ⟨_, rfl, a, ns, rfl, s1.seq hS, z, fun H2 p ts s2 np e2 p2 => h2 z H2 p ts (s1.trans s2) (s1.free np) e2 p2⟩
end

/-! ### texts of numbers -/
open TL (tl numL)
/-- str(n) -/
abbrev numS (n : Int) : Str := Str.ofString (toString n)
theorem tl_numS (m : Nat) : tl (numS (m : Int)) = numL m := TL.tl_num m
def words (ns : List Int) : List Str := ns.map numS
/-- the text of a row -/
def txt (ns : List Int) : Str := Txt.join " " (words ns)
theorem tl_blank : tl (" " : Str) = [32] := by decide +kernel
theorem joinL_snoc (S p : List Nat) : ∀ ps : List (List Nat), ps ≠ [] → TL.joinL S (ps ++ [p]) = TL.joinL S ps ++ (S ++ p)
  | [], h => absurd rfl h
  | [q], _ => rfl
  | q :: r :: t, _ => by
    have ih := joinL_snoc S p (r :: t) (by simp)
    show q ++ (S ++ TL.joinL S ((r :: t) ++ [p])) = (q ++ (S ++ TL.joinL S (r :: t))) ++ (S ++ p)
    rw [ih, List.append_assoc, List.append_assoc]
theorem tl_txt (ns : List Int) : tl (txt ns) = TL.joinL [32] ((words ns).map tl) := by
  unfold txt
  rw [TL.join_eq, TL.tl_join, tl_blank]
theorem txt_one (n : Int) : txt [n] = numS n := TL.ext_tl (by rw [tl_txt]; rfl)
theorem txt_snoc {ns : List Int} (n : Int) (h : ns ≠ []) : txt (ns ++ [n]) = txt ns ++ " " ++ numS n := by
  refine TL.ext_tl ?_
  rw [tl_txt, TL.tl_append, TL.tl_append, tl_txt, tl_blank]
  unfold words
  rw [List.map_append, List.map_append]
  show TL.joinL [32] (List.map tl (List.map numS ns) ++ [tl (numS n)]) = _
  rw [joinL_snoc _ _ _ (by simpa using h), List.append_assoc]
theorem joinL_len (k : Nat) : ∀ ps : List (List Nat), (∀ p ∈ ps, p.length ≤ k) → (TL.joinL [32] ps).length ≤ (k + 1) * ps.length
  | [], _ => Nat.zero_le _
  | [q], h => by
    have := h q (by simp)
    show q.length ≤ _
    simp
    omega
  | q :: r :: t, h => by
    have ih := joinL_len k (r :: t) fun p hp => h p (List.mem_cons_of_mem _ hp)
    have := h q (by simp)
    show (q ++ ([32] ++ TL.joinL [32] (r :: t))).length ≤ _
    rw [List.length_append, List.length_append, List.length_cons (as := r :: t), Nat.mul_succ]
    show q.length + (1 + _) ≤ _
    omega
/-- numbers of at most three figures -/
theorem numS_len {n : Int} (h1 : 0 ≤ n) (h2 : n < 1000) : (numS n).length ≤ 3 := by
  obtain ⟨m, rfl⟩ : ∃ m : Nat, n = m := ⟨n.toNat, by omega⟩
  rw [TL.len_tl, tl_numS]
  exact TL.numL_len (k := 3) (by decide) (by omega)
theorem words_len {ns : List Int} (h : ∀ n ∈ ns, 0 ≤ n ∧ n < 1000) : ∀ p ∈ (words ns).map tl, p.length ≤ 3 := by
  intro p hp
  obtain ⟨w, hw, rfl⟩ := List.mem_map.mp hp
  obtain ⟨n, hn, rfl⟩ := List.mem_map.mp hw
  rw [← TL.len_tl]
  exact numS_len (h n hn).1 (h n hn).2
theorem txt_len {ns : List Int} (h : ∀ n ∈ ns, 0 ≤ n ∧ n < 1000) : (txt ns).length ≤ 4 * ns.length := by
  rw [TL.len_tl, tl_txt]
  have := joinL_len 3 _ (words_len h)
  unfold words at this ⊢
  simpa using this
theorem sum_le {k : Nat} : ∀ {l : List Nat}, (∀ x ∈ l, x ≤ k) → l.sum ≤ k * l.length
  | [], _ => Nat.zero_le _
  | x :: l, h => by
    have ih := sum_le fun y hy => h y (List.mem_cons_of_mem x hy)
    have := h x (by simp)
    rw [List.sum_cons, List.length_cons, Nat.mul_succ]
    omega
theorem words_sum {ns : List Int} (h : ∀ n ∈ ns, 0 ≤ n ∧ n < 1000) : ((words ns).map (·.length)).sum + (words ns).length * (" " : Str).length ≤ 4 * ns.length := by
  have h1 : ((words ns).map (·.length)).sum ≤ 3 * ((words ns).map (·.length)).length := sum_le fun x hx => by
    obtain ⟨w, hw, rfl⟩ := List.mem_map.mp hx
    obtain ⟨n, hn, rfl⟩ := List.mem_map.mp hw
    exact numS_len (h n hn).1 (h n hn).2
  have h2 : (" " : Str).length = 1 := by decide +kernel
  rw [List.length_map] at h1
  have h3 : (words ns).length = ns.length := by unfold words; rw [List.length_map]
  rw [h3] at h1 ⊢
  rw [h2]
  omega
theorem row_num {ns : List Int} (h : isRow ns = true) : ∀ n ∈ ns, 0 ≤ n ∧ n < 1000 := fun n hn => by
  have := isRow_bound h n hn
  have := nOf_pos h
  unfold nOf at this
  omega
/-- what is written is split again -/
theorem split_txt {ns : List Int} (hne : ns ≠ []) (h : ∀ n ∈ ns, 0 ≤ n) : Txt.split (txt ns) " " = words ns := by
  refine TL.split_join tl_blank (by decide +kernel) (by unfold words; simpa using hne) fun p hp => ?_
  obtain ⟨n, hn, rfl⟩ := List.mem_map.mp hp
  obtain ⟨m, rfl⟩ : ∃ m : Nat, n = m := ⟨n.toNat, by have := h n hn; omega⟩
  rw [tl_numS]
  exact TL.numL_free (by omega)
/-! ### words that write a number -/
def figs (l : List Nat) : Bool := l.all fun c => decide (48 ≤ c) && decide (c ≤ 57)
def wordOk (l : List Nat) : Bool := decide (1 ≤ l.length) && decide (l.length ≤ 3) && decide (l[0]? ≠ some 48) && figs l
def wordVal (l : List Nat) : Int := ((NumText.digitsVal l : Nat) : Int)
theorem figs_iff {l : List Nat} : figs l = true ↔ NumText.AllDigits l := by
  unfold figs
  rw [List.all_eq_true]
  constructor
  · intro h c hc
    have := h c hc
    simp at this
    exact this
  · intro h c hc
    have := h c hc
    simp
    exact this
theorem numL_head {n : Nat} (h : 0 < n) : (numL n)[0]? ≠ some 48 := by
  induction n using Nat.strongRecOn with
  | _ n ih =>
    by_cases c : n < 10
    · rw [TL.numL_lt c]
      simp
      omega
    · rw [TL.numL_step (by omega)]
      have hne := TL.numL_ne (n / 10)
      rw [List.getElem?_append_left (List.length_pos_iff.mpr hne)]
      exact ih (n / 10) (by omega) (by omega)
theorem numS_ok {m : Nat} (h1 : 1 ≤ m) (h2 : m < 1000) : wordOk (tl (numS (m : Int))) = true ∧ wordVal (tl (numS (m : Int))) = (m : Int) := by
  rw [tl_numS]
  have l1 := TL.numL_len (n := m) (k := 3) (by decide) (by omega)
  have l0 : 1 ≤ (numL m).length := List.length_pos_iff.mpr (TL.numL_ne m)
  unfold wordOk wordVal
  rw [decide_eq_true l0, decide_eq_true l1, decide_eq_true (numL_head (by omega)), figs_iff.mpr (TL.numL_digits m), TL.numL_val]
  exact ⟨rfl, rfl⟩

/-! ### shown -/
open TL (tl numL)
abbrev N_shown : List Str := ["row", "number"]
theorem sc_shown : FnScope N_shown ["row"] (defScope st_shown) := ⟨rfl, rfl, rfl, by decide +kernel, rfl, by decide +kernel, by decide +kernel⟩
def spShown (K : PySem.W.Frag) (C : Addr) : Sp := fun vs H Q E => ∃ (a : Addr) (ns : List Int), vs = [.ref a] ∧ SqL K H a (ns.map V.int) ∧ ns.length ≤ 100000 ∧ (isRow ns = false → ∀ H', Same H H' → E (.ref C) none H') ∧ (isRow ns = true → ∀ H', Same H H' → Q (.str (txt ns)) H')
/-- the texts of a row's numbers, in a comprehension -/
theorem lc_words {K : PySem.W.Frag} {a : Addr} {xs : List Int} {j : Nat} {te : TE} {σ : L2.St} {H1 : Hp} {D : Addr} {Qd : Hp → Prop} (hS : SqL K H1 a (xs.map V.int)) (nD : H1 D = none) (hl : xs.length < 16777216)
    (hs : ∀ (n : Int) (H : Hp) (Q : VK), n ∈ xs → Q (.str (numS n)) H → te ((σ.set j none).set j (some (.int n))) H Q) (hd : ∀ H', Same H1 H' → H' D = some (.lst ((words xs).map V.str)) → Qd H') :
    ∃ W : Nat → Nat → Hp → Prop, (∃ m, W 0 m (upd H1 D (.lst []))) ∧ ∀ i m H, W i m H →
      ((Itl K a).stop i H ∧ Qd H) ∨ ((Itl K a).go i H ∧ ∃ Nx : Hp → Prop, (∀ H', Nx H' → ∃ m', m' < m ∧ W (i + 1) m' H') ∧ ∀ x H', (Itl K a).yld i H x H' → gName j x (wipe σ [j]) H' fun σ2 H2 => wipe σ2 [j] = wipe σ [j] ∧ tYes σ2 H2 fun b H3 =>
        if b = true then te σ2 H3 fun y H4 => ∃ acc, H4 D = some (.lst acc) ∧ acc.length < sizeLine ∧ Nx (upd H4 D (.lst (acc ++ [y]))) else Nx H3) := by
  refine lc_list (K := K) (a := a) (xs := xs.map V.int) (fun i H' => Same H1 H' ∧ H' D = some (.lst ((words (xs.take i)).map V.str))) ⟨same_upd nD, upd_same⟩ (fun i H _ h => h.1.seq hS) ?_ ?_
  · rintro i x H hx ⟨s, e⟩
    obtain ⟨n, hn, rfl⟩ := of_ints_get hx
    refine ⟨?_, ?_⟩
    · show ((σ.set j none).set j (some (V.int n))).set j none = σ.set j none
      rw [List.set_set, List.set_set]
    refine iteT (B := Same H1 H ∧ H D = some (.lst ((words (xs.take (i + 1))).map V.str))) ?_
    refine hs n H _ (List.mem_of_getElem? hn) ⟨_, e, ?_, s.own nD, ?_⟩
    · unfold words
      rw [List.length_map, List.length_map, List.length_take]
      exact smaller (by omega)
    · rw [upd_same, take_snoc hn]
      unfold words
      rw [List.map_append, List.map_append]
      rfl
  · rintro H ⟨s, e⟩
    rw [List.length_map, List.take_length] at e
    exact hd H s e
theorem num_log {n : Int} (h1 : 0 ≤ n) (h2 : n < 1000) : n.natAbs.log2 < 1920 := by
  have h : n.natAbs < 2 ^ 10 := by omega
  have : n.natAbs.log2 ≤ n.natAbs := Nat.log2_le_self _
  omega
section
variable {P : Program} {w : World} {K : PySem.W.Frag} {mg : Str → Option Value} {base : Heap}
theorem kn_shown {C : Addr} (D : Df K mg "shown" st_shown ["row"]) (B : Bl mg) (K_asked_row : Kn P w K mg base (L2.CX P w) 3 "asked_row" ["row"] (spAskedRow K C)) : Kn P w K mg base (L2.CX P w) 4 "shown" ["row"] (spShown K C) := by
  refine D.knX sc_shown (fun vs H Q E h => ?_) (fun f cdv A outer s H vs Q E hr h => ?_)
  · obtain ⟨_, _, rfl, _⟩ := h
    rfl
  obtain ⟨a, ns, rfl, hS, hl, h1, h2⟩ := h
  refine ⟨_, (pss_cons (ps_expr (pe_kE K_asked_row (takes_of rfl rfl rfl rfl) (hr.mono (by first | decide | omega)) (by rfl) (pa_cons (pv 0) pa_nil)))
      (pss_one (ps_ret (pe_join pe_str (pe_lc (own := [("number", 1)]) (g := gName 1) (tt := tYes) rfl sc_shown.nd (pi_list (pv 0)) (blkOk_by (own := [("number", 1)]) (N := N_shown) (sc := defScope st_shown) (by decide +kernel)) (fun _ _ _ _ _ => pg_name (i := 1) sc_shown.nd rfl (Or.inl rfl)) (fun _ _ _ _ _ => pts_nil) (fun _ _ _ _ _ => pe_callTy call_str_int (by rfl) B.str_ (by decide +kernel) (pa_cons (pv 1) pa_nil))))))), ?_⟩
  refine ⟨_, rfl, a, ns, rfl, hS, hl, h1, fun hR H1 s1 => ?_⟩
  have hnum := row_num hR
  refine ⟨⟨_, rfl⟩, _, rfl, a, rfl, ⟨_, s1.seq hS⟩, fun D nD => ?_⟩
  refine lc_words (K := K) (xs := ns) (s1.seq hS) nD (by omega) (fun n H Q hn q => ⟨_, rfl, n, rfl, num_log (hnum n hn).1 (hnum n hn).2, q⟩) fun H2 s2 e2 => ?_
  refine ⟨_, D, words ns, rfl, rfl, .inl (SqL.of e2), ?_, h2 hR H2 (s1.trans s2)⟩
  have := words_sum hnum
  omega
end

/-! ### people_by -/
abbrev N_people_by : List Str := ["row"]
theorem sc_people_by : FnScope N_people_by ["row"] (defScope st_people_by) := ⟨rfl, rfl, rfl, by decide +kernel, rfl, by decide +kernel, by decide +kernel⟩
def spPeopleBy (K : PySem.W.Frag) : Sp := fun vs H Q _ => ∃ (a : Addr) (ns : List Int), vs = [.ref a] ∧ SqL K H a (ns.map V.int) ∧ isRow ns = true ∧ Q (.int (NOf ns)) H
theorem NOf_len {ns : List Int} (h : isRow ns = true) : 3 * (((ns.map V.int).length : Nat) : Int) + 1 = NOf ns := by
  rw [ints_len, isRow_two h]
  unfold NOf
  omega
section
variable {P : Program} {w : World} {K : PySem.W.Frag} {mg : Str → Option Value} {base : Heap}
theorem kn_people_by (D : Df K mg "people_by" st_people_by ["row"]) (B : Bl mg) : Kn P w K mg base CX0 1 "people_by" ["row"] (spPeopleBy K) := by
  refine D.kn sc_people_by (fun vs H Q E h => ?_) (fun f cdv A outer s H vs Q E hr h => ?_)
  · obtain ⟨_, _, rfl, _⟩ := h
    rfl
  obtain ⟨a, ns, rfl, hS, hR, q⟩ := h
  refine ⟨_, (pss_one (ps_ret (pe_op op_add (pe_op op_mul pe_int (pe_callB call_len_seq (by rfl) B.len_ (by decide +kernel) (pa_cons (pv 0) pa_nil))) pe_int))), ?_⟩
  refine ⟨_, rfl, a, _, rfl, .inl hS, _, _, rfl, rfl, .inl ⟨by decide, by decide⟩, _, _, rfl, rfl, ?_⟩
  rw [← NOf_len hR] at q
  exact q
end

/-! ### people -/
abbrev N_people : List Str := ["row"]
theorem sc_people : FnScope N_people ["row"] (defScope st_people) := ⟨rfl, rfl, rfl, by decide +kernel, rfl, by decide +kernel, by decide +kernel⟩
def spPeople (K : PySem.W.Frag) (C : Addr) : Sp := fun vs H Q E => ∃ (a : Addr) (ns : List Int), vs = [.ref a] ∧ SqL K H a (ns.map V.int) ∧ ns.length ≤ 100000 ∧ (isRow ns = false → ∀ H', Same H H' → E (.ref C) none H') ∧ (isRow ns = true → ∀ H', Same H H' → Q (.int (NOf ns)) H')
section
variable {P : Program} {w : World} {K : PySem.W.Frag} {mg : Str → Option Value} {base : Heap}
theorem kn_people {C : Addr} (D : Df K mg "people" st_people ["row"]) (K_asked_row : Kn P w K mg base (L2.CX P w) 3 "asked_row" ["row"] (spAskedRow K C)) (K_people_by : Kn P w K mg base CX0 1 "people_by" ["row"] (spPeopleBy K)) : Kn P w K mg base (L2.CX P w) 4 "people" ["row"] (spPeople K C) := by
  refine D.knX sc_people (fun vs H Q E h => ?_) (fun f cdv A outer s H vs Q E hr h => ?_)
  · obtain ⟨_, _, rfl, _⟩ := h
    rfl
  obtain ⟨a, ns, rfl, hS, hl, h1, h2⟩ := h
  refine ⟨_, (pss_cons (ps_expr (pe_kE K_asked_row (takes_of rfl rfl rfl rfl) (hr.mono (by first | decide | omega)) (by rfl) (pa_cons (pv 0) pa_nil)))
      (pss_one (ps_ret (pe_k0 K_people_by (hr.mono (by first | decide | omega)) (by rfl) (pa_cons (pv 0) pa_nil))))), ?_⟩
  exact ⟨_, rfl, a, ns, rfl, hS, hl, h1, fun z H1 s1 => ⟨_, rfl, a, ns, rfl, s1.seq hS, z, h2 z H1 s1⟩⟩
end

/-! ### steps_of, third_by -/
abbrev N_steps_of : List Str := ["row", "size", "found", "number", "pair", "near", "far"]
theorem sc_steps_of : FnScope N_steps_of ["row"] (defScope st_steps_of) := ⟨rfl, rfl, rfl, by decide +kernel, rfl, by decide +kernel, by decide +kernel⟩
abbrev N_third_by : List Str := ["row", "steps", "one", "other", "count", "step"]
theorem sc_third_by : FnScope N_third_by ["row", "steps", "one", "other"] (defScope st_third_by) := ⟨rfl, rfl, rfl, by decide +kernel, rfl, by decide +kernel, by decide +kernel⟩
theorem put_add {α : Type} [DecidableEq α] {l : List (α × V)} {k : α} {v : V} {m n : Nat} (h : l.length + (m + 1) ≤ n) : (putK l k v).length + m ≤ n := by
  have := length_putK l k v
  omega
/-- a dict that holds the steps -/
def StD (H : Hp) (d : Addr) (ns : List Int) (i : Nat) : Prop := ∃ kvs : List (Key × V), H d = some (.dK kvs) ∧ kvs.length ≤ 3 * i ∧ ∀ x : Int, (∃ k e, k ≤ (i : Int) ∧ Stp ns k x e ∧ valV kvs (.inl x) = some (.int e)) ∨ ((¬ ∃ k e, k ≤ (i : Int) ∧ Stp ns k x e) ∧ valV kvs (.inl x) = none)
theorem StD.keep {H H' : Hp} {d : Addr} {ns : List Int} {i : Nat} (h : StD H d ns i) (s : Same H H') : StD H' d ns i := by
  obtain ⟨kvs, e, r⟩ := h
  exact ⟨kvs, s _ _ e, r⟩
def spStepsOf (K : PySem.W.Frag) : Sp := fun vs H Q _ => ∃ (a : Addr) (ns : List Int), vs = [.ref a] ∧ SqL K H a (ns.map V.int) ∧ isRow ns = true ∧ ∀ H' d, Same H H' → StD H' d ns (ns.length / 2) → Q (.ref d) H'
def spThirdBy (K : PySem.W.Frag) : Sp := fun vs H Q _ => ∃ (a d : Addr) (ns : List Int) (one other c : Int), vs = [.ref a, .ref d, .int one, .int other] ∧ SqL K H a (ns.map V.int) ∧ isRow ns = true ∧ StD H d ns (ns.length / 2) ∧ Thd ns one other c ∧ Q (.int c) H
section
variable {P : Program} {w : World} {K : PySem.W.Frag} {mg : Str → Option Value} {base : Heap}
theorem kn_steps_of (D : Df K mg "steps_of" st_steps_of ["row"]) (B : Bl mg) (K_places_by : Kn P w K mg base CX0 2 "places_by" ["row"] (spPlacesBy K)) : Kn P w K mg base CX0 3 "steps_of" ["row"] (spStepsOf K) := by
  refine D.kn sc_steps_of (fun vs H Q E h => ?_) (fun f cdv A outer s H vs Q E hr h => ?_)
  · obtain ⟨_, _, rfl, _⟩ := h
    rfl
  obtain ⟨a, ns, rfl, hS, hR, q⟩ := h
  refine ⟨_, (pss_cons (ps_set (i := 1) sc_steps_of.nd rfl (Or.inl rfl) (pe_op op_fdiv (pe_callB call_len_seq (by rfl) B.len_ (by decide +kernel) (pa_cons (pv 0) pa_nil)) pe_int))
      (pss_cons (ps_set (i := 2) sc_steps_of.nd rfl (Or.inl rfl) pe_dnewK)
      (pss_cons (ps_for PassesOwn.never rfl (pi_enum (by rfl) B.enumerate_ (pa_cons (pe_k0 K_places_by (hr.mono (by first | decide | omega)) (by rfl) (pa_cons (pv 0) pa_nil)) pa_nil)) (pg_tup rfl (pgs_cons (pg_name (i := 3) sc_steps_of.nd rfl (Or.inl rfl)) (pgs_cons (pg_name (i := 4) sc_steps_of.nd rfl (Or.inl rfl)) pgs_nil)))
        (pss_cons (ps_set (i := 5) sc_steps_of.nd rfl (Or.inl rfl) (pe_op op_add (pv 3) pe_int))
        (pss_cons (ps_set (i := 6) sc_steps_of.nd rfl (Or.inl rfl) (pe_op op_add (pe_op op_add (pv 1) (pe_ix ix_tup (pv 4) pe_int (fun _ _ => rfl))) pe_int))
        (pss_cons (ps_dput (hu_of hr) (pv 2) (pv 5) (pv 6) rfl)
        (pss_cons (ps_dput (hu_of hr) (pv 2) (pv 6) (pv 5) rfl)
        (pss_one (ps_dput (hu_of hr) (pv 2) (pe_op op_sub (pv 6) (pv 5)) (pe_op op_sub pe_int (pv 5)) rfl)))))))
      (pss_one (ps_ret (pv 2)))))), ?_⟩
  have hL := ints_len ns
  obtain ⟨c1, c2, c3, _⟩ := (isRow_iff ns).mp hR
  have hsz : (((ns.map V.int).length : Nat) : Int) / 2 = nOf ns := by
    rw [hL]
    unfold nOf
    omega
  refine ⟨_, rfl, a, _, rfl, .inl hS, _, _, rfl, rfl, ⟨by decide, by decide⟩, ?_⟩
  simp only [hsz]
  intro d nd
  generalize hH1 : upd H d (.dK []) = H1
  have s1 : Same H H1 := hH1 ▸ same_upd nd
  have e1 : H1 d = some (.dK []) := hH1 ▸ upd_same
  clear hH1
  refine ⟨_, rfl, a, ns, rfl, s1.seq hS, hR, fun H2 p ts s2 np e2 p2 => ?_⟩
  have pl : (placesOf ns (ns.length / 2)).length = ns.length / 2 := fam_length _ _ _
  refine ⟨p, ts.map V.ref, rfl, SqL.of e2, ?_⟩
  refine for_it (walk_enum (K := K) (a := p) (xs := ts.map V.ref)) (fun i σ H' => ∃ y3 y4 y5 y6, σ = [some (.ref a), some (.int (nOf ns)), some (.ref d), y3, y4, y5, y6] ∧ Same H H' ∧ H' p = some (.lst (ts.map V.ref)) ∧ PairsAt H' ts (placesOf ns (ns.length / 2)) ∧ StD H' d ns i) ⟨none, none, none, none, rfl, s1.trans s2, e2, p2, ⟨[], s2 _ _ e1, Nat.le_refl _, fun x => .inr ⟨stp_none, rfl⟩⟩⟩ ?_ ?_ ?_
  · rintro i σ H' hi ⟨_, _, _, _, _, _, e, _, _⟩
    exact SqL.of e
  · rintro i x σ H3 H4 hi ⟨y3, y4, y5, y6, rfl, s3, e3, p3, hD⟩ ⟨T, x1, x2, rfl, nT, rfl, f1, f2⟩
    obtain ⟨t, pr, rfl, hpr, et⟩ := p3.get f2
    cases f1
    rw [List.length_map, p3.1, pl] at hi
    generalize hT : upd H3 T (.tup [V.int ((i : Nat) : Int), V.ref t]) = H5
    have s4 : Same H3 H5 := hT ▸ same_upd nT
    have e4 : H5 T = some (.tup [V.int ((i : Nat) : Int), V.ref t]) := hT ▸ upd_same
    clear hT
    -- the number and its places
    have k1 : (1 : Int) ≤ 1 + (i : Int) := by omega
    have k2 : 1 + (i : Int) ≤ nOf ns := by unfold nOf; omega
    obtain ⟨pp, qq, es, es2, es3⟩ := row_spots hR k1 k2
    have epr : pr = ((pp : Int), (qq : Int)) := by
      unfold placesOf fam at hpr
      rw [List.getElem?_map, List.getElem?_range hi] at hpr
      have := Option.some.inj hpr
      rw [← this]
      show ((spots ns (1 + (i : Int))).getD 0 0, (spots ns (1 + (i : Int))).getD 1 0) = _
      rw [es]
      rfl
    subst epr
    refine ⟨T, _, rfl, SqT.of e4, rfl, _, _, rfl, _, _, rfl, rfl, ?_⟩
    refine ⟨_, rfl, _, _, rfl, rfl, ?_⟩
    refine ⟨_, rfl, _, rfl, t, _, _, _, rfl, rfl, SqT.of (s4 _ _ et), atI_nat (j := 1) rfl, _, _, rfl, rfl, _, _, rfl, rfl, ?_⟩
    obtain ⟨kvs, d1, d2, d3⟩ := hD.keep s4
    refine ⟨_, rfl, _, rfl, _, rfl, d, _, rfl, DPut.k (k := Sum.inl ((i : Int) + 1)) d1 (smaller (by omega)), ?_⟩
    refine ⟨_, rfl, _, rfl, _, rfl, d, _, rfl, DPut.k (k := Sum.inl (nOf ns + qq + 1)) upd_same (smaller (put_add (m := 1) (by omega))), ?_⟩
    rw [upd_upd]
    refine ⟨_, rfl, _, _, rfl, rfl, _, rfl, _, rfl, _, rfl, _, _, rfl, rfl, d, _, rfl, DPut.k (k := Sum.inl (nOf ns + qq + 1 - ((i : Int) + 1))) upd_same (smaller (put_add (m := 1) (put_add (m := 2) (by omega)))), ?_⟩
    rw [upd_upd]
    have npd : p ≠ d := ne_of (s4 _ _ e3) d1 (by intro z; cases z)
    refine ⟨_, _, _, _, rfl, (s3.trans s4).own nd, by rw [upd_ne npd]; exact s4 _ _ e3, ?_, ⟨_, upd_same, put_add (m := 0) (put_add (m := 1) (put_add (m := 2) (by omega))), fun x => ?_⟩⟩
    · refine ⟨p3.1, fun j u r h1 h2 => ?_⟩
      have h3 := s4 _ _ (p3.2 j u r h1 h2)
      rw [upd_ne (fun z => by
        rw [z, d1] at h3
        cases h3)]
      exact h3
    · have s1' : Stp ns (1 + (i : Int)) (1 + (i : Int)) (nOf ns + qq + 1) := ⟨pp, qq, es, es2, es3, k1, k2, .inl ⟨rfl, rfl⟩⟩
      have s2' : Stp ns (1 + (i : Int)) (nOf ns + qq + 1) (1 + (i : Int)) := ⟨pp, qq, es, es2, es3, k1, k2, .inr (.inl ⟨rfl, rfl⟩)⟩
      have s3' : Stp ns (1 + (i : Int)) (nOf ns + pp + 1) (0 - (1 + (i : Int))) := ⟨pp, qq, es, es2, es3, k1, k2, .inr (.inr ⟨rfl, rfl⟩)⟩
      have hk : (1 + (i : Int)) ≤ ((i + 1 : Nat) : Int) := by omega
      rw [valV_put, valV_put, valV_put]
      by_cases h3 : x = nOf ns + qq + 1 - ((i : Int) + 1)
      · rw [if_pos (congrArg Sum.inl h3)]
        have : x = nOf ns + pp + 1 := by omega
        rw [← this] at s3'
        exact .inl ⟨_, _, hk, s3', by rw [Int.add_comm 1]⟩
      · rw [if_neg (fun z => h3 (Sum.inl.inj z))]
        by_cases h2 : x = nOf ns + qq + 1
        · rw [if_pos (congrArg Sum.inl h2)]
          rw [← h2] at s2'
          exact .inl ⟨_, _, hk, s2', by rw [Int.add_comm 1]⟩
        · rw [if_neg (fun z => h2 (Sum.inl.inj z))]
          by_cases h1 : x = (i : Int) + 1
          · rw [if_pos (congrArg Sum.inl h1)]
            rw [show 1 + (i : Int) = x by omega] at s1'
            exact .inl ⟨_, _, by omega, s1', rfl⟩
          · rw [if_neg (fun z => h1 (Sum.inl.inj z))]
            rcases d3 x with ⟨k, e, g1, g2, g3⟩ | ⟨g1, g2⟩
            · exact .inl ⟨k, e, by omega, g2, g3⟩
            · refine .inr ⟨?_, g2⟩
              rintro ⟨k, e, g3, g4⟩
              by_cases hki : k ≤ (i : Int)
              · exact g1 ⟨k, e, hki, g4⟩
              · have hk2 : k = 1 + (i : Int) := by omega
                subst hk2
                obtain ⟨p', q', u1, u2, u3, u4, u5, u6⟩ := g4.ex
                rw [es] at u1
                have : (pp : Int) = p' ∧ (qq : Int) = q' := by simpa using u1
                omega
  · rintro σ H3 ⟨y3, y4, y5, y6, rfl, s3, e3, p3, hD⟩
    rw [List.length_map, p3.1, pl] at hD
    exact ⟨_, rfl, q _ _ s3 hD⟩
theorem kn_third_by (D : Df K mg "third_by" st_third_by ["row", "steps", "one", "other"]) (K_people_by : Kn P w K mg base CX0 1 "people_by" ["row"] (spPeopleBy K)) : Kn P w K mg base CX0 2 "third_by" ["row", "steps", "one", "other"] (spThirdBy K) := by
  refine D.kn sc_third_by (fun vs H Q E h => ?_) (fun f cdv A outer s H vs Q E hr h => ?_)
  · obtain ⟨_, _, _, _, _, _, rfl, _⟩ := h
    rfl
  obtain ⟨a, d, ns, one, other, c, rfl, hS, hR, ⟨kvs, d1, d2, d3⟩, hT, q⟩ := h
  have hN : (0 : Int) < NOf ns := by have := nOf_pos hR; unfold NOf; omega
  refine ⟨_, (pss_cons (ps_set (i := 4) sc_third_by.nd rfl (Or.inl rfl) (pe_k0 K_people_by (hr.mono (by first | decide | omega)) (by rfl) (pa_cons (pv 0) pa_nil)))
      (pss_cons (ps_set (i := 5) sc_third_by.nd rfl (Or.inl rfl) (pe_op op_mod (pe_op op_sub (pv 3) (pv 2)) (pv 4)))
      (pss_cons (ps_if (pt_cmp (pc_din (hu_of hr) (pv 5) (pv 1)))
        (pss_one (ps_ret (pe_op op_mod (pe_op op_add (pv 2) (pe_dget (hu_of hr) (pv 1) (pv 5) (fun _ _ => rfl))) (pv 4))))
        pss_nil)
      (pss_one (ps_ret (pe_op op_mod (pe_op op_add (pv 3) (pe_dget (hu_of hr) (pv 1) (pe_op op_sub (pv 4) (pv 5)) (fun _ _ => rfl))) (pv 4))))))), ?_⟩
  refine ⟨_, rfl, a, ns, rfl, hS, hR, _, rfl, _, rfl, _, _, rfl, rfl, _, rfl, _, _, rfl, rfl, hN, ?_⟩
  refine ⟨_, rfl, _, rfl, d, _, rfl, DGet.k (k := Sum.inl ((other - one) % NOf ns)) d1, _, rfl, ?_⟩
  have hnl : ∀ x : Int, (∃ k e, Stp ns k x e ∧ valV kvs (.inl x) = some (.int e)) ∨ ((¬ ∃ k e, Stp ns k x e) ∧ valV kvs (.inl x) = none) := fun x => by
    rcases d3 x with ⟨k, e, _, g2, g3⟩ | ⟨g1, g2⟩
    · exact .inl ⟨k, e, g2, g3⟩
    · exact .inr ⟨fun ⟨k, e, g⟩ => g1 ⟨k, e, (stp_range g).2.2.2.2.2.2.2, g⟩, g2⟩
  rcases hnl ((other - one) % NOf ns) with ⟨k, e, g2, g3⟩ | ⟨g1, g2⟩
  · rw [g3]
    refine iteT ?_
    refine ⟨_, rfl, _, rfl, _, rfl, d, _, rfl, g3 ▸ DGet.k (k := Sum.inl ((other - one) % NOf ns)) d1, _, _, rfl, rfl, _, rfl, _, _, rfl, rfl, hN, ?_⟩
    show Q (V.int ((one + e) % NOf ns)) H
    rw [← hT.uniq (thd_by1 hT.ra hT.rb g2)]
    exact q
  · rw [g2]
    refine iteF ?_
    obtain ⟨k, e, g3⟩ := step_or hR hT.ra hT.rb hT.ne.1 g1
    rcases hnl (NOf ns - (other - one) % NOf ns) with ⟨k', e', g4, g5⟩ | ⟨g4, _⟩
    · refine ⟨_, rfl, _, rfl, _, rfl, _, rfl, _, _, rfl, rfl, d, _, rfl, g5 ▸ DGet.k (k := Sum.inl (NOf ns - (other - one) % NOf ns)) d1, _, _, rfl, rfl, _, rfl, _, _, rfl, rfl, hN, ?_⟩
      show Q (V.int ((other + e') % NOf ns)) H
      rw [← hT.uniq (thd_by2 hT.ra hT.rb g4)]
      exact q
    · exact absurd ⟨k, e, g3⟩ g4
end

/-! ### asked_two, third, group -/
abbrev N_asked_two : List Str := ["row", "one", "other"]
theorem sc_asked_two : FnScope N_asked_two ["row", "one", "other"] (defScope st_asked_two) := ⟨rfl, rfl, rfl, by decide +kernel, rfl, by decide +kernel, by decide +kernel⟩
abbrev N_third : List Str := ["row", "one", "other"]
theorem sc_third : FnScope N_third ["row", "one", "other"] (defScope st_third) := ⟨rfl, rfl, rfl, by decide +kernel, rfl, by decide +kernel, by decide +kernel⟩
def spAskedTwo (K : PySem.W.Frag) (CR CP : Addr) : Sp := fun vs H Q E => ∃ (a : Addr) (ns : List Int) (one other : Int), vs = [.ref a, .int one, .int other] ∧ SqL K H a (ns.map V.int) ∧ ns.length ≤ 100000 ∧ (isRow ns = false → ∀ H', Same H H' → E (.ref CR) none H') ∧
  (isRow ns = true → ¬ twoPeople (NOf ns) one other → ∀ H', Same H H' → E (.ref CP) none H') ∧ (isRow ns = true → twoPeople (NOf ns) one other → ∀ H', Same H H' → Q .non H')
def spThird (K : PySem.W.Frag) (CR CP : Addr) : Sp := fun vs H Q E => ∃ (a : Addr) (ns : List Int) (one other : Int), vs = [.ref a, .int one, .int other] ∧ SqL K H a (ns.map V.int) ∧ ns.length ≤ 100000 ∧ (isRow ns = false → ∀ H', Same H H' → E (.ref CR) none H') ∧
  (isRow ns = true → ¬ twoPeople (NOf ns) one other → ∀ H', Same H H' → E (.ref CP) none H') ∧ (isRow ns = true → ∀ c, Thd ns one other c → ∀ H', Same H H' → Q (.int c) H')
section
variable {P : Program} {w : World} {K : PySem.W.Frag} {mg : Str → Option Value} {base : Heap}
theorem kn_asked_two {CR CP : Addr} (D : Df K mg "asked_two" st_asked_two ["row", "one", "other"]) (B : Bl mg) (X_NoPerson : Ec K mg "NoPerson" CP) (K_asked_row : Kn P w K mg base (L2.CX P w) 3 "asked_row" ["row"] (spAskedRow K CR)) (K_people_by : Kn P w K mg base CX0 1 "people_by" ["row"] (spPeopleBy K)) :
    Kn P w K mg base (L2.CX P w) 4 "asked_two" ["row", "one", "other"] (spAskedTwo K CR CP) := by
  refine D.knX sc_asked_two (fun vs H Q E h => ?_) (fun f cdv A outer s H vs Q E hr h => ?_)
  · obtain ⟨_, _, _, _, rfl, _⟩ := h
    rfl
  obtain ⟨a, ns, one, other, rfl, hS, hl, h1, h2, h3⟩ := h
  refine ⟨_, (pss_cons (ps_expr (pe_kE K_asked_row (takes_of rfl rfl rfl rfl) (hr.mono (by first | decide | omega)) (by rfl) (pa_cons (pv 0) pa_nil)))
      (pss_one (ps_if (PW.pt (pw_or (pt_cmpR op_eq (pv 1) (pv 2) (nomark _)) (pw_or (pt_cmpR op_lt (pe_callB (call_min2 rfl) (by rfl) B.min_ (by decide +kernel) (pa_cons (pv 1) (pa_cons (pv 2) pa_nil))) pe_int (nomark _)) (pw_or1 (pt_cmpR op_ge (pe_callB (call_max2 rfl) (by rfl) B.max_ (by decide +kernel) (pa_cons (pv 1) (pa_cons (pv 2) pa_nil))) (pe_k0 K_people_by (hr.mono (by first | decide | omega)) (by rfl) (pa_cons (pv 0) pa_nil)) (nomark _))))))
        (pss_one (ps_raise rfl (takes_of rfl rfl rfl rfl) (pmk_own PySem.F.excBase_ValueError X_NoPerson.x X_NoPerson.g X_NoPerson.k (raises_own X_NoPerson.b X_NoPerson.t) rfl)))
        pss_nil))), ?_⟩
  refine ⟨_, rfl, a, ns, rfl, hS, hl, h1, fun z H1 s1 => ?_⟩
  refine ⟨_, rfl, _, rfl, rfl, _, rfl, ite2 (fun c => ?_) (fun c => ?_)⟩
  · have c' : one = other := V.int.inj (of_decide_eq_true c)
    exact iteT (h2 z (fun t => t.1 c') H1 s1)
  have c' : ¬ one = other := fun e => c (decide_eq_true (congrArg V.int e))
  refine ⟨_, rfl, _, rfl, _, _, rfl, _, _, rfl, rfl, _, rfl, ite2 (fun d => ?_) (fun d => ?_)⟩
  · have d' := of_decide_eq_true d
    exact iteT (h2 z (fun t => by obtain ⟨t1, t2, t3⟩ := t; split at d' <;> omega) H1 s1)
  have d' := of_decide_eq_false (Bool.eq_false_iff.mpr d)
  refine ⟨_, rfl, _, rfl, _, _, rfl, _, rfl, a, ns, rfl, s1.seq hS, z, _, _, rfl, rfl, _, rfl, ite2 (fun g => ?_) (fun g => ?_)⟩
  · have g' := of_decide_eq_true g
    exact h2 z (fun t => by obtain ⟨t1, t2, t3⟩ := t; split at g' <;> omega) H1 s1
  · have g' := of_decide_eq_false (Bool.eq_false_iff.mpr g)
    exact h3 z ⟨c', by split at d' <;> split at g' <;> omega, by split at d' <;> split at g' <;> omega⟩ H1 s1
theorem kn_third {CR CP : Addr} (D : Df K mg "third" st_third ["row", "one", "other"]) (K_asked_two : Kn P w K mg base (L2.CX P w) 4 "asked_two" ["row", "one", "other"] (spAskedTwo K CR CP)) (K_steps_of : Kn P w K mg base CX0 3 "steps_of" ["row"] (spStepsOf K))
    (K_third_by : Kn P w K mg base CX0 2 "third_by" ["row", "steps", "one", "other"] (spThirdBy K)) : Kn P w K mg base (L2.CX P w) 5 "third" ["row", "one", "other"] (spThird K CR CP) := by
  refine D.knX sc_third (fun vs H Q E h => ?_) (fun f cdv A outer s H vs Q E hr h => ?_)
  · obtain ⟨_, _, _, _, rfl, _⟩ := h
    rfl
  obtain ⟨a, ns, one, other, rfl, hS, hl, h1, h2, h3⟩ := h
  refine ⟨_, (pss_cons (ps_expr (pe_kE K_asked_two (takes_of rfl rfl rfl rfl) (hr.mono (by first | decide | omega)) (by rfl) (pa_cons (pv 0) (pa_cons (pv 1) (pa_cons (pv 2) pa_nil)))))
      (pss_one (ps_ret (pe_k0 K_third_by (hr.mono (by first | decide | omega)) (by rfl) (pa_cons (pv 0) (pa_cons (pe_k0 K_steps_of (hr.mono (by first | decide | omega)) (by rfl) (pa_cons (pv 0) pa_nil)) (pa_cons (pv 1) (pa_cons (pv 2) pa_nil)))))))), ?_⟩
  refine ⟨_, rfl, _, rfl, _, rfl, a, ns, one, other, rfl, hS, hl, h1, h2, fun z t H1 s1 => ?_⟩
  obtain ⟨c, hc⟩ := thd_total z t.2.1 t.2.2 t.1
  exact ⟨_, rfl, _, rfl, a, ns, rfl, s1.seq hS, z, fun H2 d s2 hD => ⟨_, rfl, _, rfl, a, d, ns, one, other, c, rfl, (s1.trans s2).seq hS, z, hD, hc, h3 z c hc H2 (s1.trans s2)⟩⟩
end

-- IMPORT HandS.SortInts
/-! ### group -/
abbrev N_group : List Str := ["row", "one", "other"]
theorem sc_group : FnScope N_group ["row", "one", "other"] (defScope st_group) := ⟨rfl, rfl, rfl, by decide +kernel, rfl, by decide +kernel, by decide +kernel⟩
def spGroup (K : PySem.W.Frag) (CR CP : Addr) : Sp := fun vs H Q E => ∃ (a : Addr) (ns : List Int) (one other : Int), vs = [.ref a, .int one, .int other] ∧ SqL K H a (ns.map V.int) ∧ ns.length ≤ 100000 ∧ (isRow ns = false → ∀ H', Same H H' → E (.ref CR) none H') ∧
  (isRow ns = true → ¬ twoPeople (NOf ns) one other → ∀ H', Same H H' → E (.ref CP) none H') ∧ (isRow ns = true → ∀ c L, Thd ns one other c → Trio one other c L → ∀ H' p, Same H H' → H p = none → H' p = some (.tup (L.map V.int)) → Q (.ref p) H')
section
variable {P : Program} {w : World} {K : PySem.W.Frag} {mg : Str → Option Value} {base : Heap}
theorem kn_group {CR CP : Addr} (D : Df K mg "group" st_group ["row", "one", "other"]) (B : Bl mg) (K_third : Kn P w K mg base (L2.CX P w) 5 "third" ["row", "one", "other"] (spThird K CR CP)) : Kn P w K mg base (L2.CX P w) 6 "group" ["row", "one", "other"] (spGroup K CR CP) := by
  refine D.knX sc_group (fun vs H Q E h => ?_) (fun f cdv A outer s H vs Q E hr h => ?_)
  · obtain ⟨_, _, _, _, rfl, _⟩ := h
    rfl
  obtain ⟨a, ns, one, other, rfl, hS, hl, h1, h2, h3⟩ := h
  refine ⟨_, (pss_one (ps_ret (pe_callTy call_tuple_of (by rfl) B.tuple_ (by decide +kernel) (pa_cons (pe_callB cr_sortedI (by rfl) B.sorted_ (by decide +kernel) (pa_cons (pe_lst (pa_cons (pv 1) (pa_cons (pv 2) (pa_cons (pe_kE K_third (takes_of rfl rfl rfl rfl) (hr.mono (by first | decide | omega)) (by rfl) (pa_cons (pv 0) (pa_cons (pv 1) (pa_cons (pv 2) pa_nil)))) pa_nil)))) pa_nil)) pa_nil)))), ?_⟩
  refine ⟨_, rfl, _, rfl, _, rfl, _, rfl, _, rfl, a, ns, one, other, rfl, hS, hl, h1, h2, fun z c hc H1 s1 => ?_⟩
  refine ⟨small (show 3 ≤ 16777216 by decide), fun l nl => ?_⟩
  refine ⟨l, [one, other, c], rfl, SqL.of upd_same, fun L p hp hs np => ?_⟩
  have s2 := (s1.new nl (o := .lst ([one, other, c].map V.int))).new np (o := .lst (L.map V.int))
  exact ⟨p, _, rfl, .inl ⟨SqL.of upd_same, fun t nt => h3 z c L hc ⟨hp, hs⟩ _ t (s2.new nt) (s2.free nt) upd_same⟩⟩
end

/-! ### a chain of four comparisons -/
section
variable {X : Cx} {a b c d e : Expr} {ta tb tc td te : TE} {pos : Pos}
structure TC (X : Cx) (pos : Pos) (ops : List CmpOp) (rs : List (Sem Value)) (t : V → TT) : Prop where
  run : ∀ (pins : List (Addr × Obj)) (s : Shared) (σ : L2.St) (H : Hp) (x : V) (v : Value) (Q : Bool → Hp → Prop), Inv X pins σ H s → RelV x v → t x σ H Q → wpAny (model X.prog X.w) X.A (testChain pos v ops rs) (TP X pins σ Q) X.xe s
theorem tc_last {op : CmpOp} {r : R2} (ho : OpR X (compareOp op) r) (hb : PE X b tb) : TC X pos [op] [eval b X.env] (fun x σ H Q => tb σ H fun y H2 => r x y H2 fun z H3 => ∃ k, z = .bl k ∧ Q k H3) := by
  refine ⟨fun pins s σ H x v Q I rx h => ?_⟩
  refine test_last (thn (hb.run pins s σ H _ I h) fun w' s4 ⟨z', H4, I4, r4, q4⟩ => thn (ho pins s4 σ H4 x z' v w' _ I4 rx r4 q4) fun d' s5 ⟨z2, H5, I5, r5, k2, e2, q5⟩ => ?_)
  subst e2
  cases r5
  exact wpAny_truthy_bool ⟨H5, I5, q5⟩
theorem tc_link {op op' : CmpOp} {ops : List CmpOp} {r : R2} {r' : Sem Value} {rs : List (Sem Value)} {t : V → TT} (ho : OpR X (compareOp op) r) (hb : PE X b tb) (h : TC X pos (op' :: ops) (r' :: rs) t) :
    TC X pos (op :: op' :: ops) (eval b X.env :: r' :: rs) (fun x σ H Q => tb σ H fun y H2 => r x y H2 fun z H3 => ∃ k, z = .bl k ∧ (if k = true then t y σ H3 Q else Q false H3)) := by
  refine ⟨fun pins s σ H x v Q I rx hq => ?_⟩
  refine test_link (thn (hb.run pins s σ H _ I hq) fun u s2 ⟨y, H2, I2, r2, q2⟩ => thn (ho pins s2 σ H2 x y v u _ I2 rx r2 q2) fun d s3 ⟨z, H3, I3, r3, k, e, q3⟩ => ?_)
  subst e
  cases r3
  refine wpAny_truthy_bool ?_
  cases k with
  | false => exact ite_ff ⟨H3, I3, q3⟩
  | true => exact ite_tt (h.run pins s3 σ H3 y u Q I3 r2 q3)
def tChain4 (r1 r2 r3 r4 : R2) (ta tb tc td te : TE) : TT := fun σ H Q => ta σ H fun x H1 => tb σ H1 fun y H2 => r1 x y H2 fun z1 H3 => ∃ k1, z1 = .bl k1 ∧ (if k1 = true then
  tc σ H3 fun y2 H4 => r2 y y2 H4 fun z2 H5 => ∃ k2, z2 = .bl k2 ∧ (if k2 = true then
    td σ H5 fun y3 H6 => r3 y2 y3 H6 fun z3 H7 => ∃ k3, z3 = .bl k3 ∧ (if k3 = true then
      te σ H7 fun y4 H8 => r4 y3 y4 H8 fun z4 H9 => ∃ k4, z4 = .bl k4 ∧ Q k4 H9 else Q false H7) else Q false H5) else Q false H3)
theorem pt_chainN4 {o1 o2 o3 o4 : CmpOp} {r1 r2 r3 r4 : R2} (h1 : OpR X (compareOp o1) r1) (h2 : OpR X (compareOp o2) r2) (h3 : OpR X (compareOp o3) r3) (h4 : OpR X (compareOp o4) r4) (ha : PE X a ta) (hb : PE X b tb) (hc : PE X c tc) (hd : PE X d td) (he : PE X e te)
    (hm : lastMarks [o1, o2, o3, o4] [b, c, d, e] = false := by with_unfolding_all rfl) : PT X (.Compare a [o1, o2, o3, o4] [b, c, d, e] pos) (tChain4 r1 r2 r3 r4 ta tb tc td te) := by
  refine ⟨fun pins s σ H Q I h => ?_⟩
  refine isTrue_chain (thn (ha.run pins s σ H _ I h) fun v s1 ⟨x, H1, I1, r, q1⟩ => ?_) hm
  exact (tc_link (pos := pos) h1 hb (tc_link h2 hc (tc_link h3 hd (tc_last h4 he)))).run pins s1 σ H1 x v Q I1 r q1
end

/-! ### day_by -/
abbrev N_day_by : List Str := ["row", "steps", "person", "found", "other"]
theorem sc_day_by : FnScope N_day_by ["row", "steps", "person"] (defScope st_day_by) := ⟨rfl, rfl, rfl, by decide +kernel, rfl, by decide +kernel, by decide +kernel⟩
def spDayBy (K : PySem.W.Frag) : Sp := fun vs H Q _ => ∃ (a d : Addr) (ns : List Int) (person : Int), vs = [.ref a, .ref d, .int person] ∧ SqL K H a (ns.map V.int) ∧ isRow ns = true ∧ StD H d ns (ns.length / 2) ∧ (0 ≤ person ∧ person < NOf ns) ∧
  ∀ H' p ts Ls, Same H H' → H p = none → H' p = some (.lst (ts.map V.ref)) → TupsAt H' ts Ls → DayL ns person Ls → Rising Ls → Q (.ref p) H'
/-- the groups of a person with those below i -/
structure DayPre (row : List Int) (person : Int) (i : Int) (Ls : List (List Int)) : Prop where
  nd : Ls.Nodup
  snd : ∀ t ∈ Ls, InGrp row t ∧ person ∈ t
  cpl : ∀ o c x y z, 0 ≤ o → o < i → Thd row person o c → [x, y, z].Perm [person, o, c] → x ≤ y → y ≤ z → [x, y, z] ∈ Ls
theorem DayPre.done {row : List Int} (hR : isRow row = true) {person : Int} {Ls : List (List Int)} (h : DayPre row person (NOf row) Ls) : DayL row person Ls := by
  refine ⟨h.nd, fun t => ⟨h.snd t, ?_⟩⟩
  rintro ⟨⟨x, y, z, rfl, g⟩, m⟩
  obtain ⟨o, mo, ne⟩ : ∃ o, o ∈ [x, y, z] ∧ person ≠ o := by
    have n := grp_ne g
    by_cases c : person = x
    · exact ⟨y, by simp, by omega⟩
    · exact ⟨x, by simp, c⟩
  obtain ⟨c, hT, pm⟩ := grp_two g m mo ne
  have ho := grp_range g mo
  exact h.cpl o c x y z ho.1 ho.2 hT pm (by have := g.1; omega) (by have := g.2.1; omega)
section
variable {P : Program} {w : World} {K : PySem.W.Frag} {mg : Str → Option Value} {base : Heap}
theorem kn_day_by (D : Df K mg "day_by" st_day_by ["row", "steps", "person"]) (B : Bl mg) (K_people_by : Kn P w K mg base CX0 1 "people_by" ["row"] (spPeopleBy K)) (K_third_by : Kn P w K mg base CX0 2 "third_by" ["row", "steps", "one", "other"] (spThirdBy K)) :
    Kn P w K mg base CX0 3 "day_by" ["row", "steps", "person"] (spDayBy K) := by
  refine D.kn sc_day_by (fun vs H Q E h => ?_) (fun f cdv A outer s H vs Q E hr h => ?_)
  · obtain ⟨_, _, _, _, rfl, _⟩ := h
    rfl
  obtain ⟨a, sd, ns, person, rfl, hS, hR, hD, hp, q⟩ := h
  have hn := nOf_pos hR
  have hNN : NOf ns = 6 * nOf ns + 1 := rfl
  refine ⟨_, (pss_cons (ps_set (i := 3) sc_day_by.nd rfl (Or.inl rfl) pe_dnewT)
      (pss_cons (ps_for PassesOwn.never rfl (pi_range1 (by rfl) B.range_ (pa_cons (pe_k0 K_people_by (hr.mono (by first | decide | omega)) (by rfl) (pa_cons (pv 0) pa_nil)) pa_nil)) (pg_name (i := 4) sc_day_by.nd rfl (Or.inl rfl))
        (pss_one (ps_if (pt_cmpR op_ne (pv 4) (pv 2) (nomark _))
          (pss_one (ps_dput (hu_of hr) (pv 3) (pe_callTy call_tuple_of (by rfl) B.tuple_ (by decide +kernel) (pa_cons (pe_callB cr_sortedI (by rfl) B.sorted_ (by decide +kernel) (pa_cons (pe_lst (pa_cons (pv 2) (pa_cons (pv 4) (pa_cons (pe_k0 K_third_by (hr.mono (by first | decide | omega)) (by rfl) (pa_cons (pv 0) (pa_cons (pv 1) (pa_cons (pv 2) (pa_cons (pv 4) pa_nil))))) pa_nil)))) pa_nil)) pa_nil)) pe_bl rfl))
          pss_nil)))
      (pss_one (ps_ret (pe_callB cr_sortedU (by rfl) B.sorted_ (by decide +kernel) (pa_cons (pe_callTy (call_list_dT rfl) (by rfl) B.list_ (by decide +kernel) (pa_cons (pv 3) pa_nil)) pa_nil)))))), ?_⟩
  intro d nd
  generalize hH1 : upd H d (.dT []) = H1
  have s1 : Same H H1 := hH1 ▸ same_upd nd
  have e1 : H1 d = some (.dT []) := hH1 ▸ upd_same
  clear hH1
  have hdn : ∀ {p : Addr} {o : HO}, H p = some o → p ≠ d := fun h => ne_of_none h nd
  refine ⟨_, rfl, a, ns, rfl, s1.seq hS, hR, NOf ns, rfl, by omega, by omega, ?_⟩
  refine for_range (lo := 0) (n := (NOf ns).toNat) (fun i σ H' => ∃ y4, σ = [some (.ref a), some (.ref sd), some (.int person), some (.ref d), y4] ∧ Same H H' ∧ ∃ (kvs : List (List Key × V)) (Ls : List (List Int)), H' d = some (.dT kvs) ∧ kvs.length ≤ i ∧ kvs.map (·.1) = Ls.map (fun L => L.map Sum.inl) ∧ DayPre ns person (i : Int) Ls)
    ⟨none, rfl, s1, [], [], e1, Nat.le_refl _, rfl, List.nodup_nil, fun t h => by simp at h, fun o c x y z h1 h2 => by omega⟩ ?_ ?_
  · rintro i σ H2 hi ⟨y4, rfl, s2, kvs, Ls, k1, k2, k3, hP⟩
    refine ⟨_, rfl, _, rfl, rfl, _, rfl, ite2 (fun c => ?_) (fun c => ?_)⟩
    · have ne : ¬ 0 + (i : Int) = person := fun z => by
        have e : decide (V.int (0 + (i : Int)) = V.int person) = true := decide_eq_true (congrArg V.int z)
        have c2 : (!decide (V.int (0 + (i : Int)) = V.int person)) = true := c
        rw [e] at c2
        cases c2
      obtain ⟨cc, hT⟩ := thd_total hR hp (b := 0 + (i : Int)) (by omega) (Ne.symm ne)
      refine ⟨_, rfl, _, rfl, _, rfl, _, rfl, _, rfl, _, rfl, _, rfl, a, sd, ns, person, 0 + (i : Int), cc, rfl, s2.seq hS, hR, hD.keep s2, hT, small (show 3 ≤ 16777216 by decide), fun l nl => ?_⟩
      refine ⟨l, [person, 0 + (i : Int), cc], rfl, SqL.of upd_same, fun L p2 hp2 hs2 np2 => ?_⟩
      refine ⟨p2, _, rfl, .inl ⟨SqL.of upd_same, fun t nt => ?_⟩⟩
      have hTr : Trio person (0 + (i : Int)) cc L := ⟨hp2, hs2⟩
      generalize hH3 : upd _ t _ = H3
      have s3 := (((same_upd nl (o := .lst [V.int person, V.int (0 + (i : Int)), V.int cc])).new np2 (o := .lst (L.map V.int))).new nt (o := .tup (L.map V.int)))
      rw [hH3] at s3
      have et : H3 t = some (.tup (L.map V.int)) := by rw [← hH3]; exact upd_same
      clear hH3 nl np2 nt
      have ek : H3 t = some (.tup ((L.map Sum.inl).map kV)) := by
        rw [et, List.map_map]
        rfl
      refine ⟨d, _, rfl, DPut.t (k := L.map Sum.inl) (s3 _ _ k1) ek (smaller (by omega)), ?_⟩
      obtain ⟨x, y, z, eL, pL, l1, l2⟩ := trio_at hTr
      have hG : IsGrp ns x y z := trio_grp pL l1 l2 hT
      refine ⟨_, rfl, (s2.trans s3).own nd, _, if L ∈ Ls then Ls else Ls ++ [L], upd_same, put_add (m := 0) (by omega), keys_put k3, ?_⟩
      have mem : ∀ t, t ∈ (if L ∈ Ls then Ls else Ls ++ [L]) ↔ t ∈ Ls ∨ t = L := fun t => by
        split
        · rename_i c
          constructor
          · exact .inl
          · rintro (h | rfl)
            · exact h
            · exact c
        · rw [List.mem_append, List.mem_singleton]
      refine ⟨?_, fun t ht => ?_, fun o c' x' y' z' h1 h2 hT' pm g1 g2 => ?_⟩
      · split
        · exact hP.nd
        · rename_i c
          exact nd_snoc hP.nd c
      · rcases (mem t).mp ht with h | rfl
        · exact hP.snd t h
        · exact ⟨⟨x, y, z, eL, hG⟩, hTr.1.mem_iff.mpr (by simp)⟩
      · by_cases ho : o < (i : Int)
        · exact (mem _).mpr (.inl (hP.cpl o c' x' y' z' h1 ho hT' pm g1 g2))
        · have eo : o = 0 + (i : Int) := by omega
          subst eo
          rw [← hT.uniq hT'] at pm
          refine (mem _).mpr (.inr ?_)
          exact trio_uniq (a := person) (b := 0 + (i : Int)) (c := cc) ⟨pm, by simp; omega⟩ hTr (List.Perm.refl _)
    · have eq : 0 + (i : Int) = person := by
        have c2 : ¬ (!decide (V.int (0 + (i : Int)) = V.int person)) = true := c
        rw [Bool.not_eq_true', decide_eq_false_iff_not, Decidable.not_not] at c2
        exact V.int.inj c2
      refine ⟨_, rfl, s2, kvs, Ls, k1, by omega, k3, hP.nd, hP.snd, fun o c' x' y' z' h1 h2 hT' => ?_⟩
      have := hT'.ne.1
      exact hP.cpl o c' x' y' z' h1 (by omega) hT'
  · rintro σ H2 ⟨y4, rfl, s2, kvs, Ls, k1, k2, k3, hP⟩
    rw [Int.toNat_of_nonneg (by omega)] at hP
    have hDL := hP.done hR
    refine ⟨_, rfl, keys_sorted k1 k3 (fun L hL e => ?_) hP.nd fun H' p' ts' Ls' s np e t pm rs => ?_⟩
    · obtain ⟨⟨x, y, z, e2, _⟩, _⟩ := hP.snd L hL
      rw [e2] at e
      cases e
    · exact q H' p' ts' Ls' (s2.trans s) (s2.free np) e t ⟨rising_nodup rs, fun t => pm.mem_iff.trans (hDL.iff t)⟩ rs
end

/-! ### day -/
abbrev N_day : List Str := ["row", "person"]
theorem sc_day : FnScope N_day ["row", "person"] (defScope st_day) := ⟨rfl, rfl, rfl, by decide +kernel, rfl, by decide +kernel, by decide +kernel⟩
def spDay (K : PySem.W.Frag) (CR CP : Addr) : Sp := fun vs H Q E => ∃ (a : Addr) (ns : List Int) (person : Int), vs = [.ref a, .int person] ∧ SqL K H a (ns.map V.int) ∧ ns.length ≤ 100000 ∧ (isRow ns = false → ∀ H', Same H H' → E (.ref CR) none H') ∧
  (isRow ns = true → ¬ (0 ≤ person ∧ person < NOf ns) → ∀ H', Same H H' → E (.ref CP) none H') ∧
  (isRow ns = true → 0 ≤ person ∧ person < NOf ns → ∀ H' p ts Ls, Same H H' → H p = none → H' p = some (.lst (ts.map V.ref)) → TupsAt H' ts Ls → DayL ns person Ls → Rising Ls → Q (.ref p) H')
section
variable {P : Program} {w : World} {K : PySem.W.Frag} {mg : Str → Option Value} {base : Heap}
theorem kn_day {CR CP : Addr} (D : Df K mg "day" st_day ["row", "person"]) (X_NoPerson : Ec K mg "NoPerson" CP) (K_asked_row : Kn P w K mg base (L2.CX P w) 3 "asked_row" ["row"] (spAskedRow K CR)) (K_people_by : Kn P w K mg base CX0 1 "people_by" ["row"] (spPeopleBy K)) (K_steps_of : Kn P w K mg base CX0 3 "steps_of" ["row"] (spStepsOf K))
    (K_day_by : Kn P w K mg base CX0 3 "day_by" ["row", "steps", "person"] (spDayBy K)) : Kn P w K mg base (L2.CX P w) 4 "day" ["row", "person"] (spDay K CR CP) := by
  refine D.knX sc_day (fun vs H Q E h => ?_) (fun f cdv A outer s H vs Q E hr h => ?_)
  · obtain ⟨_, _, _, rfl, _⟩ := h
    rfl
  obtain ⟨a, ns, person, rfl, hS, hl, h1, h2, h3⟩ := h
  refine ⟨_, (pss_cons (ps_expr (pe_kE K_asked_row (takes_of rfl rfl rfl rfl) (hr.mono (by first | decide | omega)) (by rfl) (pa_cons (pv 0) pa_nil)))
      (pss_cons (ps_if (PW.pt (pw_or (pt_cmpR op_lt (pv 1) pe_int (nomark _)) (pw_or1 (pt_cmpR op_ge (pv 1) (pe_k0 K_people_by (hr.mono (by first | decide | omega)) (by rfl) (pa_cons (pv 0) pa_nil)) (nomark _)))))
        (pss_one (ps_raise rfl (takes_of rfl rfl rfl rfl) (pmk_own PySem.F.excBase_ValueError X_NoPerson.x X_NoPerson.g X_NoPerson.k (raises_own X_NoPerson.b X_NoPerson.t) rfl)))
        pss_nil)
      (pss_one (ps_ret (pe_k0 K_day_by (hr.mono (by first | decide | omega)) (by rfl) (pa_cons (pv 0) (pa_cons (pe_k0 K_steps_of (hr.mono (by first | decide | omega)) (by rfl) (pa_cons (pv 0) pa_nil)) (pa_cons (pv 1) pa_nil)))))))), ?_⟩
  refine ⟨_, rfl, a, ns, rfl, hS, hl, h1, fun hR H1 s1 => ?_⟩
  refine ⟨_, rfl, _, _, rfl, rfl, _, rfl, ite2 (fun c => ?_) (fun c => ?_)⟩
  · have c' : person < 0 := of_decide_eq_true c
    exact iteT (h2 hR (by omega) H1 s1)
  have c' : ¬ person < 0 := of_decide_eq_false (Bool.eq_false_iff.mpr c)
  refine ⟨_, rfl, _, rfl, a, ns, rfl, s1.seq hS, hR, _, _, rfl, rfl, _, rfl, ite2 (fun g => ?_) (fun g => ?_)⟩
  · have g' := of_decide_eq_true g
    exact h2 hR (by omega) H1 s1
  have g' := of_decide_eq_false (Bool.eq_false_iff.mpr g)
  refine ⟨_, rfl, _, rfl, a, ns, rfl, s1.seq hS, hR, fun H2 d s2 hD => ⟨_, rfl, a, d, ns, person, rfl, (s1.trans s2).seq hS, hR, hD, by omega, fun H' p ts Ls s np e t dl rs => ?_⟩⟩
  exact h3 hR (by omega) H' p ts Ls ((s1.trans s2).trans s) ((s1.trans s2).free np) e t dl rs
end

/-! ### is_group -/
abbrev N_is_group : List Str := ["row", "some", "one", "other", "last"]
theorem sc_is_group : FnScope N_is_group ["row", "some"] (defScope st_is_group) := ⟨rfl, rfl, rfl, by decide +kernel, rfl, by decide +kernel, by decide +kernel⟩
def spIsGroup (K : PySem.W.Frag) (CR : Addr) : Sp := fun vs H Q E => ∃ (a t : Addr) (ns : List Int) (x y z : Int), vs = [.ref a, .ref t] ∧ SqL K H a (ns.map V.int) ∧ ns.length ≤ 100000 ∧ H t = some (.tup ([x, y, z].map V.int)) ∧ (isRow ns = false → ∀ H', Same H H' → E (.ref CR) none H') ∧
  (isRow ns = true → ∀ b : Bool, (b = true ↔ IsGrp ns x y z) → ∀ H', Same H H' → Q (.bl b) H')
section
variable {P : Program} {w : World} {K : PySem.W.Frag} {mg : Str → Option Value} {base : Heap}
theorem kn_is_group {CR : Addr} (D : Df K mg "is_group" st_is_group ["row", "some"]) (K_asked_row : Kn P w K mg base (L2.CX P w) 3 "asked_row" ["row"] (spAskedRow K CR)) (K_people_by : Kn P w K mg base CX0 1 "people_by" ["row"] (spPeopleBy K)) (K_steps_of : Kn P w K mg base CX0 3 "steps_of" ["row"] (spStepsOf K))
    (K_third_by : Kn P w K mg base CX0 2 "third_by" ["row", "steps", "one", "other"] (spThirdBy K)) : Kn P w K mg base (L2.CX P w) 4 "is_group" ["row", "some"] (spIsGroup K CR) := by
  refine D.knX sc_is_group (fun vs H Q E h => ?_) (fun f cdv A outer s H vs Q E hr h => ?_)
  · obtain ⟨_, _, _, _, _, _, rfl, _⟩ := h
    rfl
  obtain ⟨a, t, ns, x, y, z, rfl, hS, hl, et, h1, h2⟩ := h
  refine ⟨_, (pss_cons (ps_expr (pe_kE K_asked_row (takes_of rfl rfl rfl rfl) (hr.mono (by first | decide | omega)) (by rfl) (pa_cons (pv 0) pa_nil)))
      (pss_cons (ps_asg (pv 1) (pg_tup rfl (pgs_cons (pg_name (i := 2) sc_is_group.nd rfl (Or.inl rfl)) (pgs_cons (pg_name (i := 3) sc_is_group.nd rfl (Or.inl rfl)) (pgs_cons (pg_name (i := 4) sc_is_group.nd rfl (Or.inl rfl)) pgs_nil)))))
      (pss_cons (ps_if (pt_not (pt_chainN4 op_le op_lt op_lt op_lt pe_int (pv 2) (pv 3) (pv 4) (pe_k0 K_people_by (hr.mono (by first | decide | omega)) (by rfl) (pa_cons (pv 0) pa_nil))))
        (pss_one (ps_ret pe_bl))
        pss_nil)
      (pss_one (ps_ret (pe_cmpR op_eq (pe_k0 K_third_by (hr.mono (by first | decide | omega)) (by rfl) (pa_cons (pv 0) (pa_cons (pe_k0 K_steps_of (hr.mono (by first | decide | omega)) (by rfl) (pa_cons (pv 0) pa_nil)) (pa_cons (pv 2) (pa_cons (pv 3) pa_nil))))) (pv 4) (nomark _))))))), ?_⟩
  refine ⟨_, rfl, a, ns, rfl, hS, hl, h1, fun hR H1 s1 => ?_⟩
  have no : ¬ IsGrp ns x y z → ∀ H', Same H H' → Q (.bl false) H' := fun n H' s => h2 hR false ⟨(fun z => nomatch z), fun z => absurd z n⟩ H' s
  refine ⟨_, rfl, t, _, rfl, SqT.of (s1 _ _ et), rfl, _, _, rfl, _, _, rfl, _, _, rfl, rfl, ?_⟩
  refine ⟨_, rfl, _, _, rfl, rfl, _, rfl, ite2 (fun c => ?_) (fun c => ?_)⟩
  · have c1 : (0 : Int) ≤ x := of_decide_eq_true c
    refine ⟨_, rfl, _, _, rfl, rfl, _, rfl, ite2 (fun c => ?_) (fun c => ?_)⟩
    · have c2 : x < y := of_decide_eq_true c
      refine ⟨_, rfl, _, _, rfl, rfl, _, rfl, ite2 (fun c => ?_) (fun c => ?_)⟩
      · have c3 : y < z := of_decide_eq_true c
        refine ⟨_, rfl, a, ns, rfl, s1.seq hS, hR, _, _, rfl, rfl, _, rfl, ite2 (fun c => ?_) (fun c => ?_)⟩
        · have c4 : ¬ z < NOf ns := by
            have q : (!decide (z < NOf ns)) = true := c
            rw [Bool.not_eq_true', decide_eq_false_iff_not] at q
            exact q
          exact no (fun g => c4 g.2.2.rc.2) H1 s1
        · have c4 : z < NOf ns := by
            have q : ¬ (!decide (z < NOf ns)) = true := c
            rw [Bool.not_eq_true', decide_eq_false_iff_not, Decidable.not_not] at q
            exact q
          obtain ⟨w', hT⟩ := thd_total hR (a := x) (b := y) ⟨c1, by omega⟩ ⟨by omega, by omega⟩ (by omega)
          refine ⟨_, rfl, _, rfl, a, ns, rfl, s1.seq hS, hR, fun H2 d s2 hD => ⟨_, rfl, _, rfl, a, d, ns, x, y, w', rfl, (s1.trans s2).seq hS, hR, hD, hT, _, rfl, rfl, ?_⟩⟩
          refine h2 hR _ ?_ H2 (s1.trans s2)
          rw [decide_eq_true_iff]
          constructor
          · intro e
            have e' := V.int.inj e
            subst e'
            exact ⟨c2, c3, hT⟩
          · intro g
            exact congrArg V.int (hT.uniq g.2.2)
      · have c3 : ¬ y < z := of_decide_eq_false (Bool.eq_false_iff.mpr c)
        exact iteT (no (fun g => c3 g.2.1) H1 s1)
    · have c2 : ¬ x < y := of_decide_eq_false (Bool.eq_false_iff.mpr c)
      exact iteT (no (fun g => c2 g.1) H1 s1)
  · have c1 : ¬ (0 : Int) ≤ x := of_decide_eq_false (Bool.eq_false_iff.mpr c)
    exact iteT (no (fun g => c1 g.2.2.ra.1) H1 s1)
end

-- IMPORT HandS.TupLen
/-! ### groups -/
abbrev N_groups : List Str := ["row", "steps", "found", "person", "some"]
theorem sc_groups : FnScope N_groups ["row"] (defScope st_groups) := ⟨rfl, rfl, rfl, by decide +kernel, rfl, by decide +kernel, by decide +kernel⟩
def spGroups (K : PySem.W.Frag) (CR CS : Addr) : Sp := fun vs H Q E => ∃ (a : Addr) (ns : List Int), vs = [.ref a] ∧ SqL K H a (ns.map V.int) ∧ ns.length ≤ 100000 ∧ (isRow ns = false → ∀ H', Same H H' → E (.ref CR) none H') ∧ (isRow ns = true → 18 < ns.length → ∀ H', Same H H' → E (.ref CS) none H') ∧
  (isRow ns = true → ns.length ≤ 18 → ∀ H' p ts Ls, Same H H' → H p = none → H' p = some (.lst (ts.map V.ref)) → TupsAt H' ts Ls → AllL ns Ls → Rising Ls → Q (.ref p) H')
/-- groups so far: those of a person below i, and some of the next one's -/
structure AllPre (row : List Int) (i : Int) (more : List (List Int)) (Ls : List (List Int)) : Prop where
  nd : Ls.Nodup
  snd : ∀ t ∈ Ls, InGrp row t
  cpl : ∀ t, InGrp row t → ∀ p ∈ t, p < i → t ∈ Ls
  mor : ∀ t ∈ more, t ∈ Ls
theorem AllPre.done {row : List Int} {Ls : List (List Int)} (h : AllPre row (NOf row) [] Ls) : AllL row Ls := by
  refine ⟨h.nd, fun t => ⟨h.snd t, ?_⟩⟩
  rintro ⟨x, y, z, rfl, g⟩
  exact h.cpl _ ⟨x, y, z, rfl, g⟩ x (by simp) (grp_range g (by simp)).2
section
variable {P : Program} {w : World} {K : PySem.W.Frag} {mg : Str → Option Value} {base : Heap}
theorem kn_groups {CR CS : Addr} {tk : Tok} (D : Df K mg "groups" st_groups ["row"]) (B : Bl mg) (X_NoSize : Ec K mg "NoSize" CS) (C_MOST_GROUPED : mg "MOST_GROUPED" = some (.int 9 tk)) (K_asked_row : Kn P w K mg base (L2.CX P w) 3 "asked_row" ["row"] (spAskedRow K CR)) (K_people_by : Kn P w K mg base CX0 1 "people_by" ["row"] (spPeopleBy K))
    (K_steps_of : Kn P w K mg base CX0 3 "steps_of" ["row"] (spStepsOf K)) (K_day_by : Kn P w K mg base CX0 3 "day_by" ["row", "steps", "person"] (spDayBy K)) : Kn P w K mg base (L2.CX P w) 4 "groups" ["row"] (spGroups K CR CS) := by
  refine D.knX sc_groups (fun vs H Q E h => ?_) (fun f cdv A outer s H vs Q E hr h => ?_)
  · obtain ⟨_, _, rfl, _⟩ := h
    rfl
  obtain ⟨a, ns, rfl, hS, hl, h1, h2, h3⟩ := h
  refine ⟨_, (pss_cons (ps_expr (pe_kE K_asked_row (takes_of rfl rfl rfl rfl) (hr.mono (by first | decide | omega)) (by rfl) (pa_cons (pv 0) pa_nil)))
      (pss_cons (ps_if (pt_cmpR op_gt (pe_callB call_len_seq (by rfl) B.len_ (by decide +kernel) (pa_cons (pv 0) pa_nil)) (pe_op op_mul pe_int (pe_globI (by rfl) C_MOST_GROUPED)) (nomark _))
        (pss_one (ps_raise rfl (takes_of rfl rfl rfl rfl) (pmk_own PySem.F.excBase_ValueError X_NoSize.x X_NoSize.g X_NoSize.k (raises_own X_NoSize.b X_NoSize.t) rfl)))
        pss_nil)
      (pss_cons (ps_set (i := 1) sc_groups.nd rfl (Or.inl rfl) (pe_k0 K_steps_of (hr.mono (by first | decide | omega)) (by rfl) (pa_cons (pv 0) pa_nil)))
      (pss_cons (ps_set (i := 2) sc_groups.nd rfl (Or.inl rfl) pe_dnewT)
      (pss_cons (ps_for (passes_of rfl) rfl (pi_range1 (by rfl) B.range_ (pa_cons (pe_k0 K_people_by (hr.mono (by first | decide | omega)) (by rfl) (pa_cons (pv 0) pa_nil)) pa_nil)) (pg_name (i := 3) sc_groups.nd rfl (Or.inl rfl))
        (pss_one (ps_for (passes_of rfl) rfl (pi_list (pe_k0 K_day_by (hr.mono (by first | decide | omega)) (by rfl) (pa_cons (pv 0) (pa_cons (pv 1) (pa_cons (pv 3) pa_nil))))) (pg_name (i := 4) sc_groups.nd rfl (Or.inl rfl))
          (pss_one (ps_dput (hu_of hr) (pv 2) (pv 4) pe_bl rfl)))))
      (pss_one (ps_ret (pe_callB cr_sortedU (by rfl) B.sorted_ (by decide +kernel) (pa_cons (pe_callTy (call_list_dT rfl) (by rfl) B.list_ (by decide +kernel) (pa_cons (pv 2) pa_nil)) pa_nil))))))))), ?_⟩
  have hL := ints_len ns
  refine ⟨_, rfl, a, ns, rfl, hS, hl, h1, fun hR H1 s1 => ?_⟩
  refine ⟨_, rfl, a, _, rfl, .inl (s1.seq hS), _, _, rfl, rfl, .inl ⟨by decide, by decide⟩, _, _, rfl, rfl, _, rfl, ite2 (fun c => ?_) (fun c => ?_)⟩
  · have c' := of_decide_eq_true c
    rw [hL] at c'
    exact h2 hR (by omega) H1 s1
  have c' := of_decide_eq_false (Bool.eq_false_iff.mpr c)
  rw [hL] at c'
  have hle : ns.length ≤ 18 := by omega
  have hn := nOf_pos hR
  have hn9 : nOf ns ≤ 9 := by have := isRow_two hR; omega
  have hNN : NOf ns = 6 * nOf ns + 1 := rfl
  refine ⟨_, rfl, a, ns, rfl, s1.seq hS, hR, fun H2 sd s2 hD => ?_⟩
  intro d nd
  generalize hH3 : upd H2 d (.dT []) = H3
  have s3 : Same H2 H3 := hH3 ▸ same_upd nd
  have e3 : H3 d = some (.dT []) := hH3 ▸ upd_same
  clear hH3
  have ndH : H d = none := (s1.trans s2).free nd
  have hdn : ∀ {p : Addr} {o : HO}, H2 p = some o → p ≠ d := fun h => ne_of_none h nd
  have s03 := (s1.trans s2).trans s3
  refine ⟨_, rfl, a, ns, rfl, s03.seq hS, hR, NOf ns, rfl, by omega, by omega, ?_⟩
  refine for_range (lo := 0) (n := (NOf ns).toNat) (fun i σ H' => ∃ y3 y4, σ = [some (.ref a), some (.ref sd), some (.ref d), y3, y4] ∧ Same H2 H' ∧ ∃ (kvs : List (List Key × V)) (Ls : List (List Int)), H' d = some (.dT kvs) ∧ kvs.length ≤ 30 * i ∧ kvs.map (·.1) = Ls.map (fun L => L.map Sum.inl) ∧ AllPre ns (i : Int) [] Ls)
    ⟨none, none, rfl, s3, [], [], e3, Nat.le_refl _, rfl, List.nodup_nil, fun t h => by simp at h, fun t hg p hp h => ?_, fun t h => by simp at h⟩ ?_ ?_
  · obtain ⟨x, y, z, rfl, g⟩ := hg
    have := (grp_range g hp).1
    omega
  · rintro i σ H4 hi ⟨y3, y4, rfl, s4, kvs, Ls, k1, k2, k3, hP⟩
    refine ⟨_, rfl, _, rfl, _, rfl, a, sd, ns, 0 + (i : Int), rfl, ((s1.trans s2).trans s4).seq hS, hR, hD.keep s4, by omega, fun H5 g ts Ds s5 ng eg hT hDL _ => ?_⟩
    have dl := day_len hR (p := 0 + (i : Int)) (by omega) hDL
    have k15 := s5 _ _ k1
    have s25 := s4.trans s5
    have ngd : g ≠ d := ne_of eg k15 (by intro z; cases z)
    have ntd : ∀ {t : Addr} {L : List V}, H5 t = some (.tup L) → t ≠ d := fun h => ne_of h k15 (by intro z; cases z)
    refine ⟨g, rfl, ⟨_, SqL.of eg⟩, for_list (K := K) (a := g) (xs := ts.map V.ref) (fun j σ H' => ∃ y4, σ = [some (.ref a), some (.ref sd), some (.ref d), some (.int (0 + (i : Int))), y4] ∧ Same H2 H' ∧ (∀ c o, c ≠ d → H5 c = some o → H' c = some o) ∧ ∃ (kvs : List (List Key × V)) (Ls : List (List Int)), H' d = some (.dT kvs) ∧ kvs.length ≤ 30 * i + j ∧ kvs.map (·.1) = Ls.map (fun L => L.map Sum.inl) ∧ AllPre ns (i : Int) (Ds.take j) Ls)
      ⟨_, rfl, s25, fun c o _ h => h, kvs, Ls, k15, by omega, k3, hP⟩ ?_ ?_ ?_⟩
    · rintro j σ H' _ ⟨y4, rfl, s', k', _⟩
      exact SqL.of (k' _ _ ngd eg)
    · rintro j v σ H6 hv ⟨y4, rfl, s6, k6, kvs, Ls, k1, k2, k3, hP⟩
      obtain ⟨t, L, rfl, hLj, et⟩ := hT.get hv
      have hjl : j < Ds.length := (List.getElem?_eq_some_iff.mp hLj).1
      obtain ⟨⟨x, y, z, eL, hG⟩, hpm⟩ := (hDL.iff L).mp (List.mem_of_getElem? hLj)
      have et6 := k6 _ _ (ntd et) et
      have ek : H6 t = some (.tup ((L.map Sum.inl).map kV)) := by
        rw [et6, List.map_map]
        rfl
      refine ⟨_, rfl, _, rfl, d, _, rfl, DPut.t (k := L.map Sum.inl) k1 ek (smaller (by omega)), ?_⟩
      refine ⟨_, rfl, s6.own nd, fun c o hc h => by rw [upd_ne hc]; exact k6 c o hc h, _, if L ∈ Ls then Ls else Ls ++ [L], upd_same, put_add (m := 0) (by omega), keys_put k3, ?_⟩
      have mem : ∀ t, t ∈ (if L ∈ Ls then Ls else Ls ++ [L]) ↔ t ∈ Ls ∨ t = L := fun t => by
        split
        · rename_i c
          constructor
          · exact .inl
          · rintro (h | rfl)
            · exact h
            · exact c
        · rw [List.mem_append, List.mem_singleton]
      refine ⟨?_, fun t ht => ?_, fun t hg p hp h => (mem t).mpr (.inl (hP.cpl t hg p hp h)), fun t ht => ?_⟩
      · split
        · exact hP.nd
        · rename_i c
          exact nd_snoc hP.nd c
      · rcases (mem t).mp ht with h | rfl
        · exact hP.snd t h
        · exact ⟨x, y, z, eL, hG⟩
      · rw [take_snoc hLj, List.mem_append, List.mem_singleton] at ht
        rcases ht with h | rfl
        · exact (mem t).mpr (.inl (hP.mor t h))
        · exact (mem t).mpr (.inr rfl)
    · rintro σ H6 ⟨y4, rfl, s6, k6, kvs, Ls, k1, k2, k3, hP⟩
      rw [List.length_map, hT.1] at k2
      rw [List.length_map, hT.1, List.take_length] at hP
      refine ⟨_, _, rfl, s6, kvs, Ls, k1, by omega, k3, hP.nd, hP.snd, fun t hg p hp h => ?_, fun t h => by simp at h⟩
      by_cases hpi : p < (i : Int)
      · exact hP.cpl t hg p hp hpi
      · have ep : p = 0 + (i : Int) := by omega
        subst ep
        exact hP.mor t ((hDL.iff t).mpr ⟨hg, hp⟩)
  · rintro σ H4 ⟨y3, y4, rfl, s4, kvs, Ls, k1, k2, k3, hP⟩
    rw [Int.toNat_of_nonneg (by omega)] at hP
    have hA := hP.done
    refine ⟨_, rfl, keys_sorted k1 k3 (fun L hL e => ?_) hP.nd fun H' p' ts' Ls' s np e t pm rs => ?_⟩
    · obtain ⟨x, y, z, e2, _⟩ := hP.snd L hL
      rw [e2] at e
      cases e
    · exact h3 hR hle H' p' ts' Ls' (((s1.trans s2).trans s4).trans s) (((s1.trans s2).trans s4).free np) e t ⟨rising_nodup rs, fun t => pm.mem_iff.trans (hA.iff t)⟩ rs
end

-- IMPORT HandS.ExcIs
-- IMPORT HandS.HotCalls
/-! ### list.count of flat items -/
section
variable {X : Cx}
def rCntF (K : PySem.W.Frag) : V → List V → Hp → VK → Prop := fun x xs H Q => ∃ (a : Addr) (ys : List V) (y : V), x = V.ref a ∧ xs = [y] ∧ SqL K H a ys ∧ flatV y = true ∧ ys.all flatV = true ∧ Q (.int (ys.countP (fun z => eqV z y) : Nat)) H
theorem mt_countF : MtR X "list.count" (rCntF X.K) := by
  intro pins s σ H x xs v us Q I rx rxs h
  obtain ⟨a, ys, y, rfl, rfl, hs, fy, fys, q⟩ := h
  cases rx
  cases rxs with
  | cons ry rt =>
    rename_i uy ut
    cases rt
    obtain ⟨its, rv, ⟨⟨cls, dd, data, sl⟩, n, ho, hc, hdn, hd⟩, hlen⟩ := I.list hs
    simp only at hc hd
    subst hc hd
    refine call_meets PySem.F.slot_list_count ⟨_, ho, rfl⟩ PySem.F.entry_list_count (PySem.F.args_list_count_2 _ _)
      (SeqAt.list_countAt a its.toArray n dd sl uy (eqU y)) ⟨ho, fun u' hu' => mem_eqAt ry fy rv fys u' (by simpa using hu'), ?_⟩
    have ec : ∀ {ys : List V} {us : List Value}, Vals ys us → ys.all flatV = true → us.countP (eqU y) = ys.countP (fun z => eqV z y) := by
      intro ys
      induction ys with
      | nil => intro us r _; cases r; rfl
      | cons z ys ih =>
        intro us r f
        cases r with
        | cons rz rt =>
          have f' : flatV z = true ∧ ys.all flatV = true := by simpa using f
          rw [List.countP_cons, List.countP_cons, ih rt f'.2, eqU_of rz f'.1]
    refine ⟨.int (ys.countP (fun z => eqV z y) : Nat), H, I.tok _, ⟨s.toks, ?_⟩, q⟩
    show Value.int ((its.toArray.toList.countP (eqU y) : Nat) : Int) s.toks = _
    rw [show its.toArray.toList = its by simp, ec rv fys]
end
section
variable {X : Cx} {x : Str} {pos : Pos}
theorem pe_globC {C : Addr} (hg : Gl X x) (hm : X.mg x = some (.ref C)) (hd : (x == ("__debug__" : Str)) = false := by decide) : PE X (.Name x pos) (tC (.ref C)) := pe_glob hg hm rfl hd
end
/-! ### a def called in an except suite with the error that is handled -/
structure FnW (P : Program) (w : World) (K : PySem.W.Frag) (mg : Str → Option Value) (base : Heap) (k : Nat) (f : Addr) (fd : FuncData) (ps : List Str) (sp : Addr × Obj → Sp) : Prop where
  len : ∀ p vs H Q E, sp p vs H Q E → vs.length = ps.length
  run : ∀ (A : Around) (outer : List Env) (s : Shared) (H : Hp) (args : Args) (us : List Value) (vs : List V) (Q : VK) (E : XK) (p : Addr × Obj), L2H.RoomH k A → L2H.PinOk outer H s p → Env0 P w K mg base A outer s H → BindsTo s fd args (ps.zip us) → Vals vs us → sp p vs H Q E →
    codeAny (model P w) A (.call (.ref f) args) (CR CX0 outer P w H s Q E) s
theorem fn_ofW {P : Program} {w : World} {K : PySem.W.Frag} {mg : Str → Option Value} {base : Heap} {k : Nat} {f : Addr} {name qual : Str} {params : Arguments} {body : List Stmt} {scope : Scope} {dV kV doc pm cdv ct oc : Value} {an od : Option Addr}
    {osl : Array (Option Value)} {N ps : List Str} {sp : Addr × Obj → Sp} (lk : K.lookup f = some ⟨oc, od, .func (PySem.W.fnOf name qual params body scope dV kV doc pm an cdv ct), osl⟩) (hcd : PySem.W.codeIn K cdv qual = true) (S : FnScope N ps scope)
    (len : ∀ p vs H Q E, sp p vs H Q E → vs.length = ps.length)
    (hbody : ∀ (A : Around) (outer : List Env) (s : Shared) (H : Hp) (vs : List V) (Q : VK) (E : XK) (p : Addr × Obj), L2H.RoomH k (A.deeper (envOfC qual scope s.heap.objs.size f cdv)) → sp p vs H Q E →
      ∃ t, PSs (L2H.cxH CX0 P w K mg base N qual scope f cdv A outer s H E p) body t ∧ t { nx := fun _ H' => Q .non H', rt := Q } (L2.start N vs) H) :
    FnW P w K mg base (k + 1) f (PySem.W.fnOf name qual params body scope dV kV doc pm an cdv ct) ps sp := by
  refine ⟨len, fun A outer s H args us vs Q E p hr hpin e0 hb r hsp => ?_⟩
  have hl := len _ _ _ _ _ hsp
  have KX : K.In s.heap := e0.mod.kin.keeps fun b o e => (e0.bs b o e).1
  have lim : s.heap.NoLimit := e0.mod.nolimit.keeps fun b o e => (e0.bs b o e).1
  have hkind : ∀ y ∈ ps.zip us, scope.names.lookup y.1 = some .local ∨ (scope.names.lookup y.1 = some .cell ∧ ((PySem.cellsFrom (s.heap.objs.size + 1) scope.names []).lookup y.1).isSome = true) := fun ⟨n, v⟩ hy => by
    rcases S.par n (List.of_mem_zip hy).1 with q | q
    · exact .inl q
    · exact .inr ⟨q, PySem.W.cellsFrom_some _ _ _ (.inl q)⟩
  refine codeAny_call_function hr.depth (KX _ _ lk) rfl S.co S.gen rfl (PySem.W.codeRec_of KX hcd) (hb _ _ _ _ ?_)
  refine wpAny_newFunctionEnv_cells S.kind hkind fun env he s1 x => ?_
  subst he
  refine ⟨lim.keeps x.toInCall.keep, codeAny_func ?_⟩
  obtain ⟨t, ht, hq⟩ := hbody A outer s H vs Q E p (hr.deeper _) hsp
  have I : Inv (L2H.cxH CX0 P w K mg base N qual scope f cdv A outer s H E p) [] (L2.start N vs) H s1 := L2H.inv_startH S hpin e0 hl r x
  refine wpAny_mono (ht.run [] s1 (L2.start N vs) H _ I hq) (fun fl s' hs => ?_) fun e s' hs => hs
  have fin : ∀ {σ' : L2.St} {H' : Hp} {v : V} {u : Value}, Inv (L2H.cxH CX0 P w K mg base N qual scope f cdv A outer s H E p) [] σ' H' s' → RelV v u → Q v H' → CE outer P w H s Q u s' :=
    fun {σ' H' v u} J rv q => ⟨v, H', J.os, J.bare, J.base, J.hok, rv, q⟩
  cases fl with
  | ret u =>
    obtain ⟨v, σ', H', J, rv, q⟩ := hs
    exact fin J rv q
  | next =>
    obtain ⟨σ', H', J, q⟩ := hs
    exact fin (v := V.non) (u := Value.none) J rfl q
  | brk =>
    obtain ⟨_, _, _, q⟩ := hs
    exact False.elim q
  | cont =>
    obtain ⟨_, _, _, q⟩ := hs
    exact False.elim q
/-- a def of the text with such a promise -/
structure KnW (P : Program) (w : World) (K : PySem.W.Frag) (mg : Str → Option Value) (base : Heap) (k : Nat) (x : Str) (ps : List Str) (sp : Addr × Obj → Sp) : Prop where
  ex : ∃ (f : Addr) (fd : FuncData), FnW P w K mg base k f fd ps sp ∧ PySem.W.keepIn K (.ref f) = true ∧ Binds K fd ps [] ∧ mg x = some (.ref f)
theorem Df.knW {P : Program} {w : World} {K : PySem.W.Frag} {mg : Str → Option Value} {base : Heap} {x : Str} {st : Stmt} {ps N : List Str} {k : Nat} {sp : Addr × Obj → Sp} (D : Df K mg x st ps) (S : FnScope N ps (defScope st)) (len : ∀ p vs H Q E, sp p vs H Q E → vs.length = ps.length)
    (hbody : ∀ (f : Addr) (cdv : Value) (A : Around) (outer : List Env) (s : Shared) (H : Hp) (vs : List V) (Q : VK) (E : XK) (p : Addr × Obj), L2H.RoomH k (A.deeper (envOfC x (defScope st) s.heap.objs.size f cdv)) → sp p vs H Q E →
      ∃ t, PSs (L2H.cxH CX0 P w K mg base N x (defScope st) f cdv A outer s H E p) (defBody st) t ∧ t { nx := fun _ H' => Q .non H', rt := Q } (L2.start N vs) H) : KnW P w K mg base (k + 1) x ps sp := by
  obtain ⟨f, fd, F, b, g⟩ := D.ex
  obtain ⟨oc, od, kV, doc, pm, an, cdv, ct, osl, efd, lk, hcd⟩ := F.ex
  subst efd
  exact ⟨f, _, fn_ofW lk hcd S len (hbody f cdv), F.kp, b, g⟩
section
variable {X : Cx} {k : Nat} {x : Str} {ps : List Str} {sp : Addr × Obj → Sp} {p pos : Pos} {e : Expr} {es : List Expr} {t : TA}
theorem pe_kW {a : Addr} {oe : Obj} {pn : List (Addr × Obj)} (N : KnW X.prog X.w X.K X.mg X.base k x ps sp) (hr : L2H.RoomH k (X.suite a ((a, oe) :: pn)).A) (hg : Gl (X.suite a ((a, oe) :: pn)) x) (ha : PA (X.suite a ((a, oe) :: pn)) (e :: es) t) (hdb : (x == ("__debug__" : Str)) = false := by decide)
    (he : starEach (e :: es) X.env = (false, eval e X.env) :: starEach es X.env := by rfl) (hpl : (backTo pos (starEach es X.env)).any (·.1) = false := by rfl) :
    PE (X.suite a ((a, oe) :: pn)) (.Call (.Name x p) (e :: es) [] pos) (fun σ H Q => t σ H fun vs H1 => sp (a, oe) vs H1 Q E0) := by
  obtain ⟨f, fd, F, hk, hb, hm⟩ := N.ex
  refine ⟨fun pins s σ H Q I h => ?_⟩
  refine wpAny_Call_Name_kw (ld_glob I hg hm ?_ hdb)
  refine PySem.W.callWith_K (h₀ := X.base) I.ok.mod.kin hk (thn (ha.run pos pins s σ H _ I h) fun us s1 ⟨vs, H1, I1, r, q⟩ => ⟨I1.kIn, ?_⟩) he hpl
  have hl : us.length = ps.length := by rw [← r.length]; exact F.len _ _ _ _ _ q
  have b := hb s1 us I1.kIn (by rw [List.append_nil]; exact hl)
  rw [List.append_nil] at b
  have P1 := I1.pin (a, oe) (List.mem_append.mpr (.inl List.mem_cons_self))
  have hpin : L2H.PinOk (X.suite a ((a, oe) :: pn)).stack H1 s1 (a, oe) := ⟨P1.1, P1.2.1, fun hm => (List.mem_cons.mp (I1.stkSub a hm)).elim P1.2.2.1 P1.2.2.2.1, P1.2.2.2.2⟩
  refine wpAny_call (codeAny_mono (F.run _ _ s1 H1 ⟨us, []⟩ us vs Q E0 (a, oe) hr hpin I1.env0 b r q) fun r s' hq => ?_)
  cases r with
  | error e => exact (show False from hq).elim
  | ok fl =>
    cases fl with
    | ret u => exact I1.after hq
    | next => exact False.elim hq
    | brk => exact False.elim hq
    | cont => exact False.elim hq
/-- isinstance of that error in such a def -/
theorem call_isW {p : Addr × Obj} {D : Addr} (hp : p ∈ X.pn) (C : ExcC X.K D) (hz : Zc (.ref D) none p.2) (hf : ∃ vs, p.2.data = .fields vs) : CallR X (.builtin "isinstance") (rIsE X.K D p.1) := by
  intro pins s σ H xs us Q I r h
  obtain ⟨c, cv, b, rfl, hcv, e, q⟩ := h
  obtain ⟨a, oe⟩ := p
  cases r with
  | cons rx rr =>
    cases rr with
    | cons rt rr =>
      cases rr
      cases rx
      have ec := hcv _ rt
      subst ec
      obtain ⟨hget, _⟩ := I.pin (a, oe) (List.mem_append.mpr (.inl hp))
      obtain ⟨vs, hv⟩ := hf
      have J : PySem.W.InstAt s.heap a oe D none := by
        obtain ⟨oc, od, oda, osl⟩ := oe
        obtain ⟨h1, h2⟩ := hz
        dsimp only at h1 h2 hv
        subst h1 h2 hv
        exact ⟨hget, rfl, rfl, trivial⟩
      exact PySem.W.kia_one (PySem.W.handS_kitx_exc C.hg C.hk C.hs C.hd C.ha C.hn C.ht C.hm) I.kIn J e (fun z => nomatch z) fun tk => ⟨.bl b, H, I.kept (t' := tk) fun _ _ z => z, rfl, q⟩
/-- a call in a try -/
theorem pe_kT {W : WX} {sp : Sp} (N : Kn X.prog X.w X.K X.mg X.base (L2.CX X.prog X.w) k x ps sp) (tk : Takes X W) (hr : Room k X.A) (hg : Gl X x) (ha : PA X (e :: es) t) (hdb : (x == ("__debug__" : Str)) = false := by decide)
    (he : starEach (e :: es) X.env = (false, eval e X.env) :: starEach es X.env := by rfl) (hpl : (backTo pos (starEach es X.env)).any (·.1) = false := by rfl) : PE X (.Call (.Name x p) (e :: es) [] pos) (tCallS sp (WE W) t) := by
  obtain ⟨f, fd, F, kp, b, g⟩ := N.ex
  exact pe_callS F hr hg g kp b (fun σ => passAt tk σ) ha hdb he hpl
end

/-! ### _law_word_of -/
abbrev N_law_word_of : List Str := ["e", "kinds"]
theorem sc_law_word_of : FnScope N_law_word_of ["e"] (defScope st_law_word_of) := ⟨rfl, rfl, rfl, by decide +kernel, rfl, by decide +kernel, by decide +kernel⟩
/-- the error is of the j-th of the five classes -/
structure OfClass (K : PySem.W.Frag) (C0 C1 C2 C3 C4 D : Addr) (j : Nat) : Prop where
  x : ExcC K D
  k0 : PySem.W.kitOne K (.ref D) (.ref C0) = some (decide (j = 0))
  k1 : PySem.W.kitOne K (.ref D) (.ref C1) = some (decide (j = 1))
  k2 : PySem.W.kitOne K (.ref D) (.ref C2) = some (decide (j = 2))
  k3 : PySem.W.kitOne K (.ref D) (.ref C3) = some (decide (j = 3))
  k4 : PySem.W.kitOne K (.ref D) (.ref C4) = some (decide (j = 4))
  v : PySem.W.kitOne K (.ref D) (.type "ValueError") = some true
def classWords : List Str := ["size", "such", "row", "person", "note"]
def spWordOf (K : PySem.W.Frag) (C0 C1 C2 C3 C4 : Addr) (p : Addr × Obj) : Sp := fun vs H Q _ => ∃ (D : Addr) (j : Nat) (wd : Str), vs = [.ref p.1] ∧ Zc (.ref D) none p.2 ∧ (∃ vs, p.2.data = .fields vs) ∧ OfClass K C0 C1 C2 C3 C4 D j ∧ classWords[j]? = some wd ∧ ∀ H', Same H H' → Q (.str wd) H'
theorem one_count {j : Nat} (h : j < 5) : ([V.bl (decide (j = 0)), V.bl (decide (j = 1)), V.bl (decide (j = 2)), V.bl (decide (j = 3)), V.bl (decide (j = 4))] : List V).countP (fun z => eqV z (.bl true)) = 1 := by
  have : j = 0 ∨ j = 1 ∨ j = 2 ∨ j = 3 ∨ j = 4 := by omega
  rcases this with rfl | rfl | rfl | rfl | rfl <;> decide +kernel
theorem one_at {j : Nat} (h : j < 5) : ([V.bl (decide (j = 0)), V.bl (decide (j = 1)), V.bl (decide (j = 2)), V.bl (decide (j = 3)), V.bl (decide (j = 4))] : List V)[j]? = some (V.bl true) ∧
    ∀ (m : Nat) (z : V), m < j → ([V.bl (decide (j = 0)), V.bl (decide (j = 1)), V.bl (decide (j = 2)), V.bl (decide (j = 3)), V.bl (decide (j = 4))] : List V)[m]? = some z → eqV z (.bl true) = false := by
  have : j = 0 ∨ j = 1 ∨ j = 2 ∨ j = 3 ∨ j = 4 := by omega
  rcases this with rfl | rfl | rfl | rfl | rfl <;> refine ⟨by rfl, fun m z hm hz => ?_⟩
  · omega
  · have : m = 0 := by omega
    subst this
    cases hz
    rfl
  · have : m = 0 ∨ m = 1 := by omega
    rcases this with rfl | rfl <;> cases hz <;> rfl
  · have : m = 0 ∨ m = 1 ∨ m = 2 := by omega
    rcases this with rfl | rfl | rfl <;> cases hz <;> rfl
  · have : m = 0 ∨ m = 1 ∨ m = 2 ∨ m = 3 := by omega
    rcases this with rfl | rfl | rfl | rfl <;> cases hz <;> rfl
section
variable {P : Program} {w : World} {K : PySem.W.Frag} {mg : Str → Option Value} {base : Heap}
theorem kn_law_word_of {C0 C1 C2 C3 C4 : Addr} (D : Df K mg "_law_word_of" st_law_word_of ["e"]) (B : Bl mg) (X_NoSize : Ec K mg "NoSize" C0) (X_NoSuch : Ec K mg "NoSuch" C1) (X_NoRow : Ec K mg "NoRow" C2) (X_NoPerson : Ec K mg "NoPerson" C3) (X_NoNote : Ec K mg "NoNote" C4) :
    KnW P w K mg base 1 "_law_word_of" ["e"] (spWordOf K C0 C1 C2 C3 C4) := by
  refine D.knW sc_law_word_of (fun p vs H Q E h => ?_) (fun f cdv A outer s H vs Q E p hr h => ?_)
  · obtain ⟨_, _, _, rfl, _⟩ := h
    rfl
  obtain ⟨D, j, wd, rfl, hz, hf, O, hw, q⟩ := h
  have hj : j < 5 := (List.getElem?_eq_some_iff.mp hw).1
  have cW : CallR (L2H.cxH CX0 P w K mg base N_law_word_of "_law_word_of" (defScope st_law_word_of) f cdv A outer s H E p) (.builtin "isinstance") (rIsE K D p.1) := call_isW (p := p) (List.mem_singleton.mpr rfl) O.x hz hf
  refine ⟨_, (pss_cons (ps_set (i := 1) sc_law_word_of.nd rfl (Or.inl rfl) (pe_lst (pa_cons (pe_callB cW (by rfl) B.isinstance_ (by decide +kernel) (pa_cons (pv 0) (pa_cons (pe_globC (by rfl) X_NoSize.g) pa_nil))) (pa_cons (pe_callB cW (by rfl) B.isinstance_ (by decide +kernel) (pa_cons (pv 0) (pa_cons (pe_globC (by rfl) X_NoSuch.g) pa_nil))) (pa_cons (pe_callB cW (by rfl) B.isinstance_ (by decide +kernel) (pa_cons (pv 0) (pa_cons (pe_globC (by rfl) X_NoRow.g) pa_nil))) pa_nil)))))
      (pss_cons (ps_set (i := 1) sc_law_word_of.nd rfl (Or.inl rfl) (pe_op op_cat (pv 1) (pe_lst (pa_cons (pe_callB cW (by rfl) B.isinstance_ (by decide +kernel) (pa_cons (pv 0) (pa_cons (pe_globC (by rfl) X_NoPerson.g) pa_nil))) (pa_cons (pe_callB cW (by rfl) B.isinstance_ (by decide +kernel) (pa_cons (pv 0) (pa_cons (pe_globC (by rfl) X_NoNote.g) pa_nil))) pa_nil)))))
      (pss_cons (ps_if (PW.pt (pw_or (pt_cmpR op_ne (pe_bm PySem.F.plainAttrs_list PySem.F.slot_list_count PySem.F.type_list_count mt_countF (pv 1) (pa_cons pe_bl pa_nil)) pe_int (nomark _)) (pw_or1 (pt_not (pt_val (pe_callB cW (by rfl) B.isinstance_ (by decide +kernel) (pa_cons (pv 0) (pa_cons (pe_bltn (v := .ty "ValueError") (by rfl) B.ValueError_ (by decide +kernel) rfl) pa_nil))))))))
        (pss_one (ps_ret pe_str))
        pss_nil)
      (pss_one (ps_ret (pe_ix ix_list (pe_lst (pa_cons pe_str (pa_cons pe_str (pa_cons pe_str (pa_cons pe_str (pa_cons pe_str pa_nil)))))) (pe_bm PySem.F.plainAttrs_list PySem.F.slot_list_index PySem.F.type_list_index mt_index (pv 1) (pa_cons pe_bl pa_nil)) (fun _ _ => rfl))))))), ?_⟩
  have rc : ∀ C : Addr, ∀ u, RelV (V.ref C) u → u = Value.ref C := fun C u r => r
  refine ⟨_, rfl, _, _, _, rfl, rc C0, O.k0, _, rfl, _, _, _, rfl, rc C1, O.k1, _, rfl, _, _, _, rfl, rc C2, O.k2, small (show 3 ≤ 16777216 by decide), fun a na => ?_⟩
  generalize hH1 : upd H a (.lst [V.bl (decide (j = 0)), V.bl (decide (j = 1)), V.bl (decide (j = 2))]) = H1
  have s1 : Same H H1 := hH1 ▸ same_upd na
  have e1 : H1 a = some (.lst [V.bl (decide (j = 0)), V.bl (decide (j = 1)), V.bl (decide (j = 2))]) := hH1 ▸ upd_same
  clear hH1
  refine ⟨_, rfl, _, rfl, _, _, _, rfl, rc C3, O.k3, _, rfl, _, _, _, rfl, rc C4, O.k4, small (show 2 ≤ 16777216 by decide), fun b nb => ?_⟩
  generalize hH2 : upd H1 b (.lst [V.bl (decide (j = 3)), V.bl (decide (j = 4))]) = H2
  have s2 : Same H1 H2 := hH2 ▸ same_upd nb
  have e2 : H2 b = some (.lst [V.bl (decide (j = 3)), V.bl (decide (j = 4))]) := hH2 ▸ upd_same
  clear hH2
  refine ⟨a, b, _, _, rfl, rfl, s2 _ _ e1, e2, small (show 5 ≤ 16777216 by decide), fun c nc => ?_⟩
  generalize hH3 : upd H2 c _ = H3
  have s3 : Same H2 H3 := hH3 ▸ same_upd nc
  have e3 : H3 c = some (.lst [V.bl (decide (j = 0)), V.bl (decide (j = 1)), V.bl (decide (j = 2)), V.bl (decide (j = 3)), V.bl (decide (j = 4))]) := hH3 ▸ upd_same
  clear hH3
  refine ⟨_, rfl, .inl ⟨rfl, _, .inl (.inl e3)⟩, c, _, _, rfl, rfl, SqL.of e3, rfl, rfl, ?_⟩
  rw [one_count hj]
  refine ⟨rfl, _, rfl, iteFa rfl ?_⟩
  refine ⟨_, rfl, _, _, _, rfl, (fun u r => r), O.v, true, rfl, iteF ?_⟩
  refine ⟨small (show 5 ≤ 16777216 by decide), fun l nl => ?_⟩
  have s4 := same_upd nl (o := .lst (classWords.map V.str))
  obtain ⟨h1, h2⟩ := one_at hj
  refine ⟨_, rfl, .inl ⟨rfl, _, .inl (.inl (s4 _ _ e3))⟩, c, _, _, j, _, rfl, rfl, SqL.of (s4 _ _ e3), rfl, rfl, h1, rfl, h2, ?_⟩
  refine ⟨l, classWords.map V.str, _, V.str wd, rfl, rfl, SqL.of upd_same, atI_nat ?_, q _ (((s1.trans s2).trans s3).trans s4)⟩
  rw [List.getElem?_map, hw]
  rfl
end

/-! ### return _law_word_of(e) in an except suite -/
def tWordT (K : PySem.W.Frag) (C0 C1 C2 C3 C4 : Addr) (i : Nat) (a : Addr) (cls : Value) (d : Option Addr) : TE := fun σ H Q => tCons (tVar i) tNil σ H fun vs H1 => ∃ (D : Addr) (j : Nat) (wd : Str), vs = [.ref a] ∧ cls = .ref D ∧ d = none ∧ OfClass K C0 C1 C2 C3 C4 D j ∧ classWords[j]? = some wd ∧ ∀ H', Same H1 H' → Q (.str wd) H'
section
variable {X : Cx} {k i : Nat} {x n : Str} {ps : List Str} {p pos : Pos} {e : Expr}
theorem pe_word {C0 C1 C2 C3 C4 : Addr} {a : Addr} {oe : Obj} {cls : Value} {d : Option Addr} {pn : List (Addr × Obj)} (N : KnW X.prog X.w X.K X.mg X.base k x ps (spWordOf X.K C0 C1 C2 C3 C4)) (hr : L2H.RoomH k X.A) (hg : Gl (X.suite a ((a, oe) :: pn)) x)
    (he : PE (X.suite a ((a, oe) :: pn)) e (tVar i)) (hz : Zc cls d oe) (hf : ∃ vs, oe.data = .fields vs) (hdb : (x == ("__debug__" : Str)) = false := by decide)
    (hs : starEach [e] X.env = (false, eval e X.env) :: starEach [] X.env := by rfl) : PE (X.suite a ((a, oe) :: pn)) (.Call (.Name x p) [e] [] pos) (tWordT X.K C0 C1 C2 C3 C4 i a cls d) := by
  refine ⟨fun pins s σ H Q I h => ?_⟩
  have hr' : L2H.RoomH k (X.suite a ((a, oe) :: pn)).A := ⟨hr.dp, hr.un⟩
  refine (pe_kW (pos := pos) (p := p) N hr' hg (pa_cons he pa_nil hs) hdb hs rfl).run pins s σ H Q I ?_
  obtain ⟨v, hv, D, j, wd, h1, h2, h3, O, hw, q⟩ := h
  subst h2 h3
  exact ⟨v, hv, D, j, wd, h1, hz, hf, O, hw, q⟩
end
theorem kit_own {K : PySem.W.Frag} {D C : Addr} {b : Bool} (hdct : PySem.W.hasDictIn K C = true) (ht : PySem.W.typeIn K (.ref C) = some (.type "type")) (hs : PySem.W.subIn K (.ref D) (.ref C) = some b) (hd : PySem.W.subIn K (.ref D) (.ref D) = some true) : PySem.W.kitOne K (.ref D) (.ref C) = some b := by
  obtain ⟨cd, hc, _⟩ := PySem.W.any_some hdct
  unfold PySem.W.kitOne
  by_cases e : (Value.ref D == Value.ref C) = true
  · rw [if_pos e]
    have e2 : D = C := Value.ref.inj (beq_iff_eq.mp e)
    subst e2
    rw [hd] at hs
    exact hs
  · rw [if_neg e]
    unfold PySem.W.kitCls
    have e3 : ((PySem.W.clsIn K C).isSome && PySem.W.typeIn K (.ref C) == some (.type "type")) = true := by rw [hc, ht] <;> rfl
    show (if ((PySem.W.clsIn K C).isSome && PySem.W.typeIn K (.ref C) == some (.type "type")) = true then PySem.W.subIn K (.ref D) (.ref C) else none) = some b
    rw [if_pos e3]
    exact hs
theorem kit_value {K : PySem.W.Frag} {D : Addr} (h : PySem.W.subIn K (.ref D) (.type "ValueError") = some true) : PySem.W.kitOne K (.ref D) (.type "ValueError") = some true := by
  unfold PySem.W.kitOne
  rw [if_neg (by simp)]
  show (if PySem.W.kitMeta "ValueError" = true then PySem.W.subIn K (.ref D) (.type "ValueError") else none) = some true
  rw [if_pos (by decide +kernel)]
  exact h

/-! ### _law_first -/
abbrev N_law_first : List Str := ["which", "size", "row"]
theorem sc_law_first : FnScope N_law_first ["which", "size", "row"] (defScope st_law_first) := ⟨rfl, rfl, rfl, by decide +kernel, rfl, by decide +kernel, by decide +kernel⟩
def firstErr (which size : Int) (b : Bool) : Option Nat :=
  if which = 0 ∨ which = 1 then (if 1 ≤ size ∧ size ≤ 400 then none else some 0)
  else if which = 2 then (if 1 ≤ size ∧ size ≤ 400 then (if size % 4 < 2 then none else some 1) else some 0)
  else if which = 3 then (if 1 ≤ size ∧ size ≤ 8 then none else some 0)
  else if which = 4 then (if 1 ≤ size ∧ size ≤ 5 then none else some 0)
  else if 5 ≤ which ∧ which ≤ 8 then (if b = true then none else some 2)
  else none
theorem first_out {which size : Int} {b : Bool} (h : ¬ (0 ≤ which ∧ which ≤ 8)) : firstErr which size b = none := by
  unfold firstErr
  rw [if_neg (by omega), if_neg (by omega), if_neg (by omega), if_neg (by omega), if_neg (by omega)]
def spFirst (K : PySem.W.Frag) (C0 C1 C2 : Addr) : Sp := fun vs H Q E => ∃ (which size : Int) (a : Addr) (ns : List Int), vs = [.int which, .int size, .ref a] ∧ SqL K H a (ns.map V.int) ∧ ns.length ≤ 100000 ∧
  (firstErr which size (isRow ns) = some 0 → ∀ H', Same H H' → E (.ref C0) none H') ∧ (firstErr which size (isRow ns) = some 1 → ∀ H', Same H H' → E (.ref C1) none H') ∧ (firstErr which size (isRow ns) = some 2 → ∀ H', Same H H' → E (.ref C2) none H') ∧
  (firstErr which size (isRow ns) = none → ∀ H', Same H H' → Q .non H')
section
variable {P : Program} {w : World} {K : PySem.W.Frag} {mg : Str → Option Value} {base : Heap}
theorem kn_law_first {C0 C1 C2 : Addr} (D : Df K mg "_law_first" st_law_first ["which", "size", "row"]) (K_can_be : Kn P w K mg base (L2.CX P w) 2 "can_be" ["size"] (spCanBe C0)) (K_reckoned : Kn P w K mg base (L2.CX P w) 2 "reckoned" ["size"] (spReckoned C0)) (K_row_of : Kn P w K mg base (L2.CX P w) 3 "row_of" ["size"] (spRowOf C0 C1))
    (K_many : Kn P w K mg base (L2.CX P w) 11 "many" ["size"] (spMany C0)) (K_rows : Kn P w K mg base (L2.CX P w) 11 "rows" ["size"] (spRows C0)) (K_places : Kn P w K mg base (L2.CX P w) 4 "places" ["row"] (spPlaces K C2)) (K_contrary : Kn P w K mg base (L2.CX P w) 4 "contrary" ["row"] (spContrary K C2))
    (K_shown : Kn P w K mg base (L2.CX P w) 4 "shown" ["row"] (spShown K C2)) (K_people : Kn P w K mg base (L2.CX P w) 4 "people" ["row"] (spPeople K C2)) : Kn P w K mg base (L2.CX P w) 12 "_law_first" ["which", "size", "row"] (spFirst K C0 C1 C2) := by
  refine D.knX sc_law_first (fun vs H Q E h => ?_) (fun f cdv A outer s H vs Q E hr h => ?_)
  · obtain ⟨_, _, _, _, rfl, _⟩ := h
    rfl
  obtain ⟨which, size, a, ns, rfl, hS, hl, e0, e1, e2, q⟩ := h
  refine ⟨_, (C8.pss_cut (ps_if (pt_cmpR op_eq (pv 0) pe_int (nomark _))
        (pss_one (ps_expr (pe_kE K_can_be (takes_of rfl rfl rfl rfl) (hr.mono (by first | decide | omega)) (by rfl) (pa_cons (pv 1) pa_nil))))
        pss_nil)
      (C8.pss_cut (ps_if (pt_cmpR op_eq (pv 0) pe_int (nomark _))
        (pss_one (ps_expr (pe_kE K_reckoned (takes_of rfl rfl rfl rfl) (hr.mono (by first | decide | omega)) (by rfl) (pa_cons (pv 1) pa_nil))))
        pss_nil)
      (C8.pss_cut (ps_if (pt_cmpR op_eq (pv 0) pe_int (nomark _))
        (pss_one (ps_expr (pe_kE K_row_of (takes_of rfl rfl rfl rfl) (hr.mono (by first | decide | omega)) (by rfl) (pa_cons (pv 1) pa_nil))))
        pss_nil)
      (C8.pss_cut (ps_if (pt_cmpR op_eq (pv 0) pe_int (nomark _))
        (pss_one (ps_expr (pe_kE K_many (takes_of rfl rfl rfl rfl) (hr.mono (by first | decide | omega)) (by rfl) (pa_cons (pv 1) pa_nil))))
        pss_nil)
      (C8.pss_cut (ps_if (pt_cmpR op_eq (pv 0) pe_int (nomark _))
        (pss_one (ps_expr (pe_kE K_rows (takes_of rfl rfl rfl rfl) (hr.mono (by first | decide | omega)) (by rfl) (pa_cons (pv 1) pa_nil))))
        pss_nil)
      (C8.pss_cut (ps_if (pt_cmpR op_eq (pv 0) pe_int (nomark _))
        (pss_one (ps_expr (pe_kE K_places (takes_of rfl rfl rfl rfl) (hr.mono (by first | decide | omega)) (by rfl) (pa_cons (pv 2) pa_nil))))
        pss_nil)
      (C8.pss_cut (ps_if (pt_cmpR op_eq (pv 0) pe_int (nomark _))
        (pss_one (ps_expr (pe_kE K_contrary (takes_of rfl rfl rfl rfl) (hr.mono (by first | decide | omega)) (by rfl) (pa_cons (pv 2) pa_nil))))
        pss_nil)
      (C8.pss_cut (ps_if (pt_cmpR op_eq (pv 0) pe_int (nomark _))
        (pss_one (ps_expr (pe_kE K_shown (takes_of rfl rfl rfl rfl) (hr.mono (by first | decide | omega)) (by rfl) (pa_cons (pv 2) pa_nil))))
        pss_nil)
      (pss_one (ps_if (pt_cmpR op_eq (pv 0) pe_int (nomark _))
        (pss_one (ps_expr (pe_kE K_people (takes_of rfl rfl rfl rfl) (hr.mono (by first | decide | omega)) (by rfl) (pa_cons (pv 2) pa_nil))))
        pss_nil)))))))))), ?_⟩
  refine ⟨fun σ H1 => σ = [some (.int which), some (.int size), some (.ref a)] ∧ Same H H1 ∧ (which = 0 → firstErr which size (isRow ns) = none), ?_, ?_⟩
  · refine ⟨_, rfl, rfl, _, rfl, ite2 (fun c => ?_) (fun c => ?_)⟩
    · have c' : which = 0 := V.int.inj (of_decide_eq_true c)
      exact ⟨_, rfl, size, rfl, (fun z => e0 (by subst c'; exact if_neg z) _ (Same.refl _)), fun z => ⟨rfl, (Same.refl _), fun _ => by subst c'; exact if_pos z⟩⟩
    · exact ⟨rfl, Same.refl _, fun e => absurd (decide_eq_true (congrArg V.int e)) c⟩
  rintro σ H1 ⟨rfl, s1, d0⟩
  refine ⟨fun σ H1 => σ = [some (.int which), some (.int size), some (.ref a)] ∧ Same H H1 ∧ (which = 1 → firstErr which size (isRow ns) = none), ?_, ?_⟩
  · refine ⟨_, rfl, rfl, _, rfl, ite2 (fun c => ?_) (fun c => ?_)⟩
    · have c' : which = 1 := V.int.inj (of_decide_eq_true c)
      exact ⟨_, rfl, size, rfl, (fun z => e0 (by subst c'; exact if_neg z) _ (s1)), fun z p np => ⟨rfl, (s1.new np), fun _ => by subst c'; exact if_pos z⟩⟩
    · exact ⟨rfl, s1, fun e => absurd (decide_eq_true (congrArg V.int e)) c⟩
  rintro σ H2 ⟨rfl, s2, d1⟩
  refine ⟨fun σ H1 => σ = [some (.int which), some (.int size), some (.ref a)] ∧ Same H H1 ∧ (which = 2 → firstErr which size (isRow ns) = none), ?_, ?_⟩
  · refine ⟨_, rfl, rfl, _, rfl, ite2 (fun c => ?_) (fun c => ?_)⟩
    · have c' : which = 2 := V.int.inj (of_decide_eq_true c)
      exact ⟨_, rfl, size, rfl, (fun z => e0 (by subst c'; exact if_neg z) _ (s2)), (fun z z2 => e1 (by subst c'; exact (if_pos z).trans (if_neg z2)) _ (s2)), fun z z2 J2 p t2 np e => ⟨rfl, (s2.trans t2), fun _ => by subst c'; exact (if_pos z).trans (if_pos z2)⟩⟩
    · exact ⟨rfl, s2, fun e => absurd (decide_eq_true (congrArg V.int e)) c⟩
  rintro σ H3 ⟨rfl, s3, d2⟩
  refine ⟨fun σ H1 => σ = [some (.int which), some (.int size), some (.ref a)] ∧ Same H H1 ∧ (which = 3 → firstErr which size (isRow ns) = none), ?_, ?_⟩
  · refine ⟨_, rfl, rfl, _, rfl, ite2 (fun c => ?_) (fun c => ?_)⟩
    · have c' : which = 3 := V.int.inj (of_decide_eq_true c)
      exact ⟨_, rfl, size, rfl, (fun z => e0 (by subst c'; exact if_neg z) _ (s3)), fun z J2 t2 => ⟨rfl, (s3.trans t2), fun _ => by subst c'; exact if_pos z⟩⟩
    · exact ⟨rfl, s3, fun e => absurd (decide_eq_true (congrArg V.int e)) c⟩
  rintro σ H4 ⟨rfl, s4, d3⟩
  refine ⟨fun σ H1 => σ = [some (.int which), some (.int size), some (.ref a)] ∧ Same H H1 ∧ (which = 4 → firstErr which size (isRow ns) = none), ?_, ?_⟩
  · refine ⟨_, rfl, rfl, _, rfl, ite2 (fun c => ?_) (fun c => ?_)⟩
    · have c' : which = 4 := V.int.inj (of_decide_eq_true c)
      exact ⟨_, rfl, size, rfl, (fun z => e0 (by subst c'; exact if_neg z) _ (s4)), fun z J2 p ts t2 np e t x => ⟨rfl, (s4.trans t2), fun _ => by subst c'; exact if_pos z⟩⟩
    · exact ⟨rfl, s4, fun e => absurd (decide_eq_true (congrArg V.int e)) c⟩
  rintro σ H5 ⟨rfl, s5, d4⟩
  refine ⟨fun σ H1 => σ = [some (.int which), some (.int size), some (.ref a)] ∧ Same H H1 ∧ (which = 5 → firstErr which size (isRow ns) = none), ?_, ?_⟩
  · refine ⟨_, rfl, rfl, _, rfl, ite2 (fun c => ?_) (fun c => ?_)⟩
    · have c' : which = 5 := V.int.inj (of_decide_eq_true c)
      exact ⟨_, rfl, a, ns, rfl, (s5.seq hS), hl, (fun z J2 t2 => e2 (by subst c'; rw [z]; rfl) _ (s5.trans t2)), fun z J2 p ts t2 np e x => ⟨rfl, (s5.trans t2), fun _ => by subst c'; rw [z]; rfl⟩⟩
    · exact ⟨rfl, s5, fun e => absurd (decide_eq_true (congrArg V.int e)) c⟩
  rintro σ H6 ⟨rfl, s6, d5⟩
  refine ⟨fun σ H1 => σ = [some (.int which), some (.int size), some (.ref a)] ∧ Same H H1 ∧ (which = 6 → firstErr which size (isRow ns) = none), ?_, ?_⟩
  · refine ⟨_, rfl, rfl, _, rfl, ite2 (fun c => ?_) (fun c => ?_)⟩
    · have c' : which = 6 := V.int.inj (of_decide_eq_true c)
      exact ⟨_, rfl, a, ns, rfl, (s6.seq hS), hl, (fun z J2 t2 => e2 (by subst c'; rw [z]; rfl) _ (s6.trans t2)), fun z J2 p t2 np e => ⟨rfl, (s6.trans t2), fun _ => by subst c'; rw [z]; rfl⟩⟩
    · exact ⟨rfl, s6, fun e => absurd (decide_eq_true (congrArg V.int e)) c⟩
  rintro σ H7 ⟨rfl, s7, d6⟩
  refine ⟨fun σ H1 => σ = [some (.int which), some (.int size), some (.ref a)] ∧ Same H H1 ∧ (which = 7 → firstErr which size (isRow ns) = none), ?_, ?_⟩
  · refine ⟨_, rfl, rfl, _, rfl, ite2 (fun c => ?_) (fun c => ?_)⟩
    · have c' : which = 7 := V.int.inj (of_decide_eq_true c)
      exact ⟨_, rfl, a, ns, rfl, (s7.seq hS), hl, (fun z J2 t2 => e2 (by subst c'; rw [z]; rfl) _ (s7.trans t2)), fun z J2 t2 => ⟨rfl, (s7.trans t2), fun _ => by subst c'; rw [z]; rfl⟩⟩
    · exact ⟨rfl, s7, fun e => absurd (decide_eq_true (congrArg V.int e)) c⟩
  rintro σ H8 ⟨rfl, s8, d7⟩
  refine ⟨_, rfl, rfl, _, rfl, ite2 (fun c => ?_) (fun c => ?_)⟩
  · have c' : which = 8 := V.int.inj (of_decide_eq_true c)
    exact ⟨_, rfl, a, ns, rfl, (s8.seq hS), hl, (fun z J2 t2 => e2 (by subst c'; rw [z]; rfl) _ (s8.trans t2)), fun z J2 t2 => q (by subst c'; rw [z]; rfl) _ (s8.trans t2)⟩
  · have c' : ¬ which = 8 := fun z => c (decide_eq_true (congrArg V.int z))
    refine q ?_ _ s8
    by_cases z : 0 ≤ which ∧ which ≤ 8
    · have h : which = 0 ∨ which = 1 ∨ which = 2 ∨ which = 3 ∨ which = 4 ∨ which = 5 ∨ which = 6 ∨ which = 7 := by omega
      rcases h with h | h | h | h | h | h | h | h
      · exact d0 h
      · exact d1 h
      · exact d2 h
      · exact d3 h
      · exact d4 h
      · exact d5 h
      · exact d6 h
      · exact d7 h
    · exact first_out z
end

/-! ### _law_second -/
abbrev N_law_second : List Str := ["which", "row", "one", "other"]
theorem sc_law_second : FnScope N_law_second ["which", "row", "one", "other"] (defScope st_law_second) := ⟨rfl, rfl, rfl, by decide +kernel, rfl, by decide +kernel, by decide +kernel⟩
def twoB (N a b : Int) : Bool := decide (a ≠ b) && decide (0 ≤ a) && decide (a < N) && decide (0 ≤ b) && decide (b < N)
theorem twoB_iff {N a b : Int} : twoB N a b = true ↔ twoPeople N a b := by
  unfold twoB twoPeople
  simp only [Bool.and_eq_true, decide_eq_true_eq]
  constructor
  · rintro ⟨⟨⟨⟨h1, h2⟩, h3⟩, h4⟩, h5⟩
    exact ⟨h1, ⟨h2, h3⟩, h4, h5⟩
  · rintro ⟨h1, ⟨h2, h3⟩, h4, h5⟩
    exact ⟨⟨⟨⟨h1, h2⟩, h3⟩, h4⟩, h5⟩
def secondErr (which : Int) (ns : List Int) (one other : Int) : Option Nat :=
  if which = 9 then (if isRow ns = true then (if 18 < ns.length then some 0 else none) else some 2)
  else if which = 10 then (if isRow ns = true then none else some 2)
  else if which = 11 then (if isRow ns = true then (if twoB (NOf ns) one other = true then none else some 3) else some 2)
  else if which = 12 then (if isRow ns = true then (if twoB (NOf ns) other one = true then none else some 3) else some 2)
  else if which = 13 then (if isRow ns = true then (if 0 ≤ other ∧ other < NOf ns then none else some 3) else some 2)
  else none
theorem second_out {which : Int} {ns : List Int} {one other : Int} (h : ¬ (9 ≤ which ∧ which ≤ 13)) : secondErr which ns one other = none := by
  unfold secondErr
  rw [if_neg (by omega), if_neg (by omega), if_neg (by omega), if_neg (by omega), if_neg (by omega)]
def spSecond (K : PySem.W.Frag) (C0 C2 C3 : Addr) : Sp := fun vs H Q E => ∃ (which : Int) (a : Addr) (ns : List Int) (one other : Int), vs = [.int which, .ref a, .int one, .int other] ∧ SqL K H a (ns.map V.int) ∧ ns.length ≤ 100000 ∧
  (secondErr which ns one other = some 0 → ∀ H', Same H H' → E (.ref C0) none H') ∧ (secondErr which ns one other = some 2 → ∀ H', Same H H' → E (.ref C2) none H') ∧ (secondErr which ns one other = some 3 → ∀ H', Same H H' → E (.ref C3) none H') ∧
  (secondErr which ns one other = none → ∀ H', Same H H' → Q .non H')
section
variable {P : Program} {w : World} {K : PySem.W.Frag} {mg : Str → Option Value} {base : Heap}
theorem kn_law_second {C0 C2 C3 : Addr} (D : Df K mg "_law_second" st_law_second ["which", "row", "one", "other"]) (K_groups : Kn P w K mg base (L2.CX P w) 4 "groups" ["row"] (spGroups K C2 C0)) (K_is_group : Kn P w K mg base (L2.CX P w) 4 "is_group" ["row", "some"] (spIsGroup K C2)) (K_third : Kn P w K mg base (L2.CX P w) 5 "third" ["row", "one", "other"] (spThird K C2 C3))
    (K_group : Kn P w K mg base (L2.CX P w) 6 "group" ["row", "one", "other"] (spGroup K C2 C3)) (K_day : Kn P w K mg base (L2.CX P w) 4 "day" ["row", "person"] (spDay K C2 C3)) : Kn P w K mg base (L2.CX P w) 12 "_law_second" ["which", "row", "one", "other"] (spSecond K C0 C2 C3) := by
  refine D.knX sc_law_second (fun vs H Q E h => ?_) (fun f cdv A outer s H vs Q E hr h => ?_)
  · obtain ⟨_, _, _, _, _, rfl, _⟩ := h
    rfl
  obtain ⟨which, a, ns, one, other, rfl, hS, hl, e0, e2, e3, q⟩ := h
  refine ⟨_, (C8.pss_cut (ps_if (pt_cmpR op_eq (pv 0) pe_int (nomark _))
        (pss_one (ps_expr (pe_kE K_groups (takes_of rfl rfl rfl rfl) (hr.mono (by first | decide | omega)) (by rfl) (pa_cons (pv 1) pa_nil))))
        pss_nil)
      (C8.pss_cut (ps_if (pt_cmpR op_eq (pv 0) pe_int (nomark _))
        (pss_one (ps_expr (pe_kE K_is_group (takes_of rfl rfl rfl rfl) (hr.mono (by first | decide | omega)) (by rfl) (pa_cons (pv 1) (pa_cons (pe_tup (pa_cons pe_int (pa_cons pe_int (pa_cons (pe_op op_sub pe_int pe_int) pa_nil)))) pa_nil)))))
        pss_nil)
      (C8.pss_cut (ps_if (pt_cmpR op_eq (pv 0) pe_int (nomark _))
        (pss_one (ps_expr (pe_kE K_third (takes_of rfl rfl rfl rfl) (hr.mono (by first | decide | omega)) (by rfl) (pa_cons (pv 1) (pa_cons (pv 2) (pa_cons (pv 3) pa_nil))))))
        pss_nil)
      (C8.pss_cut (ps_if (pt_cmpR op_eq (pv 0) pe_int (nomark _))
        (pss_one (ps_expr (pe_kE K_group (takes_of rfl rfl rfl rfl) (hr.mono (by first | decide | omega)) (by rfl) (pa_cons (pv 1) (pa_cons (pv 3) (pa_cons (pv 2) pa_nil))))))
        pss_nil)
      (pss_one (ps_if (pt_cmpR op_eq (pv 0) pe_int (nomark _))
        (pss_one (ps_expr (pe_kE K_day (takes_of rfl rfl rfl rfl) (hr.mono (by first | decide | omega)) (by rfl) (pa_cons (pv 1) (pa_cons (pv 3) pa_nil)))))
        pss_nil)))))), ?_⟩
  refine ⟨fun σ H1 => σ = [some (.int which), some (.ref a), some (.int one), some (.int other)] ∧ Same H H1 ∧ (which = 9 → secondErr which ns one other = none), ?_, ?_⟩
  · refine ⟨_, rfl, rfl, _, rfl, ite2 (fun c => ?_) (fun c => ?_)⟩
    · have c' : which = 9 := V.int.inj (of_decide_eq_true c)
      exact ⟨_, rfl, a, ns, rfl, hS, hl, (fun z J2 t2 => e2 (by subst c'; exact if_neg (show ¬ isRow ns = true from fun y => by rw [z] at y; cases y)) _ t2), (fun z z2 J2 t2 => e0 (by subst c'; exact (if_pos z).trans (if_pos z2)) _ t2), fun z z2 J2 p ts Ls t2 np e t x y => ⟨rfl, t2, fun _ => by subst c'; exact (if_pos z).trans (if_neg (by omega))⟩⟩
    · exact ⟨rfl, Same.refl _, fun e => absurd (decide_eq_true (congrArg V.int e)) c⟩
  rintro σ H1 ⟨rfl, s1, d9⟩
  refine ⟨fun σ H1 => σ = [some (.int which), some (.ref a), some (.int one), some (.int other)] ∧ Same H H1 ∧ (which = 10 → secondErr which ns one other = none), ?_, ?_⟩
  · refine ⟨_, rfl, rfl, _, rfl, ite2 (fun c => ?_) (fun c => ?_)⟩
    · have c' : which = 10 := V.int.inj (of_decide_eq_true c)
      exact ⟨_, rfl, _, _, rfl, rfl, small (show 3 ≤ 16777216 by decide), fun t nt => ⟨a, t, ns, 0, 1, 0 - 5, rfl, (same_upd nt).seq (s1.seq hS), hl, upd_same, (fun z J2 t2 => e2 (by subst c'; exact if_neg (show ¬ isRow ns = true from fun y => by rw [z] at y; cases y)) _ ((s1.new nt).trans t2)), fun z b hb J2 t2 => ⟨rfl, ((s1.new nt).trans t2), fun _ => by subst c'; exact if_pos z⟩⟩⟩
    · exact ⟨rfl, s1, fun e => absurd (decide_eq_true (congrArg V.int e)) c⟩
  rintro σ H2 ⟨rfl, s2, d10⟩
  refine ⟨fun σ H1 => σ = [some (.int which), some (.ref a), some (.int one), some (.int other)] ∧ Same H H1 ∧ (which = 11 → secondErr which ns one other = none), ?_, ?_⟩
  · refine ⟨_, rfl, rfl, _, rfl, ite2 (fun c => ?_) (fun c => ?_)⟩
    · have c' : which = 11 := V.int.inj (of_decide_eq_true c)
      exact ⟨_, rfl, _, rfl, _, rfl, a, ns, one, other, rfl, (s2.seq hS), hl, (fun z J2 t2 => e2 (by subst c'; exact if_neg (show ¬ isRow ns = true from fun y => by rw [z] at y; cases y)) _ (s2.trans t2)), (fun z z2 J2 t2 => e3 (by subst c'; exact (if_pos z).trans (if_neg (fun y => z2 (twoB_iff.mp y)))) _ (s2.trans t2)), fun z c hT J2 t2 => ⟨rfl, (s2.trans t2), fun _ => by subst c'; exact (if_pos z).trans (if_pos (twoB_iff.mpr ⟨hT.ne.1, hT.ra, hT.rb⟩))⟩⟩
    · exact ⟨rfl, s2, fun e => absurd (decide_eq_true (congrArg V.int e)) c⟩
  rintro σ H3 ⟨rfl, s3, d11⟩
  refine ⟨fun σ H1 => σ = [some (.int which), some (.ref a), some (.int one), some (.int other)] ∧ Same H H1 ∧ (which = 12 → secondErr which ns one other = none), ?_, ?_⟩
  · refine ⟨_, rfl, rfl, _, rfl, ite2 (fun c => ?_) (fun c => ?_)⟩
    · have c' : which = 12 := V.int.inj (of_decide_eq_true c)
      exact ⟨_, rfl, _, rfl, _, rfl, a, ns, other, one, rfl, (s3.seq hS), hl, (fun z J2 t2 => e2 (by subst c'; exact if_neg (show ¬ isRow ns = true from fun y => by rw [z] at y; cases y)) _ (s3.trans t2)), (fun z z2 J2 t2 => e3 (by subst c'; exact (if_pos z).trans (if_neg (fun y => z2 (twoB_iff.mp y)))) _ (s3.trans t2)), fun z c L hT hL J2 p t2 np e => ⟨rfl, (s3.trans t2), fun _ => by subst c'; exact (if_pos z).trans (if_pos (twoB_iff.mpr ⟨hT.ne.1, hT.ra, hT.rb⟩))⟩⟩
    · exact ⟨rfl, s3, fun e => absurd (decide_eq_true (congrArg V.int e)) c⟩
  rintro σ H4 ⟨rfl, s4, d12⟩
  refine ⟨_, rfl, rfl, _, rfl, ite2 (fun c => ?_) (fun c => ?_)⟩
  · have c' : which = 13 := V.int.inj (of_decide_eq_true c)
    exact ⟨_, rfl, _, rfl, a, ns, other, rfl, (s4.seq hS), hl, (fun z J2 t2 => e2 (by subst c'; exact if_neg (show ¬ isRow ns = true from fun y => by rw [z] at y; cases y)) _ (s4.trans t2)), (fun z z2 J2 t2 => e3 (by subst c'; exact (if_pos z).trans (if_neg z2)) _ (s4.trans t2)), fun z z2 J2 p ts Ls t2 np e t x y => q (by subst c'; exact (if_pos z).trans (if_pos z2)) _ (s4.trans t2)⟩
  · have c' : ¬ which = 13 := fun z => c (decide_eq_true (congrArg V.int z))
    refine q ?_ _ s4
    by_cases z : 9 ≤ which ∧ which ≤ 13
    · have h : which = 9 ∨ which = 10 ∨ which = 11 ∨ which = 12 := by omega
      rcases h with h | h | h | h
      · exact d9 h
      · exact d10 h
      · exact d11 h
      · exact d12 h
    · exact second_out z
end

/-! ### _law_tried -/
abbrev N_law_tried : List Str := ["which", "size", "row", "one", "other", "e"]
theorem sc_law_tried : FnScope N_law_tried ["which", "size", "row", "one", "other"] (defScope st_law_tried) := ⟨rfl, rfl, rfl, by decide +kernel, rfl, by decide +kernel, by decide +kernel⟩
/-- what is told of a try -/
def triedWord (which size : Int) (ns : List Int) (one other : Int) : Str := match firstErr which size (isRow ns) with
  | some j => classWords.getD j "done"
  | none => match secondErr which ns one other with
    | some j => classWords.getD j "done"
    | none => "done"
def spTried (K : PySem.W.Frag) : Sp := fun vs H Q _ => ∃ (which size : Int) (a : Addr) (ns : List Int) (one other : Int), vs = [.int which, .int size, .ref a, .int one, .int other] ∧ SqL K H a (ns.map V.int) ∧ ns.length ≤ 100000 ∧ ∀ H', Same H H' → Q (.str (triedWord which size ns one other)) H'
section
variable {P : Program} {w : World} {K : PySem.W.Frag} {mg : Str → Option Value} {base : Heap}
theorem kn_law_tried {C0 C1 C2 C3 C4 CA : Addr} (D : Df K mg "_law_tried" st_law_tried ["which", "size", "row", "one", "other"]) (X_ApartError : Ec K mg "ApartError" CA) (K_law_word_of : KnW P w K mg base 1 "_law_word_of" ["e"] (spWordOf K C0 C1 C2 C3 C4))
    (K_law_first : Kn P w K mg base (L2.CX P w) 12 "_law_first" ["which", "size", "row"] (spFirst K C0 C1 C2)) (K_law_second : Kn P w K mg base (L2.CX P w) 12 "_law_second" ["which", "row", "one", "other"] (spSecond K C0 C2 C3))
    (O0 : OfClass K C0 C1 C2 C3 C4 C0 0) (O1 : OfClass K C0 C1 C2 C3 C4 C1 1) (O2 : OfClass K C0 C1 C2 C3 C4 C2 2) (O3 : OfClass K C0 C1 C2 C3 C4 C3 3) (M0 : PySem.W.exmOne K (.ref C0) (.ref CA) = some true) (M1 : PySem.W.exmOne K (.ref C1) (.ref CA) = some true) (M2 : PySem.W.exmOne K (.ref C2) (.ref CA) = some true) (M3 : PySem.W.exmOne K (.ref C3) (.ref CA) = some true) :
    Kn P w K mg base CX0 13 "_law_tried" ["which", "size", "row", "one", "other"] (spTried K) := by
  refine D.kn sc_law_tried (fun vs H Q E h => ?_) (fun f cdv A outer s H vs Q E hr h => ?_)
  · obtain ⟨_, _, _, _, _, _, rfl, _⟩ := h
    rfl
  obtain ⟨which, size, a, ns, one, other, rfl, hS, hl, q⟩ := h
  refine ⟨_, (pss_cons (ps_try_as (i := 5) (tb := fun W => tSeq (tDrop (tCallS (spFirst K C0 C1 C2) (WE W) (tCons (tVar 0) (tCons (tVar 1) (tCons (tVar 2) tNil))))) (tDrop (tCallS (spSecond K C0 C2 C3) (WE W) (tCons (tVar 0) (tCons (tVar 2) (tCons (tVar 3) (tCons (tVar 4) tNil))))))) (ts := fun a cls d => tRet (tWordT K C0 C1 C2 C3 C4 5 a cls d)) (Wout := fun _ _ _ _ => False) rfl rfl sc_law_tried.nd rfl rfl ⟨rfl, by decide, Or.inl X_ApartError.g⟩ takes0 (fun W pn xe tk _ => (pss_cons (ps_expr (pe_kT K_law_first tk (hr.mono (by first | decide | omega)) (by rfl) (pa_cons (pv 0) (pa_cons (pv 1) (pa_cons (pv 2) pa_nil)))))
        (pss_one (ps_expr (pe_kT K_law_second tk (hr.mono (by first | decide | omega)) (by rfl) (pa_cons (pv 0) (pa_cons (pv 2) (pa_cons (pv 3) (pa_cons (pv 4) pa_nil))))))))) (fun a oe cls d pn hz hf => (pss_one (ps_ret (pe_word K_law_word_of (L2H.roomH_of (hr.mono (by first | decide | omega))) (by rfl) (pv 5) hz hf)))))
      (pss_one (ps_ret pe_str))), ?_⟩
  have w1 : ∀ {j : Nat}, firstErr which size (isRow ns) = some j → triedWord which size ns one other = classWords.getD j "done" := fun e => by
    unfold triedWord
    rw [e]
  have w2 : ∀ {j : Nat}, firstErr which size (isRow ns) = none → secondErr which ns one other = some j → triedWord which size ns one other = classWords.getD j "done" := fun e e2 => by
    unfold triedWord
    rw [e, e2]
  have w3 : firstErr which size (isRow ns) = none → secondErr which ns one other = none → triedWord which size ns one other = "done" := fun e e2 => by
    unfold triedWord
    rw [e, e2]
  refine ⟨_, rfl, _, rfl, _, rfl, which, size, a, ns, rfl, hS, hl, ?_, ?_, ?_, fun z H1 s1 => ?_⟩
  · intro z H1 s1
    exact ⟨true, M0, (fun _ b hb => ⟨_, rfl, C0, 0, "size", rfl, rfl, rfl, O0, rfl, fun H' s' => by
      have := q H' (s1.trans s')
      rwa [w1 z] at this⟩), fun q => nomatch q⟩
  · intro z H1 s1
    exact ⟨true, M1, (fun _ b hb => ⟨_, rfl, C1, 1, "such", rfl, rfl, rfl, O1, rfl, fun H' s' => by
      have := q H' (s1.trans s')
      rwa [w1 z] at this⟩), fun q => nomatch q⟩
  · intro z H1 s1
    exact ⟨true, M2, (fun _ b hb => ⟨_, rfl, C2, 2, "row", rfl, rfl, rfl, O2, rfl, fun H' s' => by
      have := q H' (s1.trans s')
      rwa [w1 z] at this⟩), fun q => nomatch q⟩
  · refine ⟨_, rfl, _, rfl, _, rfl, _, rfl, which, a, ns, one, other, rfl, s1.seq hS, hl, ?_, ?_, ?_, fun z2 H2 s2 => ?_⟩
    · intro z2 H2 s2
      exact ⟨true, M0, (fun _ b hb => ⟨_, rfl, C0, 0, "size", rfl, rfl, rfl, O0, rfl, fun H' s' => by
        have := q H' ((s1.trans s2).trans s')
        rwa [w2 z z2] at this⟩), fun q => nomatch q⟩
    · intro z2 H2 s2
      exact ⟨true, M2, (fun _ b hb => ⟨_, rfl, C2, 2, "row", rfl, rfl, rfl, O2, rfl, fun H' s' => by
        have := q H' ((s1.trans s2).trans s')
        rwa [w2 z z2] at this⟩), fun q => nomatch q⟩
    · intro z2 H2 s2
      exact ⟨true, M3, (fun _ b hb => ⟨_, rfl, C3, 3, "person", rfl, rfl, rfl, O3, rfl, fun H' s' => by
        have := q H' ((s1.trans s2).trans s')
        rwa [w2 z z2] at this⟩), fun q => nomatch q⟩
    · have := q H2 (s1.trans s2)
      rw [w3 z z2] at this
      exact this
end

/-! ### _law_bad_row -/
abbrev N_law_bad_row : List Str := ["script", "row", "at", "way", "found"]
theorem sc_law_bad_row : FnScope N_law_bad_row ["script", "row"] (defScope st_law_bad_row) := ⟨rfl, rfl, rfl, by decide +kernel, rfl, by decide +kernel, by decide +kernel⟩
def spBadRow (K : PySem.W.Frag) : Sp := fun vs H Q _ => ∃ (a b : Addr) (ns r : List Int), vs = [.ref a, .ref b] ∧ SqL K H a (ns.map V.int) ∧ H b = some (.lst (r.map V.int)) ∧ isRow r = true ∧ r.length ≤ 18 ∧
  ∀ (r' : List Int) H' p, isRow r' = false → r'.length ≤ 100 → Same H H' → H' p = some (.lst (r'.map V.int)) → Q (.ref p) H'
section
variable {P : Program} {w : World} {K : PySem.W.Frag} {mg : Str → Option Value} {base : Heap}
theorem kn_law_bad_row (D : Df K mg "_law_bad_row" st_law_bad_row ["script", "row"]) (B : Bl mg) (K_law_cell_at : Kn P w K mg base CX0 1 "_law_cell_at" ["script", "k"] (spCellAt K)) : Kn P w K mg base CX0 2 "_law_bad_row" ["script", "row"] (spBadRow K) := by
  refine D.kn sc_law_bad_row (fun vs H Q E h => ?_) (fun f cdv A outer s H vs Q E hr h => ?_)
  · obtain ⟨_, _, _, _, rfl, _⟩ := h
    rfl
  obtain ⟨a, b, ns, r, rfl, hS, eB, hR, h18, q⟩ := h
  have hL := ints_len r
  have h2 := isRow_two hR
  have hn := nOf_pos hR
  have hpos : (0 : Int) < ((r.map V.int).length : Int) := by rw [hL]; omega
  refine ⟨_, (pss_cons (ps_set (i := 2) sc_law_bad_row.nd rfl (Or.inl rfl) (pe_op op_mod (pe_k0 K_law_cell_at (hr.mono (by first | decide | omega)) (by rfl) (pa_cons (pv 0) (pa_cons pe_int pa_nil))) (pe_callB call_len_seq (by rfl) B.len_ (by decide +kernel) (pa_cons (pv 1) pa_nil))))
      (pss_cons (ps_set (i := 3) sc_law_bad_row.nd rfl (Or.inl rfl) (pe_op op_mod (pe_k0 K_law_cell_at (hr.mono (by first | decide | omega)) (by rfl) (pa_cons (pv 0) (pa_cons pe_int pa_nil))) pe_int))
      (pss_cons (ps_if (pt_cmpR op_eq (pv 3) pe_int (nomark _))
        (pss_one (ps_ret (pe_slice sl_list (pv 1) po_none (po_some (pe_un un_neg pe_int)))))
        pss_nil)
      (pss_cons (ps_if (pt_cmpR op_eq (pv 3) pe_int (nomark _))
        (pss_one (ps_ret (pe_op op_cat (pv 1) (pe_lst (pa_cons (pe_op op_add pe_int (pe_op op_mod (pe_k0 K_law_cell_at (hr.mono (by first | decide | omega)) (by rfl) (pa_cons (pv 0) (pa_cons pe_int pa_nil))) pe_int)) pa_nil)))))
        pss_nil)
      (pss_cons (ps_set (i := 4) sc_law_bad_row.nd rfl (Or.inl rfl) (pe_callTy call_list_of (by rfl) B.list_ (by decide +kernel) (pa_cons (pv 1) pa_nil)))
      (pss_cons (ps_asg (pe_ix ix_list (pe_lst (pa_cons pe_int (pa_cons (pe_op op_add (pe_ix ix_list (pv 1) (pv 2) (fun _ _ => rfl)) pe_int) (pa_cons (pe_op op_sub pe_int (pe_ix ix_list (pv 1) (pv 2) (fun _ _ => rfl))) (pa_cons (pe_op op_pow pe_int pe_int) pa_nil))))) (pe_op op_mod (pe_k0 K_law_cell_at (hr.mono (by first | decide | omega)) (by rfl) (pa_cons (pv 0) (pa_cons pe_int pa_nil))) pe_int) (fun _ _ => rfl)) (pg_sub (pv 4) (pv 2) set_list))
      (pss_one (ps_ret (pv 4))))))))), ?_⟩
  refine ⟨_, rfl, a, ns, 5, rfl, hS, by decide, _, rfl, b, _, rfl, .inl (SqL.of eB), _, _, rfl, rfl, hpos, ?_⟩
  refine ⟨_, rfl, a, ns, 6, rfl, hS, by decide, _, _, rfl, rfl, (by decide : (0 : Int) < 4), ?_⟩
  obtain ⟨at_, hat, a1, a2⟩ : ∃ at_ : Int, cellAt ns 5 % ((r.map V.int).length : Int) = at_ ∧ 0 ≤ at_ ∧ at_ < (r.length : Int) := ⟨_, rfl, Int.emod_nonneg _ (by omega), by have := Int.emod_lt_of_pos (cellAt ns 5) hpos; rw [hL] at this ⊢; exact this⟩
  simp only [hat]
  obtain ⟨x, hx⟩ : ∃ x, r[at_.toNat]? = some x := ⟨_, List.getElem?_eq_getElem (by omega)⟩
  have hb := isRow_bound hR x (List.mem_of_getElem? hx)
  -- way == 0
  refine ⟨_, rfl, rfl, _, rfl, ite2 (fun c => ?_) (fun c => ?_)⟩
  · refine ⟨_, rfl, 1, rfl, -1, rfl, b, _, rfl, SqL.of eB, fun p np => ?_⟩
    have e : cutV (r.map V.int) none (some (-1)) = (r.take (r.length - 1)).map V.int := by
      unfold cutV
      rw [List.map_take, HT.sIx_none, List.drop_zero, hL]
      show (r.map V.int).take (((-1 : Int) + (r.length : Int)).toNat - 0) = _
      congr 1
      omega
    rw [e]
    have hl : (r.take (r.length - 1)).length = r.length - 1 := by rw [List.length_take]; omega
    exact q _ _ p (bad_odd (by rw [hl]; omega)) (by rw [hl]; omega) (same_upd np) upd_same
  clear c
  -- way == 1
  refine ⟨_, rfl, rfl, _, rfl, ite2 (fun c => ?_) (fun c => ?_)⟩
  · refine ⟨_, rfl, _, rfl, a, ns, 5, rfl, hS, by decide, _, _, rfl, rfl, (by decide : (0 : Int) < 9), _, _, rfl, rfl, small (show 1 ≤ 16777216 by decide), fun p1 np1 => ?_⟩
    obtain ⟨u, hu⟩ : ∃ u : Int, 1 + cellAt ns 5 % 9 = u := ⟨_, rfl⟩
    simp only [hu]
    have eB1 := same_upd np1 (o := .lst [V.int u]) _ _ eB
    refine ⟨b, p1, _, _, rfl, rfl, eB1, upd_same, by rw [hL]; exact small (by show r.length + 1 ≤ 16777216; omega), fun p np => ?_⟩
    rw [show r.map V.int ++ [V.int u] = (r ++ [u]).map V.int by rw [List.map_append]; rfl]
    have hl : (r ++ [u]).length = r.length + 1 := by rw [List.length_append, List.length_singleton]
    exact q _ _ p (bad_odd (by rw [hl]; omega)) (by rw [hl]; omega) ((same_upd np1).new np) upd_same
  clear c
  -- a number put otherwise
  refine ⟨_, rfl, b, _, rfl, .inl (SqL.of eB), fun l nl => ?_⟩
  generalize hH1 : upd H l (.lst (r.map V.int)) = H1
  have s1 : Same H H1 := hH1 ▸ same_upd nl
  have e1 : H1 l = some (.lst (r.map V.int)) := hH1 ▸ upd_same
  have eB1 := s1 _ _ eB
  clear hH1
  refine ⟨_, rfl, _, rfl, b, _, _, V.int x, rfl, rfl, SqL.of eB1, at_ints a1 hx, _, _, rfl, rfl, _, rfl, _, rfl, b, _, _, V.int x, rfl, rfl, SqL.of eB1, at_ints a1 hx, _, _, rfl, rfl, _, _, rfl, rfl, ⟨by decide, by decide, by decide⟩, small (show 4 ≤ 16777216 by decide), fun m nm => ?_⟩
  obtain ⟨vs4, hv4⟩ : ∃ vs4 : List Int, vs4 = [0, x + 1, 0 - x, 10 ^ 29] := ⟨_, rfl⟩
  generalize hHm : upd H1 m _ = H3
  have s3 : Same H1 H3 := hHm ▸ same_upd nm
  have e3 : H3 m = some (.lst (vs4.map V.int)) := by
    rw [hv4, ← hHm]
    exact upd_same
  clear hHm
  have hk0 := Int.emod_nonneg (cellAt ns 7) (show (4 : Int) ≠ 0 by decide)
  have hk1 := Int.emod_lt_of_pos (cellAt ns 7) (show (0 : Int) < 4 by decide)
  obtain ⟨u, hu, hux⟩ : ∃ u, vs4[(cellAt ns 7 % 4).toNat]? = some u ∧ u ≠ x := by
    have h4 : (cellAt ns 7 % 4).toNat = 0 ∨ (cellAt ns 7 % 4).toNat = 1 ∨ (cellAt ns 7 % 4).toNat = 2 ∨ (cellAt ns 7 % 4).toNat = 3 := by omega
    have big : (10 : Int) ^ 29 = 100000000000000000000000000000 := by decide +kernel
    rw [big] at hv4
    rcases h4 with h | h | h | h <;> rw [h, hv4]
    · exact ⟨_, rfl, by omega⟩
    · exact ⟨_, rfl, by omega⟩
    · exact ⟨_, rfl, by omega⟩
    · exact ⟨_, rfl, by omega⟩
  refine ⟨_, rfl, a, ns, 7, rfl, (s1.trans s3).seq hS, by decide, _, _, rfl, rfl, (by decide : (0 : Int) < 4), m, _, _, V.int u, rfl, rfl, SqL.of e3, at_ints hk0 hu, _, rfl, _, rfl, l, _, _, _, rfl, rfl, s3 _ _ e1, ixN_at a1 (by rw [hL]; exact a2), ?_⟩
  rw [set_ints]
  refine ⟨_, rfl, q _ _ l (bad_set hR hx hux) (by rw [List.length_set]; omega) ((s1.trans s3).own nl) upd_same⟩
end

-- LAWTYPES script=l far=i row=l count=i one=i other=i due=l due[]=s size=i bad=b which=i wanted=s
/-! ### the law -/
abbrev lawLevel : Nat := 14
abbrev N_law : List Str := ["script", "far", "row", "count", "one", "other", "due", "size", "bad", "which", "wanted"]
theorem sc_law : FnScope N_law ["script"] (defScope st_law) := ⟨rfl, rfl, rfl, by decide +kernel, rfl, by decide +kernel, by decide +kernel⟩
/-- what is due for a row and two numbers -/
def dueOf (r : List Int) (one other : Int) : List Str := if isRow r = true then ["done", if twoB (NOf r) one other = true then "done" else "person", if 0 ≤ other ∧ other < NOf r then "done" else "person"] else ["row", "row", "row"]
def wanted1 (which size : Int) (bad : Bool) (D : List Str) : Str := if which < 5 then (if bad = true ∨ (which = 3 ∧ 8 < size) ∨ (which = 4 ∧ 5 < size) then "size" else "done") else D.getD ((if 10 < which then 1 else 0) + (if 12 < which then 1 else 0)) ""
def wanted2 (which size : Int) (bad : Bool) (D : List Str) : Str := if which = 2 ∧ bad = false ∧ 1 < size % 4 then "such" else wanted1 which size bad D
theorem twoB_false {N a b : Int} (h : ¬ twoPeople N a b) : twoB N a b = false := Bool.eq_false_iff.mpr fun z => h (twoB_iff.mp z)
theorem due_far {r : List Int} {one u : Int} (hR : isRow r = true) (h : ¬ (0 ≤ u ∧ u < NOf r)) : dueOf r one u = (["done", "person", "person"] : List Str) := by
  unfold dueOf
  rw [if_pos hR, twoB_false fun t => h t.2.2, if_neg h]
  rfl
theorem due_same {r : List Int} {one : Int} (hR : isRow r = true) (h : 0 ≤ one ∧ one < NOf r) : dueOf r one one = (["done", "person", "done"] : List Str) := by
  unfold dueOf
  rw [if_pos hR, twoB_false fun t => t.1 rfl, if_pos h]
  rfl
theorem due_good {r : List Int} {one u : Int} (hR : isRow r = true) (h1 : 0 ≤ one ∧ one < NOf r) (h : 0 ≤ u ∧ u < NOf r) (hne : u ≠ one) : dueOf r one u = (["done", "done", "done"] : List Str) := by
  unfold dueOf
  rw [if_pos hR, twoB_iff.mpr ⟨fun e => hne e.symm, h1, h⟩, if_pos h]
  rfl
theorem due_none {r : List Int} {one u : Int} (hR : isRow r = false) : dueOf r one u = (["row", "row", "row"] : List Str) := by
  unfold dueOf
  rw [if_neg (by rw [hR]; exact Bool.false_ne_true)]
theorem twoB_comm (N a b : Int) : twoB N a b = twoB N b a := by
  rw [Bool.eq_iff_iff, twoB_iff, twoB_iff]
  unfold twoPeople
  constructor <;> (rintro ⟨h1, h2, h3⟩; exact ⟨fun e => h1 e.symm, h3, h2⟩)
theorem wanted_low {which size : Int} {bad : Bool} {r : List Int} {one other : Int} {D : List Str} (h : which = 0 ∨ which = 1 ∨ which = 2 ∨ which = 3 ∨ which = 4) (hb : bad = true → ¬ (1 ≤ size ∧ size ≤ 400)) (hg : bad = false → 1 ≤ size ∧ size ≤ 12) :
    triedWord which size r one other = wanted2 which size bad D := by
  have second : secondErr which r one other = none := second_out (by omega)
  unfold triedWord
  rw [second]
  unfold firstErr wanted2 wanted1
  by_cases c1 : 1 ≤ size ∧ size ≤ 400
  · have hbf : bad = false := by
      cases bad
      · rfl
      · exact absurd c1 (hb rfl)
    subst hbf
    have g := hg rfl
    by_cases c2 : size ≤ 8 <;> by_cases c3 : size ≤ 5 <;> by_cases c4 : size % 4 < 2
    all_goals
      have c2' : (8 < size) = ¬ size ≤ 8 := by simp
      have c3' : (5 < size) = ¬ size ≤ 5 := by simp
      have c4' : (1 < size % 4) = ¬ size % 4 < 2 := by
        apply propext
        constructor <;> intro z <;> omega
      rcases h with rfl | rfl | rfl | rfl | rfl <;> simp [classWords, c1, g.1, c2, c3, c4, c2', c3', c4']
  · have hbt : bad = true := by
      cases bad
      · have := hg rfl
        omega
      · rfl
    subst hbt
    have c8 : ¬ (1 ≤ size ∧ size ≤ 8) := by omega
    have c5 : ¬ (1 ≤ size ∧ size ≤ 5) := by omega
    rcases h with rfl | rfl | rfl | rfl | rfl <;> simp [classWords, c1, c8, c5]
theorem wanted_high {which size : Int} {bad : Bool} {r : List Int} {one other : Int} (h1 : 5 ≤ which) (h2 : which < 14) (h18 : isRow r = true → r.length ≤ 18) : triedWord which size r one other = wanted2 which size bad (dueOf r one other) := by
  have h : which = 5 ∨ which = 6 ∨ which = 7 ∨ which = 8 ∨ which = 9 ∨ which = 10 ∨ which = 11 ∨ which = 12 ∨ which = 13 := by omega
  unfold triedWord firstErr secondErr wanted2 wanted1 dueOf
  rcases hr : isRow r with _ | _
  · rcases h with rfl | rfl | rfl | rfl | rfl | rfl | rfl | rfl | rfl <;> simp [classWords, hr]
  · have l18 : ¬ 18 < r.length := by have := h18 hr; omega
    rcases ht : twoB (NOf r) one other with _ | _ <;> by_cases hx : 0 ≤ other ∧ other < NOf r
    all_goals rcases h with rfl | rfl | rfl | rfl | rfl | rfl | rfl | rfl | rfl <;> simp [classWords, hr, ht, hx, l18, twoB_comm (NOf r) other one]
theorem wanted_tried {which size : Int} {bad : Bool} {r : List Int} {one other : Int} (h0 : 0 ≤ which) (h1 : which < 14) (hb : bad = true → ¬ (1 ≤ size ∧ size ≤ 400)) (hg : bad = false → 1 ≤ size ∧ size ≤ 12) (h18 : isRow r = true → r.length ≤ 18) :
    triedWord which size r one other = wanted2 which size bad (dueOf r one other) := by
  by_cases h : which < 5
  · exact wanted_low (by omega) hb hg
  · exact wanted_high (by omega) h1 h18
theorem due_at {r : List Int} {one other wh : Int} : atI ((dueOf r one other).map V.str) ((if decide (10 < wh) = true then 1 else 0) + (if decide (12 < wh) = true then 1 else 0)) = some (V.str ((dueOf r one other).getD ((if 10 < wh then 1 else 0) + (if 12 < wh then 1 else 0)) "")) := by
  obtain ⟨x, y, z, e⟩ : ∃ x y z, dueOf r one other = [x, y, z] := by
    unfold dueOf
    split <;> exact ⟨_, _, _, rfl⟩
  rw [e]
  by_cases h1 : 10 < wh <;> by_cases h2 : 12 < wh
  · rw [decide_eq_true h1, decide_eq_true h2, if_pos h1, if_pos h2]
    exact atI_nat (j := 2) rfl
  · rw [decide_eq_true h1, decide_eq_false h2, if_pos h1, if_neg h2]
    exact atI_nat (j := 1) rfl
  · omega
  · rw [decide_eq_false h1, decide_eq_false h2, if_neg h1, if_neg h2]
    exact atI_nat (j := 0) rfl
def spLaw (K : PySem.W.Frag) : Sp := fun vs H Q _ => ∃ (a : Addr) (ns : List Int), vs = [.ref a] ∧ SqL K H a (ns.map V.int) ∧ ns.length ≤ 63 ∧ ∀ H', Q (.bl true) H'
section
variable {P : Program} {w : World} {K : PySem.W.Frag} {mg : Str → Option Value} {base : Heap}
theorem ok_law {CS CU f : Addr} {fd : FuncData} (F : Fun K "law" "law" st_law f fd) (B : Bl mg) (K_law_cell_at : Kn P w K mg base CX0 1 "_law_cell_at" ["script", "k"] (spCellAt K)) (K_law_small_row : Kn P w K mg base CX0 12 "_law_small_row" ["script", "first"] (spSmallRow K))
    (K_law_bad_row : Kn P w K mg base CX0 2 "_law_bad_row" ["script", "row"] (spBadRow K)) (K_row_of : Kn P w K mg base (L2.CX P w) 3 "row_of" ["size"] (spRowOf CS CU)) (K_law_tried : Kn P w K mg base CX0 13 "_law_tried" ["which", "size", "row", "one", "other"] (spTried K)) :
    FnOk P w K mg base CX0 14 f fd ["script"] (spLaw K) := by
  refine F.ok sc_law (fun vs H Q E h => ?_) (fun cdv A outer s H vs Q E hr h => ?_)
  · obtain ⟨a, ns, rfl, _⟩ := h
    rfl
  obtain ⟨a, ns, rfl, hS, hlen, q⟩ := h
  refine ⟨_, (pss_cons (ps_set (i := 1) sc_law.nd rfl (Or.inl rfl) (pe_op op_mod (pe_k0 K_law_cell_at (hr.mono (by first | decide | omega)) (by rfl) (pa_cons (pv 0) (pa_cons pe_int pa_nil))) (pe_op op_pow pe_int pe_int)))
      (pss_cons (ps_set (i := 2) sc_law.nd rfl (Or.inl rfl) (pe_k0 K_law_small_row (hr.mono (by first | decide | omega)) (by rfl) (pa_cons (pv 0) (pa_cons pe_int pa_nil))))
      (pss_cons (ps_set (i := 3) sc_law.nd rfl (Or.inl rfl) (pe_op op_add (pe_op op_mul pe_int (pe_callB call_len_seq (by rfl) B.len_ (by decide +kernel) (pa_cons (pv 2) pa_nil))) pe_int))
      (pss_cons (ps_set (i := 4) sc_law.nd rfl (Or.inl rfl) (pe_op op_mod (pe_k0 K_law_cell_at (hr.mono (by first | decide | omega)) (by rfl) (pa_cons (pv 0) (pa_cons pe_int pa_nil))) (pv 3)))
      (pss_cons (ps_set (i := 5) sc_law.nd rfl (Or.inl rfl) (pe_op op_mod (pe_op op_add (pe_op op_add (pv 4) pe_int) (pe_op op_mod (pe_k0 K_law_cell_at (hr.mono (by first | decide | omega)) (by rfl) (pa_cons (pv 0) (pa_cons pe_int pa_nil))) (pe_op op_sub (pv 3) pe_int))) (pv 3)))
      (pss_cons (ps_set (i := 6) sc_law.nd rfl (Or.inl rfl) (pe_lst (pa_cons pe_str (pa_cons pe_str (pa_cons pe_str pa_nil)))))
      (C8.pss_cut (ps_if (pt_cmpR op_eq (pe_op op_mod (pe_k0 K_law_cell_at (hr.mono (by first | decide | omega)) (by rfl) (pa_cons (pv 0) (pa_cons pe_int pa_nil))) pe_int) pe_int (nomark _))
        (pss_cons (ps_set (i := 5) sc_law.nd rfl (Or.inl rfl) (pe_ix ix_list (pe_lst (pa_cons (pe_un un_neg pe_int) (pa_cons (pv 3) (pa_cons (pe_op op_sub (pe_un un_neg pe_int) (pv 1)) (pa_cons (pe_op op_add (pv 3) (pv 1)) pa_nil))))) (pe_op op_mod (pe_op op_fdiv (pe_k0 K_law_cell_at (hr.mono (by first | decide | omega)) (by rfl) (pa_cons (pv 0) (pa_cons pe_int pa_nil))) pe_int) pe_int) (fun _ _ => rfl)))
        (pss_one (ps_set (i := 6) sc_law.nd rfl (Or.inl rfl) (pe_lst (pa_cons pe_str (pa_cons pe_str (pa_cons pe_str pa_nil)))))))
        (pss_one (ps_if (pt_cmpR op_eq (pe_op op_mod (pe_k0 K_law_cell_at (hr.mono (by first | decide | omega)) (by rfl) (pa_cons (pv 0) (pa_cons pe_int pa_nil))) pe_int) pe_int (nomark _))
          (pss_cons (ps_set (i := 5) sc_law.nd rfl (Or.inl rfl) (pv 4))
          (pss_one (ps_set (i := 6) sc_law.nd rfl (Or.inl rfl) (pe_lst (pa_cons pe_str (pa_cons pe_str (pa_cons pe_str pa_nil)))))))
          pss_nil)))
      (C8.pss_cut (ps_if (pt_cmpR op_eq (pe_op op_mod (pe_k0 K_law_cell_at (hr.mono (by first | decide | omega)) (by rfl) (pa_cons (pv 0) (pa_cons pe_int pa_nil))) pe_int) pe_int (nomark _))
        (pss_cons (ps_set (i := 2) sc_law.nd rfl (Or.inl rfl) (pe_k0 K_law_bad_row (hr.mono (by first | decide | omega)) (by rfl) (pa_cons (pv 0) (pa_cons (pv 2) pa_nil))))
        (pss_one (ps_set (i := 6) sc_law.nd rfl (Or.inl rfl) (pe_lst (pa_cons pe_str (pa_cons pe_str (pa_cons pe_str pa_nil)))))))
        pss_nil)
      (pss_cons (ps_set (i := 7) sc_law.nd rfl (Or.inl rfl) (pe_op op_add pe_int (pe_op op_mod (pe_k0 K_law_cell_at (hr.mono (by first | decide | omega)) (by rfl) (pa_cons (pv 0) (pa_cons pe_int pa_nil))) pe_int)))
      (pss_cons (ps_set (i := 8) sc_law.nd rfl (Or.inl rfl) (pe_cmpR op_eq (pe_op op_mod (pe_k0 K_law_cell_at (hr.mono (by first | decide | omega)) (by rfl) (pa_cons (pv 0) (pa_cons pe_int pa_nil))) pe_int) pe_int (nomark _)))
      (C8.pss_cut (ps_if (pt_val (pv 8))
        (pss_one (ps_set (i := 7) sc_law.nd rfl (Or.inl rfl) (pe_ix ix_list (pe_lst (pa_cons pe_int (pa_cons pe_int (pa_cons (pe_op op_sub pe_int (pv 1)) (pa_cons (pe_op op_add pe_int (pv 1)) pa_nil))))) (pe_op op_mod (pe_op op_fdiv (pe_k0 K_law_cell_at (hr.mono (by first | decide | omega)) (by rfl) (pa_cons (pv 0) (pa_cons pe_int pa_nil))) pe_int) pe_int) (fun _ _ => rfl))))
        pss_nil)
      (pss_cons (ps_for PassesOwn.never rfl (pi_range1 (by rfl) B.range_ (pa_cons pe_int pa_nil)) (pg_name (i := 9) sc_law.nd rfl (Or.inl rfl))
        (pss_cons (ps_set (i := 10) sc_law.nd rfl (Or.inl rfl) (pe_ix ix_list (pv 6) (pe_op op_add (pe_callTy call_int1 (by rfl) B.int_ (by decide +kernel) (pa_cons (pe_cmpR op_gt (pv 9) pe_int (nomark _)) pa_nil)) (pe_callTy call_int1 (by rfl) B.int_ (by decide +kernel) (pa_cons (pe_cmpR op_gt (pv 9) pe_int (nomark _)) pa_nil))) (fun _ _ => rfl)))
        (C8.pss_cut (ps_if (pt_cmpR op_lt (pv 9) pe_int (nomark _))
          (pss_one (ps_set (i := 10) sc_law.nd rfl (Or.inl rfl) (pe_ix ix_list (pe_lst (pa_cons pe_str (pa_cons pe_str pa_nil))) (pe_callTy call_int1 (by rfl) B.int_ (by decide +kernel) (pa_cons (pe_or (pv 8) (pe_or (pe_and (pe_cmpR op_eq (pv 9) pe_int (nomark _)) (pe_one (pe_cmpR op_gt (pv 7) pe_int (nomark _)))) (pe_one (pe_and (pe_cmpR op_eq (pv 9) pe_int (nomark _)) (pe_one (pe_cmpR op_gt (pv 7) pe_int (nomark _))))))) pa_nil)) (fun _ _ => rfl))))
          pss_nil)
        (C8.pss_cut (ps_if (PW.pt (pw_and (pt_cmpR op_eq (pv 9) pe_int (nomark _)) (pw_and (pt_not (pt_val (pv 8))) (pw_and1 (pt_cmpR op_gt (pe_op op_mod (pv 7) pe_int) pe_int (nomark _))))))
          (pss_one (ps_set (i := 10) sc_law.nd rfl (Or.inl rfl) pe_str))
          pss_nil)
        (pss_one (ps_if (pt_cmpR op_ne (pe_k0 K_law_tried (hr.mono (by first | decide | omega)) (by rfl) (pa_cons (pv 9) (pa_cons (pv 7) (pa_cons (pe_callTy call_list_of (by rfl) B.list_ (by decide +kernel) (pa_cons (pv 2) pa_nil)) (pa_cons (pv 4) (pa_cons (pv 5) pa_nil)))))) (pv 10) (nomark _))
          (pss_one (ps_ret pe_bl))
          pss_nil))))))
      (pss_one (ps_ret (pe_and (pe_cmpR op_eq (pe_k0 K_law_tried (hr.mono (by first | decide | omega)) (by rfl) (pa_cons pe_int (pa_cons pe_int (pa_cons (pe_kL K_row_of (hr.mono (by first | decide | omega)) (by rfl) (pa_cons pe_int pa_nil)) (pa_cons pe_int (pa_cons pe_int pa_nil)))))) pe_str (nomark _)) (pe_one (pe_cmpR op_eq (pe_k0 K_law_tried (hr.mono (by first | decide | omega)) (by rfl) (pa_cons pe_int (pa_cons pe_int (pa_cons (pe_kL K_row_of (hr.mono (by first | decide | omega)) (by rfl) (pa_cons pe_int pa_nil)) (pa_cons pe_int (pa_cons pe_int pa_nil)))))) pe_str (nomark _)))))))))))))))))), ?_⟩
  refine ⟨_, rfl, a, ns, 8, rfl, hS, by decide, _, _, rfl, rfl, ⟨by decide, by decide, by decide⟩, _, _, rfl, rfl, (by decide +kernel : (0 : Int) < 10 ^ (29 : Int).toNat), ?_⟩
  obtain ⟨far, hfar, f0⟩ : ∃ far : Int, cellAt ns 8 % 10 ^ (29 : Int).toNat = far ∧ 0 ≤ far := ⟨_, rfl, Int.emod_nonneg _ (by decide +kernel)⟩
  simp only [hfar]
  refine ⟨_, rfl, a, ns, 0, rfl, hS, by decide, fun r0 hR h18 H1 p s1 e1 => ?_⟩
  have hL := ints_len r0
  have h2 := isRow_two hR
  have hn := nOf_pos hR
  refine ⟨_, rfl, p, _, rfl, .inl (SqL.of e1), _, _, rfl, rfl, .inl ⟨by decide, by decide⟩, _, _, rfl, rfl, ?_⟩
  have hN : (3 * (((r0.map V.int).length : Nat) : Int) + 1) = NOf r0 := by
    rw [hL]
    unfold NOf
    omega
  simp only [hN]
  have hN1 : 7 ≤ NOf r0 := by unfold NOf; omega
  refine ⟨_, rfl, a, ns, 9, rfl, s1.seq hS, by decide, _, rfl, _, _, rfl, rfl, (show (0 : Int) < NOf r0 by omega), ?_⟩
  obtain ⟨one, hone, o0, o1⟩ : ∃ one : Int, cellAt ns 9 % NOf r0 = one ∧ 0 ≤ one ∧ one < NOf r0 := ⟨_, rfl, Int.emod_nonneg _ (by omega), Int.emod_lt_of_pos _ (by omega)⟩
  simp only [hone]
  refine ⟨_, rfl, _, _, rfl, rfl, _, rfl, a, ns, 10, rfl, s1.seq hS, by decide, _, rfl, _, _, rfl, rfl, _, _, rfl, rfl, (show (0 : Int) < NOf r0 - 1 by omega), _, _, rfl, rfl, _, rfl, _, _, rfl, rfl, (show (0 : Int) < NOf r0 by omega), ?_⟩
  obtain ⟨other, ho, t0, t1, t2⟩ : ∃ other : Int, (one + 1 + cellAt ns 10 % (NOf r0 - 1)) % NOf r0 = other ∧ 0 ≤ other ∧ other < NOf r0 ∧ other ≠ one := by
    refine ⟨_, rfl, Int.emod_nonneg _ (by omega), Int.emod_lt_of_pos _ (by omega), fun e => ?_⟩
    have k0 := Int.emod_nonneg (cellAt ns 10) (show NOf r0 - 1 ≠ 0 by omega)
    have k1 := Int.emod_lt_of_pos (cellAt ns 10) (show 0 < NOf r0 - 1 by omega)
    generalize cellAt ns 10 % (NOf r0 - 1) = k at k0 k1 e
    by_cases hk : one + 1 + k < NOf r0
    · rw [Int.emod_eq_of_lt (by omega) hk] at e
      omega
    · have := Int.emod_eq_of_lt (a := one + 1 + k - NOf r0) (b := NOf r0) (by omega) (by omega)
      rw [Int.sub_emod_right] at this
      omega
  simp only [ho]
  refine ⟨small (show 3 ≤ 16777216 by decide), fun d nd => ?_⟩
  generalize hH2 : upd H1 d (.lst [V.str "done", V.str "done", V.str "done"]) = H2
  have s2 : Same H1 H2 := hH2 ▸ same_upd nd
  have e2 : H2 d = some (.lst ((["done", "done", "done"] : List Str).map V.str)) := hH2 ▸ upd_same
  clear hH2
  -- the people
  refine ⟨fun σ H' => ∃ (other : Int) (d : Addr), σ = [some (.ref a), some (.int far), some (.ref p), some (.int (NOf r0)), some (.int one), some (.int other), some (.ref d), none, none, none, none] ∧ Same H2 H' ∧ H' d = some (.lst ((dueOf r0 one other).map V.str)), ?_, ?_⟩
  · refine ⟨_, rfl, a, ns, 11, rfl, (s1.trans s2).seq hS, by decide, _, _, rfl, rfl, (by decide : (0 : Int) < 3), rfl, _, rfl, ite2 (fun c => ?_) (fun c => ?_)⟩
    · refine ⟨_, rfl, _, rfl, _, rfl, _, rfl, _, _, rfl, rfl, _, rfl, _, rfl, _, _, rfl, rfl, small (show 4 ≤ 16777216 by decide), fun m nm => ?_⟩
      obtain ⟨vs4, hv4⟩ : ∃ vs4 : List Int, vs4 = [-1, NOf r0, -1 - far, NOf r0 + far] := ⟨_, rfl⟩
      generalize hH3 : upd H2 m _ = H3
      have s3 : Same H2 H3 := hH3 ▸ same_upd nm
      have e3 : H3 m = some (.lst (vs4.map V.int)) := by
        rw [hv4, ← hH3]
        exact upd_same
      clear hH3
      have hk0 := Int.emod_nonneg (cellAt ns 11 / 3) (show (4 : Int) ≠ 0 by decide)
      have hk1 := Int.emod_lt_of_pos (cellAt ns 11 / 3) (show (0 : Int) < 4 by decide)
      obtain ⟨u, hu, hux⟩ : ∃ u, vs4[(cellAt ns 11 / 3 % 4).toNat]? = some u ∧ ¬ (0 ≤ u ∧ u < NOf r0) := by
        have h4 : (cellAt ns 11 / 3 % 4).toNat = 0 ∨ (cellAt ns 11 / 3 % 4).toNat = 1 ∨ (cellAt ns 11 / 3 % 4).toNat = 2 ∨ (cellAt ns 11 / 3 % 4).toNat = 3 := by omega
        rcases h4 with h | h | h | h <;> rw [h, hv4] <;> exact ⟨_, rfl, by omega⟩
      refine ⟨_, rfl, a, ns, 11, rfl, ((s1.trans s2).trans s3).seq hS, by decide, _, _, rfl, rfl, ⟨by decide, by decide⟩, _, _, rfl, rfl, (by decide : (0 : Int) < 4), m, _, _, V.int u, rfl, rfl, SqL.of e3, at_ints hk0 hu, small (show 3 ≤ 16777216 by decide), fun d2 nd2 => ⟨u, d2, rfl, s3.new nd2, ?_⟩⟩
      rw [due_far hR hux]
      exact upd_same
    · refine ⟨_, rfl, a, ns, 11, rfl, (s1.trans s2).seq hS, by decide, _, _, rfl, rfl, (by decide : (0 : Int) < 3), rfl, _, rfl, ite2 (fun c => ?_) (fun c => ?_)⟩
      · refine ⟨_, rfl, small (show 3 ≤ 16777216 by decide), fun d2 nd2 => ⟨one, d2, rfl, same_upd nd2, ?_⟩⟩
        rw [due_same hR ⟨o0, o1⟩]
        exact upd_same
      · exact ⟨other, d, rfl, Same.refl _, by rw [due_good hR ⟨o0, o1⟩ ⟨t0, t1⟩ t2]; exact e2⟩
  clear t0 t1 t2 ho other e2
  rintro σ H3 ⟨other, d', rfl, s3, e3⟩
  have s13 := (s1.trans s2).trans s3
  have e1' := (s2.trans s3) _ _ e1
  clear nd s2 d s3
  -- the row
  refine ⟨fun σ H' => ∃ (r : List Int) (p d : Addr), σ = [some (.ref a), some (.int far), some (.ref p), some (.int (NOf r0)), some (.int one), some (.int other), some (.ref d), none, none, none, none] ∧ Same H H' ∧ H' p = some (.lst (r.map V.int)) ∧ H' d = some (.lst ((dueOf r one other).map V.str)) ∧ r.length ≤ 100 ∧ (isRow r = true → r.length ≤ 18), ?_, ?_⟩
  · refine ⟨_, rfl, a, ns, 12, rfl, s13.seq hS, by decide, _, _, rfl, rfl, (by decide : (0 : Int) < 3), rfl, _, rfl, ite2 (fun c => ?_) (fun c => ?_)⟩
    · refine ⟨_, rfl, _, rfl, a, p, ns, r0, rfl, s13.seq hS, e1', hR, h18, fun r' H' p' hr' hl' s4 e4 => ⟨small (show 3 ≤ 16777216 by decide), fun d2 nd2 => ⟨r', p', d2, rfl, (s13.trans s4).new nd2, same_upd nd2 _ _ e4, ?_, hl', fun z => by rw [hr'] at z; cases z⟩⟩⟩
      rw [due_none hr']
      exact upd_same
    · exact ⟨r0, p, d', rfl, s13, e1', e3, by omega, fun _ => h18⟩
  clear e1' e3 s13 s1 e1
  rintro σ H4 ⟨r, p', d', rfl, s4, e4, e4d, hl, hl18⟩
  refine ⟨_, rfl, a, ns, 13, rfl, s4.seq hS, by decide, _, _, rfl, rfl, (by decide : (0 : Int) < 12), _, _, rfl, rfl, ?_⟩
  refine ⟨_, rfl, a, ns, 14, rfl, s4.seq hS, by decide, _, _, rfl, rfl, (by decide : (0 : Int) < 3), rfl, ?_⟩
  obtain ⟨sz0, hsz0, z0, z1⟩ : ∃ sz0 : Int, 1 + cellAt ns 13 % 12 = sz0 ∧ 1 ≤ sz0 ∧ sz0 ≤ 12 := ⟨_, rfl, by omega, by omega⟩
  simp only [hsz0]
  obtain ⟨bad, hbad⟩ : ∃ bad : Bool, decide (V.int (cellAt ns 14 % 3) = V.int 1) = bad := ⟨_, rfl⟩
  simp only [hbad]
  refine ⟨fun σ H' => ∃ size : Int, σ = [some (.ref a), some (.int far), some (.ref p'), some (.int (NOf r0)), some (.int one), some (.int other), some (.ref d'), some (.int size), some (.bl bad), none, none] ∧ Same H4 H' ∧ (bad = true → ¬ (1 ≤ size ∧ size ≤ 400)) ∧ (bad = false → 1 ≤ size ∧ size ≤ 12), ?_, ?_⟩
  · refine ⟨_, rfl, bad, rfl, ite2 (fun c => ?_) (fun c => ?_)⟩
    · refine ⟨_, rfl, _, _, rfl, rfl, _, rfl, _, _, rfl, rfl, small (show 4 ≤ 16777216 by decide), fun m nm => ?_⟩
      obtain ⟨vs4, hv4⟩ : ∃ vs4 : List Int, vs4 = [0, 401, 0 - far, 401 + far] := ⟨_, rfl⟩
      generalize hH3 : upd H4 m _ = H5
      have s5 : Same H4 H5 := hH3 ▸ same_upd nm
      have e5 : H5 m = some (.lst (vs4.map V.int)) := by
        rw [hv4, ← hH3]
        exact upd_same
      clear hH3
      have hk0 := Int.emod_nonneg (cellAt ns 14 / 3) (show (4 : Int) ≠ 0 by decide)
      have hk1 := Int.emod_lt_of_pos (cellAt ns 14 / 3) (show (0 : Int) < 4 by decide)
      obtain ⟨u, hu, hux⟩ : ∃ u, vs4[(cellAt ns 14 / 3 % 4).toNat]? = some u ∧ ¬ (1 ≤ u ∧ u ≤ 400) := by
        have h4 : (cellAt ns 14 / 3 % 4).toNat = 0 ∨ (cellAt ns 14 / 3 % 4).toNat = 1 ∨ (cellAt ns 14 / 3 % 4).toNat = 2 ∨ (cellAt ns 14 / 3 % 4).toNat = 3 := by omega
        rcases h4 with h | h | h | h <;> rw [h, hv4] <;> exact ⟨_, rfl, by omega⟩
      exact ⟨_, rfl, a, ns, 14, rfl, (s4.trans s5).seq hS, by decide, _, _, rfl, rfl, ⟨by decide, by decide⟩, _, _, rfl, rfl, (by decide : (0 : Int) < 4), m, _, _, V.int u, rfl, rfl, SqL.of e5, at_ints hk0 hu, u, rfl, s5, fun _ => hux, fun z => by rw [c] at z; cases z⟩
    · exact ⟨sz0, rfl, Same.refl _, fun z => absurd z c, fun _ => ⟨z0, z1⟩⟩
  clear z0 z1 hsz0 sz0 hbad
  rintro σ H5 ⟨size, rfl, s5, hb, hg⟩
  have e5 := s5 _ _ e4
  have e5d := s5 _ _ e4d
  have s05 := s4.trans s5
  clear e4 e4d s4 s5
  refine ⟨14, rfl, by decide, by decide, ?_⟩
  refine for_range (lo := 0) (n := 14) (fun i σ H' => ∃ y9 y10, σ = [some (.ref a), some (.int far), some (.ref p'), some (.int (NOf r0)), some (.int one), some (.int other), some (.ref d'), some (.int size), some (.bl bad), y9, y10] ∧ Same H5 H') ⟨none, none, rfl, Same.refl _⟩ ?_ ?_
  · rintro i σ H6 hi ⟨y9, y10, rfl, s6⟩
    obtain ⟨wh, hwh, w0, w14⟩ : ∃ wh : Int, 0 + (i : Int) = wh ∧ 0 ≤ wh ∧ wh < 14 := ⟨_, rfl, by omega, by omega⟩
    rw [hwh]
    refine ⟨_, rfl, _, rfl, _, _, rfl, rfl, .inr ⟨_, rfl, _, rfl, _, _, rfl, rfl, .inr ⟨_, rfl, _, _, rfl, rfl, d', _, _, _, rfl, rfl, SqL.of (s6 _ _ e5d), due_at, ?_⟩⟩⟩
    refine ⟨fun σ H' => σ = [some (.ref a), some (.int far), some (.ref p'), some (.int (NOf r0)), some (.int one), some (.int other), some (.ref d'), some (.int size), some (.bl bad), some (.int wh), some (.str (wanted1 wh size bad (dueOf r one other)))] ∧ Same H5 H', ?_, ?_⟩
    · refine ⟨_, rfl, _, _, rfl, rfl, _, rfl, ite2 (fun c => ?_) (fun c => ?_)⟩
      · have c' : wh < 5 := of_decide_eq_true c
        have yes : (bad = true ∨ (wh = 3 ∧ 8 < size) ∨ (wh = 4 ∧ 5 < size)) → wanted1 wh size bad (dueOf r one other) = "size" := fun z => by
          unfold wanted1
          rw [if_pos c', if_pos z]
        have non : ¬ (bad = true ∨ (wh = 3 ∧ 8 < size) ∨ (wh = 4 ∧ 5 < size)) → wanted1 wh size bad (dueOf r one other) = "done" := fun z => by
          unfold wanted1
          rw [if_pos c', if_neg z]
        refine ⟨small (show 2 ≤ 16777216 by decide), fun m nm => ?_⟩
        refine ⟨_, rfl, bad, rfl, ite2 (fun c1 => ?_) (fun c1 => ?_)⟩
        · exact .inr ⟨true, rfl, m, _, _, V.str "size", rfl, rfl, SqL.of upd_same, atI_nat (j := 1) rfl, by rw [yes (.inl c1)]; rfl, s6.new nm⟩
        · refine ⟨_, rfl, rfl, _, rfl, ite2 (fun c2 => ?_) (fun c2 => ?_)⟩
          · have e3 : wh = 3 := V.int.inj (of_decide_eq_true c2)
            refine ⟨_, rfl, _, _, rfl, rfl, _, rfl, ite2 (fun c3 => ?_) (fun c3 => ?_)⟩
            · exact .inr ⟨true, rfl, m, _, _, V.str "size", rfl, rfl, SqL.of upd_same, atI_nat (j := 1) rfl, by rw [yes (.inr (.inl ⟨e3, of_decide_eq_true c3⟩))]; rfl, s6.new nm⟩
            · have c3' : ¬ 8 < size := fun z => c3 (decide_eq_true z)
              refine ⟨_, rfl, rfl, _, rfl, ite2 (fun c4 => ?_) (fun c4 => ?_)⟩
              · have e4 : wh = 4 := V.int.inj (of_decide_eq_true c4)
                omega
              · exact .inr ⟨false, rfl, m, _, _, V.str "done", rfl, rfl, SqL.of upd_same, atI_nat (j := 0) rfl, by rw [non (fun z => by rcases z with z | z | z <;> first | exact c1 z | omega)]; rfl, s6.new nm⟩
          · have e3 : ¬ wh = 3 := fun z => c2 (decide_eq_true (congrArg V.int z))
            refine ⟨_, rfl, ite2 (fun c9 => nomatch c9) (fun _ => ?_)⟩
            refine ⟨_, rfl, rfl, _, rfl, ite2 (fun c4 => ?_) (fun c4 => ?_)⟩
            · have e4 : wh = 4 := V.int.inj (of_decide_eq_true c4)
              refine ⟨_, rfl, _, _, rfl, rfl, .inr ⟨decide (5 < size), rfl, ?_⟩⟩
              by_cases c5 : 5 < size
              · rw [decide_eq_true c5]
                exact ⟨m, _, _, V.str "size", rfl, rfl, SqL.of upd_same, atI_nat (j := 1) rfl, by rw [yes (.inr (.inr ⟨e4, c5⟩))]; rfl, s6.new nm⟩
              · rw [decide_eq_false c5]
                exact ⟨m, _, _, V.str "done", rfl, rfl, SqL.of upd_same, atI_nat (j := 0) rfl, by rw [non (fun z => by rcases z with z | z | z <;> first | exact c1 z | omega)]; rfl, s6.new nm⟩
            · have e4 : ¬ wh = 4 := fun z => c4 (decide_eq_true (congrArg V.int z))
              exact .inr ⟨false, rfl, m, _, _, V.str "done", rfl, rfl, SqL.of upd_same, atI_nat (j := 0) rfl, by rw [non (fun z => by rcases z with z | z | z <;> first | exact c1 z | omega)]; rfl, s6.new nm⟩
      · have c' : ¬ wh < 5 := fun z => c (decide_eq_true z)
        refine ⟨?_, s6⟩
        unfold wanted1
        rw [if_neg c']
        rfl
    rintro σ H7 ⟨rfl, s7⟩
    refine ⟨fun σ H' => σ = [some (.ref a), some (.int far), some (.ref p'), some (.int (NOf r0)), some (.int one), some (.int other), some (.ref d'), some (.int size), some (.bl bad), some (.int wh), some (.str (wanted2 wh size bad (dueOf r one other)))] ∧ Same H5 H', ?_, ?_⟩
    · have non : ¬ (wh = 2 ∧ bad = false ∧ 1 < size % 4) → wanted2 wh size bad (dueOf r one other) = wanted1 wh size bad (dueOf r one other) := fun z => by
        unfold wanted2
        rw [if_neg z]
      refine ⟨_, rfl, rfl, _, rfl, ite2 (fun c => ?_) (fun c => ?_)⟩
      · have e2 : wh = 2 := V.int.inj (of_decide_eq_true c)
        refine ⟨_, rfl, bad, rfl, ite2 (fun c3 => ?_) (fun c3 => ?_)⟩
        · have c3' : bad = false := by
            cases bad
            · rfl
            · exact nomatch c3
          refine ⟨_, rfl, _, _, rfl, rfl, (by decide : (0 : Int) < 4), _, _, rfl, rfl, _, rfl, ite2 (fun c4 => ?_) (fun c4 => ?_)⟩
          · refine ⟨?_, s7⟩
            have e : wanted2 wh size bad (dueOf r one other) = "such" := by
              unfold wanted2
              rw [if_pos ⟨e2, c3', of_decide_eq_true c4⟩]
            rw [e]
            rfl
          · exact ⟨by rw [non fun z => c4 (decide_eq_true z.2.2)], s7⟩
        · exact iteF ⟨by rw [non fun z => c3 (by rw [z.2.1]; rfl)], s7⟩
      · have e2 : ¬ wh = 2 := fun z => c (decide_eq_true (congrArg V.int z))
        exact iteF ⟨by rw [non fun z => e2 z.1], s7⟩
    rintro σ H8 ⟨rfl, s8⟩
    refine ⟨_, rfl, _, rfl, _, rfl, p', _, rfl, .inl (SqL.of (s8 _ _ e5)), fun l nl => ?_⟩
    refine ⟨_, rfl, _, rfl, wh, size, l, r, one, other, rfl, SqL.of upd_same, by omega, fun H9 s9 => ?_⟩
    rw [wanted_tried w0 w14 hb hg hl18]
    refine ⟨_, rfl, rfl, _, rfl, iteFa (by rw [decide_eq_true rfl]; rfl) ?_⟩
    exact ⟨_, _, rfl, (s8.new nl).trans s9⟩
  · rintro σ H6 ⟨y9, y10, rfl, s6⟩
    have t12 : triedWord 9 1 (rowOf 12) 0 1 = "size" := by
      have e : isRow (rowOf 12) = true := rowOf_row (by decide) (by decide) (by decide)
      have l : (rowOf 12).length = 24 := rowOf_length 12
      unfold triedWord
      rw [first_out (by decide)]
      unfold secondErr
      simp [e, l, classWords]
    have t9 : triedWord 9 1 (rowOf 9) 0 1 = "done" := by
      have e : isRow (rowOf 9) = true := rowOf_row (by decide) (by decide) (by decide)
      have l : (rowOf 9).length = 18 := rowOf_length 9
      unfold triedWord
      rw [first_out (by decide)]
      unfold secondErr
      simp [e, l]
    have l12 : (rowOf 12).length = 24 := rowOf_length 12
    have l9 : (rowOf 9).length = 18 := rowOf_length 9
    refine ⟨12, rfl, (fun c => absurd ⟨by decide, by decide⟩ c), (fun _ c => absurd (by decide) c), fun _ _ H7 p7 s7 np7 e7 => ?_⟩
    refine ⟨9, 1, p7, rowOf 12, 0, 1, rfl, SqL.of e7, by omega, fun H8 s8 => ?_⟩
    rw [t12]
    refine ⟨rfl, _, rfl, iteTr (decide_eq_true rfl) ?_⟩
    refine ⟨9, rfl, (fun c => absurd ⟨by decide, by decide⟩ c), (fun _ c => absurd (by decide) c), fun _ _ H9 p9 s9 np9 e9 => ?_⟩
    refine ⟨9, 1, p9, rowOf 9, 0, 1, rfl, SqL.of e9, by omega, fun H10 s10 => ?_⟩
    rw [t9]
    refine ⟨rfl, ?_⟩
    rw [decide_eq_true rfl]
    exact q _
end
-- CLOSED
/-! ### what the top has written -/
theorem all_mk {l : PySem.W.OpenLaw} {w : World} {K : PySem.W.Frag} {h : Heap} {mg : Str → Option Value} {fa : Addr} (X : K.In h) (G : h.Ns mainGlobals mg) (hfa : mg "law" = some (.ref fa))
    {f0 : Addr} {od0 an0 : Option Addr} {sl0 : Array (Option Value)} {oc0 kV0 dc0 pm0 cd0 ct0 : Value}
    {f1 : Addr} {od1 an1 : Option Addr} {sl1 : Array (Option Value)} {oc1 kV1 dc1 pm1 cd1 ct1 : Value}
    {f2 : Addr} {od2 an2 : Option Addr} {sl2 : Array (Option Value)} {oc2 kV2 dc2 pm2 cd2 ct2 : Value}
    {f3 : Addr} {od3 an3 : Option Addr} {sl3 : Array (Option Value)} {oc3 kV3 dc3 pm3 cd3 ct3 : Value}
    {f4 : Addr} {od4 an4 : Option Addr} {sl4 : Array (Option Value)} {oc4 kV4 dc4 pm4 cd4 ct4 : Value}
    {f5 : Addr} {od5 an5 : Option Addr} {sl5 : Array (Option Value)} {oc5 kV5 dc5 pm5 cd5 ct5 : Value}
    {f6 : Addr} {od6 an6 : Option Addr} {sl6 : Array (Option Value)} {oc6 kV6 dc6 pm6 cd6 ct6 : Value}
    {f7 : Addr} {od7 an7 : Option Addr} {sl7 : Array (Option Value)} {oc7 kV7 dc7 pm7 cd7 ct7 : Value}
    {f8 : Addr} {od8 an8 : Option Addr} {sl8 : Array (Option Value)} {oc8 kV8 dc8 pm8 cd8 ct8 : Value}
    {f9 : Addr} {od9 an9 : Option Addr} {sl9 : Array (Option Value)} {oc9 kV9 dc9 pm9 cd9 ct9 : Value}
    {f10 : Addr} {od10 an10 : Option Addr} {sl10 : Array (Option Value)} {oc10 kV10 dc10 pm10 cd10 ct10 : Value}
    {f11 : Addr} {od11 an11 : Option Addr} {sl11 : Array (Option Value)} {oc11 kV11 dc11 pm11 cd11 ct11 : Value}
    {f12 : Addr} {od12 an12 : Option Addr} {sl12 : Array (Option Value)} {oc12 kV12 dc12 pm12 cd12 ct12 : Value}
    {f13 : Addr} {od13 an13 : Option Addr} {sl13 : Array (Option Value)} {oc13 kV13 dc13 pm13 cd13 ct13 : Value}
    {f14 : Addr} {od14 an14 : Option Addr} {sl14 : Array (Option Value)} {oc14 kV14 dc14 pm14 cd14 ct14 : Value}
    {f15 : Addr} {od15 an15 : Option Addr} {sl15 : Array (Option Value)} {oc15 kV15 dc15 pm15 cd15 ct15 : Value}
    {f16 : Addr} {od16 an16 : Option Addr} {sl16 : Array (Option Value)} {oc16 kV16 dc16 pm16 cd16 ct16 : Value}
    {f17 : Addr} {od17 an17 : Option Addr} {sl17 : Array (Option Value)} {oc17 kV17 dc17 pm17 cd17 ct17 : Value}
    {f18 : Addr} {od18 an18 : Option Addr} {sl18 : Array (Option Value)} {oc18 kV18 dc18 pm18 cd18 ct18 : Value}
    {f19 : Addr} {od19 an19 : Option Addr} {sl19 : Array (Option Value)} {oc19 kV19 dc19 pm19 cd19 ct19 : Value}
    {f20 : Addr} {od20 an20 : Option Addr} {sl20 : Array (Option Value)} {oc20 kV20 dc20 pm20 cd20 ct20 : Value}
    {f21 : Addr} {od21 an21 : Option Addr} {sl21 : Array (Option Value)} {oc21 kV21 dc21 pm21 cd21 ct21 : Value}
    {f22 : Addr} {od22 an22 : Option Addr} {sl22 : Array (Option Value)} {oc22 kV22 dc22 pm22 cd22 ct22 : Value}
    {f23 : Addr} {od23 an23 : Option Addr} {sl23 : Array (Option Value)} {oc23 kV23 dc23 pm23 cd23 ct23 : Value}
    {f24 : Addr} {od24 an24 : Option Addr} {sl24 : Array (Option Value)} {oc24 kV24 dc24 pm24 cd24 ct24 : Value}
    {f25 : Addr} {od25 an25 : Option Addr} {sl25 : Array (Option Value)} {oc25 kV25 dc25 pm25 cd25 ct25 : Value}
    {f26 : Addr} {od26 an26 : Option Addr} {sl26 : Array (Option Value)} {oc26 kV26 dc26 pm26 cd26 ct26 : Value}
    {f27 : Addr} {od27 an27 : Option Addr} {sl27 : Array (Option Value)} {oc27 kV27 dc27 pm27 cd27 ct27 : Value}
    {f28 : Addr} {od28 an28 : Option Addr} {sl28 : Array (Option Value)} {oc28 kV28 dc28 pm28 cd28 ct28 : Value}
    {f29 : Addr} {od29 an29 : Option Addr} {sl29 : Array (Option Value)} {oc29 kV29 dc29 pm29 cd29 ct29 : Value}
    {f30 : Addr} {od30 an30 : Option Addr} {sl30 : Array (Option Value)} {oc30 kV30 dc30 pm30 cd30 ct30 : Value}
    {f31 : Addr} {od31 an31 : Option Addr} {sl31 : Array (Option Value)} {oc31 kV31 dc31 pm31 cd31 ct31 : Value}
    {f32 : Addr} {od32 an32 : Option Addr} {sl32 : Array (Option Value)} {oc32 kV32 dc32 pm32 cd32 ct32 : Value}
    {f33 : Addr} {od33 an33 : Option Addr} {sl33 : Array (Option Value)} {oc33 kV33 dc33 pm33 cd33 ct33 : Value}
    {f34 : Addr} {od34 an34 : Option Addr} {sl34 : Array (Option Value)} {oc34 kV34 dc34 pm34 cd34 ct34 : Value}
    {f35 : Addr} {od35 an35 : Option Addr} {sl35 : Array (Option Value)} {oc35 kV35 dc35 pm35 cd35 ct35 : Value}
    {f36 : Addr} {od36 an36 : Option Addr} {sl36 : Array (Option Value)} {oc36 kV36 dc36 pm36 cd36 ct36 : Value}
    {tk0 : Tok}
    {tk1 : Tok}
    {tk2 : Tok}
    {tk3 : Tok}
    {C0 : Addr}
    {C1 : Addr}
    {C2 : Addr}
    {C3 : Addr}
    {C4 : Addr}
    {C5 : Addr}
    (a0 : PySem.W.nsIn K mainGlobals "asked_size" = some (some (.ref f0))) (l0 : K.lookup f0 = some ⟨oc0, od0, .func (PySem.W.fnOf "asked_size" "asked_size" (defArgs st_asked_size) (defBody st_asked_size) (defScope st_asked_size) .none kV0 dc0 pm0 an0 cd0 ct0), sl0⟩) (c0 : PySem.W.codeIn K cd0 "asked_size" = true) (k0 : PySem.W.keepIn K (.ref f0) = true)
    (a1 : PySem.W.nsIn K mainGlobals "found_places" = some (some (.ref f1))) (l1 : K.lookup f1 = some ⟨oc1, od1, .func (PySem.W.fnOf "found_places" "found_places" (defArgs st_found_places) (defBody st_found_places) (defScope st_found_places) .none kV1 dc1 pm1 an1 cd1 ct1), sl1⟩) (c1 : PySem.W.codeIn K cd1 "found_places" = true) (k1 : PySem.W.keepIn K (.ref f1) = true)
    (a2 : PySem.W.nsIn K mainGlobals "is_row" = some (some (.ref f2))) (l2 : K.lookup f2 = some ⟨oc2, od2, .func (PySem.W.fnOf "is_row" "is_row" (defArgs st_is_row) (defBody st_is_row) (defScope st_is_row) .none kV2 dc2 pm2 an2 cd2 ct2), sl2⟩) (c2 : PySem.W.codeIn K cd2 "is_row" = true) (k2 : PySem.W.keepIn K (.ref f2) = true)
    (a3 : PySem.W.nsIn K mainGlobals "asked_row" = some (some (.ref f3))) (l3 : K.lookup f3 = some ⟨oc3, od3, .func (PySem.W.fnOf "asked_row" "asked_row" (defArgs st_asked_row) (defBody st_asked_row) (defScope st_asked_row) .none kV3 dc3 pm3 an3 cd3 ct3), sl3⟩) (c3 : PySem.W.codeIn K cd3 "asked_row" = true) (k3 : PySem.W.keepIn K (.ref f3) = true)
    (a4 : PySem.W.nsIn K mainGlobals "contrary" = some (some (.ref f4))) (l4 : K.lookup f4 = some ⟨oc4, od4, .func (PySem.W.fnOf "contrary" "contrary" (defArgs st_contrary) (defBody st_contrary) (defScope st_contrary) .none kV4 dc4 pm4 an4 cd4 ct4), sl4⟩) (c4 : PySem.W.codeIn K cd4 "contrary" = true) (k4 : PySem.W.keepIn K (.ref f4) = true)
    (a5 : PySem.W.nsIn K mainGlobals "places_by" = some (some (.ref f5))) (l5 : K.lookup f5 = some ⟨oc5, od5, .func (PySem.W.fnOf "places_by" "places_by" (defArgs st_places_by) (defBody st_places_by) (defScope st_places_by) .none kV5 dc5 pm5 an5 cd5 ct5), sl5⟩) (c5 : PySem.W.codeIn K cd5 "places_by" = true) (k5 : PySem.W.keepIn K (.ref f5) = true)
    (a6 : PySem.W.nsIn K mainGlobals "places" = some (some (.ref f6))) (l6 : K.lookup f6 = some ⟨oc6, od6, .func (PySem.W.fnOf "places" "places" (defArgs st_places) (defBody st_places) (defScope st_places) .none kV6 dc6 pm6 an6 cd6 ct6), sl6⟩) (c6 : PySem.W.codeIn K cd6 "places" = true) (k6 : PySem.W.keepIn K (.ref f6) = true)
    (a7 : PySem.W.nsIn K mainGlobals "can_be" = some (some (.ref f7))) (l7 : K.lookup f7 = some ⟨oc7, od7, .func (PySem.W.fnOf "can_be" "can_be" (defArgs st_can_be) (defBody st_can_be) (defScope st_can_be) .none kV7 dc7 pm7 an7 cd7 ct7), sl7⟩) (c7 : PySem.W.codeIn K cd7 "can_be" = true) (k7 : PySem.W.keepIn K (.ref f7) = true)
    (a8 : PySem.W.nsIn K mainGlobals "reckoned" = some (some (.ref f8))) (l8 : K.lookup f8 = some ⟨oc8, od8, .func (PySem.W.fnOf "reckoned" "reckoned" (defArgs st_reckoned) (defBody st_reckoned) (defScope st_reckoned) .none kV8 dc8 pm8 an8 cd8 ct8), sl8⟩) (c8 : PySem.W.codeIn K cd8 "reckoned" = true) (k8 : PySem.W.keepIn K (.ref f8) = true)
    (a9 : PySem.W.nsIn K mainGlobals "pairs_of_four" = some (some (.ref f9))) (l9 : K.lookup f9 = some ⟨oc9, od9, .func (PySem.W.fnOf "pairs_of_four" "pairs_of_four" (defArgs st_pairs_of_four) (defBody st_pairs_of_four) (defScope st_pairs_of_four) .none kV9 dc9 pm9 an9 cd9 ct9), sl9⟩) (c9 : PySem.W.codeIn K cd9 "pairs_of_four" = true) (k9 : PySem.W.keepIn K (.ref f9) = true)
    (a10 : PySem.W.nsIn K mainGlobals "pairs_of_one_more" = some (some (.ref f10))) (l10 : K.lookup f10 = some ⟨oc10, od10, .func (PySem.W.fnOf "pairs_of_one_more" "pairs_of_one_more" (defArgs st_pairs_of_one_more) (defBody st_pairs_of_one_more) (defScope st_pairs_of_one_more) .none kV10 dc10 pm10 an10 cd10 ct10), sl10⟩) (c10 : PySem.W.codeIn K cd10 "pairs_of_one_more" = true) (k10 : PySem.W.keepIn K (.ref f10) = true)
    (a11 : PySem.W.nsIn K mainGlobals "row_of" = some (some (.ref f11))) (l11 : K.lookup f11 = some ⟨oc11, od11, .func (PySem.W.fnOf "row_of" "row_of" (defArgs st_row_of) (defBody st_row_of) (defScope st_row_of) .none kV11 dc11 pm11 an11 cd11 ct11), sl11⟩) (c11 : PySem.W.codeIn K cd11 "row_of" = true) (k11 : PySem.W.keepIn K (.ref f11) = true)
    (a12 : PySem.W.nsIn K mainGlobals "filled" = some (some (.ref f12))) (l12 : K.lookup f12 = some ⟨oc12, od12, .func (PySem.W.fnOf "filled" "filled" (defArgs st_filled) (defBody st_filled) (defScope st_filled) .none kV12 dc12 pm12 an12 cd12 ct12), sl12⟩) (c12 : PySem.W.codeIn K cd12 "filled" = true) (k12 : PySem.W.keepIn K (.ref f12) = true)
    (a13 : PySem.W.nsIn K mainGlobals "many" = some (some (.ref f13))) (l13 : K.lookup f13 = some ⟨oc13, od13, .func (PySem.W.fnOf "many" "many" (defArgs st_many) (defBody st_many) (defScope st_many) .none kV13 dc13 pm13 an13 cd13 ct13), sl13⟩) (c13 : PySem.W.codeIn K cd13 "many" = true) (k13 : PySem.W.keepIn K (.ref f13) = true)
    (a14 : PySem.W.nsIn K mainGlobals "rows" = some (some (.ref f14))) (l14 : K.lookup f14 = some ⟨oc14, od14, .func (PySem.W.fnOf "rows" "rows" (defArgs st_rows) (defBody st_rows) (defScope st_rows) .none kV14 dc14 pm14 an14 cd14 ct14), sl14⟩) (c14 : PySem.W.codeIn K cd14 "rows" = true) (k14 : PySem.W.keepIn K (.ref f14) = true)
    (a15 : PySem.W.nsIn K mainGlobals "people_by" = some (some (.ref f15))) (l15 : K.lookup f15 = some ⟨oc15, od15, .func (PySem.W.fnOf "people_by" "people_by" (defArgs st_people_by) (defBody st_people_by) (defScope st_people_by) .none kV15 dc15 pm15 an15 cd15 ct15), sl15⟩) (c15 : PySem.W.codeIn K cd15 "people_by" = true) (k15 : PySem.W.keepIn K (.ref f15) = true)
    (a16 : PySem.W.nsIn K mainGlobals "people" = some (some (.ref f16))) (l16 : K.lookup f16 = some ⟨oc16, od16, .func (PySem.W.fnOf "people" "people" (defArgs st_people) (defBody st_people) (defScope st_people) .none kV16 dc16 pm16 an16 cd16 ct16), sl16⟩) (c16 : PySem.W.codeIn K cd16 "people" = true) (k16 : PySem.W.keepIn K (.ref f16) = true)
    (a17 : PySem.W.nsIn K mainGlobals "steps_of" = some (some (.ref f17))) (l17 : K.lookup f17 = some ⟨oc17, od17, .func (PySem.W.fnOf "steps_of" "steps_of" (defArgs st_steps_of) (defBody st_steps_of) (defScope st_steps_of) .none kV17 dc17 pm17 an17 cd17 ct17), sl17⟩) (c17 : PySem.W.codeIn K cd17 "steps_of" = true) (k17 : PySem.W.keepIn K (.ref f17) = true)
    (a18 : PySem.W.nsIn K mainGlobals "third_by" = some (some (.ref f18))) (l18 : K.lookup f18 = some ⟨oc18, od18, .func (PySem.W.fnOf "third_by" "third_by" (defArgs st_third_by) (defBody st_third_by) (defScope st_third_by) .none kV18 dc18 pm18 an18 cd18 ct18), sl18⟩) (c18 : PySem.W.codeIn K cd18 "third_by" = true) (k18 : PySem.W.keepIn K (.ref f18) = true)
    (a19 : PySem.W.nsIn K mainGlobals "asked_two" = some (some (.ref f19))) (l19 : K.lookup f19 = some ⟨oc19, od19, .func (PySem.W.fnOf "asked_two" "asked_two" (defArgs st_asked_two) (defBody st_asked_two) (defScope st_asked_two) .none kV19 dc19 pm19 an19 cd19 ct19), sl19⟩) (c19 : PySem.W.codeIn K cd19 "asked_two" = true) (k19 : PySem.W.keepIn K (.ref f19) = true)
    (a20 : PySem.W.nsIn K mainGlobals "third" = some (some (.ref f20))) (l20 : K.lookup f20 = some ⟨oc20, od20, .func (PySem.W.fnOf "third" "third" (defArgs st_third) (defBody st_third) (defScope st_third) .none kV20 dc20 pm20 an20 cd20 ct20), sl20⟩) (c20 : PySem.W.codeIn K cd20 "third" = true) (k20 : PySem.W.keepIn K (.ref f20) = true)
    (a21 : PySem.W.nsIn K mainGlobals "group" = some (some (.ref f21))) (l21 : K.lookup f21 = some ⟨oc21, od21, .func (PySem.W.fnOf "group" "group" (defArgs st_group) (defBody st_group) (defScope st_group) .none kV21 dc21 pm21 an21 cd21 ct21), sl21⟩) (c21 : PySem.W.codeIn K cd21 "group" = true) (k21 : PySem.W.keepIn K (.ref f21) = true)
    (a22 : PySem.W.nsIn K mainGlobals "day_by" = some (some (.ref f22))) (l22 : K.lookup f22 = some ⟨oc22, od22, .func (PySem.W.fnOf "day_by" "day_by" (defArgs st_day_by) (defBody st_day_by) (defScope st_day_by) .none kV22 dc22 pm22 an22 cd22 ct22), sl22⟩) (c22 : PySem.W.codeIn K cd22 "day_by" = true) (k22 : PySem.W.keepIn K (.ref f22) = true)
    (a23 : PySem.W.nsIn K mainGlobals "day" = some (some (.ref f23))) (l23 : K.lookup f23 = some ⟨oc23, od23, .func (PySem.W.fnOf "day" "day" (defArgs st_day) (defBody st_day) (defScope st_day) .none kV23 dc23 pm23 an23 cd23 ct23), sl23⟩) (c23 : PySem.W.codeIn K cd23 "day" = true) (k23 : PySem.W.keepIn K (.ref f23) = true)
    (a24 : PySem.W.nsIn K mainGlobals "is_group" = some (some (.ref f24))) (l24 : K.lookup f24 = some ⟨oc24, od24, .func (PySem.W.fnOf "is_group" "is_group" (defArgs st_is_group) (defBody st_is_group) (defScope st_is_group) .none kV24 dc24 pm24 an24 cd24 ct24), sl24⟩) (c24 : PySem.W.codeIn K cd24 "is_group" = true) (k24 : PySem.W.keepIn K (.ref f24) = true)
    (a25 : PySem.W.nsIn K mainGlobals "groups" = some (some (.ref f25))) (l25 : K.lookup f25 = some ⟨oc25, od25, .func (PySem.W.fnOf "groups" "groups" (defArgs st_groups) (defBody st_groups) (defScope st_groups) .none kV25 dc25 pm25 an25 cd25 ct25), sl25⟩) (c25 : PySem.W.codeIn K cd25 "groups" = true) (k25 : PySem.W.keepIn K (.ref f25) = true)
    (a26 : PySem.W.nsIn K mainGlobals "shown" = some (some (.ref f26))) (l26 : K.lookup f26 = some ⟨oc26, od26, .func (PySem.W.fnOf "shown" "shown" (defArgs st_shown) (defBody st_shown) (defScope st_shown) .none kV26 dc26 pm26 an26 cd26 ct26), sl26⟩) (c26 : PySem.W.codeIn K cd26 "shown" = true) (k26 : PySem.W.keepIn K (.ref f26) = true)
    (a27 : PySem.W.nsIn K mainGlobals "_law_cell_at" = some (some (.ref f27))) (l27 : K.lookup f27 = some ⟨oc27, od27, .func (PySem.W.fnOf "_law_cell_at" "_law_cell_at" (defArgs st_law_cell_at) (defBody st_law_cell_at) (defScope st_law_cell_at) .none kV27 dc27 pm27 an27 cd27 ct27), sl27⟩) (c27 : PySem.W.codeIn K cd27 "_law_cell_at" = true) (k27 : PySem.W.keepIn K (.ref f27) = true)
    (a28 : PySem.W.nsIn K mainGlobals "_law_draw" = some (some (.ref f28))) (l28 : K.lookup f28 = some ⟨oc28, od28, .func (PySem.W.fnOf "_law_draw" "_law_draw" (defArgs st_law_draw) (defBody st_law_draw) (defScope st_law_draw) .none kV28 dc28 pm28 an28 cd28 ct28), sl28⟩) (c28 : PySem.W.codeIn K cd28 "_law_draw" = true) (k28 : PySem.W.keepIn K (.ref f28) = true)
    (a29 : PySem.W.nsIn K mainGlobals "_law_filled" = some (some (.ref f29))) (l29 : K.lookup f29 = some ⟨oc29, od29, .func (PySem.W.fnOf "_law_filled" "_law_filled" (defArgs st_law_filled) (defBody st_law_filled) (defScope st_law_filled) .none kV29 dc29 pm29 an29 cd29 ct29), sl29⟩) (c29 : PySem.W.codeIn K cd29 "_law_filled" = true) (k29 : PySem.W.keepIn K (.ref f29) = true)
    (a30 : PySem.W.nsIn K mainGlobals "_law_small_row" = some (some (.ref f30))) (l30 : K.lookup f30 = some ⟨oc30, od30, .func (PySem.W.fnOf "_law_small_row" "_law_small_row" (defArgs st_law_small_row) (defBody st_law_small_row) (defScope st_law_small_row) .none kV30 dc30 pm30 an30 cd30 ct30), sl30⟩) (c30 : PySem.W.codeIn K cd30 "_law_small_row" = true) (k30 : PySem.W.keepIn K (.ref f30) = true)
    (a31 : PySem.W.nsIn K mainGlobals "_law_word_of" = some (some (.ref f31))) (l31 : K.lookup f31 = some ⟨oc31, od31, .func (PySem.W.fnOf "_law_word_of" "_law_word_of" (defArgs st_law_word_of) (defBody st_law_word_of) (defScope st_law_word_of) .none kV31 dc31 pm31 an31 cd31 ct31), sl31⟩) (c31 : PySem.W.codeIn K cd31 "_law_word_of" = true) (k31 : PySem.W.keepIn K (.ref f31) = true)
    (a32 : PySem.W.nsIn K mainGlobals "_law_first" = some (some (.ref f32))) (l32 : K.lookup f32 = some ⟨oc32, od32, .func (PySem.W.fnOf "_law_first" "_law_first" (defArgs st_law_first) (defBody st_law_first) (defScope st_law_first) .none kV32 dc32 pm32 an32 cd32 ct32), sl32⟩) (c32 : PySem.W.codeIn K cd32 "_law_first" = true) (k32 : PySem.W.keepIn K (.ref f32) = true)
    (a33 : PySem.W.nsIn K mainGlobals "_law_second" = some (some (.ref f33))) (l33 : K.lookup f33 = some ⟨oc33, od33, .func (PySem.W.fnOf "_law_second" "_law_second" (defArgs st_law_second) (defBody st_law_second) (defScope st_law_second) .none kV33 dc33 pm33 an33 cd33 ct33), sl33⟩) (c33 : PySem.W.codeIn K cd33 "_law_second" = true) (k33 : PySem.W.keepIn K (.ref f33) = true)
    (a34 : PySem.W.nsIn K mainGlobals "_law_tried" = some (some (.ref f34))) (l34 : K.lookup f34 = some ⟨oc34, od34, .func (PySem.W.fnOf "_law_tried" "_law_tried" (defArgs st_law_tried) (defBody st_law_tried) (defScope st_law_tried) .none kV34 dc34 pm34 an34 cd34 ct34), sl34⟩) (c34 : PySem.W.codeIn K cd34 "_law_tried" = true) (k34 : PySem.W.keepIn K (.ref f34) = true)
    (a35 : PySem.W.nsIn K mainGlobals "_law_bad_row" = some (some (.ref f35))) (l35 : K.lookup f35 = some ⟨oc35, od35, .func (PySem.W.fnOf "_law_bad_row" "_law_bad_row" (defArgs st_law_bad_row) (defBody st_law_bad_row) (defScope st_law_bad_row) .none kV35 dc35 pm35 an35 cd35 ct35), sl35⟩) (c35 : PySem.W.codeIn K cd35 "_law_bad_row" = true) (k35 : PySem.W.keepIn K (.ref f35) = true)
    (a36 : PySem.W.nsIn K mainGlobals "law" = some (some (.ref f36))) (l36 : K.lookup f36 = some ⟨oc36, od36, .func (PySem.W.fnOf "law" "law" (defArgs st_law) (defBody st_law) (defScope st_law) .none kV36 dc36 pm36 an36 cd36 ct36), sl36⟩) (c36 : PySem.W.codeIn K cd36 "law" = true) (k36 : PySem.W.keepIn K (.ref f36) = true)
    (z0 : PySem.W.nsIn K mainGlobals "len" = some none)
    (z1 : PySem.W.nsIn K mainGlobals "range" = some none)
    (z2 : PySem.W.nsIn K mainGlobals "enumerate" = some none)
    (z3 : PySem.W.nsIn K mainGlobals "list" = some none)
    (z4 : PySem.W.nsIn K mainGlobals "reversed" = some none)
    (z5 : PySem.W.nsIn K mainGlobals "sorted" = some none)
    (z6 : PySem.W.nsIn K mainGlobals "tuple" = some none)
    (z7 : PySem.W.nsIn K mainGlobals "min" = some none)
    (z8 : PySem.W.nsIn K mainGlobals "max" = some none)
    (z9 : PySem.W.nsIn K mainGlobals "isinstance" = some none)
    (z10 : PySem.W.nsIn K mainGlobals "int" = some none)
    (z11 : PySem.W.nsIn K mainGlobals "str" = some none)
    (z12 : PySem.W.nsIn K mainGlobals "bool" = some none)
    (z13 : PySem.W.nsIn K mainGlobals "all" = some none)
    (z14 : PySem.W.nsIn K mainGlobals "ValueError" = some none)
    (q0 : PySem.W.nsIn K mainGlobals "MOST" = some (some (.int 400 tk0)))
    (q1 : PySem.W.nsIn K mainGlobals "MOST_COUNTED" = some (some (.int 8 tk1)))
    (q2 : PySem.W.nsIn K mainGlobals "MOST_LISTED" = some (some (.int 5 tk2)))
    (q3 : PySem.W.nsIn K mainGlobals "MOST_GROUPED" = some (some (.int 9 tk3)))
    (eg0 : PySem.W.nsIn K mainGlobals "NoSize" = some (some (.ref C0))) (ex0 : PySem.W.excIn K C0 [.type "ValueError", .type "Exception", .type "BaseException", .type "object"] "ValueError.__new__" = true) (ee0 : PySem.W.keepIn K (.ref C0) = true) (eb0 : PySem.W.subIn K (.ref C0) (.type "BaseException") = some true) (et0 : PySem.W.typeIn K (.ref C0) = some (.type "type"))
    (eg1 : PySem.W.nsIn K mainGlobals "NoSuch" = some (some (.ref C1))) (ex1 : PySem.W.excIn K C1 [.type "ValueError", .type "Exception", .type "BaseException", .type "object"] "ValueError.__new__" = true) (ee1 : PySem.W.keepIn K (.ref C1) = true) (eb1 : PySem.W.subIn K (.ref C1) (.type "BaseException") = some true) (et1 : PySem.W.typeIn K (.ref C1) = some (.type "type"))
    (eg2 : PySem.W.nsIn K mainGlobals "NoRow" = some (some (.ref C2))) (ex2 : PySem.W.excIn K C2 [.type "ValueError", .type "Exception", .type "BaseException", .type "object"] "ValueError.__new__" = true) (ee2 : PySem.W.keepIn K (.ref C2) = true) (eb2 : PySem.W.subIn K (.ref C2) (.type "BaseException") = some true) (et2 : PySem.W.typeIn K (.ref C2) = some (.type "type"))
    (eg3 : PySem.W.nsIn K mainGlobals "NoPerson" = some (some (.ref C3))) (ex3 : PySem.W.excIn K C3 [.type "ValueError", .type "Exception", .type "BaseException", .type "object"] "ValueError.__new__" = true) (ee3 : PySem.W.keepIn K (.ref C3) = true) (eb3 : PySem.W.subIn K (.ref C3) (.type "BaseException") = some true) (et3 : PySem.W.typeIn K (.ref C3) = some (.type "type"))
    (eg4 : PySem.W.nsIn K mainGlobals "NoNote" = some (some (.ref C4))) (ex4 : PySem.W.excIn K C4 [.type "ValueError", .type "Exception", .type "BaseException", .type "object"] "ValueError.__new__" = true) (ee4 : PySem.W.keepIn K (.ref C4) = true) (eb4 : PySem.W.subIn K (.ref C4) (.type "BaseException") = some true) (et4 : PySem.W.typeIn K (.ref C4) = some (.type "type"))
    (eg5 : PySem.W.nsIn K mainGlobals "ApartError" = some (some (.ref C5))) (ex5 : PySem.W.excIn K C5 [.type "ValueError", .type "Exception", .type "BaseException", .type "object"] "ValueError.__new__" = true) (ee5 : PySem.W.keepIn K (.ref C5) = true) (eb5 : PySem.W.subIn K (.ref C5) (.type "BaseException") = some true) (et5 : PySem.W.typeIn K (.ref C5) = some (.type "type"))
    (o0_0 : PySem.W.findIn K (.ref C0) "__getattribute__" = some (some (.builtin "BaseException.__getattribute__")))
    (o0_1 : PySem.W.findIn K (.ref C0) "__getattr__" = some none)
    (o0_2 : PySem.W.subIn K (.ref C0) (.type "BaseException") = some true)
    (o0_3 : PySem.W.hasDictIn K C0 = true)
    (o0_4 : PySem.W.findIn K (.ref C0) "__class__" = some (some (.builtin "object.__class__")))
    (o0_5 : PySem.W.specialIn K (.builtin "object.__class__") "__get__" = some (some (.builtin "getset_descriptor.__get__")))
    (o0_6 : PySem.W.takesIn K (.builtin "object.__class__") = some true)
    (o0_7 : PySem.W.mroIn K C0 (.type "object") = some true)
    (o0_8 : PySem.W.subIn K (.ref C0) (.ref C0) = some true)
    (o0_9 : PySem.W.subIn K (.ref C0) (.ref C1) = some false)
    (o0_10 : PySem.W.subIn K (.ref C0) (.ref C2) = some false)
    (o0_11 : PySem.W.subIn K (.ref C0) (.ref C3) = some false)
    (o0_12 : PySem.W.subIn K (.ref C0) (.ref C4) = some false)
    (o0_13 : PySem.W.subIn K (.ref C0) (.type "ValueError") = some true)
    (o0_14 : PySem.W.subIn K (.ref C0) (.ref C5) = some true)
    (o1_0 : PySem.W.findIn K (.ref C1) "__getattribute__" = some (some (.builtin "BaseException.__getattribute__")))
    (o1_1 : PySem.W.findIn K (.ref C1) "__getattr__" = some none)
    (o1_2 : PySem.W.subIn K (.ref C1) (.type "BaseException") = some true)
    (o1_3 : PySem.W.hasDictIn K C1 = true)
    (o1_4 : PySem.W.findIn K (.ref C1) "__class__" = some (some (.builtin "object.__class__")))
    (o1_5 : PySem.W.specialIn K (.builtin "object.__class__") "__get__" = some (some (.builtin "getset_descriptor.__get__")))
    (o1_6 : PySem.W.takesIn K (.builtin "object.__class__") = some true)
    (o1_7 : PySem.W.mroIn K C1 (.type "object") = some true)
    (o1_8 : PySem.W.subIn K (.ref C1) (.ref C0) = some false)
    (o1_9 : PySem.W.subIn K (.ref C1) (.ref C1) = some true)
    (o1_10 : PySem.W.subIn K (.ref C1) (.ref C2) = some false)
    (o1_11 : PySem.W.subIn K (.ref C1) (.ref C3) = some false)
    (o1_12 : PySem.W.subIn K (.ref C1) (.ref C4) = some false)
    (o1_13 : PySem.W.subIn K (.ref C1) (.type "ValueError") = some true)
    (o1_14 : PySem.W.subIn K (.ref C1) (.ref C5) = some true)
    (o2_0 : PySem.W.findIn K (.ref C2) "__getattribute__" = some (some (.builtin "BaseException.__getattribute__")))
    (o2_1 : PySem.W.findIn K (.ref C2) "__getattr__" = some none)
    (o2_2 : PySem.W.subIn K (.ref C2) (.type "BaseException") = some true)
    (o2_3 : PySem.W.hasDictIn K C2 = true)
    (o2_4 : PySem.W.findIn K (.ref C2) "__class__" = some (some (.builtin "object.__class__")))
    (o2_5 : PySem.W.specialIn K (.builtin "object.__class__") "__get__" = some (some (.builtin "getset_descriptor.__get__")))
    (o2_6 : PySem.W.takesIn K (.builtin "object.__class__") = some true)
    (o2_7 : PySem.W.mroIn K C2 (.type "object") = some true)
    (o2_8 : PySem.W.subIn K (.ref C2) (.ref C0) = some false)
    (o2_9 : PySem.W.subIn K (.ref C2) (.ref C1) = some false)
    (o2_10 : PySem.W.subIn K (.ref C2) (.ref C2) = some true)
    (o2_11 : PySem.W.subIn K (.ref C2) (.ref C3) = some false)
    (o2_12 : PySem.W.subIn K (.ref C2) (.ref C4) = some false)
    (o2_13 : PySem.W.subIn K (.ref C2) (.type "ValueError") = some true)
    (o2_14 : PySem.W.subIn K (.ref C2) (.ref C5) = some true)
    (o3_0 : PySem.W.findIn K (.ref C3) "__getattribute__" = some (some (.builtin "BaseException.__getattribute__")))
    (o3_1 : PySem.W.findIn K (.ref C3) "__getattr__" = some none)
    (o3_2 : PySem.W.subIn K (.ref C3) (.type "BaseException") = some true)
    (o3_3 : PySem.W.hasDictIn K C3 = true)
    (o3_4 : PySem.W.findIn K (.ref C3) "__class__" = some (some (.builtin "object.__class__")))
    (o3_5 : PySem.W.specialIn K (.builtin "object.__class__") "__get__" = some (some (.builtin "getset_descriptor.__get__")))
    (o3_6 : PySem.W.takesIn K (.builtin "object.__class__") = some true)
    (o3_7 : PySem.W.mroIn K C3 (.type "object") = some true)
    (o3_8 : PySem.W.subIn K (.ref C3) (.ref C0) = some false)
    (o3_9 : PySem.W.subIn K (.ref C3) (.ref C1) = some false)
    (o3_10 : PySem.W.subIn K (.ref C3) (.ref C2) = some false)
    (o3_11 : PySem.W.subIn K (.ref C3) (.ref C3) = some true)
    (o3_12 : PySem.W.subIn K (.ref C3) (.ref C4) = some false)
    (o3_13 : PySem.W.subIn K (.ref C3) (.type "ValueError") = some true)
    (o3_14 : PySem.W.subIn K (.ref C3) (.ref C5) = some true)
    (hd0 : PySem.W.hasDictIn K C0 = true)
    (hd1 : PySem.W.hasDictIn K C1 = true)
    (hd2 : PySem.W.hasDictIn K C2 = true)
    (hd3 : PySem.W.hasDictIn K C3 = true)
    (hd4 : PySem.W.hasDictIn K C4 = true)
    (hd5 : PySem.W.hasDictIn K C5 = true)
    : ∃ fd : FuncData, (∀ (s : Shared) (v : Value), BindsTo s fd ⟨[v], []⟩ [("script", v)]) ∧ ∀ base : Heap, K.In base → base.Ns mainGlobals mg → FnOk l.prog w K mg base CX0 lawLevel fa fd ["script"] (spLaw K) := by
  have e := hfa.symm.trans (PySem.W.mg_of X G a36)
  cases e
  have B : Bl mg := ⟨PySem.W.mg_none_of X G z0, PySem.W.mg_none_of X G z1, PySem.W.mg_none_of X G z2, PySem.W.mg_none_of X G z3, PySem.W.mg_none_of X G z4, PySem.W.mg_none_of X G z5, PySem.W.mg_none_of X G z6, PySem.W.mg_none_of X G z7, PySem.W.mg_none_of X G z8, PySem.W.mg_none_of X G z9, PySem.W.mg_none_of X G z10, PySem.W.mg_none_of X G z11, PySem.W.mg_none_of X G z12, PySem.W.mg_none_of X G z13, PySem.W.mg_none_of X G z14⟩
  have D_asked_size : Df K mg "asked_size" st_asked_size ["size", "most"] := ⟨f0, _, fun_mk (st := st_asked_size) l0 c0 k0, (fun_mk (st := st_asked_size) l0 c0 k0).binds (ps := ["size", "most"]) (fun _ _ _ _ _ _ us hl => match us, hl with | [_, _], _ => rfl), PySem.W.mg_of X G a0⟩
  have D_found_places : Df K mg "found_places" st_found_places ["row"] := ⟨f1, _, fun_mk (st := st_found_places) l1 c1 k1, (fun_mk (st := st_found_places) l1 c1 k1).binds (ps := ["row"]) (fun _ _ _ _ _ _ us hl => match us, hl with | [_], _ => rfl), PySem.W.mg_of X G a1⟩
  have D_is_row : Df K mg "is_row" st_is_row ["row"] := ⟨f2, _, fun_mk (st := st_is_row) l2 c2 k2, (fun_mk (st := st_is_row) l2 c2 k2).binds (ps := ["row"]) (fun _ _ _ _ _ _ us hl => match us, hl with | [_], _ => rfl), PySem.W.mg_of X G a2⟩
  have D_asked_row : Df K mg "asked_row" st_asked_row ["row"] := ⟨f3, _, fun_mk (st := st_asked_row) l3 c3 k3, (fun_mk (st := st_asked_row) l3 c3 k3).binds (ps := ["row"]) (fun _ _ _ _ _ _ us hl => match us, hl with | [_], _ => rfl), PySem.W.mg_of X G a3⟩
  have D_contrary : Df K mg "contrary" st_contrary ["row"] := ⟨f4, _, fun_mk (st := st_contrary) l4 c4 k4, (fun_mk (st := st_contrary) l4 c4 k4).binds (ps := ["row"]) (fun _ _ _ _ _ _ us hl => match us, hl with | [_], _ => rfl), PySem.W.mg_of X G a4⟩
  have D_places_by : Df K mg "places_by" st_places_by ["row"] := ⟨f5, _, fun_mk (st := st_places_by) l5 c5 k5, (fun_mk (st := st_places_by) l5 c5 k5).binds (ps := ["row"]) (fun _ _ _ _ _ _ us hl => match us, hl with | [_], _ => rfl), PySem.W.mg_of X G a5⟩
  have D_places : Df K mg "places" st_places ["row"] := ⟨f6, _, fun_mk (st := st_places) l6 c6 k6, (fun_mk (st := st_places) l6 c6 k6).binds (ps := ["row"]) (fun _ _ _ _ _ _ us hl => match us, hl with | [_], _ => rfl), PySem.W.mg_of X G a6⟩
  have D_can_be : Df K mg "can_be" st_can_be ["size"] := ⟨f7, _, fun_mk (st := st_can_be) l7 c7 k7, (fun_mk (st := st_can_be) l7 c7 k7).binds (ps := ["size"]) (fun _ _ _ _ _ _ us hl => match us, hl with | [_], _ => rfl), PySem.W.mg_of X G a7⟩
  have D_reckoned : Df K mg "reckoned" st_reckoned ["size"] := ⟨f8, _, fun_mk (st := st_reckoned) l8 c8 k8, (fun_mk (st := st_reckoned) l8 c8 k8).binds (ps := ["size"]) (fun _ _ _ _ _ _ us hl => match us, hl with | [_], _ => rfl), PySem.W.mg_of X G a8⟩
  have D_pairs_of_four : Df K mg "pairs_of_four" st_pairs_of_four ["fourth"] := ⟨f9, _, fun_mk (st := st_pairs_of_four) l9 c9 k9, (fun_mk (st := st_pairs_of_four) l9 c9 k9).binds (ps := ["fourth"]) (fun _ _ _ _ _ _ us hl => match us, hl with | [_], _ => rfl), PySem.W.mg_of X G a9⟩
  have D_pairs_of_one_more : Df K mg "pairs_of_one_more" st_pairs_of_one_more ["fourth"] := ⟨f10, _, fun_mk (st := st_pairs_of_one_more) l10 c10 k10, (fun_mk (st := st_pairs_of_one_more) l10 c10 k10).binds (ps := ["fourth"]) (fun _ _ _ _ _ _ us hl => match us, hl with | [_], _ => rfl), PySem.W.mg_of X G a10⟩
  have D_row_of : Df K mg "row_of" st_row_of ["size"] := ⟨f11, _, fun_mk (st := st_row_of) l11 c11 k11, (fun_mk (st := st_row_of) l11 c11 k11).binds (ps := ["size"]) (fun _ _ _ _ _ _ us hl => match us, hl with | [_], _ => rfl), PySem.W.mg_of X G a11⟩
  have D_filled : Df K mg "filled" st_filled ["row", "number"] := ⟨f12, _, fun_mk (st := st_filled) l12 c12 k12, (fun_mk (st := st_filled) l12 c12 k12).binds (ps := ["row", "number"]) (fun _ _ _ _ _ _ us hl => match us, hl with | [_, _], _ => rfl), PySem.W.mg_of X G a12⟩
  have D_many : Df K mg "many" st_many ["size"] := ⟨f13, _, fun_mk (st := st_many) l13 c13 k13, (fun_mk (st := st_many) l13 c13 k13).binds (ps := ["size"]) (fun _ _ _ _ _ _ us hl => match us, hl with | [_], _ => rfl), PySem.W.mg_of X G a13⟩
  have D_rows : Df K mg "rows" st_rows ["size"] := ⟨f14, _, fun_mk (st := st_rows) l14 c14 k14, (fun_mk (st := st_rows) l14 c14 k14).binds (ps := ["size"]) (fun _ _ _ _ _ _ us hl => match us, hl with | [_], _ => rfl), PySem.W.mg_of X G a14⟩
  have D_people_by : Df K mg "people_by" st_people_by ["row"] := ⟨f15, _, fun_mk (st := st_people_by) l15 c15 k15, (fun_mk (st := st_people_by) l15 c15 k15).binds (ps := ["row"]) (fun _ _ _ _ _ _ us hl => match us, hl with | [_], _ => rfl), PySem.W.mg_of X G a15⟩
  have D_people : Df K mg "people" st_people ["row"] := ⟨f16, _, fun_mk (st := st_people) l16 c16 k16, (fun_mk (st := st_people) l16 c16 k16).binds (ps := ["row"]) (fun _ _ _ _ _ _ us hl => match us, hl with | [_], _ => rfl), PySem.W.mg_of X G a16⟩
  have D_steps_of : Df K mg "steps_of" st_steps_of ["row"] := ⟨f17, _, fun_mk (st := st_steps_of) l17 c17 k17, (fun_mk (st := st_steps_of) l17 c17 k17).binds (ps := ["row"]) (fun _ _ _ _ _ _ us hl => match us, hl with | [_], _ => rfl), PySem.W.mg_of X G a17⟩
  have D_third_by : Df K mg "third_by" st_third_by ["row", "steps", "one", "other"] := ⟨f18, _, fun_mk (st := st_third_by) l18 c18 k18, (fun_mk (st := st_third_by) l18 c18 k18).binds (ps := ["row", "steps", "one", "other"]) (fun _ _ _ _ _ _ us hl => match us, hl with | [_, _, _, _], _ => rfl), PySem.W.mg_of X G a18⟩
  have D_asked_two : Df K mg "asked_two" st_asked_two ["row", "one", "other"] := ⟨f19, _, fun_mk (st := st_asked_two) l19 c19 k19, (fun_mk (st := st_asked_two) l19 c19 k19).binds (ps := ["row", "one", "other"]) (fun _ _ _ _ _ _ us hl => match us, hl with | [_, _, _], _ => rfl), PySem.W.mg_of X G a19⟩
  have D_third : Df K mg "third" st_third ["row", "one", "other"] := ⟨f20, _, fun_mk (st := st_third) l20 c20 k20, (fun_mk (st := st_third) l20 c20 k20).binds (ps := ["row", "one", "other"]) (fun _ _ _ _ _ _ us hl => match us, hl with | [_, _, _], _ => rfl), PySem.W.mg_of X G a20⟩
  have D_group : Df K mg "group" st_group ["row", "one", "other"] := ⟨f21, _, fun_mk (st := st_group) l21 c21 k21, (fun_mk (st := st_group) l21 c21 k21).binds (ps := ["row", "one", "other"]) (fun _ _ _ _ _ _ us hl => match us, hl with | [_, _, _], _ => rfl), PySem.W.mg_of X G a21⟩
  have D_day_by : Df K mg "day_by" st_day_by ["row", "steps", "person"] := ⟨f22, _, fun_mk (st := st_day_by) l22 c22 k22, (fun_mk (st := st_day_by) l22 c22 k22).binds (ps := ["row", "steps", "person"]) (fun _ _ _ _ _ _ us hl => match us, hl with | [_, _, _], _ => rfl), PySem.W.mg_of X G a22⟩
  have D_day : Df K mg "day" st_day ["row", "person"] := ⟨f23, _, fun_mk (st := st_day) l23 c23 k23, (fun_mk (st := st_day) l23 c23 k23).binds (ps := ["row", "person"]) (fun _ _ _ _ _ _ us hl => match us, hl with | [_, _], _ => rfl), PySem.W.mg_of X G a23⟩
  have D_is_group : Df K mg "is_group" st_is_group ["row", "some"] := ⟨f24, _, fun_mk (st := st_is_group) l24 c24 k24, (fun_mk (st := st_is_group) l24 c24 k24).binds (ps := ["row", "some"]) (fun _ _ _ _ _ _ us hl => match us, hl with | [_, _], _ => rfl), PySem.W.mg_of X G a24⟩
  have D_groups : Df K mg "groups" st_groups ["row"] := ⟨f25, _, fun_mk (st := st_groups) l25 c25 k25, (fun_mk (st := st_groups) l25 c25 k25).binds (ps := ["row"]) (fun _ _ _ _ _ _ us hl => match us, hl with | [_], _ => rfl), PySem.W.mg_of X G a25⟩
  have D_shown : Df K mg "shown" st_shown ["row"] := ⟨f26, _, fun_mk (st := st_shown) l26 c26 k26, (fun_mk (st := st_shown) l26 c26 k26).binds (ps := ["row"]) (fun _ _ _ _ _ _ us hl => match us, hl with | [_], _ => rfl), PySem.W.mg_of X G a26⟩
  have D_law_cell_at : Df K mg "_law_cell_at" st_law_cell_at ["script", "k"] := ⟨f27, _, fun_mk (st := st_law_cell_at) l27 c27 k27, (fun_mk (st := st_law_cell_at) l27 c27 k27).binds (ps := ["script", "k"]) (fun _ _ _ _ _ _ us hl => match us, hl with | [_, _], _ => rfl), PySem.W.mg_of X G a27⟩
  have D_law_draw : Df K mg "_law_draw" st_law_draw ["cell", "k", "bound"] := ⟨f28, _, fun_mk (st := st_law_draw) l28 c28 k28, (fun_mk (st := st_law_draw) l28 c28 k28).binds (ps := ["cell", "k", "bound"]) (fun _ _ _ _ _ _ us hl => match us, hl with | [_, _, _], _ => rfl), PySem.W.mg_of X G a28⟩
  have D_law_filled : Df K mg "_law_filled" st_law_filled ["row", "number", "cell"] := ⟨f29, _, fun_mk (st := st_law_filled) l29 c29 k29, (fun_mk (st := st_law_filled) l29 c29 k29).binds (ps := ["row", "number", "cell"]) (fun _ _ _ _ _ _ us hl => match us, hl with | [_, _, _], _ => rfl), PySem.W.mg_of X G a29⟩
  have D_law_small_row : Df K mg "_law_small_row" st_law_small_row ["script", "first"] := ⟨f30, _, fun_mk (st := st_law_small_row) l30 c30 k30, (fun_mk (st := st_law_small_row) l30 c30 k30).binds (ps := ["script", "first"]) (fun _ _ _ _ _ _ us hl => match us, hl with | [_, _], _ => rfl), PySem.W.mg_of X G a30⟩
  have D_law_word_of : Df K mg "_law_word_of" st_law_word_of ["e"] := ⟨f31, _, fun_mk (st := st_law_word_of) l31 c31 k31, (fun_mk (st := st_law_word_of) l31 c31 k31).binds (ps := ["e"]) (fun _ _ _ _ _ _ us hl => match us, hl with | [_], _ => rfl), PySem.W.mg_of X G a31⟩
  have D_law_first : Df K mg "_law_first" st_law_first ["which", "size", "row"] := ⟨f32, _, fun_mk (st := st_law_first) l32 c32 k32, (fun_mk (st := st_law_first) l32 c32 k32).binds (ps := ["which", "size", "row"]) (fun _ _ _ _ _ _ us hl => match us, hl with | [_, _, _], _ => rfl), PySem.W.mg_of X G a32⟩
  have D_law_second : Df K mg "_law_second" st_law_second ["which", "row", "one", "other"] := ⟨f33, _, fun_mk (st := st_law_second) l33 c33 k33, (fun_mk (st := st_law_second) l33 c33 k33).binds (ps := ["which", "row", "one", "other"]) (fun _ _ _ _ _ _ us hl => match us, hl with | [_, _, _, _], _ => rfl), PySem.W.mg_of X G a33⟩
  have D_law_tried : Df K mg "_law_tried" st_law_tried ["which", "size", "row", "one", "other"] := ⟨f34, _, fun_mk (st := st_law_tried) l34 c34 k34, (fun_mk (st := st_law_tried) l34 c34 k34).binds (ps := ["which", "size", "row", "one", "other"]) (fun _ _ _ _ _ _ us hl => match us, hl with | [_, _, _, _, _], _ => rfl), PySem.W.mg_of X G a34⟩
  have D_law_bad_row : Df K mg "_law_bad_row" st_law_bad_row ["script", "row"] := ⟨f35, _, fun_mk (st := st_law_bad_row) l35 c35 k35, (fun_mk (st := st_law_bad_row) l35 c35 k35).binds (ps := ["script", "row"]) (fun _ _ _ _ _ _ us hl => match us, hl with | [_, _], _ => rfl), PySem.W.mg_of X G a35⟩
  have C_MOST := PySem.W.mg_of X G q0
  have C_MOST_COUNTED := PySem.W.mg_of X G q1
  have C_MOST_LISTED := PySem.W.mg_of X G q2
  have C_MOST_GROUPED := PySem.W.mg_of X G q3
  have X_NoSize : Ec K mg "NoSize" C0 := ⟨PySem.W.mg_of X G eg0, ex0, ee0, eb0, et0⟩
  have X_NoSuch : Ec K mg "NoSuch" C1 := ⟨PySem.W.mg_of X G eg1, ex1, ee1, eb1, et1⟩
  have X_NoRow : Ec K mg "NoRow" C2 := ⟨PySem.W.mg_of X G eg2, ex2, ee2, eb2, et2⟩
  have X_NoPerson : Ec K mg "NoPerson" C3 := ⟨PySem.W.mg_of X G eg3, ex3, ee3, eb3, et3⟩
  have X_NoNote : Ec K mg "NoNote" C4 := ⟨PySem.W.mg_of X G eg4, ex4, ee4, eb4, et4⟩
  have X_ApartError : Ec K mg "ApartError" C5 := ⟨PySem.W.mg_of X G eg5, ex5, ee5, eb5, et5⟩
  have O_NoSize : OfClass K C0 C1 C2 C3 C4 C0 0 := ⟨⟨o0_0, o0_1, o0_2, o0_3, o0_4, o0_5, o0_6, o0_7⟩, kit_own hd0 et0 o0_8 o0_8, kit_own hd1 et1 o0_9 o0_8, kit_own hd2 et2 o0_10 o0_8, kit_own hd3 et3 o0_11 o0_8, kit_own hd4 et4 o0_12 o0_8, kit_value o0_13⟩
  have M_NoSize : PySem.W.exmOne K (.ref C0) (.ref C5) = some true := PySem.W.exm_ref eb5 hd5 et5 o0_14
  have O_NoSuch : OfClass K C0 C1 C2 C3 C4 C1 1 := ⟨⟨o1_0, o1_1, o1_2, o1_3, o1_4, o1_5, o1_6, o1_7⟩, kit_own hd0 et0 o1_8 o1_9, kit_own hd1 et1 o1_9 o1_9, kit_own hd2 et2 o1_10 o1_9, kit_own hd3 et3 o1_11 o1_9, kit_own hd4 et4 o1_12 o1_9, kit_value o1_13⟩
  have M_NoSuch : PySem.W.exmOne K (.ref C1) (.ref C5) = some true := PySem.W.exm_ref eb5 hd5 et5 o1_14
  have O_NoRow : OfClass K C0 C1 C2 C3 C4 C2 2 := ⟨⟨o2_0, o2_1, o2_2, o2_3, o2_4, o2_5, o2_6, o2_7⟩, kit_own hd0 et0 o2_8 o2_10, kit_own hd1 et1 o2_9 o2_10, kit_own hd2 et2 o2_10 o2_10, kit_own hd3 et3 o2_11 o2_10, kit_own hd4 et4 o2_12 o2_10, kit_value o2_13⟩
  have M_NoRow : PySem.W.exmOne K (.ref C2) (.ref C5) = some true := PySem.W.exm_ref eb5 hd5 et5 o2_14
  have O_NoPerson : OfClass K C0 C1 C2 C3 C4 C3 3 := ⟨⟨o3_0, o3_1, o3_2, o3_3, o3_4, o3_5, o3_6, o3_7⟩, kit_own hd0 et0 o3_8 o3_11, kit_own hd1 et1 o3_9 o3_11, kit_own hd2 et2 o3_10 o3_11, kit_own hd3 et3 o3_11 o3_11, kit_own hd4 et4 o3_12 o3_11, kit_value o3_13⟩
  have M_NoPerson : PySem.W.exmOne K (.ref C3) (.ref C5) = some true := PySem.W.exm_ref eb5 hd5 et5 o3_14
  refine ⟨PySem.W.fnOf "law" "law" (defArgs st_law) (defBody st_law) (defScope st_law) .none kV36 dc36 pm36 an36 cd36 ct36, fun s v => .of_eq rfl, fun base _ _ => ?_⟩
  have F := fun_mk (st := st_law) l36 c36 k36
  have K_cell := kn_law_cell_at (P := l.prog) (w := w) (base := base) D_law_cell_at B
  have K_draw := kn_law_draw (P := l.prog) (w := w) (base := base) D_law_draw
  have K_lfilled := kn_law_filled (P := l.prog) (w := w) (base := base) D_law_filled B K_draw 10
  have K_small := kn_law_small_row D_law_small_row B K_cell K_lfilled
  have K_asked := kn_asked_size (P := l.prog) (w := w) (base := base) D_asked_size X_NoSize
  have K_can := kn_can_be D_can_be K_asked C_MOST
  have K_row_of := kn_row_of D_row_of B X_NoSuch K_can (kn_pairs_of_four D_pairs_of_four B) (kn_pairs_of_one_more D_pairs_of_one_more B)
  have K_fp := kn_found_places (P := l.prog) (w := w) (base := base) D_found_places B
  have K_is := kn_is_row D_is_row B C_MOST K_fp
  have K_ar := kn_asked_row D_asked_row X_NoRow K_is
  have K_fill := kn_filled (P := l.prog) (w := w) (base := base) D_filled B 9
  have K_many := kn_many D_many B C_MOST_COUNTED K_asked K_fill
  have K_rows := kn_rows D_rows B C_MOST_LISTED K_asked K_fill
  have K_pb := kn_places_by D_places_by B K_fp
  have K_pp := kn_people_by (P := l.prog) (w := w) (base := base) D_people_by B
  have K_steps := kn_steps_of D_steps_of B K_pb
  have K_tb := kn_third_by D_third_by K_pp
  have K_at := kn_asked_two D_asked_two B X_NoPerson K_ar K_pp
  have K_third := kn_third D_third K_at K_steps K_tb
  have K_db := kn_day_by D_day_by B K_pp K_tb
  have K_first := kn_law_first D_law_first K_can (kn_reckoned D_reckoned K_asked C_MOST) K_row_of K_many K_rows (kn_places D_places K_ar K_pb) (kn_contrary D_contrary B K_ar) (kn_shown D_shown B K_ar) (kn_people D_people K_ar K_pp)
  have K_second := kn_law_second D_law_second (kn_groups D_groups B X_NoSize C_MOST_GROUPED K_ar K_pp K_steps K_db) (kn_is_group D_is_group K_ar K_pp K_steps K_tb) K_third (kn_group D_group B K_third) (kn_day D_day X_NoPerson K_ar K_pp K_steps K_db)
  have K_word := kn_law_word_of (P := l.prog) (w := w) (base := base) D_law_word_of B X_NoSize X_NoSuch X_NoRow X_NoPerson X_NoNote
  exact ok_law F B K_cell K_small (kn_law_bad_row D_law_bad_row B K_cell) K_row_of (kn_law_tried D_law_tried X_ApartError K_word K_first K_second O_NoSize O_NoSuch O_NoRow O_NoPerson M_NoSize M_NoSuch M_NoRow M_NoPerson)
end Sa
open PySem PySem.W PyProof.Rows
set_option maxHeartbeats 0 in
theorem PySem.Challenge.cw_sameapart_k12_refused_holds : PySem.Challenge.rw_sameapart_k12_refused.Holds := by
  w_on; o_law; k_head; (case hw => w_witness2)
  k_fill
  refine L2.walk_of (l := PySem.Challenge.rw_sameapart_k12_refused) (n := 63) (k := Sa.lawLevel) (x := "script") (CX := fun _ => L2.CX0) (sp := fun w => Sa.spLaw _) rfl (by decide) rfl ⟨rfl, by decide, by decide⟩ (fun w h Y => PySem.W.kIn_of Y) ?F (fun _ H a ns hl hO hS => ⟨a, ns, rfl, hS, hl, fun _ => rfl⟩) (fun _ _ _ _ _ h => h)
  case F =>
    intro w mg fa h KX G hmg
    refine' Sa.all_mk KX G hmg ?a0 ?l0 ?c0 ?k0 ?a1 ?l1 ?c1 ?k1 ?a2 ?l2 ?c2 ?k2 ?a3 ?l3 ?c3 ?k3 ?a4 ?l4 ?c4 ?k4 ?a5 ?l5 ?c5 ?k5 ?a6 ?l6 ?c6 ?k6 ?a7 ?l7 ?c7 ?k7 ?a8 ?l8 ?c8 ?k8 ?a9 ?l9 ?c9 ?k9 ?a10 ?l10 ?c10 ?k10 ?a11 ?l11 ?c11 ?k11 ?a12 ?l12 ?c12 ?k12 ?a13 ?l13 ?c13 ?k13 ?a14 ?l14 ?c14 ?k14 ?a15 ?l15 ?c15 ?k15 ?a16 ?l16 ?c16 ?k16 ?a17 ?l17 ?c17 ?k17 ?a18 ?l18 ?c18 ?k18 ?a19 ?l19 ?c19 ?k19 ?a20 ?l20 ?c20 ?k20 ?a21 ?l21 ?c21 ?k21 ?a22 ?l22 ?c22 ?k22 ?a23 ?l23 ?c23 ?k23 ?a24 ?l24 ?c24 ?k24 ?a25 ?l25 ?c25 ?k25 ?a26 ?l26 ?c26 ?k26 ?a27 ?l27 ?c27 ?k27 ?a28 ?l28 ?c28 ?k28 ?a29 ?l29 ?c29 ?k29 ?a30 ?l30 ?c30 ?k30 ?a31 ?l31 ?c31 ?k31 ?a32 ?l32 ?c32 ?k32 ?a33 ?l33 ?c33 ?k33 ?a34 ?l34 ?c34 ?k34 ?a35 ?l35 ?c35 ?k35 ?a36 ?l36 ?c36 ?k36 ?z0 ?z1 ?z2 ?z3 ?z4 ?z5 ?z6 ?z7 ?z8 ?z9 ?z10 ?z11 ?z12 ?z13 ?z14 ?q0 ?q1 ?q2 ?q3 ?eg0 ?ex0 ?ee0 ?eb0 ?et0 ?eg1 ?ex1 ?ee1 ?eb1 ?et1 ?eg2 ?ex2 ?ee2 ?eb2 ?et2 ?eg3 ?ex3 ?ee3 ?eb3 ?et3 ?eg4 ?ex4 ?ee4 ?eb4 ?et4 ?eg5 ?ex5 ?ee5 ?eb5 ?et5 ?o0_0 ?o0_1 ?o0_2 ?o0_3 ?o0_4 ?o0_5 ?o0_6 ?o0_7 ?o0_8 ?o0_9 ?o0_10 ?o0_11 ?o0_12 ?o0_13 ?o0_14 ?o1_0 ?o1_1 ?o1_2 ?o1_3 ?o1_4 ?o1_5 ?o1_6 ?o1_7 ?o1_8 ?o1_9 ?o1_10 ?o1_11 ?o1_12 ?o1_13 ?o1_14 ?o2_0 ?o2_1 ?o2_2 ?o2_3 ?o2_4 ?o2_5 ?o2_6 ?o2_7 ?o2_8 ?o2_9 ?o2_10 ?o2_11 ?o2_12 ?o2_13 ?o2_14 ?o3_0 ?o3_1 ?o3_2 ?o3_3 ?o3_4 ?o3_5 ?o3_6 ?o3_7 ?o3_8 ?o3_9 ?o3_10 ?o3_11 ?o3_12 ?o3_13 ?o3_14 ?hd0 ?hd1 ?hd2 ?hd3 ?hd4 ?hd5
    (case a0 => k_is)
    (case l0 => k_is)
    (case c0 => k_is)
    (case k0 => k_is)
    (case a1 => k_is)
    (case l1 => k_is)
    (case c1 => k_is)
    (case k1 => k_is)
    (case a2 => k_is)
    (case l2 => k_is)
    (case c2 => k_is)
    (case k2 => k_is)
    (case a3 => k_is)
    (case l3 => k_is)
    (case c3 => k_is)
    (case k3 => k_is)
    (case a4 => k_is)
    (case l4 => k_is)
    (case c4 => k_is)
    (case k4 => k_is)
    (case a5 => k_is)
    (case l5 => k_is)
    (case c5 => k_is)
    (case k5 => k_is)
    (case a6 => k_is)
    (case l6 => k_is)
    (case c6 => k_is)
    (case k6 => k_is)
    (case a7 => k_is)
    (case l7 => k_is)
    (case c7 => k_is)
    (case k7 => k_is)
    (case a8 => k_is)
    (case l8 => k_is)
    (case c8 => k_is)
    (case k8 => k_is)
    (case a9 => k_is)
    (case l9 => k_is)
    (case c9 => k_is)
    (case k9 => k_is)
    (case a10 => k_is)
    (case l10 => k_is)
    (case c10 => k_is)
    (case k10 => k_is)
    (case a11 => k_is)
    (case l11 => k_is)
    (case c11 => k_is)
    (case k11 => k_is)
    (case a12 => k_is)
    (case l12 => k_is)
    (case c12 => k_is)
    (case k12 => k_is)
    (case a13 => k_is)
    (case l13 => k_is)
    (case c13 => k_is)
    (case k13 => k_is)
    (case a14 => k_is)
    (case l14 => k_is)
    (case c14 => k_is)
    (case k14 => k_is)
    (case a15 => k_is)
    (case l15 => k_is)
    (case c15 => k_is)
    (case k15 => k_is)
    (case a16 => k_is)
    (case l16 => k_is)
    (case c16 => k_is)
    (case k16 => k_is)
    (case a17 => k_is)
    (case l17 => k_is)
    (case c17 => k_is)
    (case k17 => k_is)
    (case a18 => k_is)
    (case l18 => k_is)
    (case c18 => k_is)
    (case k18 => k_is)
    (case a19 => k_is)
    (case l19 => k_is)
    (case c19 => k_is)
    (case k19 => k_is)
    (case a20 => k_is)
    (case l20 => k_is)
    (case c20 => k_is)
    (case k20 => k_is)
    (case a21 => k_is)
    (case l21 => k_is)
    (case c21 => k_is)
    (case k21 => k_is)
    (case a22 => k_is)
    (case l22 => k_is)
    (case c22 => k_is)
    (case k22 => k_is)
    (case a23 => k_is)
    (case l23 => k_is)
    (case c23 => k_is)
    (case k23 => k_is)
    (case a24 => k_is)
    (case l24 => k_is)
    (case c24 => k_is)
    (case k24 => k_is)
    (case a25 => k_is)
    (case l25 => k_is)
    (case c25 => k_is)
    (case k25 => k_is)
    (case a26 => k_is)
    (case l26 => k_is)
    (case c26 => k_is)
    (case k26 => k_is)
    (case a27 => k_is)
    (case l27 => k_is)
    (case c27 => k_is)
    (case k27 => k_is)
    (case a28 => k_is)
    (case l28 => k_is)
    (case c28 => k_is)
    (case k28 => k_is)
    (case a29 => k_is)
    (case l29 => k_is)
    (case c29 => k_is)
    (case k29 => k_is)
    (case a30 => k_is)
    (case l30 => k_is)
    (case c30 => k_is)
    (case k30 => k_is)
    (case a31 => k_is)
    (case l31 => k_is)
    (case c31 => k_is)
    (case k31 => k_is)
    (case a32 => k_is)
    (case l32 => k_is)
    (case c32 => k_is)
    (case k32 => k_is)
    (case a33 => k_is)
    (case l33 => k_is)
    (case c33 => k_is)
    (case k33 => k_is)
    (case a34 => k_is)
    (case l34 => k_is)
    (case c34 => k_is)
    (case k34 => k_is)
    (case a35 => k_is)
    (case l35 => k_is)
    (case c35 => k_is)
    (case k35 => k_is)
    (case a36 => k_is)
    (case l36 => k_is)
    (case c36 => k_is)
    (case k36 => k_is)
    (case z0 => k_is)
    (case z1 => k_is)
    (case z2 => k_is)
    (case z3 => k_is)
    (case z4 => k_is)
    (case z5 => k_is)
    (case z6 => k_is)
    (case z7 => k_is)
    (case z8 => k_is)
    (case z9 => k_is)
    (case z10 => k_is)
    (case z11 => k_is)
    (case z12 => k_is)
    (case z13 => k_is)
    (case z14 => k_is)
    (case q0 => k_is)
    (case q1 => k_is)
    (case q2 => k_is)
    (case q3 => k_is)
    (case eg0 => k_is)
    (case ex0 => k_exc)
    (case ee0 => k_is)
    (case eb0 => k_is)
    (case et0 => k_is)
    (case eg1 => k_is)
    (case ex1 => k_exc)
    (case ee1 => k_is)
    (case eb1 => k_is)
    (case et1 => k_is)
    (case eg2 => k_is)
    (case ex2 => k_exc)
    (case ee2 => k_is)
    (case eb2 => k_is)
    (case et2 => k_is)
    (case eg3 => k_is)
    (case ex3 => k_exc)
    (case ee3 => k_is)
    (case eb3 => k_is)
    (case et3 => k_is)
    (case eg4 => k_is)
    (case ex4 => k_exc)
    (case ee4 => k_is)
    (case eb4 => k_is)
    (case et4 => k_is)
    (case eg5 => k_is)
    (case ex5 => k_exc)
    (case ee5 => k_is)
    (case eb5 => k_is)
    (case et5 => k_is)
    (case o0_0 => k_is)
    (case o0_1 => k_is)
    (case o0_2 => k_is)
    (case o0_3 => k_is)
    (case o0_4 => k_is)
    (case o0_5 => k_is)
    (case o0_6 => k_is)
    (case o0_7 => k_is)
    (case o0_8 => k_is)
    (case o0_9 => k_is)
    (case o0_10 => k_is)
    (case o0_11 => k_is)
    (case o0_12 => k_is)
    (case o0_13 => k_is)
    (case o0_14 => k_is)
    (case o1_0 => k_is)
    (case o1_1 => k_is)
    (case o1_2 => k_is)
    (case o1_3 => k_is)
    (case o1_4 => k_is)
    (case o1_5 => k_is)
    (case o1_6 => k_is)
    (case o1_7 => k_is)
    (case o1_8 => k_is)
    (case o1_9 => k_is)
    (case o1_10 => k_is)
    (case o1_11 => k_is)
    (case o1_12 => k_is)
    (case o1_13 => k_is)
    (case o1_14 => k_is)
    (case o2_0 => k_is)
    (case o2_1 => k_is)
    (case o2_2 => k_is)
    (case o2_3 => k_is)
    (case o2_4 => k_is)
    (case o2_5 => k_is)
    (case o2_6 => k_is)
    (case o2_7 => k_is)
    (case o2_8 => k_is)
    (case o2_9 => k_is)
    (case o2_10 => k_is)
    (case o2_11 => k_is)
    (case o2_12 => k_is)
    (case o2_13 => k_is)
    (case o2_14 => k_is)
    (case o3_0 => k_is)
    (case o3_1 => k_is)
    (case o3_2 => k_is)
    (case o3_3 => k_is)
    (case o3_4 => k_is)
    (case o3_5 => k_is)
    (case o3_6 => k_is)
    (case o3_7 => k_is)
    (case o3_8 => k_is)
    (case o3_9 => k_is)
    (case o3_10 => k_is)
    (case o3_11 => k_is)
    (case o3_12 => k_is)
    (case o3_13 => k_is)
    (case o3_14 => k_is)
    (case hd0 => k_is)
    (case hd1 => k_is)
    (case hd2 => k_is)
    (case hd3 => k_is)
    (case hd4 => k_is)
    (case hd5 => k_is)

