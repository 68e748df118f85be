import PyProof.Rows.All
import Wide.All
import OpenK.AllK
import Wide.FinOn
import HandS.ForMost
import HandS.Walk
import HandS.Exc
import HandS.ExcOwn
import HandS.WordsExc
import HandS.TryOnly
import HandS.IsInst
import HandS.Style
import HandS.Conv
import HandS.Codes
import HandS.ExcIs
import HandS.HotCalls
import PySem.Challenge.RW_sameapart_k04_whole_each_size
set_option Elab.async false
set_option linter.all false
set_option maxRecDepth 100000
set_option maxHeartbeats 4000000
namespace Sa
end Sa
/-! PLAIN rows -/
namespace Sa
/-- the places of k in a list, counted from i -/
def spotsFrom (k : Int) : Nat → List Int → List Int
  | _, [] => []
  | i, x :: r => if x = k then (i : Int) :: spotsFrom k (i + 1) r else spotsFrom k (i + 1) r
def spots (row : List Int) (k : Int) : List Int := spotsFrom k 0 row
/-- the number k stands at two places, k apart -/
def good (row : List Int) (k : Int) : Bool := match spots row k with
  | [a, b] => decide (b - a = k)
  | _ => false
def isRow (row : List Int) : Bool :=
  decide (row.length = 2 * (row.length / 2)) && decide (1 ≤ row.length / 2) && decide (row.length / 2 ≤ 400) && (List.range (row.length / 2)).all fun i => good row ((i : Int) + 1)

theorem spotsFrom_append (k : Int) : ∀ (xs ys : List Int) (i : Nat), spotsFrom k i (xs ++ ys) = spotsFrom k i xs ++ spotsFrom k (i + xs.length) ys
  | [], ys, i => by simp [spotsFrom]
  | x :: r, ys, i => by
    have ih := spotsFrom_append k r ys (i + 1)
    simp only [List.cons_append, spotsFrom, List.length_cons]
    split <;> simp [ih, Nat.add_assoc, Nat.add_comm 1]
theorem spots_snoc (row : List Int) (x k : Int) : spots (row ++ [x]) k = spots row k ++ (if x = k then [(row.length : Int)] else []) := by
  unfold spots
  rw [spotsFrom_append]
  simp [spotsFrom]
theorem mem_spotsFrom (k : Int) : ∀ (row : List Int) (i : Nat) (p : Int), p ∈ spotsFrom k i row ↔ ∃ j : Nat, row[j]? = some k ∧ p = ((i + j : Nat) : Int)
  | [], i, p => by simp [spotsFrom]
  | x :: r, i, p => by
    have ih := mem_spotsFrom k r (i + 1) p
    unfold spotsFrom
    split
    · rename_i e
      rw [List.mem_cons, ih]
      constructor
      · rintro (rfl | ⟨j, h1, h2⟩)
        · exact ⟨0, by simp [e], by simp⟩
        · exact ⟨j + 1, by simpa using h1, by rw [h2]; congr 1; omega⟩
      · rintro ⟨j, h1, h2⟩
        cases j with
        | zero => exact .inl (by simpa using h2)
        | succ j => exact .inr ⟨j, by simpa using h1, by rw [h2]; congr 1; omega⟩
    · rename_i e
      rw [ih]
      constructor
      · rintro ⟨j, h1, h2⟩
        exact ⟨j + 1, by simpa using h1, by rw [h2]; congr 1; omega⟩
      · rintro ⟨j, h1, h2⟩
        cases j with
        | zero => exact absurd (by simpa using h1) e
        | succ j => exact ⟨j, by simpa using h1, by rw [h2]; congr 1; omega⟩
theorem mem_spots (row : List Int) (k p : Int) : p ∈ spots row k ↔ ∃ j : Nat, row[j]? = some k ∧ p = (j : Int) := by
  unfold spots
  rw [mem_spotsFrom]
  simp
theorem spotsFrom_sorted (k : Int) : ∀ (row : List Int) (i : Nat), (spotsFrom k i row).Pairwise (· < ·) ∧ ∀ p ∈ spotsFrom k i row, (i : Int) ≤ p
  | [], i => by simp [spotsFrom]
  | x :: r, i => by
    have ih := spotsFrom_sorted k r (i + 1)
    unfold spotsFrom
    split
    · refine ⟨List.pairwise_cons.mpr ⟨fun p hp => ?_, ih.1⟩, fun p hp => ?_⟩
      · have := ih.2 p hp
        omega
      · rcases List.mem_cons.mp hp with rfl | hp
        · exact Int.le_refl _
        · have := ih.2 p hp
          omega
    · refine ⟨ih.1, fun p hp => ?_⟩
      have := ih.2 p hp
      omega
theorem spots_sorted (row : List Int) (k : Int) : (spots row k).Pairwise (· < ·) := (spotsFrom_sorted k row 0).1
theorem spots_length (row : List Int) (k : Int) : (spots row k).length = row.count k := by
  have h : ∀ (row : List Int) (i : Nat), (spotsFrom k i row).length = row.count k := by
    intro row
    induction row with
    | nil => intro i; simp [spotsFrom]
    | cons x r ih =>
      intro i
      unfold spotsFrom
      split
      · rename_i e
        rw [List.length_cons, ih, e, List.count_cons_self]
      · rename_i e
        rw [ih, List.count_cons_of_ne e]
  exact h row 0
/-- what a good number is -/
theorem good_iff (row : List Int) (k : Int) (hk : 0 < k) : good row k = true ↔ ∃ p : Nat, row[p]? = some k ∧ row[p + k.toNat]? = some k ∧ ∀ q : Nat, row[q]? = some k → q = p ∨ q = p + k.toNat := by
  unfold good
  have hm := mem_spots row k
  have hs := spots_sorted row k
  generalize spots row k = l at hm hs
  constructor
  · intro h
    match l, h with
    | [a, b], h =>
      have e : b - a = k := of_decide_eq_true h
      obtain ⟨p, h1, rfl⟩ := (hm a).mp (by simp)
      obtain ⟨q, h2, rfl⟩ := (hm b).mp (by simp)
      have eq : q = p + k.toNat := by omega
      subst eq
      refine ⟨p, h1, h2, fun j hj => ?_⟩
      have := (hm j).mpr ⟨j, hj, rfl⟩
      simp at this
      omega
  · rintro ⟨p, h1, h2, h3⟩
    have m1 := (hm p).mpr ⟨p, h1, rfl⟩
    have m2 := (hm ((p + k.toNat : Nat) : Int)).mpr ⟨p + k.toNat, h2, rfl⟩
    have m3 : ∀ z ∈ l, z = (p : Int) ∨ z = ((p + k.toNat : Nat) : Int) := fun z hz => by
      obtain ⟨j, hj, rfl⟩ := (hm z).mp hz
      rcases h3 j hj with e | e
      · exact .inl (by rw [e])
      · exact .inr (by rw [e])
    match l, hs, m1, m2, m3 with
    | [], _, m1, _, _ => simp at m1
    | [a], _, m1, m2, _ => simp at m1 m2; omega
    | [a, b], hs, m1, m2, m3 =>
      have hab : a < b := by simpa using hs
      have ha := m3 a (by simp)
      have hb := m3 b (by simp)
      exact decide_eq_true (by omega)
    | a :: b :: c :: r, hs, m1, m2, m3 =>
      have ha := m3 a (by simp)
      have hb := m3 b (by simp)
      have hc := m3 c (by simp)
      simp at hs
      omega
end Sa

/-! PLAIN rows, looked at from the first place on -/
namespace Sa
theorem isRow_iff (row : List Int) : isRow row = true ↔ row.length = 2 * (row.length / 2) ∧ 1 ≤ row.length / 2 ∧ row.length / 2 ≤ 400 ∧ ∀ k : Int, 1 ≤ k → k ≤ ((row.length / 2 : Nat) : Int) → good row k = true := by
  unfold isRow
  rw [Bool.and_eq_true, Bool.and_eq_true, Bool.and_eq_true, decide_eq_true_iff, decide_eq_true_iff, decide_eq_true_iff, List.all_eq_true]
  constructor
  · rintro ⟨⟨⟨h1, h2⟩, h3⟩, h4⟩
    refine ⟨h1, h2, h3, fun k k1 k2 => ?_⟩
    have := h4 (k.toNat - 1) (List.mem_range.mpr (by omega))
    rw [show ((k.toNat - 1 : Nat) : Int) + 1 = k by omega] at this
    exact this
  · rintro ⟨h1, h2, h3, h4⟩
    refine ⟨⟨⟨h1, h2⟩, h3⟩, fun i hi => ?_⟩
    have := List.mem_range.mp hi
    exact h4 _ (by omega) (by omega)
theorem good_count {row : List Int} {k : Int} (h : good row k = true) : row.count k = 2 := by
  rw [← spots_length]
  unfold good at h
  match spots row k, h with
  | [a, b], _ => rfl
theorem countP_range (row : List Int) : ∀ n : Nat, (∀ k : Int, 1 ≤ k → k ≤ (n : Int) → row.count k = 2) → row.countP (fun x => decide (1 ≤ x ∧ x ≤ (n : Int))) = 2 * n
  | 0, _ => by
    rw [List.countP_eq_zero]
    intro x _
    simp
    omega
  | n + 1, h => by
    have ih := countP_range row n fun k h1 h2 => h k h1 (by omega)
    have hc := h ((n : Int) + 1) (by omega) (by omega)
    have e : ∀ l : List Int, l.countP (fun x => decide (1 ≤ x ∧ x ≤ ((n + 1 : Nat) : Int))) = l.countP (fun x => decide (1 ≤ x ∧ x ≤ (n : Int))) + l.count ((n : Int) + 1) := by
      intro l
      induction l with
      | nil => rfl
      | cons x r ih =>
        rw [List.countP_cons, List.countP_cons, List.count_cons, ih]
        by_cases e1 : x = (n : Int) + 1
        · subst e1
          have a1 : decide (1 ≤ (n : Int) + 1 ∧ (n : Int) + 1 ≤ ((n + 1 : Nat) : Int)) = true := decide_eq_true (by omega)
          have a2 : decide (1 ≤ (n : Int) + 1 ∧ (n : Int) + 1 ≤ (n : Int)) = false := decide_eq_false (by omega)
          simp only [a1, a2, beq_self_eq_true, if_true]
          simp
          omega
        · have a3 : (x == (n : Int) + 1) = false := by simpa using e1
          have a4 : decide (1 ≤ x ∧ x ≤ ((n + 1 : Nat) : Int)) = decide (1 ≤ x ∧ x ≤ (n : Int)) := by
            rw [decide_eq_decide]
            omega
          rw [a3, a4]
          simp
          omega
    rw [e, ih, hc]
    omega
/-- in a row each number is from one to the size -/
theorem isRow_bound {row : List Int} (h : isRow row = true) : ∀ x ∈ row, 1 ≤ x ∧ x ≤ ((row.length / 2 : Nat) : Int) := by
  obtain ⟨h1, _, _, h4⟩ := (isRow_iff row).mp h
  have c := countP_range row (row.length / 2) fun k k1 k2 => good_count (h4 k k1 k2)
  rw [← h1] at c
  have := List.countP_eq_length.mp c
  intro x hx
  exact of_decide_eq_true (this x hx)
/-- .. and stands at two places -/
theorem isRow_spots {row : List Int} (h : isRow row = true) {k : Int} (h1 : 1 ≤ k) (h2 : k ≤ ((row.length / 2 : Nat) : Int)) : ∃ a b : Nat, spots row k = [(a : Int), (b : Int)] ∧ (b : Int) - a = k ∧ b < row.length := by
  have g := ((isRow_iff row).mp h).2.2.2 k h1 h2
  unfold good at g
  have hm := mem_spots row k
  match e : spots row k, g with
  | [a, b], g =>
    rw [e] at hm
    have e2 : b - a = k := of_decide_eq_true g
    obtain ⟨p, p1, rfl⟩ := (hm a).mp (by simp)
    obtain ⟨q, q1, rfl⟩ := (hm b).mp (by simp)
    exact ⟨p, q, rfl, e2, (List.getElem?_eq_some_iff.mp q1).1⟩
/-- the reverse -/
theorem spots_of_good {row : List Int} {k : Int} {a b : Int} (e : spots row k = [a, b]) (h : b - a = k) : good row k = true := by
  unfold good
  rw [e]
  exact decide_eq_true h

/-! ### a row looked at from the first place on -/
/-- what has been passed is in order so far -/
def okPre (n : Nat) (pre : List Int) : Prop := (∀ x ∈ pre, 1 ≤ x ∧ x ≤ (n : Int)) ∧ ∀ k : Int, spots pre k = [] ∨ (∃ a, spots pre k = [a]) ∨ ∃ a b, spots pre k = [a, b] ∧ b - a = k
theorem okPre_nil (n : Nat) : okPre n [] := ⟨by simp, fun k => .inl rfl⟩
theorem spots_take (row : List Int) (k : Int) (i : Nat) : ∃ r, spots row k = spots (row.take i) k ++ r := by
  refine ⟨spotsFrom k (0 + (row.take i).length) (row.drop i), ?_⟩
  unfold spots
  rw [← spotsFrom_append, List.take_append_drop]
theorem isRow_okPre {row : List Int} (h : isRow row = true) (i : Nat) : okPre (row.length / 2) (row.take i) := by
  refine ⟨fun x hx => isRow_bound h x (List.mem_of_mem_take hx), fun k => ?_⟩
  obtain ⟨r, e⟩ := spots_take row k i
  by_cases hk : 1 ≤ k ∧ k ≤ ((row.length / 2 : Nat) : Int)
  · obtain ⟨a, b, e2, e3, _⟩ := isRow_spots h hk.1 hk.2
    rw [e2] at e
    match hs : spots (row.take i) k with
    | [] => exact .inl rfl
    | [c] => exact .inr (.inl ⟨c, rfl⟩)
    | [c, d] =>
      rw [hs] at e
      simp at e
      exact .inr (.inr ⟨c, d, rfl, by omega⟩)
    | c :: d :: f :: t =>
      rw [hs] at e
      simp at e
  · refine .inl ?_
    match hs : spots (row.take i) k with
    | [] => rfl
    | c :: t =>
      obtain ⟨j, hj, _⟩ := (mem_spots (row.take i) k c).mp (by rw [hs]; simp)
      have := isRow_bound h k (List.mem_of_mem_take (List.mem_of_getElem? hj))
      exact absurd this hk
theorem isRow_of_okPre {row : List Int} (h1 : row.length = 2 * (row.length / 2)) (h2 : 1 ≤ row.length / 2) (h3 : row.length / 2 ≤ 400) (ok : okPre (row.length / 2) row)
    (full : ∀ k : Int, 1 ≤ k → k ≤ ((row.length / 2 : Nat) : Int) → (spots row k).length = 2) : isRow row = true := by
  refine (isRow_iff row).mpr ⟨h1, h2, h3, fun k k1 k2 => ?_⟩
  have f := full k k1 k2
  rcases ok.2 k with e | ⟨a, e⟩ | ⟨a, b, e, e2⟩
  · rw [e] at f; simp at f
  · rw [e] at f; simp at f
  · exact spots_of_good e e2
theorem okPre_snoc {n : Nat} {pre : List Int} {x : Int} (ok : okPre n pre) (h1 : 1 ≤ x) (h2 : x ≤ (n : Int)) (h : spots pre x = [] ∨ ∃ a, spots pre x = [a] ∧ (pre.length : Int) - a = x) : okPre n (pre ++ [x]) := by
  refine ⟨fun y hy => ?_, fun k => ?_⟩
  · rcases List.mem_append.mp hy with hy | hy
    · exact ok.1 y hy
    · rw [List.mem_singleton.mp hy]
      exact ⟨h1, h2⟩
  · rw [spots_snoc]
    by_cases e : x = k
    · subst e
      rw [if_pos rfl]
      rcases h with h | ⟨a, h, h'⟩
      · rw [h]
        exact .inr (.inl ⟨_, rfl⟩)
      · rw [h]
        exact .inr (.inr ⟨a, _, rfl, h'⟩)
    · rw [if_neg e, List.append_nil]
      exact ok.2 k
/-- n different numbers from one to n are all of them -/
theorem all_of_nodup {n : Nat} {l : List Int} (hl : l.length = n) (hn : l.Nodup) (hb : ∀ x ∈ l, 1 ≤ x ∧ x ≤ (n : Int)) : ∀ k : Int, 1 ≤ k → k ≤ (n : Int) → k ∈ l := by
  induction n generalizing l with
  | zero => intro k h1 h2; omega
  | succ n ih =>
    by_cases hm : ((n + 1 : Nat) : Int) ∈ l
    · intro k h1 h2
      by_cases e : k = ((n + 1 : Nat) : Int)
      · rw [e]; exact hm
      · have q := ih (l := l.erase ((n + 1 : Nat) : Int)) (by rw [List.length_erase_of_mem hm]; omega) (hn.erase _) (fun x hx => by
          have h1 := hb x (List.mem_of_mem_erase hx)
          have h2 := (List.Nodup.mem_erase_iff hn).mp hx
          have : x ≠ ((n + 1 : Nat) : Int) := h2.1
          omega) k h1 (by omega)
        exact List.mem_of_mem_erase q
    · exfalso
      have big : ∀ (m : Nat) (l : List Int), l.Nodup → (∀ x ∈ l, 1 ≤ x ∧ x ≤ (m : Int)) → l.length ≤ m := by
        intro m
        induction m with
        | zero =>
          intro l _ hb
          cases l with
          | nil => simp
          | cons x r =>
            have := hb x (by simp)
            omega
        | succ m ih2 =>
          intro l hn hb
          have := ih2 (l.erase ((m + 1 : Nat) : Int)) (hn.erase _) (fun x hx => by
            have h1 := hb x (List.mem_of_mem_erase hx)
            have h2 := (List.Nodup.mem_erase_iff hn).mp hx
            have : x ≠ ((m + 1 : Nat) : Int) := h2.1
            omega)
          by_cases hm : ((m + 1 : Nat) : Int) ∈ l
          · rw [List.length_erase_of_mem hm] at this
            omega
          · rw [List.erase_of_not_mem hm] at this
            omega
      have := big n l hn (fun x hx => by
        have h1 := hb x hx
        have : x ≠ ((n + 1 : Nat) : Int) := fun e => hm (e ▸ hx)
        omega)
      omega
theorem length_of_all {n : Nat} {l : List Int} (hn : l.Nodup) (hb : ∀ x ∈ l, 1 ≤ x ∧ x ≤ (n : Int)) (ha : ∀ k : Int, 1 ≤ k → k ≤ (n : Int) → k ∈ l) : l.length = n := by
  induction n generalizing l with
  | zero =>
    cases l with
    | nil => rfl
    | cons x r =>
      have := hb x (by simp)
      omega
  | succ n ih =>
    have hm : ((n + 1 : Nat) : Int) ∈ l := ha _ (by omega) (Int.le_refl _)
    have q := ih (l := l.erase ((n + 1 : Nat) : Int)) (hn.erase _) (fun x hx => by
      have h1 := hb x (List.mem_of_mem_erase hx)
      have h2 := (List.Nodup.mem_erase_iff hn).mp hx
      have : x ≠ ((n + 1 : Nat) : Int) := h2.1
      omega) (fun k h1 h2 => (List.Nodup.mem_erase_iff hn).mpr ⟨by omega, ha k h1 (by omega)⟩)
    rw [List.length_erase_of_mem hm] at q
    have := List.length_pos_of_mem hm
    omega
end Sa

/-! PLAIN rows made of pairs of places -/
namespace Sa
/-- f of the n numbers from lo on -/
def fam (lo : Int) (n : Nat) (f : Int → Int × Int) : List (Int × Int) := (List.range n).map fun (i : Nat) => f (lo + (i : Int))
theorem mem_fam {lo : Int} {n : Nat} {f : Int → Int × Int} {q : Int × Int} : q ∈ fam lo n f ↔ ∃ k : Int, lo ≤ k ∧ k < lo + n ∧ f k = q := by
  unfold fam
  rw [List.mem_map]
  constructor
  · rintro ⟨i, hi, rfl⟩
    have := List.mem_range.mp hi
    exact ⟨lo + i, by omega, by omega, rfl⟩
  · rintro ⟨k, h1, h2, rfl⟩
    exact ⟨(k - lo).toNat, List.mem_range.mpr (by omega), by congr 1; omega⟩
theorem fam_length (lo : Int) (n : Nat) (f : Int → Int × Int) : (fam lo n f).length = n := by
  unfold fam
  rw [List.length_map, List.length_range]
def pairs4g (f : Int) : List (Int × Int) :=
  fam 0 (2 * f).toNat (fun k => (4 * f + k, 8 * f - k)) ++ fam 1 (f - 1).toNat (fun k => (k, 4 * f - 1 - k)) ++ fam 0 (f - 2).toNat (fun k => (f + 2 + k, 3 * f - 1 - k)) ++ [(f, f + 1), (2 * f, 4 * f - 1), (2 * f + 1, 6 * f)]
def pairs4 (f : Int) : List (Int × Int) := if f = 1 then [(4, 8), (5, 7), (1, 2), (3, 6)] else pairs4g f
def pairs5g (f : Int) : List (Int × Int) :=
  fam 0 (2 * f).toNat (fun k => (4 * f + 2 + k, 8 * f + 2 - k)) ++ fam 1 (f + 1 - 1).toNat (fun k => (k, 4 * f + 1 - k)) ++ fam 1 (f - 1 - 1).toNat (fun k => (f + 2 + k, 3 * f + 1 - k)) ++ [(f + 1, f + 2), (2 * f + 1, 6 * f + 2), (2 * f + 2, 4 * f + 1)]
def pairs5 (f : Int) : List (Int × Int) := if f = 0 then [(1, 2)] else if f = 1 then [(1, 2), (3, 6), (4, 8), (5, 10), (7, 9)] else pairs5g f
/-- one pair's places filled -/
def fill1 (row : List Int) (q : Int × Int) : List Int := (row.set (q.1 - 1).toNat (q.2 - q.1)).set (q.2 - 1).toNat (q.2 - q.1)
def fillRow (row : List Int) (ps : List (Int × Int)) : List Int := ps.foldl fill1 row
theorem fill1_length (row : List Int) (q : Int × Int) : (fill1 row q).length = row.length := by simp [fill1]
theorem fillRow_length (ps : List (Int × Int)) : ∀ row : List Int, (fillRow row ps).length = row.length := by
  induction ps with
  | nil => intro row; rfl
  | cons q r ih =>
    intro row
    show (fillRow (fill1 row q) r).length = _
    rw [ih, fill1_length]
/-- q has the place p (counted from nought) -/
def touch (q : Int × Int) (p : Nat) : Prop := (q.1 - 1).toNat = p ∨ (q.2 - 1).toNat = p
theorem fill1_at {row : List Int} {q : Int × Int} {p : Nat} (hp : p < row.length) (h : touch q p) : (fill1 row q)[p]? = some (q.2 - q.1) := by
  unfold fill1
  rw [List.getElem?_set]
  split
  · rename_i e
    rw [if_pos (by rw [List.length_set, e]; exact hp)]
  · rename_i e
    rcases h with h | h
    · rw [h, List.getElem?_set_self hp]
    · exact absurd h e
theorem fill1_off {row : List Int} {q : Int × Int} {p : Nat} (h : ¬ touch q p) : (fill1 row q)[p]? = row[p]? := by
  unfold fill1
  rw [List.getElem?_set_ne (fun e => h (.inr e)), List.getElem?_set_ne (fun e => h (.inl e))]
theorem fillRow_at : ∀ (ps : List (Int × Int)) (row : List Int) (p : Nat), p < row.length → (∀ q ∈ ps, ∀ q' ∈ ps, touch q p → touch q' p → q = q') →
    (∀ q ∈ ps, touch q p → (fillRow row ps)[p]? = some (q.2 - q.1)) ∧ ((∀ q ∈ ps, ¬ touch q p) → (fillRow row ps)[p]? = row[p]?)
  | [], row, p, _, _ => ⟨fun q hq => absurd hq (by simp), fun _ => rfl⟩
  | q :: r, row, p, hp, u => by
    obtain ⟨i1, i2⟩ := fillRow_at r (fill1 row q) p (by rw [fill1_length]; exact hp) fun a ha b hb => u a (List.mem_cons_of_mem _ ha) b (List.mem_cons_of_mem _ hb)
    refine ⟨fun q' hq' ht => ?_, fun h => ?_⟩
    · show (fillRow (fill1 row q) r)[p]? = _
      by_cases hr : ∃ a ∈ r, touch a p
      · obtain ⟨a, ha, hta⟩ := hr
        have e := u q' hq' a (List.mem_cons_of_mem _ ha) ht hta
        rw [e]
        exact i1 a ha hta
      · have hno : ∀ a ∈ r, ¬ touch a p := fun a ha z => hr ⟨a, ha, z⟩
        rw [i2 hno]
        rcases List.mem_cons.mp hq' with e | e
        · rw [e] at ht ⊢
          exact fill1_at hp ht
        · exact absurd ht (hno q' e)
    · show (fillRow (fill1 row q) r)[p]? = _
      rw [i2 fun a ha => h a (List.mem_cons_of_mem _ ha), fill1_off (h q (by simp))]
/-- what pairs make a row of size n -/
structure RowPairs (n : Nat) (ps : List (Int × Int)) : Prop where
  one : 1 ≤ n
  most : n ≤ 400
  inn : ∀ q ∈ ps, 1 ≤ q.1 ∧ q.1 < q.2 ∧ q.2 ≤ 2 * (n : Int)
  apart : ∀ q ∈ ps, ∀ q' ∈ ps, (q.1 = q'.1 ∨ q.1 = q'.2 ∨ q.2 = q'.1 ∨ q.2 = q'.2) → q = q'
  all : ∀ k : Int, 1 ≤ k → k ≤ (n : Int) → ∃ q ∈ ps, q.2 - q.1 = k
  uniq : ∀ q ∈ ps, ∀ q' ∈ ps, q.2 - q.1 = q'.2 - q'.1 → q = q'
theorem RowPairs.isRow {n : Nat} {ps : List (Int × Int)} (R : RowPairs n ps) : isRow (fillRow (List.replicate (2 * n) 0) ps) = true := by
  have hl : (fillRow (List.replicate (2 * n) 0) ps).length = 2 * n := by rw [fillRow_length, List.length_replicate]
  have hat := fun p (hp : p < 2 * n) => fillRow_at ps (List.replicate (2 * n) 0) p (by rw [List.length_replicate]; exact hp) (fun q hq q' hq' t t' => R.apart q hq q' hq' (by
    have h1 := R.inn q hq
    have h2 := R.inn q' hq'
    rcases t with t | t <;> rcases t' with t' | t'
    · exact .inl (by omega)
    · exact .inr (.inl (by omega))
    · exact .inr (.inr (.inl (by omega)))
    · exact .inr (.inr (.inr (by omega)))))
  have hh : (fillRow (List.replicate (2 * n) 0) ps).length / 2 = n := by rw [hl]; omega
  refine (isRow_iff _).mpr ⟨by rw [hh, hl], by rw [hh]; exact R.one, by rw [hh]; exact R.most, fun k k1 k2 => ?_⟩
  rw [hh] at k2
  obtain ⟨q, hq, e⟩ := R.all k k1 k2
  have hi := R.inn q hq
  refine (good_iff _ k (by omega)).mpr ⟨(q.1 - 1).toNat, ?_, ?_, fun j hj => ?_⟩
  · rw [(hat (q.1 - 1).toNat (by omega)).1 q hq (.inl rfl), e]
  · have ep : (q.1 - 1).toNat + k.toNat = (q.2 - 1).toNat := by omega
    rw [ep, (hat (q.2 - 1).toNat (by omega)).1 q hq (.inr rfl), e]
  · have hj2 : j < 2 * n := by
      have := (List.getElem?_eq_some_iff.mp hj).1
      rwa [hl] at this
    by_cases ht : ∃ a ∈ ps, touch a j
    · obtain ⟨a, ha, t⟩ := ht
      have e1 := (hat j hj2).1 a ha t
      rw [hj] at e1
      have e2 : a = q := R.uniq a ha q hq (by have := Option.some.inj e1; omega)
      rw [e2] at t
      rcases t with t | t
      · exact .inl t.symm
      · exact .inr (by omega)
    · have e1 := (hat j hj2).2 fun a ha t => ht ⟨a, ha, t⟩
      rw [hj, List.getElem?_replicate, if_pos hj2] at e1
      have := Option.some.inj e1
      omega
theorem mem_pairs4g {f : Int} {q : Int × Int} (hf : 2 ≤ f) : q ∈ pairs4g f ↔ (∃ k, 0 ≤ k ∧ k < 2 * f ∧ q = (4 * f + k, 8 * f - k)) ∨ (∃ k, 1 ≤ k ∧ k < f ∧ q = (k, 4 * f - 1 - k)) ∨ (∃ k, 0 ≤ k ∧ k < f - 2 ∧ q = (f + 2 + k, 3 * f - 1 - k)) ∨ q = (f, f + 1) ∨ q = (2 * f, 4 * f - 1) ∨ q = (2 * f + 1, 6 * f) := by
  unfold pairs4g
  simp only [List.mem_append, mem_fam, List.mem_cons, List.not_mem_nil, or_false]
  have e1 : (((2 * f).toNat : Nat) : Int) = 2 * f := by omega
  have e2 : (((f - 1).toNat : Nat) : Int) = f - 1 := by omega
  have e3 : (((f - 2).toNat : Nat) : Int) = f - 2 := by omega
  rw [e1, e2, e3]
  constructor
  · rintro (((⟨k, h1, h2, rfl⟩ | ⟨k, h1, h2, rfl⟩) | ⟨k, h1, h2, rfl⟩) | h)
    · exact .inl ⟨k, h1, by omega, rfl⟩
    · exact .inr (.inl ⟨k, h1, by omega, rfl⟩)
    · exact .inr (.inr (.inl ⟨k, h1, by omega, rfl⟩))
    · exact .inr (.inr (.inr h))
  · rintro (⟨k, h1, h2, rfl⟩ | ⟨k, h1, h2, rfl⟩ | ⟨k, h1, h2, rfl⟩ | h)
    · exact .inl (.inl (.inl ⟨k, h1, by omega, rfl⟩))
    · exact .inl (.inl (.inr ⟨k, h1, by omega, rfl⟩))
    · exact .inl (.inr ⟨k, h1, by omega, rfl⟩)
    · exact .inr h
theorem mem_pairs5g {f : Int} {q : Int × Int} (hf : 2 ≤ f) : q ∈ pairs5g f ↔ (∃ k, 0 ≤ k ∧ k < 2 * f ∧ q = (4 * f + 2 + k, 8 * f + 2 - k)) ∨ (∃ k, 1 ≤ k ∧ k < f + 1 ∧ q = (k, 4 * f + 1 - k)) ∨ (∃ k, 1 ≤ k ∧ k < f - 1 ∧ q = (f + 2 + k, 3 * f + 1 - k)) ∨ q = (f + 1, f + 2) ∨ q = (2 * f + 1, 6 * f + 2) ∨ q = (2 * f + 2, 4 * f + 1) := by
  unfold pairs5g
  simp only [List.mem_append, mem_fam, List.mem_cons, List.not_mem_nil, or_false]
  have e1 : (((2 * f).toNat : Nat) : Int) = 2 * f := by omega
  have e2 : (((f + 1 - 1).toNat : Nat) : Int) = f := by omega
  have e3 : (((f - 1 - 1).toNat : Nat) : Int) = f - 2 := by omega
  rw [e1, e2, e3]
  constructor
  · rintro (((⟨k, h1, h2, rfl⟩ | ⟨k, h1, h2, rfl⟩) | ⟨k, h1, h2, rfl⟩) | h)
    · exact .inl ⟨k, h1, by omega, rfl⟩
    · exact .inr (.inl ⟨k, h1, by omega, rfl⟩)
    · exact .inr (.inr (.inl ⟨k, h1, by omega, rfl⟩))
    · exact .inr (.inr (.inr h))
  · rintro (⟨k, h1, h2, rfl⟩ | ⟨k, h1, h2, rfl⟩ | ⟨k, h1, h2, rfl⟩ | h)
    · exact .inl (.inl (.inl ⟨k, h1, by omega, rfl⟩))
    · exact .inl (.inl (.inr ⟨k, h1, by omega, rfl⟩))
    · exact .inl (.inr ⟨k, h1, by omega, rfl⟩)
    · exact .inr h
theorem pairs4_row {f : Int} (h1 : 1 ≤ f) (h2 : f ≤ 100) : RowPairs (4 * f).toNat (pairs4 f) := by
  unfold pairs4
  by_cases e : f = 1
  · subst e
    rw [if_pos rfl]
    refine ⟨by decide, by decide, by decide, by decide, fun k k1 k2 => ?_, by decide⟩
    have : k = 1 ∨ k = 2 ∨ k = 3 ∨ k = 4 := by omega
    rcases this with rfl | rfl | rfl | rfl <;> decide
  · rw [if_neg e]
    have hf : 2 ≤ f := by omega
    have hn : (((4 * f).toNat : Nat) : Int) = 4 * f := by omega
    refine ⟨by omega, by omega, fun q hq => ?_, fun q hq q' hq' h => ?_, fun k k1 k2 => ?_, fun q hq q' hq' h => ?_⟩
    · rw [hn]
      rcases (mem_pairs4g hf).mp hq with ⟨k, a, b, rfl⟩ | ⟨k, a, b, rfl⟩ | ⟨k, a, b, rfl⟩ | rfl | rfl | rfl <;> simp <;> omega
    · rcases (mem_pairs4g hf).mp hq with ⟨k, a, b, rfl⟩ | ⟨k, a, b, rfl⟩ | ⟨k, a, b, rfl⟩ | rfl | rfl | rfl <;>
        rcases (mem_pairs4g hf).mp hq' with ⟨k', a', b', rfl⟩ | ⟨k', a', b', rfl⟩ | ⟨k', a', b', rfl⟩ | rfl | rfl | rfl <;> simp at h ⊢ <;> omega
    · rw [hn] at k2
      by_cases hk : k % 2 = 0
      · exact ⟨(4 * f + (4 * f - k) / 2, 8 * f - (4 * f - k) / 2), (mem_pairs4g hf).mpr (.inl ⟨(4 * f - k) / 2, by omega, by omega, rfl⟩), by simp; omega⟩
      · by_cases c1 : 2 * f < k
        · by_cases c2 : k = 4 * f - 1
          · exact ⟨(2 * f + 1, 6 * f), (mem_pairs4g hf).mpr (.inr (.inr (.inr (.inr (.inr rfl))))), by simp; omega⟩
          · exact ⟨((4 * f - 1 - k) / 2, 4 * f - 1 - (4 * f - 1 - k) / 2), (mem_pairs4g hf).mpr (.inr (.inl ⟨(4 * f - 1 - k) / 2, by omega, by omega, rfl⟩)), by simp; omega⟩
        · by_cases c2 : k = 2 * f - 1
          · exact ⟨(2 * f, 4 * f - 1), (mem_pairs4g hf).mpr (.inr (.inr (.inr (.inr (.inl rfl))))), by simp; omega⟩
          · by_cases c3 : k = 1
            · exact ⟨(f, f + 1), (mem_pairs4g hf).mpr (.inr (.inr (.inr (.inl rfl)))), by simp; omega⟩
            · exact ⟨(f + 2 + (2 * f - 3 - k) / 2, 3 * f - 1 - (2 * f - 3 - k) / 2), (mem_pairs4g hf).mpr (.inr (.inr (.inl ⟨(2 * f - 3 - k) / 2, by omega, by omega, rfl⟩))), by simp; omega⟩
    · rcases (mem_pairs4g hf).mp hq with ⟨k, a, b, rfl⟩ | ⟨k, a, b, rfl⟩ | ⟨k, a, b, rfl⟩ | rfl | rfl | rfl <;>
        rcases (mem_pairs4g hf).mp hq' with ⟨k', a', b', rfl⟩ | ⟨k', a', b', rfl⟩ | ⟨k', a', b', rfl⟩ | rfl | rfl | rfl <;> simp at h ⊢ <;> omega
theorem pairs5_row {f : Int} (h1 : 0 ≤ f) (h2 : f ≤ 99) : RowPairs (4 * f + 1).toNat (pairs5 f) := by
  unfold pairs5
  by_cases e0 : f = 0
  · subst e0
    rw [if_pos rfl]
    refine ⟨by decide, by decide, by decide, by decide, fun k k1 k2 => ?_, by decide⟩
    have : k = 1 := by omega
    rcases this with rfl
    decide
  rw [if_neg e0]
  by_cases e : f = 1
  · subst e
    rw [if_pos rfl]
    refine ⟨by decide, by decide, by decide, by decide, fun k k1 k2 => ?_, by decide⟩
    have : k = 1 ∨ k = 2 ∨ k = 3 ∨ k = 4 ∨ k = 5 := by omega
    rcases this with rfl | rfl | rfl | rfl | rfl <;> decide
  · rw [if_neg e]
    have hf : 2 ≤ f := by omega
    have hn : (((4 * f + 1).toNat : Nat) : Int) = 4 * f + 1 := by omega
    refine ⟨by omega, by omega, fun q hq => ?_, fun q hq q' hq' h => ?_, fun k k1 k2 => ?_, fun q hq q' hq' h => ?_⟩
    · rw [hn]
      rcases (mem_pairs5g hf).mp hq with ⟨k, a, b, rfl⟩ | ⟨k, a, b, rfl⟩ | ⟨k, a, b, rfl⟩ | rfl | rfl | rfl <;> simp <;> omega
    · rcases (mem_pairs5g hf).mp hq with ⟨k, a, b, rfl⟩ | ⟨k, a, b, rfl⟩ | ⟨k, a, b, rfl⟩ | rfl | rfl | rfl <;>
        rcases (mem_pairs5g hf).mp hq' with ⟨k', a', b', rfl⟩ | ⟨k', a', b', rfl⟩ | ⟨k', a', b', rfl⟩ | rfl | rfl | rfl <;> simp at h ⊢ <;> omega
    · rw [hn] at k2
      by_cases hk : k % 2 = 0
      · exact ⟨(4 * f + 2 + (4 * f - k) / 2, 8 * f + 2 - (4 * f - k) / 2), (mem_pairs5g hf).mpr (.inl ⟨(4 * f - k) / 2, by omega, by omega, rfl⟩), by simp; omega⟩
      · by_cases c1 : 2 * f < k
        · by_cases c2 : k = 4 * f + 1
          · exact ⟨(2 * f + 1, 6 * f + 2), (mem_pairs5g hf).mpr (.inr (.inr (.inr (.inr (.inl rfl))))), by simp; omega⟩
          · exact ⟨((4 * f + 1 - k) / 2, 4 * f + 1 - (4 * f + 1 - k) / 2), (mem_pairs5g hf).mpr (.inr (.inl ⟨(4 * f + 1 - k) / 2, by omega, by omega, rfl⟩)), by simp; omega⟩
        · by_cases c2 : k = 2 * f - 1
          · exact ⟨(2 * f + 2, 4 * f + 1), (mem_pairs5g hf).mpr (.inr (.inr (.inr (.inr (.inr rfl))))), by simp; omega⟩
          · by_cases c3 : k = 1
            · exact ⟨(f + 1, f + 2), (mem_pairs5g hf).mpr (.inr (.inr (.inr (.inl rfl)))), by simp; omega⟩
            · exact ⟨(f + 2 + (2 * f - 1 - k) / 2, 3 * f + 1 - (2 * f - 1 - k) / 2), (mem_pairs5g hf).mpr (.inr (.inr (.inl ⟨(2 * f - 1 - k) / 2, by omega, by omega, rfl⟩))), by simp; omega⟩
    · rcases (mem_pairs5g hf).mp hq with ⟨k, a, b, rfl⟩ | ⟨k, a, b, rfl⟩ | ⟨k, a, b, rfl⟩ | rfl | rfl | rfl <;>
        rcases (mem_pairs5g hf).mp hq' with ⟨k', a', b', rfl⟩ | ⟨k', a', b', rfl⟩ | ⟨k', a', b', rfl⟩ | rfl | rfl | rfl <;> simp at h ⊢ <;> omega
/-- the row of a size -/
def rowOf (size : Int) : List Int := fillRow (List.replicate (2 * size.toNat) 0) (if size % 4 = 0 then pairs4 (size / 4) else pairs5 (size / 4))
theorem rowOf_pairs {size : Int} (h1 : 1 ≤ size) (h2 : size ≤ 400) (h3 : size % 4 < 2) : RowPairs size.toNat (if size % 4 = 0 then pairs4 (size / 4) else pairs5 (size / 4)) := by
  by_cases e : size % 4 = 0
  · rw [if_pos e]
    have := pairs4_row (f := size / 4) (by omega) (by omega)
    rwa [show 4 * (size / 4) = size by omega] at this
  · rw [if_neg e]
    have := pairs5_row (f := size / 4) (by omega) (by omega)
    rwa [show 4 * (size / 4) + 1 = size by omega] at this
theorem rowOf_row {size : Int} (h1 : 1 ≤ size) (h2 : size ≤ 400) (h3 : size % 4 < 2) : isRow (rowOf size) = true := (rowOf_pairs h1 h2 h3).isRow
theorem rowOf_length (size : Int) : (rowOf size).length = 2 * size.toNat := by
  unfold rowOf
  rw [fillRow_length, List.length_replicate]
end Sa

/-! PLAIN rows found by trying places in a drawn order -/
namespace Sa
/-- what the first of n turns from i on that finds one finds -/
def firstFrom {α : Type} (f : Nat → Option α) : Nat → Nat → Option α
  | _, 0 => none
  | i, n + 1 => match f i with
    | some r => some r
    | none => firstFrom f (i + 1) n
theorem firstFrom_some {α : Type} {f : Nat → Option α} : ∀ {n i : Nat} {r : α}, firstFrom f i n = some r → ∃ j, i ≤ j ∧ j < i + n ∧ f j = some r
  | 0, i, r, h => by cases h
  | n + 1, i, r, h => by
    unfold firstFrom at h
    split at h
    · rename_i r' e
      exact ⟨i, Nat.le_refl _, by omega, by rw [e]; exact h⟩
    · obtain ⟨j, h1, h2, h3⟩ := firstFrom_some h
      exact ⟨j, by omega, by omega, h3⟩
theorem firstFrom_ne {α : Type} {f : Nat → Option α} : ∀ {n i j : Nat}, i ≤ j → j < i + n → f j ≠ none → firstFrom f i n ≠ none
  | 0, i, j, h1, h2, _ => by omega
  | n + 1, i, j, h1, h2, h3 => by
    unfold firstFrom
    split
    · simp
    · rename_i e
      have : i ≠ j := fun z => h3 (z ▸ e)
      exact firstFrom_ne (i := i + 1) (j := j) (by omega) (by omega) h3
theorem firstFrom_hit {α : Type} {f : Nat → Option α} {i n : Nat} {r : α} (h : f i = some r) : firstFrom f i (n + 1) = some r := by
  unfold firstFrom
  rw [h]
theorem firstFrom_miss {α : Type} {f : Nat → Option α} {i n : Nat} (h : f i = none) : firstFrom f i (n + 1) = firstFrom f (i + 1) n := by
  rw [firstFrom, h]
def lawDraw (cell k bound : Int) : Int :=
  let s1 := (cell % 2147483647 + 977 * k + 1) * 48271 % 2147483647
  let s2 := s1 * s1 % 2147483629
  let s3 := (s2 + 40692 * (k + 3)) * 69621 % 2147483647
  s3 / 8 % bound
/-- the place that the i-th turn tries -/
def placeOf (cell : Int) (m spare i : Nat) : Nat := (((i : Int) + lawDraw cell (m : Int) (spare : Int)) % (spare : Int)).toNat
def put2 (row : List Int) (p m : Nat) : List Int := (row.set p (m : Int)).set (p + m) (m : Int)
def lawFilled (cell : Int) : Nat → List Int → Option (List Int)
  | 0, row => some row
  | n + 1, row => firstFrom (fun i =>
      let p := placeOf cell (n + 1) (row.length - (n + 1)) i
      if row[p]? = some 0 ∧ row[p + (n + 1)]? = some 0 then lawFilled cell n (put2 row p (n + 1)) else none) 0 (row.length - (n + 1))
theorem put2_length (row : List Int) (p m : Nat) : (put2 row p m).length = row.length := by simp [put2]
theorem put2_at {row : List Int} {p m j : Nat} (hm : 0 < m) (hp : p + m < row.length) : (put2 row p m)[j]? = if j = p ∨ j = p + m then some (m : Int) else row[j]? := by
  unfold put2
  rw [List.getElem?_set, List.getElem?_set, List.length_set]
  by_cases h1 : p + m = j
  · rw [if_pos h1, if_pos (by omega), if_pos (.inr h1.symm)]
  · rw [if_neg h1]
    by_cases h2 : p = j
    · rw [if_pos h2, if_pos (by omega), if_pos (.inl h2.symm)]
    · rw [if_neg h2, if_neg (by omega)]
theorem placeOf_lt {cell : Int} {m spare i : Nat} (h : 0 < spare) : placeOf cell m spare i < spare := by
  unfold placeOf
  have h1 := Int.emod_nonneg ((i : Int) + lawDraw cell (m : Int) (spare : Int)) (show (spare : Int) ≠ 0 by omega)
  have h2 := Int.emod_lt_of_pos ((i : Int) + lawDraw cell (m : Int) (spare : Int)) (show (0 : Int) < spare by omega)
  omega
theorem placeOf_hit {cell : Int} {m spare p : Nat} (h : p < spare) : ∃ i, i < spare ∧ placeOf cell m spare i = p := by
  refine ⟨(((p : Int) - lawDraw cell (m : Int) (spare : Int)) % (spare : Int)).toNat, ?_, ?_⟩
  · have h1 := Int.emod_nonneg ((p : Int) - lawDraw cell (m : Int) (spare : Int)) (show (spare : Int) ≠ 0 by omega)
    have h2 := Int.emod_lt_of_pos ((p : Int) - lawDraw cell (m : Int) (spare : Int)) (show (0 : Int) < spare by omega)
    omega
  · unfold placeOf
    have h1 := Int.emod_nonneg ((p : Int) - lawDraw cell (m : Int) (spare : Int)) (show (spare : Int) ≠ 0 by omega)
    rw [Int.toNat_of_nonneg h1, Int.emod_add_emod, Int.sub_add_cancel, Int.emod_eq_of_lt (by omega) (by omega)]
    omega
/-- the numbers above n stand as they must, the rest is nought -/
structure Part (n size : Nat) (row : List Int) : Prop where
  len : row.length = 2 * size
  val : ∀ x ∈ row, x = 0 ∨ (n : Int) < x
  ok : ∀ m : Int, (n : Int) < m → m ≤ (size : Int) → good row m = true
theorem Part.put {n size : Nat} {row : List Int} {p : Nat} (h : Part (n + 1) size row) (h1 : row[p]? = some 0) (h2 : row[p + (n + 1)]? = some 0) : Part n size (put2 row p (n + 1)) := by
  have hp : p + (n + 1) < row.length := (List.getElem?_eq_some_iff.mp h2).1
  have hat := fun j => put2_at (row := row) (p := p) (m := n + 1) (j := j) (by omega) hp
  refine ⟨by rw [put2_length]; exact h.len, fun x hx => ?_, fun m m1 m2 => ?_⟩
  · obtain ⟨j, hj⟩ := List.getElem?_of_mem hx
    rw [hat] at hj
    split at hj
    · have := Option.some.inj hj
      exact .inr (by omega)
    · rcases h.val x (List.mem_of_getElem? hj) with e | e
      · exact .inl e
      · exact .inr (by omega)
  · by_cases hm : m = ((n + 1 : Nat) : Int)
    · subst hm
      refine (good_iff _ _ (by omega)).mpr ⟨p, ?_, ?_, fun q hq => ?_⟩
      · rw [hat, if_pos (.inl rfl)]
      · have e : (((n + 1 : Nat) : Int)).toNat = n + 1 := by omega
        rw [e, hat, if_pos (.inr rfl)]
      · rw [hat] at hq
        split at hq
        · rename_i e
          have e2 : (((n + 1 : Nat) : Int)).toNat = n + 1 := by omega
          rw [e2]
          exact e
        · rcases h.val _ (List.mem_of_getElem? hq) with e | e
          · omega
          · exact absurd e (Int.lt_irrefl _)
    · obtain ⟨q, q1, q2, q3⟩ := (good_iff _ _ (by omega)).mp (h.ok m (by omega) m2)
      have no : ∀ j, row[j]? = some m → ¬ (j = p ∨ j = p + (n + 1)) := fun j hj z => by
        rcases z with rfl | rfl
        · rw [h1] at hj
          have := Option.some.inj hj
          omega
        · rw [h2] at hj
          have := Option.some.inj hj
          omega
      refine (good_iff _ _ (by omega)).mpr ⟨q, ?_, ?_, fun j hj => ?_⟩
      · rw [hat, if_neg (no _ q1)]
        exact q1
      · rw [hat, if_neg (no _ q2)]
        exact q2
      · rw [hat] at hj
        split at hj
        · have := Option.some.inj hj
          omega
        · exact q3 j hj
theorem lawFilled_part (cell : Int) {size : Nat} : ∀ (n : Nat) (row r : List Int), Part n size row → lawFilled cell n row = some r → Part 0 size r
  | 0, row, r, h, e => by
    cases e
    exact h
  | n + 1, row, r, h, e => by
    unfold lawFilled at e
    obtain ⟨j, _, _, e2⟩ := firstFrom_some e
    simp only at e2
    split at e2
    · rename_i c
      exact lawFilled_part cell n _ r (h.put c.1 c.2) e2
    · cases e2
def mask (n : Nat) (S : List Int) : List Int := S.map fun x => if (n : Int) < x then x else 0
theorem mask_at (n : Nat) (S : List Int) (j : Nat) : (mask n S)[j]? = S[j]?.map fun x => if (n : Int) < x then x else 0 := by
  unfold mask
  rw [List.getElem?_map]
theorem lawFilled_found (cell : Int) {size : Nat} {S : List Int} (hS : isRow S = true) (hl : S.length = 2 * size) : ∀ n : Nat, n ≤ size → lawFilled cell n (mask n S) ≠ none
  | 0, _ => by simp [lawFilled]
  | n + 1, hn => by
    have ih := lawFilled_found cell hS hl n (by omega)
    have hml : (mask (n + 1) S).length = 2 * size := by unfold mask; rw [List.length_map, hl]
    have hg := ((isRow_iff S).mp hS).2.2.2 ((n + 1 : Nat) : Int) (by omega) (by rw [hl]; omega)
    obtain ⟨p, p1, p2, p3⟩ := (good_iff _ _ (by omega)).mp hg
    have e : (((n + 1 : Nat) : Int)).toNat = n + 1 := by omega
    rw [e] at p2 p3
    have hp : p + (n + 1) < 2 * size := by
      have := (List.getElem?_eq_some_iff.mp p2).1
      rwa [hl] at this
    unfold lawFilled
    obtain ⟨i, i1, i2⟩ := placeOf_hit (cell := cell) (m := n + 1) (spare := (mask (n + 1) S).length - (n + 1)) (p := p) (by rw [hml]; omega)
    refine firstFrom_ne (j := i) (Nat.zero_le _) (by omega) ?_
    simp only [i2]
    have z1 : (mask (n + 1) S)[p]? = some 0 := by
      rw [mask_at, p1]
      simp
    have z2 : (mask (n + 1) S)[p + (n + 1)]? = some 0 := by
      rw [mask_at, p2]
      simp
    rw [if_pos ⟨z1, z2⟩]
    have em : put2 (mask (n + 1) S) p (n + 1) = mask n S := by
      apply List.ext_getElem?
      intro j
      rw [put2_at (by omega) (by rw [hml]; exact hp), mask_at, mask_at]
      split
      · rename_i c
        have : S[j]? = some ((n + 1 : Nat) : Int) := by
          rcases c with rfl | rfl
          · exact p1
          · exact p2
        rw [this]
        simp
        omega
      · rename_i c
        cases hj : S[j]? with
        | none => rfl
        | some x =>
          have hx : x ≠ ((n + 1 : Nat) : Int) := fun z => by
            rw [z] at hj
            exact c (p3 j hj)
          simp only [Option.map_some]
          congr 1
          by_cases hlt : (n : Int) < x
          · rw [if_pos hlt, if_pos (by omega)]
          · rw [if_neg hlt, if_neg (by omega)]
    rw [em]
    exact ih
/-- trying places finds a row -/
theorem lawFilled_row (cell : Int) {size : Nat} (h1 : 1 ≤ size) (h2 : size ≤ 400) (h3 : size % 4 < 2) : ∃ r, lawFilled cell size (List.replicate (2 * size) 0) = some r ∧ isRow r = true ∧ r.length = 2 * size := by
  have hS := rowOf_row (size := (size : Int)) (by omega) (by omega) (by omega)
  have hl : (rowOf (size : Int)).length = 2 * size := by rw [rowOf_length]; omega
  have em : mask size (rowOf (size : Int)) = List.replicate (2 * size) 0 := by
    refine List.eq_replicate_iff.mpr ⟨by unfold mask; rw [List.length_map, hl], fun x hx => ?_⟩
    unfold mask at hx
    obtain ⟨y, hy, rfl⟩ := List.mem_map.mp hx
    have := isRow_bound hS y hy
    rw [hl] at this
    rw [if_neg (by omega)]
  have hne := lawFilled_found cell hS hl size (Nat.le_refl _)
  rw [em] at hne
  obtain ⟨r, hr⟩ := Option.ne_none_iff_exists'.mp hne
  have hp := lawFilled_part cell size _ r (size := size) ⟨by simp, fun x hx => .inl (List.eq_of_mem_replicate hx), fun m m1 m2 => by omega⟩ hr
  refine ⟨r, hr, (isRow_iff r).mpr ⟨by have := hp.len; omega, by have := hp.len; omega, by have := hp.len; omega, fun k k1 k2 => hp.ok k (by omega) (by have := hp.len; omega)⟩, hp.len⟩
end Sa

/-! PLAIN the contrary row -/
namespace Sa
theorem rev_at (row : List Int) (p : Nat) (hp : p < row.length) : row.reverse[p]? = row[row.length - 1 - p]? := by
  rw [List.getElem?_reverse hp]
theorem good_reverse {row : List Int} {k : Int} (hk : 0 < k) (h : good row k = true) : good row.reverse k = true := by
  obtain ⟨p, p1, p2, p3⟩ := (good_iff row k hk).mp h
  have hp : p + k.toNat < row.length := (List.getElem?_eq_some_iff.mp p2).1
  refine (good_iff _ k hk).mpr ⟨row.length - 1 - (p + k.toNat), ?_, ?_, fun q hq => ?_⟩
  · rw [rev_at _ _ (by omega), show row.length - 1 - (row.length - 1 - (p + k.toNat)) = p + k.toNat by omega]
    exact p2
  · rw [rev_at _ _ (by omega), show row.length - 1 - (row.length - 1 - (p + k.toNat) + k.toNat) = p by omega]
    exact p1
  · have hql : q < row.length := by
      have := (List.getElem?_eq_some_iff.mp hq).1
      rwa [List.length_reverse] at this
    rw [rev_at _ _ hql] at hq
    rcases p3 _ hq with e | e
    · exact .inr (by omega)
    · exact .inl (by omega)
theorem isRow_reverse {row : List Int} (h : isRow row = true) : isRow row.reverse = true := by
  obtain ⟨h1, h2, h3, h4⟩ := (isRow_iff row).mp h
  refine (isRow_iff _).mpr ?_
  rw [List.length_reverse]
  exact ⟨h1, h2, h3, fun k k1 k2 => good_reverse (by omega) (h4 k k1 k2)⟩
end Sa

namespace Sa
open PySem PySem.Spec PyProof.Rows L2
def topS (i : Nat) : Stmt := PySem.Challenge.pw_sameapart_k04_whole_each_size.main.body.getD i (.Pass ⟨0, 0, 0, 0⟩)
abbrev st_asked_size : Stmt := topS 9
abbrev st_found_places : Stmt := topS 10
abbrev st_is_row : Stmt := topS 11
abbrev st_can_be : Stmt := topS 12
abbrev st_pairs_of_four : Stmt := topS 13
abbrev st_pairs_of_one_more : Stmt := topS 14
abbrev st_row_of : Stmt := topS 15
abbrev st_law_cell_at : Stmt := topS 17
abbrev st_law_whole : Stmt := topS 18
abbrev st_law_is_row : Stmt := topS 19
abbrev st_law_word_of : Stmt := topS 20
abbrev st_law_told : Stmt := topS 21
abbrev st_law : Stmt := topS 22
/-! ### words for a def of the text, for the built-in names, for an error class -/
section
/-- a def of the text as it stands behind the top, under its name -/
structure Df (K : PySem.W.Frag) (mg : Str → Option Value) (x : Str) (st : Stmt) (ps : List Str) : Prop where
  ex : ∃ (f : Addr) (fd : FuncData), Fun K x x st f fd ∧ Binds K fd ps [] ∧ mg x = some (.ref f)
/-- a def whose promise is known -/
structure Kn (P : Program) (w : World) (K : PySem.W.Frag) (mg : Str → Option Value) (base : Heap) (CX : CXT) (k : Nat) (x : Str) (ps : List Str) (sp : Sp) : Prop where
  ex : ∃ (f : Addr) (fd : FuncData), FnOk P w K mg base CX k f fd ps sp ∧ PySem.W.keepIn K (.ref f) = true ∧ Binds K fd ps [] ∧ mg x = some (.ref f)
/-- the built-in names are not bound by the module -/
structure Bl (mg : Str → Option Value) : Prop where
  len_ : mg "len" = none
  range_ : mg "range" = none
  enumerate_ : mg "enumerate" = none
  list_ : mg "list" = none
  reversed_ : mg "reversed" = none
  sorted_ : mg "sorted" = none
  tuple_ : mg "tuple" = none
  min_ : mg "min" = none
  max_ : mg "max" = none
  isinstance_ : mg "isinstance" = none
  int_ : mg "int" = none
  str_ : mg "str" = none
  bool_ : mg "bool" = none
  all_ : mg "all" = none
  ValueError_ : mg "ValueError" = none
/-- an error class of the text -/
structure Ec (K : PySem.W.Frag) (mg : Str → Option Value) (x : Str) (C : Addr) : Prop where
  g : mg x = some (.ref C)
  x : PySem.W.excIn K C [.type "ValueError", .type "Exception", .type "BaseException", .type "object"] "ValueError.__new__" = true
  k : PySem.W.keepIn K (.ref C) = true
  b : PySem.W.subIn K (.ref C) (.type "BaseException") = some true
  t : PySem.W.typeIn K (.ref C) = some (.type "type")
variable {P : Program} {w : World} {K : PySem.W.Frag} {mg : Str → Option Value} {base : Heap}
theorem Df.kn {x : Str} {st : Stmt} {ps N : List Str} {k : Nat} {sp : Sp} (D : Df K mg x st ps) (S : FnScope N ps (defScope st)) (len : ∀ vs H Q E, sp vs H Q E → vs.length = ps.length)
    (hbody : ∀ (f : Addr) (cdv : Value) (A : Around) (outer : List Env) (s : Shared) (H : Hp) (vs : List V) (Q : VK) (E : XK), Room k (A.deeper (envOfC x (defScope st) s.heap.objs.size f cdv)) → sp vs H Q E →
      ∃ t, PSs (cxOf CX0 P w K mg base N x (defScope st) f cdv A outer s H E).nox (defBody st) t ∧ t { nx := fun _ H' => Q .non H', rt := Q } (start N vs) H) : Kn P w K mg base CX0 (k + 1) x ps sp := by
  obtain ⟨f, fd, F, b, g⟩ := D.ex
  exact ⟨f, fd, F.ok S len (hbody f), F.kp, b, g⟩
theorem Df.knX {x : Str} {st : Stmt} {ps N : List Str} {k : Nat} {sp : Sp} (D : Df K mg x st ps) (S : FnScope N ps (defScope st)) (len : ∀ vs H Q E, sp vs H Q E → vs.length = ps.length)
    (hbody : ∀ (f : Addr) (cdv : Value) (A : Around) (outer : List Env) (s : Shared) (H : Hp) (vs : List V) (Q : VK) (E : XK), Room k (A.deeper (envOfC x (defScope st) s.heap.objs.size f cdv)) → sp vs H Q E →
      ∃ t, PSs (cxOf (L2.CX P w) P w K mg base N x (defScope st) f cdv A outer s H E) (defBody st) t ∧ t { nx := fun _ H' => Q .non H', rt := Q } (start N vs) H) : Kn P w K mg base (L2.CX P w) (k + 1) x ps sp := by
  obtain ⟨f, fd, F, b, g⟩ := D.ex
  exact ⟨f, fd, F.okX S len (hbody f), F.kp, b, g⟩
theorem Kn.imp {CX : CXT} {k : Nat} {x : Str} {ps : List Str} {sp sp' : Sp} (N : Kn P w K mg base CX k x ps sp) (h : ∀ vs H Q E, sp' vs H Q E → sp vs H Q E) : Kn P w K mg base CX k x ps sp' := by
  obtain ⟨f, fd, F, r⟩ := N.ex
  exact ⟨f, fd, F.imp h, r⟩
theorem Kn.mono {CX : CXT} {j k : Nat} {x : Str} {ps : List Str} {sp : Sp} (N : Kn P w K mg base CX j x ps sp) (h : j ≤ k) : Kn P w K mg base CX k x ps sp := by
  obtain ⟨f, fd, F, r⟩ := N.ex
  exact ⟨f, fd, F.mono h, r⟩
end
section
variable {X : Cx} {CX : CXT} {k : Nat} {x : Str} {ps : List Str} {sp : Sp} {p pos : Pos} {e : Expr} {es : List Expr} {t : TA}
/-- a call of a def that lets no error out -/
theorem pe_k0 (N : Kn X.prog X.w X.K X.mg X.base CX0 k x ps sp) (hr : Room k X.A) (hg : Gl X x) (ha : PA X (e :: es) t) (hdb : (x == ("__debug__" : Str)) = false := by decide)
    (he : starEach (e :: es) X.env = (false, eval e X.env) :: starEach es X.env := by rfl) (hpl : (backTo pos (starEach es X.env)).any (·.1) = false := by rfl) : PE X (.Call (.Name x p) (e :: es) [] pos) (tCall sp [] E0 t) := by
  obtain ⟨f, fd, F, kp, b, g⟩ := N.ex
  exact pe_call F hr hg g kp b .nil pass0 ha hdb he hpl
/-- a call of a def that may let one out but here does not -/
theorem pe_kL (N : Kn X.prog X.w X.K X.mg X.base (L2.CX X.prog X.w) k x ps sp) (hr : Room k X.A) (hg : Gl X x) (ha : PA X (e :: es) t) (hdb : (x == ("__debug__" : Str)) = false := by decide)
    (he : starEach (e :: es) X.env = (false, eval e X.env) :: starEach es X.env := by rfl) (hpl : (backTo pos (starEach es X.env)).any (·.1) = false := by rfl) : PE X (.Call (.Name x p) (e :: es) [] pos) (tCall sp [] E0 t) := by
  obtain ⟨f, fd, F, kp, b, g⟩ := N.ex
  exact pe_call F hr hg g kp b .nil passL ha hdb he hpl
/-- .. whose error goes on out of the def at hand -/
theorem pe_kE {E : XK} (N : Kn X.prog X.w X.K X.mg X.base (L2.CX X.prog X.w) k x ps sp) (tk : Takes X (fun cls d _ H => E cls d H)) (hr : Room k X.A) (hg : Gl X x) (ha : PA X (e :: es) t) (hdb : (x == ("__debug__" : Str)) = false := by decide)
    (he : starEach (e :: es) X.env = (false, eval e X.env) :: starEach es X.env := by rfl) (hpl : (backTo pos (starEach es X.env)).any (·.1) = false := by rfl) : PE X (.Call (.Name x p) (e :: es) [] pos) (tCall sp [] E t) := by
  obtain ⟨f, fd, F, kp, b, g⟩ := N.ex
  exact pe_call F hr hg g kp b .nil (passes_call tk (fun _ _ _ _ h => h)) ha hdb he hpl
end
section
variable {X : Cx} {x : Str} {pos : Pos}
theorem pe_globI {n : Int} {tk : Tok} (hg : Gl X x) (hm : X.mg x = some (.int n tk)) (hd : (x == ("__debug__" : Str)) = false := by decide) : PE X (.Name x pos) (tC (.int n)) := pe_glob hg hm ⟨_, rfl⟩ hd
theorem pe_globS {n : Str} {tk : Tok} (hg : Gl X x) (hm : X.mg x = some (.str n tk)) (hd : (x == ("__debug__" : Str)) = false := by decide) : PE X (.Name x pos) (tC (.str n)) := pe_glob hg hm ⟨_, rfl⟩ hd
end
/-! ### heaps, lists of ints -/
theorem same_upd {H : Hp} {p : Addr} {o : HO} (h : H p = none) : Same H (upd H p o) := fun b x e => by
  rw [upd_ne (ne_of_none e h)]
  exact e
theorem _root_.L2.Same.new {H H' : Hp} {p : Addr} {o : HO} (s : Same H H') (h : H' p = none) : Same H (upd H' p o) := s.trans (same_upd h)
/-- what was made behind H may be changed -/
theorem _root_.L2.Same.own {H H' : Hp} {p : Addr} {o : HO} (s : Same H H') (h : H p = none) : Same H (upd H' p o) := fun b x e => by
  rw [upd_ne (ne_of_none e h)]
  exact s b x e
theorem line_eq : (sizeLine : Nat) = 16777216 := sizeLine_eq
theorem small {n : Nat} (h : n ≤ 16777216) : n ≤ sizeLine := by rw [line_eq]; exact h
theorem smaller {n : Nat} (h : n < 16777216) : n < sizeLine := by rw [line_eq]; exact h
theorem ints_get {ns : List Int} {i : Nat} {n : Int} (h : ns[i]? = some n) : (ns.map V.int)[i]? = some (.int n) := by
  rw [List.getElem?_map, h]
  rfl
theorem of_ints_get {ns : List Int} {i : Nat} {y : V} (h : (ns.map V.int)[i]? = some y) : ∃ z, ns[i]? = some z ∧ y = V.int z := by
  rw [List.getElem?_map] at h
  cases e : ns[i]? with
  | none =>
    rw [e] at h
    cases h
  | some z =>
    rw [e] at h
    exact ⟨z, rfl, (Option.some.inj h).symm⟩
theorem ints_len (ns : List Int) : (ns.map V.int).length = ns.length := List.length_map _
/-- an item at a place that is not below nought -/
theorem at_ints {ns : List Int} {i : Int} {n : Int} (h0 : 0 ≤ i) (h : ns[i.toNat]? = some n) : atI (ns.map V.int) i = some (.int n) := by
  have q : atI (ns.map V.int) ((i.toNat : Nat) : Int) = some (.int n) := atI_nat (ints_get h)
  rwa [Int.toNat_of_nonneg h0] at q
theorem at_vals {α : Type} {xs : List α} {i : Int} {v : α} (h0 : 0 ≤ i) (h : xs[i.toNat]? = some v) : atI xs i = some v := by
  have q : atI xs ((i.toNat : Nat) : Int) = some v := atI_nat h
  rwa [Int.toNat_of_nonneg h0] at q
theorem take_snoc {α : Type} {l : List α} {i : Nat} {x : α} (h : l[i]? = some x) : l.take (i + 1) = l.take i ++ [x] := by
  rw [List.take_add_one, h]
  rfl

/-! ### == of data made of ints -/
section
variable {K : PySem.W.Frag} {H : Hp}
theorem dpAll_ints : ∀ ns : List Int, DpAll K H (ns.map V.int) (ns.map PyData.int)
  | [] => .nil
  | n :: r => .cons (.int n) (dpAll_ints r)
theorem dp_list {a : Addr} {ns : List Int} (h : SqL K H a (ns.map V.int)) : Dp K H (.ref a) (.list (ns.map PyData.int)) := .lst h (dpAll_ints ns)
theorem dp_tup {a : Addr} {ns : List Int} (h : SqT K H a (ns.map V.int)) : Dp K H (.ref a) (.tuple (ns.map PyData.int)) := .tup h (dpAll_ints ns)
end
theorem lay_ints : ∀ ns : List Int, PyData.canLayAll0 (ns.map PyData.int) = true
  | [] => by simp [PyData.canLayAll0]
  | n :: r => by simp [PyData.canLayAll0, PyData.canLay0, lay_ints r]
theorem depth_ints : ∀ ns : List Int, PyData.depthAll (ns.map PyData.int) = 0
  | [] => by simp [PyData.depthAll]
  | n :: r => by simp [PyData.depthAll, PyData.depth, depth_ints r]
theorem shaped_list (ns : List Int) : SeqAt.shaped (.list (ns.map PyData.int)) = true := by
  show (PyData.canLay0 (.list (ns.map PyData.int)) && decide (PyData.depth (.list (ns.map PyData.int)) ≤ 64)) = true
  simp [PyData.canLay0, PyData.depth, lay_ints, depth_ints]
theorem shaped_tup (ns : List Int) : SeqAt.shaped (.tuple (ns.map PyData.int)) = true := by
  show (PyData.canLay0 (.tuple (ns.map PyData.int)) && decide (PyData.depth (.tuple (ns.map PyData.int)) ≤ 64)) = true
  simp [PyData.canLay0, PyData.depth, lay_ints, depth_ints]
theorem eqvAll_ints : ∀ xs ys : List Int, PyData.eqvAll (xs.map PyData.int) (ys.map PyData.int) = decide (xs = ys)
  | [], [] => by simp [PyData.eqvAll]
  | [], _ :: _ => by simp [PyData.eqvAll]
  | _ :: _, [] => by simp [PyData.eqvAll]
  | x :: xs, y :: ys => by
    have ih := eqvAll_ints xs ys
    simp only [List.map_cons, PyData.eqvAll, PyData.eqv, ih, List.cons.injEq]
    by_cases h : x = y <;> simp [h]
theorem eqv_lists (xs ys : List Int) : PyData.eqv (.list (xs.map PyData.int)) (.list (ys.map PyData.int)) = decide (xs = ys) := by
  simp only [PyData.eqv, eqvAll_ints]
theorem eqv_tups (xs ys : List Int) : PyData.eqv (.tuple (xs.map PyData.int)) (.tuple (ys.map PyData.int)) = decide (xs = ys) := by
  simp only [PyData.eqv, eqvAll_ints]
/-- .. the answers of == and != of two lists, two tuples of ints -/
theorem eqD_lists {K : PySem.W.Frag} {H : Hp} {Q : VK} {a b : Addr} {xs ys : List Int} (ha : SqL K H a (xs.map V.int)) (hb : SqL K H b (ys.map V.int)) (q : Q (.bl (decide (xs = ys))) H) : rEqD K (.ref a) (.ref b) H Q :=
  ⟨_, _, dp_list ha, dp_list hb, shaped_list _, shaped_list _, by rw [eqv_lists]; exact q⟩
theorem neD_lists {K : PySem.W.Frag} {H : Hp} {Q : VK} {a b : Addr} {xs ys : List Int} (ha : SqL K H a (xs.map V.int)) (hb : SqL K H b (ys.map V.int)) (q : Q (.bl (!decide (xs = ys))) H) : rNeD K (.ref a) (.ref b) H Q :=
  ⟨_, _, dp_list ha, dp_list hb, shaped_list _, shaped_list _, by rw [eqv_lists]; exact q⟩
theorem eqD_tups {K : PySem.W.Frag} {H : Hp} {Q : VK} {a b : Addr} {xs ys : List Int} (ha : SqT K H a (xs.map V.int)) (hb : SqT K H b (ys.map V.int)) (q : Q (.bl (decide (xs = ys))) H) : rEqD K (.ref a) (.ref b) H Q :=
  ⟨_, _, dp_tup ha, dp_tup hb, shaped_tup _, shaped_tup _, by rw [eqv_tups]; exact q⟩
theorem neD_tups {K : PySem.W.Frag} {H : Hp} {Q : VK} {a b : Addr} {xs ys : List Int} (ha : SqT K H a (xs.map V.int)) (hb : SqT K H b (ys.map V.int)) (q : Q (.bl (!decide (xs = ys))) H) : rNeD K (.ref a) (.ref b) H Q :=
  ⟨_, _, dp_tup ha, dp_tup hb, shaped_tup _, shaped_tup _, by rw [eqv_tups]; exact q⟩
/-- a test whose answer is known -/
theorem iteTr {c : Bool} {A B : Prop} (hc : c = true) (h : A) : if c = true then A else B := by
  rw [if_pos hc]
  exact h
theorem iteFa {c : Bool} {A B : Prop} (hc : c = false) (h : B) : if c = true then A else B := by
  rw [hc]
  exact iteF h

/-! ### lists of pairs, lists of noughts -/
theorem fam_succ (lo : Int) (n : Nat) (f : Int → Int × Int) : fam lo (n + 1) f = fam lo n f ++ [f (lo + (n : Int))] := by
  unfold fam
  rw [List.range_succ, List.map_append]
  rfl
/-- at ts stand the pairs of numbers ps -/
def PairsAt (H : Hp) (ts : List Addr) (ps : List (Int × Int)) : Prop := ts.length = ps.length ∧ ∀ (i : Nat) (t : Addr) (q : Int × Int), ts[i]? = some t → ps[i]? = some q → H t = some (.tup [.int q.1, .int q.2])
theorem PairsAt.nil {H : Hp} : PairsAt H [] [] := ⟨rfl, fun i t q h => by simp at h⟩
theorem PairsAt.keep {H H' : Hp} {ts : List Addr} {ps : List (Int × Int)} (h : PairsAt H ts ps) (s : Same H H') : PairsAt H' ts ps := ⟨h.1, fun i t q h1 h2 => s _ _ (h.2 i t q h1 h2)⟩
theorem PairsAt.append {H : Hp} {ts us : List Addr} {ps qs : List (Int × Int)} (h : PairsAt H ts ps) (g : PairsAt H us qs) : PairsAt H (ts ++ us) (ps ++ qs) := by
  refine ⟨by rw [List.length_append, List.length_append, h.1, g.1], fun i t q h1 h2 => ?_⟩
  by_cases hi : i < ts.length
  · rw [List.getElem?_append_left hi] at h1
    rw [List.getElem?_append_left (by rw [← h.1]; exact hi)] at h2
    exact h.2 i t q h1 h2
  · rw [List.getElem?_append_right (by omega)] at h1
    rw [List.getElem?_append_right (by rw [← h.1]; omega), ← h.1] at h2
    exact g.2 _ t q h1 h2
theorem PairsAt.one {H : Hp} {t : Addr} {q : Int × Int} (h : H t = some (.tup [.int q.1, .int q.2])) : PairsAt H [t] [q] := by
  refine ⟨rfl, fun i t' q' h1 h2 => ?_⟩
  cases i with
  | zero =>
    cases h1
    cases h2
    exact h
  | succ i => simp at h1
theorem PairsAt.get {H : Hp} {ts : List Addr} {ps : List (Int × Int)} (h : PairsAt H ts ps) {i : Nat} {y : V} (hy : (ts.map V.ref)[i]? = some y) : ∃ t q, y = .ref t ∧ ps[i]? = some q ∧ H t = some (.tup [.int q.1, .int q.2]) := by
  rw [List.getElem?_map] at hy
  cases e : ts[i]? with
  | none =>
    rw [e] at hy
    cases hy
  | some t =>
    rw [e] at hy
    have hi := (List.getElem?_eq_some_iff.mp e).1
    rw [h.1] at hi
    exact ⟨t, ps[i], (Option.some.inj hy).symm, List.getElem?_eq_getElem hi, h.2 i t _ e (List.getElem?_eq_getElem hi)⟩
/-- a comprehension of pairs over a range -/
theorem lc_pairs {lo : Int} {n j : Nat} {te : TE} {σ : L2.St} {H1 : Hp} {D : Addr} {Qd : Hp → Prop} (nD : H1 D = none) (hn : n < 16777216) (f : Int → Int × Int)
    (hs : ∀ (i : Nat) (H : Hp) (Q : VK), i < n → (∀ p, H p = none → Q (.ref p) (upd H p (.tup [.int (f (lo + (i : Int))).1, .int (f (lo + (i : Int))).2]))) → te ((σ.set j none).set j (some (.int (lo + (i : Int))))) H Q)
    (hd : ∀ H' ts, Same H1 H' → H' D = some (.lst (ts.map V.ref)) → PairsAt H' ts (fam lo n f) → Qd H') :
    ∃ W : Nat → Nat → Hp → Prop, (∃ m, W 0 m (upd H1 D (.lst []))) ∧ ∀ i m H, W i m H →
      ((Itr lo n).stop i H ∧ Qd H) ∨ ((Itr lo n).go i H ∧ ∃ Nx : Hp → Prop, (∀ H', Nx H' → ∃ m', m' < m ∧ W (i + 1) m' H') ∧ ∀ x H', (Itr lo n).yld i H x H' → gName j x (wipe σ [j]) H' fun σ2 H2 => wipe σ2 [j] = wipe σ [j] ∧ tYes σ2 H2 fun b H3 =>
        if b = true then te σ2 H3 fun y H4 => ∃ acc, H4 D = some (.lst acc) ∧ acc.length < sizeLine ∧ Nx (upd H4 D (.lst (acc ++ [y]))) else Nx H3) := by
  refine lc_range (fun i H' => ∃ ts, Same H1 H' ∧ H' D = some (.lst (ts.map V.ref)) ∧ PairsAt H' ts (fam lo i f)) ⟨[], same_upd nD, upd_same, .nil⟩ ?_ ?_
  · rintro i H hi ⟨ts, s1, e1, p1⟩
    refine ⟨?_, ?_⟩
    · show ((σ.set j none).set j (some (V.int (lo + (i : Int))))).set j none = σ.set j none
      rw [List.set_set, List.set_set]
    refine iteT (B := ∃ ts, Same H1 H ∧ H D = some (HO.lst (List.map V.ref ts)) ∧ PairsAt H ts (fam lo (i + 1) f)) ?_
    refine hs i H _ hi fun p np => ?_
    refine ⟨ts.map V.ref, ?_, ?_, ts ++ [p], ?_, ?_, ?_⟩
    · have nDp : D ≠ p := ne_of_none e1 np
      rw [upd_ne nDp]
      exact e1
    · rw [List.length_map, p1.1, fam_length]
      exact smaller (by omega)
    · exact (s1.new np).own nD
    · rw [upd_same, List.map_append]
      rfl
    · rw [fam_succ]
      have nDp : p ≠ D := fun e => by
        rw [e, e1] at np
        cases np
      have nt : ∀ {t : Addr} {q : Int × Int}, H t = some (.tup [.int q.1, .int q.2]) → t ≠ D := fun h e => by
        rw [e, e1] at h
        cases h
      refine PairsAt.append ⟨p1.1, fun k t q h1 h2 => ?_⟩ (.one ?_)
      · have h3 := p1.2 k t q h1 h2
        rw [upd_ne (nt h3), upd_ne (ne_of_none h3 np)]
        exact h3
      · rw [upd_ne nDp, upd_same]
  · rintro H ⟨ts, s1, e1, p1⟩
    exact hd H ts s1 e1 p1
/-- [0 for k in range(n)] -/
theorem lc_noughts {n j : Nat} {σ : L2.St} {H1 : Hp} {D : Addr} {Qd : Hp → Prop} (hn : n < 16777216) (hd : Qd (upd H1 D (.lst ((List.replicate n (0 : Int)).map V.int)))) :
    ∃ W : Nat → Nat → Hp → Prop, (∃ m, W 0 m (upd H1 D (.lst []))) ∧ ∀ i m H, W i m H →
      ((Itr 0 n).stop i H ∧ Qd H) ∨ ((Itr 0 n).go i H ∧ ∃ Nx : Hp → Prop, (∀ H', Nx H' → ∃ m', m' < m ∧ W (i + 1) m' H') ∧ ∀ x H', (Itr 0 n).yld i H x H' → gName j x (wipe σ [j]) H' fun σ2 H2 => wipe σ2 [j] = wipe σ [j] ∧ tYes σ2 H2 fun b H3 =>
        if b = true then tC (.int 0) σ2 H3 fun y H4 => ∃ acc, H4 D = some (.lst acc) ∧ acc.length < sizeLine ∧ Nx (upd H4 D (.lst (acc ++ [y]))) else Nx H3) := by
  refine lc_range (lo := 0) (fun i H' => H' = upd H1 D (.lst ((List.replicate i (0 : Int)).map V.int))) rfl ?_ ?_
  · rintro i H hi rfl
    refine ⟨?_, iteT (B := upd H1 D (HO.lst (List.map V.int (List.replicate i (0 : Int)))) = upd H1 D (HO.lst (List.map V.int (List.replicate (i + 1) (0 : Int))))) ⟨_, upd_same, ?_, ?_⟩⟩
    · show ((σ.set j none).set j (some (V.int (0 + (i : Int))))).set j none = σ.set j none
      rw [List.set_set, List.set_set]
    · rw [List.length_map, List.length_replicate]
      exact smaller (by omega)
    · rw [upd_upd, List.replicate_succ', List.map_append]
      rfl
  · rintro H rfl
    exact hd
/-- a place that set_list asks -/
theorem ixN_at {n : Nat} {i : Int} (h0 : 0 ≤ i) (h1 : i < n) : ixN n i = some i.toNat := by
  unfold ixN
  rw [if_pos h0, if_pos h1]
theorem set_ints (ns : List Int) (j : Nat) (x : Int) : (ns.map V.int).set j (.int x) = (ns.set j x).map V.int := by
  rw [List.map_set]

/-! ### asked_size -/
abbrev N_asked_size : List Str := ["size", "most"]
theorem sc_asked_size : FnScope N_asked_size ["size", "most"] (defScope st_asked_size) := ⟨rfl, rfl, rfl, by decide +kernel, rfl, by decide +kernel, by decide +kernel⟩
/-- refuses a size below one or above most: E of the class at C -/
def spAskedSize (C : Addr) : Sp := fun vs H Q E => ∃ size most : Int, vs = [.int size, .int most] ∧ (¬ (1 ≤ size ∧ size ≤ most) → E (.ref C) none H) ∧ (1 ≤ size ∧ size ≤ most → Q .non H)
section
variable {P : Program} {w : World} {K : PySem.W.Frag} {mg : Str → Option Value} {base : Heap}
theorem kn_asked_size {C : Addr} (D : Df K mg "asked_size" st_asked_size ["size", "most"]) (X_NoSize : Ec K mg "NoSize" C) : Kn P w K mg base (L2.CX P w) 1 "asked_size" ["size", "most"] (spAskedSize C) := by
  refine D.knX sc_asked_size (fun vs H Q E h => ?_) (fun f cdv A outer s H vs Q E hr h => ?_)
  · obtain ⟨a, b, rfl, _⟩ := h
    rfl
  obtain ⟨size, most, rfl, h1, h2⟩ := h
  refine ⟨_, (pss_one (ps_if (PW.pt (pw_or (pt_cmpR op_lt (pv 0) pe_int (nomark _)) (pw_or1 (pt_cmpR op_gt (pv 0) (pv 1) (nomark _)))))
        (pss_one (ps_raise rfl (takes_of rfl rfl rfl rfl) (pmk_own PySem.F.excBase_ValueError X_NoSize.x X_NoSize.g X_NoSize.k (raises_own X_NoSize.b X_NoSize.t) rfl)))
        pss_nil)), ?_⟩
  refine ⟨_, rfl, _, _, rfl, rfl, _, rfl, ite2 (fun c => ?_) (fun c => ?_)⟩
  · have c' := of_decide_eq_true c
    exact iteT (h1 (by omega))
  · have c' : ¬ size < 1 := of_decide_eq_false (Bool.eq_false_iff.mpr c)
    refine ⟨_, rfl, _, rfl, _, _, rfl, rfl, _, rfl, ite2 (fun d => ?_) (fun d => ?_)⟩
    · have d' : most < size := of_decide_eq_true d
      exact h1 (by omega)
    · have d' : ¬ most < size := of_decide_eq_false (Bool.eq_false_iff.mpr d)
      exact h2 (by omega)
end

/-! ### can_be -/
abbrev N_can_be : List Str := ["size"]
theorem sc_can_be : FnScope N_can_be ["size"] (defScope st_can_be) := ⟨rfl, rfl, rfl, by decide +kernel, rfl, by decide +kernel, by decide +kernel⟩
def spCanBe (C : Addr) : Sp := fun vs H Q E => ∃ size : Int, vs = [.int size] ∧ (¬ (1 ≤ size ∧ size ≤ 400) → E (.ref C) none H) ∧ (1 ≤ size ∧ size ≤ 400 → Q (.bl (decide (size % 4 < 2))) H)
section
variable {P : Program} {w : World} {K : PySem.W.Frag} {mg : Str → Option Value} {base : Heap}
theorem kn_can_be {C : Addr} {tk : Tok} (D : Df K mg "can_be" st_can_be ["size"]) (K_asked_size : Kn P w K mg base (L2.CX P w) 1 "asked_size" ["size", "most"] (spAskedSize C)) (C_MOST : mg "MOST" = some (.int 400 tk)) :
    Kn P w K mg base (L2.CX P w) 2 "can_be" ["size"] (spCanBe C) := by
  refine D.knX sc_can_be (fun vs H Q E h => ?_) (fun f cdv A outer s H vs Q E hr h => ?_)
  · obtain ⟨a, rfl, _⟩ := h
    rfl
  obtain ⟨size, rfl, h1, h2⟩ := h
  refine ⟨_, (pss_cons (ps_expr (pe_kE K_asked_size (takes_of rfl rfl rfl rfl) (hr.mono (by first | decide | omega)) (by rfl) (pa_cons (pv 0) (pa_cons (pe_globI (by rfl) C_MOST) pa_nil))))
      (pss_one (ps_ret (pe_cmpR op_lt (pe_op op_mod (pv 0) pe_int) pe_int (nomark _))))), ?_⟩
  exact ⟨_, rfl, size, 400, rfl, h1, fun c => ⟨_, rfl, _, _, rfl, rfl, (by decide : (0 : Int) < 4), _, _, rfl, rfl, h2 c⟩⟩
end

/-! ### found_places -/
abbrev N_found_places : List Str := ["row", "found", "place", "number"]
theorem sc_found_places : FnScope N_found_places ["row"] (defScope st_found_places) := ⟨rfl, rfl, rfl, by decide +kernel, rfl, by decide +kernel, by decide +kernel⟩
/-- a dict that holds for each number of a list the list of its places -/
def PlD (H : Hp) (d : Addr) (ns : List Int) : Prop := ∃ kvs : List (Key × V), H d = some (.dK kvs) ∧ kvs.length ≤ ns.length ∧
  ∀ k : Int, (spots ns k = [] ∧ valV kvs (.inl k) = none) ∨ (spots ns k ≠ [] ∧ ∃ p, valV kvs (.inl k) = some (.ref p) ∧ H p = some (.lst ((spots ns k).map V.int)))
theorem PlD.keep {H H' : Hp} {d : Addr} {ns : List Int} (s : Same H H') (h : PlD H d ns) : PlD H' d ns := by
  obtain ⟨kvs, e, l, a⟩ := h
  refine ⟨kvs, s _ _ e, l, fun k => ?_⟩
  rcases a k with h | ⟨h1, p, h2, h3⟩
  · exact .inl h
  · exact .inr ⟨h1, p, h2, s _ _ h3⟩
/-- what get tells, with a new empty list where there is none -/
theorem PlD.get {H : Hp} {d e : Addr} {ns : List Int} (h : PlD H d ns) (k : Int) (he : H e = some (.lst [])) : ∃ (o : Option V) (p : Addr), DGet H d (.int k) o ∧ o.getD (.ref e) = .ref p ∧ H p = some (.lst ((spots ns k).map V.int)) := by
  obtain ⟨kvs, e1, l, a⟩ := h
  refine ⟨valV kvs (.inl k), ?_⟩
  rcases a k with ⟨h1, h2⟩ | ⟨h1, p, h2, h3⟩
  · rw [h1, h2]
    exact ⟨e, h2 ▸ DGet.k (k := Sum.inl k) e1, rfl, he⟩
  · rw [h2]
    exact ⟨p, h2 ▸ DGet.k (k := Sum.inl k) e1, rfl, h3⟩
theorem PlD.get' {H : Hp} {d : Addr} {ns : List Int} (h : PlD H d ns) {k : Int} (hk : spots ns k ≠ []) : ∃ p : Addr, DGet H d (.int k) (some (.ref p)) ∧ H p = some (.lst ((spots ns k).map V.int)) := by
  obtain ⟨kvs, e1, l, a⟩ := h
  rcases a k with ⟨h1, h2⟩ | ⟨h1, p, h2, h3⟩
  · exact absurd h1 hk
  · exact ⟨p, h2 ▸ DGet.k (k := Sum.inl k) e1, h3⟩
theorem PlD.isD {H : Hp} {d : Addr} {ns : List Int} (h : PlD H d ns) : IsD H d := by
  obtain ⟨kvs, e1, _⟩ := h
  exact .inl ⟨kvs, .inl e1⟩
/-- one more place -/
theorem PlD.put {H : Hp} {d c : Addr} {ns : List Int} {x : Int} (h : PlD H d ns) (hl : ns.length < 16777216) (hc : H c = some (.lst ((spots (ns ++ [x]) x).map V.int))) :
    ∃ H', DPut H d (.int x) (.ref c) H' ∧ PlD H' d (ns ++ [x]) ∧ ∀ b, b ≠ d → H' b = H b := by
  obtain ⟨kvs, e1, l, a⟩ := h
  refine ⟨upd H d (.dK (putK kvs (Sum.inl x) (.ref c))), DPut.k (k := Sum.inl x) e1 (smaller (by omega)), ⟨_, upd_same, ?_, fun k => ?_⟩, fun b hb => upd_ne hb⟩
  · have := length_putK kvs (Sum.inl x : Key) (.ref c)
    rw [List.length_append, List.length_singleton]
    omega
  · have nd : ∀ {p : Addr} {xs : List V}, H p = some (.lst xs) → p ≠ d := fun h => ne_of h e1 (by intro z; cases z)
    rw [valV_put]
    by_cases hk : x = k
    · subst hk
      rw [if_pos rfl]
      refine .inr ⟨?_, c, rfl, by rw [upd_ne (nd hc)]; exact hc⟩
      rw [spots_snoc, if_pos rfl]
      simp
    · have hk' : ¬ (Sum.inl k : Key) = Sum.inl x := fun z => hk (Sum.inl.inj z).symm
      rw [if_neg hk', spots_snoc, if_neg hk, List.append_nil]
      rcases a k with h | ⟨h1, p, h2, h3⟩
      · exact .inl h
      · exact .inr ⟨h1, p, h2, by rw [upd_ne (nd h3)]; exact h3⟩
def spFoundPlaces (K : PySem.W.Frag) : Sp := fun vs H Q _ => ∃ (a : Addr) (ns : List Int), vs = [.ref a] ∧ SqL K H a (ns.map V.int) ∧ ns.length ≤ 100000 ∧ ∀ H' d, Same H H' → PlD H' d ns → Q (.ref d) H'
section
variable {P : Program} {w : World} {K : PySem.W.Frag} {mg : Str → Option Value} {base : Heap}
theorem kn_found_places (D : Df K mg "found_places" st_found_places ["row"]) (B : Bl mg) : Kn P w K mg base CX0 1 "found_places" ["row"] (spFoundPlaces K) := by
  refine D.kn sc_found_places (fun vs H Q E h => ?_) (fun f cdv A outer s H vs Q E hr h => ?_)
  · obtain ⟨a, ns, rfl, _⟩ := h
    rfl
  obtain ⟨a, ns, rfl, hS, hlen, q⟩ := h
  refine ⟨_, (pss_cons (ps_set (i := 1) sc_found_places.nd rfl (Or.inl rfl) pe_dnewK)
      (pss_cons (ps_for PassesOwn.never rfl (pi_enum (by rfl) B.enumerate_ (pa_cons (pv 0) pa_nil)) (pg_tup rfl (pgs_cons (pg_name (i := 2) sc_found_places.nd rfl (Or.inl rfl)) (pgs_cons (pg_name (i := 3) sc_found_places.nd rfl (Or.inl rfl)) pgs_nil)))
        (pss_one (ps_dput (hu_of hr) (pv 1) (pv 3) (pe_op op_cat (pe_dget2 (hu_of hr) (pv 1) (pv 3) (pe_lst pa_nil) ⟨rfl, rfl, rfl, rfl⟩) (pe_lst (pa_cons (pv 2) pa_nil))) rfl)))
      (pss_one (ps_ret (pv 1))))), ?_⟩
  intro d nd
  have s1 : Same H (upd H d (.dK [])) := same_upd nd
  refine ⟨.ref a, rfl, a, ns.map V.int, rfl, s1.seq hS, ?_⟩
  refine for_it (walk_enum (K := K) (a := a) (xs := ns.map V.int)) (fun i σ H' => ∃ y2 y3, σ = [some (.ref a), some (.ref d), y2, y3] ∧ Same H H' ∧ PlD H' d (ns.take i)) ⟨none, none, rfl, s1, ⟨[], upd_same, Nat.le_refl _, fun k => .inl ⟨rfl, rfl⟩⟩⟩ ?_ ?_ ?_
  · rintro i σ H' hi ⟨_, _, _, s2, _⟩
    exact s2.seq hS
  · rintro i x σ H2 H3 hi ⟨y2, y3, rfl, s2, hD⟩ ⟨T, x1, x2, rfl, nT, rfl, f1, f2⟩
    obtain ⟨n, hn, rfl⟩ := of_ints_get f2
    cases f1
    generalize hT : upd H2 T (.tup [V.int ((i : Nat) : Int), V.int n]) = H3
    have s3 : Same H2 H3 := hT ▸ same_upd nT
    have e3 : H3 T = some (.tup [V.int ((i : Nat) : Int), V.int n]) := hT ▸ upd_same
    clear hT
    refine ⟨T, _, rfl, SqT.of e3, rfl, _, _, rfl, _, _, rfl, rfl, ?_⟩
    -- found.get(number, [])
    refine ⟨_, rfl, d, rfl, (hD.keep s3).isD, _, rfl, Nat.zero_le _, fun e ne => ?_⟩
    generalize hE : upd H3 e (.lst []) = H4
    have s4 : Same H3 H4 := hE ▸ same_upd ne
    have e4 : H4 e = some (.lst []) := hE ▸ upd_same
    clear hE
    have hD4 := (hD.keep s3).keep s4
    obtain ⟨o, p, g1, g2, g3⟩ := hD4.get n e4
    refine ⟨o, g1, ?_⟩
    rw [g2]
    -- [place]
    refine ⟨_, rfl, small (show 1 ≤ 16777216 by decide), fun l nl => ?_⟩
    generalize hL : upd H4 l (.lst [V.int ((i : Nat) : Int)]) = H5
    have s5 : Same H4 H5 := hL ▸ same_upd nl
    have e5 : H5 l = some (.lst [V.int ((i : Nat) : Int)]) := hL ▸ upd_same
    clear hL
    have hsp : (spots (ns.take i) n).length ≤ i := by
      rw [spots_length]
      have := List.count_le_length (a := n) (l := ns.take i)
      rw [List.length_take] at this
      omega
    have hi' : i < ns.length := by
      rw [ints_len] at hi
      exact hi
    refine ⟨p, l, _, _, rfl, rfl, s5 _ _ g3, e5, ?_, fun c nc => ?_⟩
    · rw [List.length_map, List.length_singleton]
      exact small (by omega)
    have ec : spots (ns.take i ++ [n]) n = spots (ns.take i) n ++ [(i : Int)] := by
      rw [spots_snoc, if_pos rfl, List.length_take, Nat.min_eq_left (Nat.le_of_lt hi')]
    have ec2 : (spots (ns.take i) n).map V.int ++ [V.int (i : Int)] = (spots (ns.take i ++ [n]) n).map V.int := by
      rw [ec, List.map_append]
      rfl
    rw [ec2]
    generalize hC : upd H5 c (.lst ((spots (ns.take i ++ [n]) n).map V.int)) = H6
    have s6 : Same H5 H6 := hC ▸ same_upd nc
    have e6 : H6 c = some (.lst ((spots (ns.take i ++ [n]) n).map V.int)) := hC ▸ upd_same
    clear hC
    have hD6 := (hD4.keep s5).keep s6
    obtain ⟨H7, p1, p2, p3⟩ := hD6.put (x := n) (by rw [List.length_take]; omega) e6
    refine ⟨_, rfl, _, rfl, d, H7, rfl, p1, _, _, rfl, fun b o hb => ?_, ?_⟩
    · have hbd : b ≠ d := ne_of_none hb nd
      rw [p3 b hbd]
      exact s6 _ _ (s5 _ _ (s4 _ _ (s3 _ _ (s2 _ _ hb))))
    · rw [take_snoc hn]
      exact p2
  · rintro σ H2 ⟨y2, y3, rfl, s2, hD⟩
    rw [ints_len, List.take_length] at hD
    exact ⟨_, rfl, q _ _ s2 hD⟩
end

/-! ### is_row -/
abbrev N_is_row : List Str := ["row", "size", "known", "number", "spots"]
theorem sc_is_row : FnScope N_is_row ["row"] (defScope st_is_row) := ⟨rfl, rfl, rfl, by decide +kernel, rfl, by decide +kernel, by decide +kernel⟩
def spIsRow (K : PySem.W.Frag) : Sp := fun vs H Q _ => ∃ (a : Addr) (ns : List Int), vs = [.ref a] ∧ SqL K H a (ns.map V.int) ∧ ns.length ≤ 100000 ∧ ∀ H', Same H H' → Q (.bl (isRow ns)) H'
theorem isRow_no {row : List Int} (h : ¬ isRow row = true) : isRow row = false := Bool.eq_false_iff.mpr h
section
variable {P : Program} {w : World} {K : PySem.W.Frag} {mg : Str → Option Value} {base : Heap}
theorem kn_is_row {tk : Tok} (D : Df K mg "is_row" st_is_row ["row"]) (B : Bl mg) (C_MOST : mg "MOST" = some (.int 400 tk)) (K_found_places : Kn P w K mg base CX0 1 "found_places" ["row"] (spFoundPlaces K)) : Kn P w K mg base CX0 2 "is_row" ["row"] (spIsRow K) := by
  refine D.kn sc_is_row (fun vs H Q E h => ?_) (fun f cdv A outer s H vs Q E hr h => ?_)
  · obtain ⟨a, ns, rfl, _⟩ := h
    rfl
  obtain ⟨a, ns, rfl, hS, hlen, q⟩ := h
  refine ⟨_, (pss_cons (ps_set (i := 1) sc_is_row.nd rfl (Or.inl rfl) (pe_op op_fdiv (pe_callB call_len_seq (by rfl) B.len_ (by decide +kernel) (pa_cons (pv 0) pa_nil)) pe_int))
      (pss_cons (ps_if (PW.pt (pw_or (pt_cmpR op_ne (pe_callB call_len_seq (by rfl) B.len_ (by decide +kernel) (pa_cons (pv 0) pa_nil)) (pe_op op_mul pe_int (pv 1)) (nomark _)) (pw_or (pt_cmpR op_lt (pv 1) pe_int (nomark _)) (pw_or1 (pt_cmpR op_gt (pv 1) (pe_globI (by rfl) C_MOST) (nomark _))))))
        (pss_one (ps_ret pe_bl))
        pss_nil)
      (pss_cons (ps_set (i := 2) sc_is_row.nd rfl (Or.inl rfl) (pe_k0 K_found_places (hr.mono (by first | decide | omega)) (by rfl) (pa_cons (pv 0) pa_nil)))
      (pss_cons (ps_for PassesOwn.never rfl (pi_range2 (by rfl) B.range_ (pa_cons pe_int (pa_cons (pe_op op_add (pv 1) pe_int) pa_nil))) (pg_name (i := 3) sc_is_row.nd rfl (Or.inl rfl))
        (pss_cons (ps_set (i := 4) sc_is_row.nd rfl (Or.inl rfl) (pe_dget2 (hu_of hr) (pv 2) (pv 3) (pe_lst pa_nil) ⟨rfl, rfl, rfl, rfl⟩))
        (pss_one (ps_if (PW.pt (pw_or (pt_cmpR op_ne (pe_callB call_len_seq (by rfl) B.len_ (by decide +kernel) (pa_cons (pv 4) pa_nil)) pe_int (nomark _)) (pw_or1 (pt_cmpR op_ne (pe_op op_sub (pe_ix ix_list (pv 4) pe_int (fun _ _ => rfl)) (pe_ix ix_list (pv 4) pe_int (fun _ _ => rfl))) (pv 3) (nomark _)))))
          (pss_one (ps_ret pe_bl))
          pss_nil))))
      (pss_one (ps_ret pe_bl)))))), ?_⟩
  refine ⟨_, rfl, a, _, rfl, .inl hS, _, _, rfl, rfl, ⟨by decide, by decide⟩, ?_⟩
  have hL := ints_len ns
  have hsz : (((ns.map V.int).length : Nat) : Int) / 2 = ((ns.length / 2 : Nat) : Int) := by
    rw [hL]
    omega
  simp only [hsz]
  -- len(row) != 2 * size or size < 1 or size > MOST
  refine ⟨_, rfl, a, _, rfl, .inl hS, _, rfl, _, _, rfl, rfl, .inl ⟨by decide, by decide⟩, rfl, _, rfl, ite2 (fun c => ?_) (fun c => ?_)⟩
  · refine iteT ?_
    have c' : ¬ ns.length = 2 * (ns.length / 2) := fun z => by
      have e : decide (V.int (((ns.map V.int).length : Nat) : Int) = V.int (2 * ((ns.length / 2 : Nat) : Int))) = true := decide_eq_true (congrArg V.int (by rw [hL]; omega))
      have c2 : (!decide (V.int (((ns.map V.int).length : Nat) : Int) = V.int (2 * ((ns.length / 2 : Nat) : Int)))) = true := c
      rw [e] at c2
      cases c2
    have := q H (Same.refl _)
    rw [isRow_no (fun z => c' ((isRow_iff ns).mp z).1)] at this
    exact this
  have c0 : ns.length = 2 * (ns.length / 2) := by
    have c2 : ¬ (!decide (V.int (((ns.map V.int).length : Nat) : Int) = V.int (2 * ((ns.length / 2 : Nat) : Int)))) = true := c
    rw [Bool.not_eq_true', decide_eq_false_iff_not, Decidable.not_not] at c2
    have := V.int.inj c2
    rw [hL] at this
    omega
  refine ⟨_, rfl, _, _, rfl, rfl, _, rfl, ite2 (fun c => ?_) (fun c => ?_)⟩
  · refine iteT ?_
    have c1 : ((ns.length / 2 : Nat) : Int) < 1 := of_decide_eq_true c
    have := q H (Same.refl _)
    rw [isRow_no (fun z => by have := ((isRow_iff ns).mp z).2.1; omega)] at this
    exact this
  have c1 : ¬ ((ns.length / 2 : Nat) : Int) < 1 := of_decide_eq_false (Bool.eq_false_iff.mpr c)
  refine ⟨_, rfl, _, _, rfl, rfl, _, rfl, ite2 (fun c => ?_) (fun c => ?_)⟩
  · have c2 : (400 : Int) < ((ns.length / 2 : Nat) : Int) := of_decide_eq_true c
    have := q H (Same.refl _)
    rw [isRow_no (fun z => by have := ((isRow_iff ns).mp z).2.2.1; omega)] at this
    exact this
  have c2 : ¬ (400 : Int) < ((ns.length / 2 : Nat) : Int) := of_decide_eq_false (Bool.eq_false_iff.mpr c)
  -- known
  refine ⟨_, rfl, a, ns, rfl, hS, hlen, fun H1 d s1 hD => ?_⟩
  refine ⟨_, rfl, _, _, rfl, rfl, 1, ((ns.length / 2 : Nat) : Int) + 1, rfl, ⟨by omega, by omega, by omega, by omega⟩, ?_⟩
  refine for_range (lo := 1) (n := (((ns.length / 2 : Nat) : Int) + 1 - 1).toNat) (fun i σ H' => ∃ y3 y4, σ = [some (.ref a), some (.int ((ns.length / 2 : Nat) : Int)), some (.ref d), y3, y4] ∧ Same H H' ∧ PlD H' d ns ∧ ∀ k : Int, 1 ≤ k → k ≤ (i : Int) → good ns k = true) ⟨none, none, rfl, s1, hD, fun k h1 h2 => by omega⟩ ?_ ?_
  · rintro i σ H2 hi ⟨y3, y4, rfl, s2, hD2, hg⟩
    refine ⟨_, rfl, d, rfl, hD2.isD, _, rfl, Nat.zero_le _, fun e ne => ?_⟩
    generalize hE : upd H2 e (.lst []) = H3
    have s3 : Same H2 H3 := hE ▸ same_upd ne
    have e3 : H3 e = some (.lst []) := hE ▸ upd_same
    clear hE
    have hD3 := hD2.keep s3
    obtain ⟨o, p, g1, g2, g3⟩ := hD3.get ((1 : Int) + (i : Int)) e3
    refine ⟨o, g1, ?_⟩
    rw [g2]
    have h1 : 1 + (i : Int) ≤ ((ns.length / 2 : Nat) : Int) := by omega
    have bad : good ns (1 + (i : Int)) = false → isRow ns = false := fun hb => isRow_no fun z => by
      have := ((isRow_iff ns).mp z).2.2.2 (1 + (i : Int)) (by omega) h1
      rw [hb] at this
      cases this
    have sAll : Same H H3 := s2.trans s3
    -- len(spots) != 2 or spots[1] - spots[0] != number
    refine ⟨_, rfl, p, _, rfl, .inl (SqL.of g3), rfl, _, rfl, ite2 (fun c => ?_) (fun c => ?_)⟩
    · refine iteT ?_
      have c3 : ¬ (spots ns (1 + (i : Int))).length = 2 := fun z => by
        have e : decide (V.int ((((spots ns (1 + (i : Int))).map V.int).length : Nat) : Int) = V.int 2) = true := decide_eq_true (congrArg V.int (by rw [ints_len, z]; rfl))
        have c2 : (!decide (V.int ((((spots ns (1 + (i : Int))).map V.int).length : Nat) : Int) = V.int 2)) = true := c
        rw [e] at c2
        cases c2
      have hb : good ns (1 + (i : Int)) = false := Bool.eq_false_iff.mpr fun z => c3 (by rw [spots_length]; exact good_count z)
      have := q H3 sAll
      rw [bad hb] at this
      exact this
    have c3 : (spots ns (1 + (i : Int))).length = 2 := by
      have c2 : ¬ (!decide (V.int ((((spots ns (1 + (i : Int))).map V.int).length : Nat) : Int) = V.int 2)) = true := c
      rw [Bool.not_eq_true', decide_eq_false_iff_not, Decidable.not_not] at c2
      have := V.int.inj c2
      rw [ints_len] at this
      omega
    obtain ⟨x, y, exy⟩ : ∃ x y, spots ns (1 + (i : Int)) = [x, y] := by
      match spots ns (1 + (i : Int)), c3 with
      | [x, y], _ => exact ⟨x, y, rfl⟩
    rw [exy] at g3
    refine ⟨_, rfl, p, _, _, _, rfl, rfl, SqL.of g3, atI_nat (j := 1) rfl, _, rfl, p, _, _, _, rfl, rfl, SqL.of g3, atI_nat (j := 0) rfl, _, _, rfl, rfl, _, rfl, rfl, _, rfl, ite2 (fun c => ?_) (fun c => ?_)⟩
    · have c4 : ¬ y - x = 1 + (i : Int) := fun z => by
        have e : decide (V.int (y - x) = V.int (1 + (i : Int))) = true := decide_eq_true (congrArg V.int z)
        have c2 : (!decide (V.int (y - x) = V.int (1 + (i : Int)))) = true := c
        rw [e] at c2
        cases c2
      have hb : good ns (1 + (i : Int)) = false := by
        unfold good
        rw [exy]
        exact decide_eq_false c4
      have := q H3 sAll
      rw [bad hb] at this
      exact this
    · have c4 : y - x = 1 + (i : Int) := by
        have c2 : ¬ (!decide (V.int (y - x) = V.int (1 + (i : Int)))) = true := c
        rw [Bool.not_eq_true', decide_eq_false_iff_not, Decidable.not_not] at c2
        exact V.int.inj c2
      refine ⟨_, _, rfl, sAll, hD3, fun k h1 h2 => ?_⟩
      by_cases hk : k = 1 + (i : Int)
      · rw [hk]
        exact spots_of_good exy c4
      · exact hg k h1 (by omega)
  · rintro σ H2 ⟨y3, y4, rfl, s2, hD2, hg⟩
    have hr : isRow ns = true := (isRow_iff ns).mpr ⟨c0, by omega, by omega, fun k h1 h2 => hg k h1 (by omega)⟩
    have := q H2 s2
    rw [hr] at this
    exact this
end

/-! ### pairs_of_four, pairs_of_one_more -/
abbrev N_pairs_of_four : List Str := ["fourth", "found", "k"]
theorem sc_pairs_of_four : FnScope N_pairs_of_four ["fourth"] (defScope st_pairs_of_four) := ⟨rfl, rfl, rfl, by decide +kernel, rfl, by decide +kernel, by decide +kernel⟩
abbrev N_pairs_of_one_more : List Str := ["fourth", "found", "k"]
theorem sc_pairs_of_one_more : FnScope N_pairs_of_one_more ["fourth"] (defScope st_pairs_of_one_more) := ⟨rfl, rfl, rfl, by decide +kernel, rfl, by decide +kernel, by decide +kernel⟩
def spPairs (lo : Int) (g : Int → List (Int × Int)) : Sp := fun vs H Q _ => ∃ f : Int, vs = [.int f] ∧ lo ≤ f ∧ f ≤ 1000 ∧ ∀ H' p ts, Same H H' → H' p = some (.lst (ts.map V.ref)) → PairsAt H' ts (g f) → Q (.ref p) H'
/-- two lists of pairs, one behind the other -/
theorem cat_pairs {H1 H2 H3 : Hp} {a b : Addr} {ts us : List Addr} {ps qs : List (Int × Int)} {Q : VK} (s1 : Same H1 H2) (s2 : Same H2 H3) (ea : H1 a = some (.lst (ts.map V.ref))) (pa : PairsAt H1 ts ps) (eb : H3 b = some (.lst (us.map V.ref))) (pb : PairsAt H3 us qs)
    (hl : ps.length + qs.length ≤ 16777216) (h : ∀ p H4, Same H3 H4 → H4 p = some (.lst ((ts ++ us).map V.ref)) → PairsAt H4 (ts ++ us) (ps ++ qs) → Q (.ref p) H4) : rCat (.ref a) (.ref b) H3 Q := by
  refine ⟨a, b, _, _, rfl, rfl, s2 _ _ (s1 _ _ ea), eb, ?_, fun p np => ?_⟩
  · rw [List.length_map, List.length_map, pa.1, pb.1]
    exact small hl
  · rw [← List.map_append]
    exact h p _ (same_upd np) upd_same ((((pa.keep s1).keep s2).append pb).keep (same_upd np))
section
variable {P : Program} {w : World} {K : PySem.W.Frag} {mg : Str → Option Value} {base : Heap}
theorem kn_pairs_of_four (D : Df K mg "pairs_of_four" st_pairs_of_four ["fourth"]) (B : Bl mg) : Kn P w K mg base CX0 1 "pairs_of_four" ["fourth"] (spPairs 1 pairs4) := by
  refine D.kn sc_pairs_of_four (fun vs H Q E h => ?_) (fun f cdv A outer s H vs Q E hr h => ?_)
  · obtain ⟨a, rfl, _⟩ := h
    rfl
  obtain ⟨n, rfl, n1, n2, q⟩ := h
  refine ⟨_, (pss_cons (ps_if (pt_cmpR op_eq (pv 0) pe_int (nomark _))
        (pss_one (ps_ret (pe_lst (pa_cons (pe_tup (pa_cons pe_int (pa_cons pe_int pa_nil))) (pa_cons (pe_tup (pa_cons pe_int (pa_cons pe_int pa_nil))) (pa_cons (pe_tup (pa_cons pe_int (pa_cons pe_int pa_nil))) (pa_cons (pe_tup (pa_cons pe_int (pa_cons pe_int pa_nil))) pa_nil)))))))
        pss_nil)
      (pss_cons (ps_setLc (i := 1) (own := [("k", 2)]) (g := gName 2) (tt := tYes) rfl sc_pairs_of_four.nd rfl rfl (sw_true rfl rfl rfl (by decide +kernel)) (pi_range1 (by rfl) B.range_ (pa_cons (pe_op op_mul pe_int (pv 0)) pa_nil)) (blkOk_by (own := [("k", 2)]) (N := N_pairs_of_four) (sc := defScope st_pairs_of_four) (by decide +kernel)) (fun _ _ _ _ _ => pg_name (i := 2) sc_pairs_of_four.nd rfl (Or.inl rfl)) (fun _ _ _ _ _ => pts_nil) (fun _ _ _ _ _ => pe_tup (pa_cons (pe_op op_add (pe_op op_mul pe_int (pv 0)) (pv 2)) (pa_cons (pe_op op_sub (pe_op op_mul pe_int (pv 0)) (pv 2)) pa_nil))))
      (pss_cons (ps_set (i := 1) sc_pairs_of_four.nd rfl (Or.inl rfl) (pe_op op_cat (pv 1) (pe_lc (own := [("k", 2)]) (g := gName 2) (tt := tYes) rfl sc_pairs_of_four.nd (pi_range2 (by rfl) B.range_ (pa_cons pe_int (pa_cons (pv 0) pa_nil))) (blkOk_by (own := [("k", 2)]) (N := N_pairs_of_four) (sc := defScope st_pairs_of_four) (by decide +kernel)) (fun _ _ _ _ _ => pg_name (i := 2) sc_pairs_of_four.nd rfl (Or.inl rfl)) (fun _ _ _ _ _ => pts_nil) (fun _ _ _ _ _ => pe_tup (pa_cons (pv 2) (pa_cons (pe_op op_sub (pe_op op_sub (pe_op op_mul pe_int (pv 0)) pe_int) (pv 2)) pa_nil))))))
      (pss_cons (ps_set (i := 1) sc_pairs_of_four.nd rfl (Or.inl rfl) (pe_op op_cat (pv 1) (pe_lc (own := [("k", 2)]) (g := gName 2) (tt := tYes) rfl sc_pairs_of_four.nd (pi_range1 (by rfl) B.range_ (pa_cons (pe_op op_sub (pv 0) pe_int) pa_nil)) (blkOk_by (own := [("k", 2)]) (N := N_pairs_of_four) (sc := defScope st_pairs_of_four) (by decide +kernel)) (fun _ _ _ _ _ => pg_name (i := 2) sc_pairs_of_four.nd rfl (Or.inl rfl)) (fun _ _ _ _ _ => pts_nil) (fun _ _ _ _ _ => pe_tup (pa_cons (pe_op op_add (pe_op op_add (pv 0) pe_int) (pv 2)) (pa_cons (pe_op op_sub (pe_op op_sub (pe_op op_mul pe_int (pv 0)) pe_int) (pv 2)) pa_nil))))))
      (pss_cons (ps_set (i := 1) sc_pairs_of_four.nd rfl (Or.inl rfl) (pe_op op_cat (pv 1) (pe_lst (pa_cons (pe_tup (pa_cons (pv 0) (pa_cons (pe_op op_add (pv 0) pe_int) pa_nil))) (pa_cons (pe_tup (pa_cons (pe_op op_mul pe_int (pv 0)) (pa_cons (pe_op op_sub (pe_op op_mul pe_int (pv 0)) pe_int) pa_nil))) (pa_cons (pe_tup (pa_cons (pe_op op_add (pe_op op_mul pe_int (pv 0)) pe_int) (pa_cons (pe_op op_mul pe_int (pv 0)) pa_nil))) pa_nil))))))
      (pss_one (ps_ret (pv 1)))))))), ?_⟩
  refine ⟨_, rfl, rfl, _, rfl, ite2 (fun c => ?_) (fun c => ?_)⟩
  · have c1 : n = 1 := V.int.inj (of_decide_eq_true c)
    have eP : pairs4 n = [(4, 8), (5, 7), (1, 2), (3, 6)] := by
      unfold pairs4
      rw [if_pos c1]
    refine ⟨small (show 2 ≤ 16777216 by decide), fun p1 np1 => ⟨small (show 2 ≤ 16777216 by decide), fun p2 np2 => ⟨small (show 2 ≤ 16777216 by decide), fun p3 np3 => ⟨small (show 2 ≤ 16777216 by decide), fun p4 np4 => ⟨small (show 4 ≤ 16777216 by decide), fun p np => ?_⟩⟩⟩⟩⟩
    have s1 := same_upd np1 (o := .tup [V.int 4, V.int 8])
    have s2 := same_upd np2 (o := .tup [V.int 5, V.int 7])
    have s3 := same_upd np3 (o := .tup [V.int 1, V.int 2])
    have s4 := same_upd np4 (o := .tup [V.int 3, V.int 6])
    have s5 := same_upd np (o := .lst [V.ref p1, V.ref p2, V.ref p3, V.ref p4])
    refine q _ p [p1, p2, p3, p4] ((((s1.trans s2).trans s3).trans s4).trans s5) upd_same ?_
    rw [eP]
    exact ((((PairsAt.one (q := (4, 8)) upd_same).keep (s2.trans (s3.trans (s4.trans s5)))).append ((PairsAt.one (q := (5, 7)) upd_same).keep (s3.trans (s4.trans s5)))).append ((PairsAt.one (q := (1, 2)) upd_same).keep (s4.trans s5))).append ((PairsAt.one (q := (3, 6)) upd_same).keep s5)
  · have c1 : ¬ n = 1 := fun z => c (decide_eq_true (congrArg V.int z))
    have eP : pairs4 n = pairs4g n := by
      unfold pairs4
      rw [if_neg c1]
    -- the first family
    refine ⟨_, rfl, _, _, rfl, rfl, .inl ⟨by decide, by decide⟩, 2 * n, rfl, by omega, by omega, fun D1 nD1 => ?_⟩
    refine lc_pairs (n := (2 * n).toNat) nD1 (by omega) (fun k => (4 * n + k, 8 * n - k)) (fun i H Q hi q => ⟨_, rfl, _, _, rfl, rfl, .inl ⟨by decide, by decide⟩, _, rfl, _, _, rfl, rfl, _, rfl, _, _, rfl, rfl, .inl ⟨by decide, by decide⟩, _, rfl, _, _, rfl, rfl, small (show 2 ≤ 16777216 by decide), q⟩) (fun H1 ts1 s1 e1 p1 => ?_)
    -- the second
    refine ⟨_, rfl, _, rfl, 1, n, rfl, ⟨by omega, by omega, by omega, by omega⟩, fun D2 nD2 => ?_⟩
    refine lc_pairs (lo := 1) (n := (n - 1).toNat) nD2 (by omega) (fun k => (k, 4 * n - 1 - k)) (fun i H Q hi q => ⟨_, rfl, _, rfl, _, _, rfl, rfl, .inl ⟨by decide, by decide⟩, _, _, rfl, rfl, _, rfl, _, _, rfl, rfl, small (show 2 ≤ 16777216 by decide), q⟩) (fun H2 ts2 s2 e2 p2 => ?_)
    refine cat_pairs (Same.refl _) s2 e1 p1 e2 p2 (by rw [fam_length, fam_length]; omega) fun D3 H3 s3 e3 p3 => ?_
    -- the third
    refine ⟨_, rfl, _, rfl, _, _, rfl, rfl, n - 2, rfl, by omega, by omega, fun D4 nD4 => ?_⟩
    refine lc_pairs (n := (n - 2).toNat) nD4 (by omega) (fun k => (n + 2 + k, 3 * n - 1 - k)) (fun i H Q hi q => ⟨_, rfl, _, _, rfl, rfl, _, rfl, _, _, rfl, rfl, _, rfl, _, _, rfl, rfl, .inl ⟨by decide, by decide⟩, _, _, rfl, rfl, _, rfl, _, _, rfl, rfl, small (show 2 ≤ 16777216 by decide), q⟩) (fun H4 ts4 s4 e4 p4 => ?_)
    refine cat_pairs (Same.refl _) s4 e3 p3 e4 p4 (by rw [List.length_append, fam_length, fam_length, fam_length]; omega) fun D5 H5 s5 e5 p5 => ?_
    -- the last three
    refine ⟨_, rfl, _, rfl, _, rfl, _, _, rfl, rfl, small (show 2 ≤ 16777216 by decide), fun q1 nq1 => ⟨_, rfl, _, _, rfl, rfl, .inl ⟨by decide, by decide⟩, _, rfl, _, _, rfl, rfl, .inl ⟨by decide, by decide⟩, _, _, rfl, rfl, small (show 2 ≤ 16777216 by decide), fun q2 nq2 =>
      ⟨_, rfl, _, _, rfl, rfl, .inl ⟨by decide, by decide⟩, _, _, rfl, rfl, _, rfl, _, _, rfl, rfl, .inl ⟨by decide, by decide⟩, small (show 2 ≤ 16777216 by decide), fun q3 nq3 => ⟨small (show 3 ≤ 16777216 by decide), fun D6 nD6 => ?_⟩⟩⟩⟩
    have t1 := same_upd nq1 (o := .tup [V.int n, V.int (n + 1)])
    have t2 := same_upd nq2 (o := .tup [V.int (2 * n), V.int (4 * n - 1)])
    have t3 := same_upd nq3 (o := .tup [V.int (2 * n + 1), V.int (6 * n)])
    have t4 := same_upd nD6 (o := .lst [V.ref q1, V.ref q2, V.ref q3])
    have p6 := (((PairsAt.one (q := (n, n + 1)) upd_same).keep (t2.trans (t3.trans t4))).append ((PairsAt.one (q := (2 * n, 4 * n - 1)) upd_same).keep (t3.trans t4))).append ((PairsAt.one (q := (2 * n + 1, 6 * n)) upd_same).keep t4)
    refine cat_pairs (us := [q1, q2, q3]) (Same.refl _) (((t1.trans t2).trans t3).trans t4) e5 p5 upd_same p6 ?_ fun p H7 s7 e7 p7 => ?_
    · rw [List.length_append, List.length_append, fam_length, fam_length, fam_length]
      show _ + 3 ≤ _
      omega
    refine ⟨_, rfl, q H7 p _ ?_ e7 ?_⟩
    · exact s1.trans (s2.trans (s3.trans (s4.trans (s5.trans ((((t1.trans t2).trans t3).trans t4).trans s7)))))
    · rw [eP]
      exact p7
theorem kn_pairs_of_one_more (D : Df K mg "pairs_of_one_more" st_pairs_of_one_more ["fourth"]) (B : Bl mg) : Kn P w K mg base CX0 1 "pairs_of_one_more" ["fourth"] (spPairs 0 pairs5) := by
  refine D.kn sc_pairs_of_one_more (fun vs H Q E h => ?_) (fun f cdv A outer s H vs Q E hr h => ?_)
  · obtain ⟨a, rfl, _⟩ := h
    rfl
  obtain ⟨n, rfl, n1, n2, q⟩ := h
  refine ⟨_, (pss_cons (ps_if (pt_cmpR op_eq (pv 0) pe_int (nomark _))
        (pss_one (ps_ret (pe_lst (pa_cons (pe_tup (pa_cons pe_int (pa_cons pe_int pa_nil))) pa_nil))))
        pss_nil)
      (pss_cons (ps_if (pt_cmpR op_eq (pv 0) pe_int (nomark _))
        (pss_one (ps_ret (pe_lst (pa_cons (pe_tup (pa_cons pe_int (pa_cons pe_int pa_nil))) (pa_cons (pe_tup (pa_cons pe_int (pa_cons pe_int pa_nil))) (pa_cons (pe_tup (pa_cons pe_int (pa_cons pe_int pa_nil))) (pa_cons (pe_tup (pa_cons pe_int (pa_cons pe_int pa_nil))) (pa_cons (pe_tup (pa_cons pe_int (pa_cons pe_int pa_nil))) pa_nil))))))))
        pss_nil)
      (pss_cons (ps_setLc (i := 1) (own := [("k", 2)]) (g := gName 2) (tt := tYes) rfl sc_pairs_of_one_more.nd rfl rfl (sw_true rfl rfl rfl (by decide +kernel)) (pi_range1 (by rfl) B.range_ (pa_cons (pe_op op_mul pe_int (pv 0)) pa_nil)) (blkOk_by (own := [("k", 2)]) (N := N_pairs_of_one_more) (sc := defScope st_pairs_of_one_more) (by decide +kernel)) (fun _ _ _ _ _ => pg_name (i := 2) sc_pairs_of_one_more.nd rfl (Or.inl rfl)) (fun _ _ _ _ _ => pts_nil) (fun _ _ _ _ _ => pe_tup (pa_cons (pe_op op_add (pe_op op_add (pe_op op_mul pe_int (pv 0)) pe_int) (pv 2)) (pa_cons (pe_op op_sub (pe_op op_add (pe_op op_mul pe_int (pv 0)) pe_int) (pv 2)) pa_nil))))
      (pss_cons (ps_set (i := 1) sc_pairs_of_one_more.nd rfl (Or.inl rfl) (pe_op op_cat (pv 1) (pe_lc (own := [("k", 2)]) (g := gName 2) (tt := tYes) rfl sc_pairs_of_one_more.nd (pi_range2 (by rfl) B.range_ (pa_cons pe_int (pa_cons (pe_op op_add (pv 0) pe_int) pa_nil))) (blkOk_by (own := [("k", 2)]) (N := N_pairs_of_one_more) (sc := defScope st_pairs_of_one_more) (by decide +kernel)) (fun _ _ _ _ _ => pg_name (i := 2) sc_pairs_of_one_more.nd rfl (Or.inl rfl)) (fun _ _ _ _ _ => pts_nil) (fun _ _ _ _ _ => pe_tup (pa_cons (pv 2) (pa_cons (pe_op op_sub (pe_op op_add (pe_op op_mul pe_int (pv 0)) pe_int) (pv 2)) pa_nil))))))
      (pss_cons (ps_set (i := 1) sc_pairs_of_one_more.nd rfl (Or.inl rfl) (pe_op op_cat (pv 1) (pe_lc (own := [("k", 2)]) (g := gName 2) (tt := tYes) rfl sc_pairs_of_one_more.nd (pi_range2 (by rfl) B.range_ (pa_cons pe_int (pa_cons (pe_op op_sub (pv 0) pe_int) pa_nil))) (blkOk_by (own := [("k", 2)]) (N := N_pairs_of_one_more) (sc := defScope st_pairs_of_one_more) (by decide +kernel)) (fun _ _ _ _ _ => pg_name (i := 2) sc_pairs_of_one_more.nd rfl (Or.inl rfl)) (fun _ _ _ _ _ => pts_nil) (fun _ _ _ _ _ => pe_tup (pa_cons (pe_op op_add (pe_op op_add (pv 0) pe_int) (pv 2)) (pa_cons (pe_op op_sub (pe_op op_add (pe_op op_mul pe_int (pv 0)) pe_int) (pv 2)) pa_nil))))))
      (pss_cons (ps_set (i := 1) sc_pairs_of_one_more.nd rfl (Or.inl rfl) (pe_op op_cat (pv 1) (pe_lst (pa_cons (pe_tup (pa_cons (pe_op op_add (pv 0) pe_int) (pa_cons (pe_op op_add (pv 0) pe_int) pa_nil))) (pa_cons (pe_tup (pa_cons (pe_op op_add (pe_op op_mul pe_int (pv 0)) pe_int) (pa_cons (pe_op op_add (pe_op op_mul pe_int (pv 0)) pe_int) pa_nil))) (pa_cons (pe_tup (pa_cons (pe_op op_add (pe_op op_mul pe_int (pv 0)) pe_int) (pa_cons (pe_op op_add (pe_op op_mul pe_int (pv 0)) pe_int) pa_nil))) pa_nil))))))
      (pss_one (ps_ret (pv 1))))))))), ?_⟩
  refine ⟨_, rfl, rfl, _, rfl, ite2 (fun c => ?_) (fun c => ?_)⟩
  · have c1 : n = 0 := V.int.inj (of_decide_eq_true c)
    have eP : pairs5 n = [(1, 2)] := by
      unfold pairs5
      rw [if_pos c1]
    refine ⟨small (show 2 ≤ 16777216 by decide), fun p1 np1 => ⟨small (show 1 ≤ 16777216 by decide), fun p np => ?_⟩⟩
    have s1 := same_upd np1 (o := .tup [V.int 1, V.int 2])
    have s2 := same_upd np (o := .lst [V.ref p1])
    refine q _ p [p1] (s1.trans s2) upd_same ?_
    rw [eP]
    exact (PairsAt.one (q := (1, 2)) upd_same).keep s2
  have c0 : ¬ n = 0 := fun z => c (decide_eq_true (congrArg V.int z))
  refine ⟨_, rfl, rfl, _, rfl, ite2 (fun c => ?_) (fun c => ?_)⟩
  · have c1 : n = 1 := V.int.inj (of_decide_eq_true c)
    have eP : pairs5 n = [(1, 2), (3, 6), (4, 8), (5, 10), (7, 9)] := by
      unfold pairs5
      rw [if_neg c0, if_pos c1]
    refine ⟨small (show 2 ≤ 16777216 by decide), fun p1 np1 => ⟨small (show 2 ≤ 16777216 by decide), fun p2 np2 => ⟨small (show 2 ≤ 16777216 by decide), fun p3 np3 => ⟨small (show 2 ≤ 16777216 by decide), fun p4 np4 => ⟨small (show 2 ≤ 16777216 by decide), fun p5 np5 => ⟨small (show 5 ≤ 16777216 by decide), fun p np => ?_⟩⟩⟩⟩⟩⟩
    have s1 := same_upd np1 (o := .tup [V.int 1, V.int 2])
    have s2 := same_upd np2 (o := .tup [V.int 3, V.int 6])
    have s3 := same_upd np3 (o := .tup [V.int 4, V.int 8])
    have s4 := same_upd np4 (o := .tup [V.int 5, V.int 10])
    have s5 := same_upd np5 (o := .tup [V.int 7, V.int 9])
    have s6 := same_upd np (o := .lst [V.ref p1, V.ref p2, V.ref p3, V.ref p4, V.ref p5])
    refine q _ p [p1, p2, p3, p4, p5] (((((s1.trans s2).trans s3).trans s4).trans s5).trans s6) upd_same ?_
    rw [eP]
    exact (((((PairsAt.one (q := (1, 2)) upd_same).keep (s2.trans (s3.trans (s4.trans (s5.trans s6))))).append ((PairsAt.one (q := (3, 6)) upd_same).keep (s3.trans (s4.trans (s5.trans s6))))).append ((PairsAt.one (q := (4, 8)) upd_same).keep (s4.trans (s5.trans s6)))).append ((PairsAt.one (q := (5, 10)) upd_same).keep (s5.trans s6))).append ((PairsAt.one (q := (7, 9)) upd_same).keep s6)
  · have c1 : ¬ n = 1 := fun z => c (decide_eq_true (congrArg V.int z))
    have eP : pairs5 n = pairs5g n := by
      unfold pairs5
      rw [if_neg c0, if_neg c1]
    -- the first family
    refine ⟨_, rfl, _, _, rfl, rfl, .inl ⟨by decide, by decide⟩, 2 * n, rfl, by omega, by omega, fun D1 nD1 => ?_⟩
    refine lc_pairs (n := (2 * n).toNat) nD1 (by omega) (fun k => (4 * n + 2 + k, 8 * n + 2 - k)) (fun i H Q hi q => ⟨_, rfl, _, _, rfl, rfl, .inl ⟨by decide, by decide⟩, _, _, rfl, rfl, _, rfl, _, _, rfl, rfl, _, rfl, _, _, rfl, rfl, .inl ⟨by decide, by decide⟩, _, _, rfl, rfl, _, rfl, _, _, rfl, rfl, small (show 2 ≤ 16777216 by decide), q⟩) (fun H1 ts1 s1 e1 p1 => ?_)
    -- the second
    refine ⟨_, rfl, _, rfl, _, _, rfl, rfl, 1, n + 1, rfl, ⟨by omega, by omega, by omega, by omega⟩, fun D2 nD2 => ?_⟩
    refine lc_pairs (lo := 1) (n := (n + 1 - 1).toNat) nD2 (by omega) (fun k => (k, 4 * n + 1 - k)) (fun i H Q hi q => ⟨_, rfl, _, rfl, _, _, rfl, rfl, .inl ⟨by decide, by decide⟩, _, _, rfl, rfl, _, rfl, _, _, rfl, rfl, small (show 2 ≤ 16777216 by decide), q⟩) (fun H2 ts2 s2 e2 p2 => ?_)
    refine cat_pairs (Same.refl _) s2 e1 p1 e2 p2 (by rw [fam_length, fam_length]; omega) fun D3 H3 s3 e3 p3 => ?_
    -- the third
    refine ⟨_, rfl, _, rfl, _, _, rfl, rfl, 1, n - 1, rfl, ⟨by omega, by omega, by omega, by omega⟩, fun D4 nD4 => ?_⟩
    refine lc_pairs (lo := 1) (n := (n - 1 - 1).toNat) nD4 (by omega) (fun k => (n + 2 + k, 3 * n + 1 - k)) (fun i H Q hi q => ⟨_, rfl, _, _, rfl, rfl, _, rfl, _, _, rfl, rfl, _, rfl, _, _, rfl, rfl, .inl ⟨by decide, by decide⟩, _, _, rfl, rfl, _, rfl, _, _, rfl, rfl, small (show 2 ≤ 16777216 by decide), q⟩) (fun H4 ts4 s4 e4 p4 => ?_)
    refine cat_pairs (Same.refl _) s4 e3 p3 e4 p4 (by rw [List.length_append, fam_length, fam_length, fam_length]; omega) fun D5 H5 s5 e5 p5 => ?_
    -- the last three
    refine ⟨_, rfl, _, rfl, _, _, rfl, rfl, _, rfl, _, _, rfl, rfl, small (show 2 ≤ 16777216 by decide), fun q1 nq1 => ⟨_, rfl, _, _, rfl, rfl, .inl ⟨by decide, by decide⟩, _, _, rfl, rfl, _, rfl, _, _, rfl, rfl, .inl ⟨by decide, by decide⟩, _, _, rfl, rfl, small (show 2 ≤ 16777216 by decide), fun q2 nq2 =>
      ⟨_, rfl, _, _, rfl, rfl, .inl ⟨by decide, by decide⟩, _, _, rfl, rfl, _, rfl, _, _, rfl, rfl, .inl ⟨by decide, by decide⟩, _, _, rfl, rfl, small (show 2 ≤ 16777216 by decide), fun q3 nq3 => ⟨small (show 3 ≤ 16777216 by decide), fun D6 nD6 => ?_⟩⟩⟩⟩
    have t1 := same_upd nq1 (o := .tup [V.int (n + 1), V.int (n + 2)])
    have t2 := same_upd nq2 (o := .tup [V.int (2 * n + 1), V.int (6 * n + 2)])
    have t3 := same_upd nq3 (o := .tup [V.int (2 * n + 2), V.int (4 * n + 1)])
    have t4 := same_upd nD6 (o := .lst [V.ref q1, V.ref q2, V.ref q3])
    have p6 := (((PairsAt.one (q := (n + 1, n + 2)) upd_same).keep (t2.trans (t3.trans t4))).append ((PairsAt.one (q := (2 * n + 1, 6 * n + 2)) upd_same).keep (t3.trans t4))).append ((PairsAt.one (q := (2 * n + 2, 4 * n + 1)) upd_same).keep t4)
    refine cat_pairs (us := [q1, q2, q3]) (Same.refl _) (((t1.trans t2).trans t3).trans t4) e5 p5 upd_same p6 ?_ fun p H7 s7 e7 p7 => ?_
    · rw [List.length_append, List.length_append, fam_length, fam_length, fam_length]
      show _ + 3 ≤ _
      omega
    refine ⟨_, rfl, q H7 p _ ?_ e7 ?_⟩
    · exact s1.trans (s2.trans (s3.trans (s4.trans (s5.trans ((((t1.trans t2).trans t3).trans t4).trans s7)))))
    · rw [eP]
      exact p7
end

/-! ### row_of -/
abbrev N_row_of : List Str := ["size", "pairs", "found", "k", "one", "other"]
theorem sc_row_of : FnScope N_row_of ["size"] (defScope st_row_of) := ⟨rfl, rfl, rfl, by decide +kernel, rfl, by decide +kernel, by decide +kernel⟩
/-- a size that isn't told of: E of the class at CS; one that no row has: of the one at CU; else a new list, the row -/
def spRowOf (CS CU : Addr) : Sp := fun vs H Q E => ∃ size : Int, vs = [.int size] ∧ (¬ (1 ≤ size ∧ size ≤ 400) → E (.ref CS) none H) ∧ (1 ≤ size ∧ size ≤ 400 → ¬ size % 4 < 2 → E (.ref CU) none H) ∧
  (1 ≤ size ∧ size ≤ 400 → size % 4 < 2 → ∀ H' p, Same H H' → H p = none → H' p = some (.lst ((rowOf size).map V.int)) → Q (.ref p) H')
/-- the pairs of a size, by either def -/
theorem if_pairs {σ : L2.St} {H : Hp} {C : VK} {ta tb : TA} {size : Int} (hs : 1 ≤ size ∧ size ≤ 400) (h4 : size % 4 < 2) (ha : ∀ Q', Q' [V.int (size / 4)] H → ta σ H Q') (hb : ∀ Q', Q' [V.int (size / 4)] H → tb σ H Q')
    (h : ∀ H1 p ts, Same H H1 → H1 p = some (.lst (ts.map V.ref)) → PairsAt H1 ts (if size % 4 = 0 then pairs4 (size / 4) else pairs5 (size / 4)) → C (.ref p) H1) :
    if decide (V.int (size % 4) = V.int 0) = true then tCall (spPairs 1 pairs4) [] E0 ta σ H C else tCall (spPairs 0 pairs5) [] E0 tb σ H C := by
  refine ite2 (fun d => ?_) (fun d => ?_)
  · have d' : size % 4 = 0 := V.int.inj (of_decide_eq_true d)
    rw [if_pos d'] at h
    exact ha _ ⟨size / 4, rfl, by omega, by omega, h⟩
  · have d' : ¬ size % 4 = 0 := fun z => d (decide_eq_true (congrArg V.int z))
    rw [if_neg d'] at h
    exact hb _ ⟨size / 4, rfl, by omega, by omega, h⟩
section
variable {P : Program} {w : World} {K : PySem.W.Frag} {mg : Str → Option Value} {base : Heap}
theorem kn_row_of {CS CU : Addr} (D : Df K mg "row_of" st_row_of ["size"]) (B : Bl mg) (X_NoSuch : Ec K mg "NoSuch" CU) (K_can_be : Kn P w K mg base (L2.CX P w) 2 "can_be" ["size"] (spCanBe CS))
    (K_pairs_of_four : Kn P w K mg base CX0 1 "pairs_of_four" ["fourth"] (spPairs 1 pairs4)) (K_pairs_of_one_more : Kn P w K mg base CX0 1 "pairs_of_one_more" ["fourth"] (spPairs 0 pairs5)) : Kn P w K mg base (L2.CX P w) 3 "row_of" ["size"] (spRowOf CS CU) := by
  refine D.knX sc_row_of (fun vs H Q E h => ?_) (fun f cdv A outer s H vs Q E hr h => ?_)
  · obtain ⟨a, rfl, _⟩ := h
    rfl
  obtain ⟨size, rfl, h1, h2, h3⟩ := h
  refine ⟨_, (pss_cons (ps_if (pt_not (pt_val (pe_kE K_can_be (takes_of rfl rfl rfl rfl) (hr.mono (by first | decide | omega)) (by rfl) (pa_cons (pv 0) pa_nil))))
        (pss_one (ps_raise rfl (takes_of rfl rfl rfl rfl) (pmk_own PySem.F.excBase_ValueError X_NoSuch.x X_NoSuch.g X_NoSuch.k (raises_own X_NoSuch.b X_NoSuch.t) rfl)))
        pss_nil)
      (pss_cons (ps_set (i := 1) sc_row_of.nd rfl (Or.inl rfl) (pe_ifExp (pt_cmpR op_eq (pe_op op_mod (pv 0) pe_int) pe_int (nomark _)) (pe_k0 K_pairs_of_four (hr.mono (by first | decide | omega)) (by rfl) (pa_cons (pe_op op_fdiv (pv 0) pe_int) pa_nil)) (pe_k0 K_pairs_of_one_more (hr.mono (by first | decide | omega)) (by rfl) (pa_cons (pe_op op_fdiv (pv 0) pe_int) pa_nil))))
      (pss_cons (ps_setLc (i := 2) (own := [("k", 3)]) (g := gName 3) (tt := tYes) rfl sc_row_of.nd rfl rfl (sw_true rfl rfl rfl (by decide +kernel)) (pi_range1 (by rfl) B.range_ (pa_cons (pe_op op_mul pe_int (pv 0)) pa_nil)) (blkOk_by (own := [("k", 3)]) (N := N_row_of) (sc := defScope st_row_of) (by decide +kernel)) (fun _ _ _ _ _ => pg_name (i := 3) sc_row_of.nd rfl (Or.inl rfl)) (fun _ _ _ _ _ => pts_nil) (fun _ _ _ _ _ => pe_int))
      (pss_cons (ps_for (passes_of rfl) rfl (pi_list (pv 1)) (pg_tup rfl (pgs_cons (pg_name (i := 4) sc_row_of.nd rfl (Or.inl rfl)) (pgs_cons (pg_name (i := 5) sc_row_of.nd rfl (Or.inl rfl)) pgs_nil)))
        (pss_cons (ps_asg (pe_op op_sub (pv 5) (pv 4)) (pg_sub (pv 2) (pe_op op_sub (pv 4) pe_int) set_list))
        (pss_one (ps_asg (pe_op op_sub (pv 5) (pv 4)) (pg_sub (pv 2) (pe_op op_sub (pv 5) pe_int) set_list)))))
      (pss_one (ps_ret (pv 2))))))), ?_⟩
  refine ⟨_, rfl, size, rfl, h1, fun z => ⟨_, rfl, ite2 (fun c => ?_) (fun c => ?_)⟩⟩
  · have c' : ¬ size % 4 < 2 := by
      have q : (!decide (size % 4 < 2)) = true := c
      rw [Bool.not_eq_true', decide_eq_false_iff_not] at q
      exact q
    exact h2 z c'
  have c' : size % 4 < 2 := by
    have q : ¬ (!decide (size % 4 < 2)) = true := c
    rw [Bool.not_eq_true', decide_eq_false_iff_not, Decidable.not_not] at q
    exact q
  have hR := rowOf_pairs z.1 z.2 c'
  have hw := rowOf_length size
  refine ⟨_, rfl, _, _, rfl, rfl, (by decide : (0 : Int) < 4), rfl, _, rfl, ?_⟩
  refine if_pairs z c' (fun Q' q' => ⟨_, rfl, _, _, rfl, rfl, ⟨by decide, by decide⟩, q'⟩) (fun Q' q' => ⟨_, rfl, _, _, rfl, rfl, ⟨by decide, by decide⟩, q'⟩) fun H1 p ts s1 e1 p1 => ?_
  generalize hps : (if size % 4 = 0 then pairs4 (size / 4) else pairs5 (size / 4)) = ps at hR p1
  have hrow : rowOf size = fillRow (List.replicate (2 * size.toNat) 0) ps := by rw [← hps]; rfl
  -- found
  refine ⟨_, rfl, _, _, rfl, rfl, .inl ⟨by decide, by decide⟩, 2 * size, rfl, by omega, by omega, fun D nD => ?_⟩
  refine lc_noughts (n := (2 * size).toNat) (by omega) ?_
  have e2n : (2 * size).toNat = 2 * size.toNat := by omega
  rw [e2n]
  have nDH : H D = none := s1.free nD
  have npD : p ≠ D := ne_of_none e1 nD
  -- the loop
  refine ⟨_, rfl, p, rfl, ⟨_, SqL.of (by rw [upd_ne npD]; exact e1)⟩, for_list (K := K) (a := p) (xs := ts.map V.ref) (fun i σ H' => ∃ y3 y4 y5, σ = [some (.int size), some (.ref p), some (.ref D), y3, y4, y5] ∧ H' = upd H1 D (.lst ((fillRow (List.replicate (2 * size.toNat) 0) (ps.take i)).map V.int))) ⟨none, none, none, rfl, rfl⟩ ?_ ?_ ?_⟩
  · rintro i σ H' _ ⟨y3, y4, y5, rfl, rfl⟩
    exact SqL.of (by rw [upd_ne npD]; exact e1)
  · rintro i y σ H' hy ⟨y3, y4, y5, rfl, rfl⟩
    obtain ⟨t, q, rfl, hq, et⟩ := p1.get hy
    have hin := hR.inn q (List.mem_of_getElem? hq)
    have hlen : (fillRow (List.replicate (2 * size.toNat) 0) (ps.take i)).length = 2 * size.toNat := by rw [fillRow_length, List.length_replicate]
    refine ⟨t, _, rfl, SqT.of (by rw [upd_ne (ne_of_none et nD)]; exact et), rfl, _, _, rfl, _, _, rfl, rfl, ?_⟩
    refine ⟨_, rfl, _, rfl, _, _, rfl, rfl, _, rfl, _, rfl, _, _, rfl, rfl, D, _, _, _, rfl, rfl, upd_same, ixN_at (by omega) (by rw [ints_len, hlen]; omega), ?_⟩
    rw [upd_upd, set_ints]
    refine ⟨_, rfl, _, rfl, _, _, rfl, rfl, _, rfl, _, rfl, _, _, rfl, rfl, D, _, _, _, rfl, rfl, upd_same, ixN_at (by omega) (by rw [ints_len, List.length_set, hlen]; omega), ?_⟩
    rw [upd_upd, set_ints]
    refine ⟨_, _, _, rfl, ?_⟩
    rw [take_snoc hq]
    unfold fillRow
    rw [List.foldl_append]
    rfl
  · rintro σ H' ⟨y3, y4, y5, rfl, rfl⟩
    rw [List.length_map, p1.1, List.take_length, ← hrow]
    exact ⟨_, rfl, h3 z c' _ D (s1.new nD) nDH upd_same⟩
end

/-! ### _law_cell_at -/
abbrev N_law_cell_at : List Str := ["script", "k"]
theorem sc_law_cell_at : FnScope N_law_cell_at ["script", "k"] (defScope st_law_cell_at) := ⟨rfl, rfl, rfl, by decide +kernel, rfl, by decide +kernel, by decide +kernel⟩
/-- a cell of the script, nought beyond -/
def cellAt (ns : List Int) (k : Int) : Int := if k < (ns.length : Int) then ns.getD k.toNat 0 else 0
def spCellAt (K : PySem.W.Frag) : Sp := fun vs H Q _ => ∃ (a : Addr) (ns : List Int) (k : Int), vs = [.ref a, .int k] ∧ SqL K H a (ns.map V.int) ∧ 0 ≤ k ∧ Q (.int (cellAt ns k)) H
section
variable {P : Program} {w : World} {K : PySem.W.Frag} {mg : Str → Option Value} {base : Heap}
theorem kn_law_cell_at (D : Df K mg "_law_cell_at" st_law_cell_at ["script", "k"]) (B : Bl mg) : Kn P w K mg base CX0 1 "_law_cell_at" ["script", "k"] (spCellAt K) := by
  refine D.kn sc_law_cell_at (fun vs H Q E h => ?_) (fun f cdv A outer s H vs Q E hr h => ?_)
  · obtain ⟨a, ns, k, rfl, _⟩ := h
    rfl
  obtain ⟨a, ns, k, rfl, hS, h0, q⟩ := h
  refine ⟨_, (pss_cons (ps_if (pt_cmpR op_lt (pv 1) (pe_callB call_len_seq (by rfl) B.len_ (by decide +kernel) (pa_cons (pv 0) pa_nil)) (nomark _))
        (pss_one (ps_ret (pe_ix ix_list (pv 0) (pv 1) (fun _ _ => rfl))))
        pss_nil)
      (pss_one (ps_ret pe_int))), ?_⟩
  refine ⟨_, rfl, _, rfl, a, _, rfl, .inl hS, _, _, rfl, rfl, _, rfl, ite2 (fun c => ?_) (fun c => ?_)⟩
  · have c' : k < ((ns.map V.int).length : Int) := of_decide_eq_true c
    rw [ints_len] at c'
    have hk : k.toNat < ns.length := by omega
    refine ⟨_, rfl, _, rfl, a, _, k, _, rfl, rfl, hS, at_ints h0 (List.getElem?_eq_getElem hk), ?_⟩
    have e : cellAt ns k = ns[k.toNat] := by
      unfold cellAt
      rw [if_pos c', List.getD_eq_getElem?_getD, List.getElem?_eq_getElem hk]
      rfl
    rw [← e]
    exact q
  · have c' : ¬ k < ((ns.map V.int).length : Int) := of_decide_eq_false (Bool.eq_false_iff.mpr c)
    rw [ints_len] at c'
    have e : cellAt ns k = 0 := if_neg c'
    rw [e] at q
    exact q
end

/-! ### _law_whole -/
abbrev N_law_whole : List Str := ["found"]
theorem sc_law_whole : FnScope N_law_whole ["found"] (defScope st_law_whole) := ⟨rfl, rfl, rfl, by decide +kernel, rfl, by decide +kernel, by decide +kernel⟩
def spWhole : Sp := fun vs H Q _ => ∃ n : Int, vs = [.int n] ∧ Q (.bl true) H
section
variable {P : Program} {w : World} {K : PySem.W.Frag} {mg : Str → Option Value} {base : Heap}
theorem kn_law_whole (D : Df K mg "_law_whole" st_law_whole ["found"]) (B : Bl mg) : Kn P w K mg base CX0 1 "_law_whole" ["found"] spWhole := by
  refine D.kn sc_law_whole (fun vs H Q E h => ?_) (fun f cdv A outer s H vs Q E hr h => ?_)
  · obtain ⟨a, rfl, _⟩ := h
    rfl
  obtain ⟨n, rfl, q⟩ := h
  refine ⟨_, (pss_one (ps_ret (pe_and (pe_callB call_isi (by rfl) B.isinstance_ (by decide +kernel) (pa_cons (pv 0) (pa_cons (pe_bltn (v := .ty "int") (by rfl) B.int_ (by decide +kernel) rfl) pa_nil))) (pe_one (pe_not (pe_callB call_isi (by rfl) B.isinstance_ (by decide +kernel) (pa_cons (pv 0) (pa_cons (pe_bltn (v := .ty "bool") (by rfl) B.bool_ (by decide +kernel) rfl) pa_nil)))))))), ?_⟩
  refine ⟨_, rfl, _, _, _, _, true, rfl, .ty _, .base (.int _), kit_ty (by decide +kernel), true, rfl, iteT ?_⟩
  exact ⟨_, rfl, _, _, _, _, false, rfl, .ty _, .base (.int _), kit_ty (by decide +kernel), false, rfl, q⟩
end

/-! ### _law_is_row -/
abbrev N_law_is_row : List Str := ["row", "size", "first", "both", "place", "number"]
theorem sc_law_is_row : FnScope N_law_is_row ["row"] (defScope st_law_is_row) := ⟨rfl, rfl, rfl, by decide +kernel, rfl, by decide +kernel, by decide +kernel⟩
section
variable {P : Program} {w : World} {K : PySem.W.Frag} {mg : Str → Option Value} {base : Heap}
/-- the two dicts behind a start of a list -/
structure FB (H : Hp) (d b : Addr) (pre : List Int) : Prop where
  ne : d ≠ b
  first : ∃ kvs : List (Key × V), H d = some (.dK kvs) ∧ kvs.length ≤ pre.length ∧ ∀ k : Int, (spots pre k = [] ∧ valV kvs (.inl k) = none) ∨ ∃ x r, spots pre k = x :: r ∧ valV kvs (.inl k) = some (.int x)
  both : ∃ (kvs : List (Key × V)) (l : List Int), H b = some (.dK kvs) ∧ kvs.length ≤ pre.length ∧ kvs.map (·.1) = l.map Sum.inl ∧ l.Nodup ∧ (∀ k : Int, k ∈ l ↔ (spots pre k).length = 2) ∧ ∀ k : Int, (valV kvs (.inl k)).isSome = decide (k ∈ l)
theorem kn_law_is_row (D : Df K mg "_law_is_row" st_law_is_row ["row"]) (B : Bl mg) : Kn P w K mg base CX0 1 "_law_is_row" ["row"] (spIsRow K) := by
  refine D.kn sc_law_is_row (fun vs H Q E h => ?_) (fun f cdv A outer s H vs Q E hr h => ?_)
  · obtain ⟨a, ns, rfl, _⟩ := h
    rfl
  obtain ⟨a, ns, rfl, hS, hlen, q⟩ := h
  refine ⟨_, (pss_cons (ps_set (i := 1) sc_law_is_row.nd rfl (Or.inl rfl) (pe_op op_fdiv (pe_callB call_len_seq (by rfl) B.len_ (by decide +kernel) (pa_cons (pv 0) pa_nil)) pe_int))
      (pss_cons (ps_if (PW.pt (pw_or (pt_cmpR op_eq (pe_op op_mod (pe_callB call_len_seq (by rfl) B.len_ (by decide +kernel) (pa_cons (pv 0) pa_nil)) pe_int) pe_int (nomark _)) (pw_or (pt_cmpR op_lt (pv 1) pe_int (nomark _)) (pw_or1 (pt_cmpR op_gt (pv 1) pe_int (nomark _))))))
        (pss_one (ps_ret pe_bl))
        pss_nil)
      (pss_cons (ps_set (i := 2) sc_law_is_row.nd rfl (Or.inl rfl) pe_dnewK)
      (pss_cons (ps_set (i := 3) sc_law_is_row.nd rfl (Or.inl rfl) pe_dnewK)
      (pss_cons (ps_for PassesOwn.never rfl (pi_range1 (by rfl) B.range_ (pa_cons (pe_callB call_len_seq (by rfl) B.len_ (by decide +kernel) (pa_cons (pv 0) pa_nil)) pa_nil)) (pg_name (i := 4) sc_law_is_row.nd rfl (Or.inl rfl))
        (pss_cons (ps_set (i := 5) sc_law_is_row.nd rfl (Or.inl rfl) (pe_ix ix_list (pv 0) (pv 4) (fun _ _ => rfl)))
        (pss_cons (ps_if (PW.pt (pw_or (pt_cmpR op_lt (pv 5) pe_int (nomark _)) (pw_or (pt_cmpR op_gt (pv 5) (pv 1) (nomark _)) (pw_or1 (pt_cmp (pc_din (hu_of hr) (pv 5) (pv 3)))))))
          (pss_one (ps_ret pe_bl))
          pss_nil)
        (pss_one (ps_if (pt_cmp (pc_dnotin (hu_of hr) (pv 5) (pv 2)))
          (pss_one (ps_dput (hu_of hr) (pv 2) (pv 5) (pv 4) rfl))
          (pss_one (ps_if (pt_cmpR op_ne (pe_op op_sub (pv 4) (pe_dget (hu_of hr) (pv 2) (pv 5) (fun _ _ => rfl))) (pv 5) (nomark _))
            (pss_one (ps_ret pe_bl))
            (pss_one (ps_dput (hu_of hr) (pv 3) (pv 5) pe_bl rfl)))))))))
      (pss_one (ps_ret (pe_cmpR op_eq (pe_callB call_lenD (by rfl) B.len_ (by decide +kernel) (pa_cons (pv 3) pa_nil)) (pv 1) (nomark _))))))))), ?_⟩
  refine ⟨_, rfl, a, _, rfl, .inl hS, _, _, rfl, rfl, ⟨by decide, by decide⟩, ?_⟩
  have hL := ints_len ns
  have hsz : (((ns.map V.int).length : Nat) : Int) / 2 = ((ns.length / 2 : Nat) : Int) := by
    rw [hL]
    omega
  simp only [hsz]
  have no : ∀ H', Same H H' → (isRow ns = true → False) → Q (.bl false) H' := fun H' s h => by
    have := q H' s
    rw [isRow_no h] at this
    exact this
  -- len(row) % 2 == 1 or size < 1 or size > 400
  refine ⟨_, rfl, a, _, rfl, .inl hS, _, _, rfl, rfl, (by decide : (0 : Int) < 2), rfl, _, rfl, ite2 (fun c => ?_) (fun c => ?_)⟩
  · have c' : (((ns.map V.int).length : Nat) : Int) % 2 = 1 := V.int.inj (of_decide_eq_true c)
    rw [hL] at c'
    exact iteT (no H (Same.refl _) fun z => by have := ((isRow_iff ns).mp z).1; omega)
  have c0 : ns.length = 2 * (ns.length / 2) := by
    have c' : ¬ (((ns.map V.int).length : Nat) : Int) % 2 = 1 := fun z => c (decide_eq_true (congrArg V.int z))
    rw [hL] at c'
    omega
  refine ⟨_, rfl, _, _, rfl, rfl, _, rfl, ite2 (fun c => ?_) (fun c => ?_)⟩
  · have c1 : ((ns.length / 2 : Nat) : Int) < 1 := of_decide_eq_true c
    exact iteT (no H (Same.refl _) fun z => by have := ((isRow_iff ns).mp z).2.1; omega)
  have c1 : ¬ ((ns.length / 2 : Nat) : Int) < 1 := of_decide_eq_false (Bool.eq_false_iff.mpr c)
  refine ⟨_, rfl, _, _, rfl, rfl, _, rfl, ite2 (fun c => ?_) (fun c => ?_)⟩
  · have c2 : (400 : Int) < ((ns.length / 2 : Nat) : Int) := of_decide_eq_true c
    exact no H (Same.refl _) fun z => by have := ((isRow_iff ns).mp z).2.2.1; omega
  have c2 : ¬ (400 : Int) < ((ns.length / 2 : Nat) : Int) := of_decide_eq_false (Bool.eq_false_iff.mpr c)
  -- the two dicts
  intro d nd b nb
  have ndb : d ≠ b := fun e => by
    rw [← e, upd_same] at nb
    cases nb
  have nbH : H b = none := by rw [upd_ne ndb.symm] at nb; exact nb
  have s1 : Same H (upd (upd H d (.dK [])) b (.dK [])) := (same_upd nd).new nb
  refine ⟨_, rfl, a, _, rfl, .inl (s1.seq hS), (((ns.map V.int).length : Nat) : Int), rfl, by omega, by rw [hL]; omega, ?_⟩
  refine for_range (lo := 0) (n := ((((ns.map V.int).length : Nat) : Int)).toNat) (fun i σ H' => ∃ y4 y5, σ = [some (.ref a), some (.int ((ns.length / 2 : Nat) : Int)), some (.ref d), some (.ref b), y4, y5] ∧ Same H H' ∧ okPre (ns.length / 2) (ns.take i) ∧ FB H' d b (ns.take i)) ⟨none, none, rfl, s1, okPre_nil _, ndb, ⟨[], by rw [upd_ne ndb, upd_same], Nat.le_refl _, fun k => .inl ⟨rfl, rfl⟩⟩, ⟨[], [], upd_same, Nat.le_refl _, rfl, List.nodup_nil, fun k => by simp [spots, spotsFrom], fun k => rfl⟩⟩ ?_ ?_
  · rintro i σ H1 hi ⟨y4, y5, rfl, s2, ok, fb⟩
    have hi2 : i < ns.length := by omega
    obtain ⟨n, hn⟩ : ∃ n, ns[i]? = some n := ⟨ns[i], List.getElem?_eq_getElem hi2⟩
    have htl : (ns.take i).length = i := by rw [List.length_take]; omega
    obtain ⟨kf, f1, f2, f3⟩ := fb.first
    obtain ⟨kb, l, b1, b2, b3, b4, b5, b6⟩ := fb.both
    refine ⟨_, rfl, _, rfl, a, _, _, V.int n, rfl, rfl, s2.seq hS, at_ints (by omega) (by rw [Int.zero_add, Int.toNat_natCast]; exact hn), ?_⟩
    have hN : isRow ns = true → okPre (ns.length / 2) (ns.take i ++ [n]) := fun z => by
      rw [← take_snoc hn]
      exact isRow_okPre z (i + 1)
    have sp := spots_snoc (ns.take i) n n
    rw [if_pos rfl, htl] at sp
    -- number < 1 or number > size or number in both
    refine ⟨_, rfl, _, _, rfl, rfl, _, rfl, ite2 (fun c => ?_) (fun c => ?_)⟩
    · have c3 : n < 1 := of_decide_eq_true c
      exact iteT (no H1 s2 fun z => by have := (hN z).1 n (by simp); omega)
    have c3 : ¬ n < 1 := of_decide_eq_false (Bool.eq_false_iff.mpr c)
    refine ⟨_, rfl, _, rfl, _, _, rfl, rfl, _, rfl, ite2 (fun c => ?_) (fun c => ?_)⟩
    · have c4 : ((ns.length / 2 : Nat) : Int) < n := of_decide_eq_true c
      exact iteT (no H1 s2 fun z => by have := (hN z).1 n (by simp); omega)
    have c4 : ¬ ((ns.length / 2 : Nat) : Int) < n := of_decide_eq_false (Bool.eq_false_iff.mpr c)
    refine ⟨_, rfl, _, rfl, b, _, rfl, DGet.k (k := Sum.inl n) b1, _, rfl, ite2 (fun c => ?_) (fun c => ?_)⟩
    · rw [b6 n] at c
      have c5 : (spots (ns.take i) n).length = 2 := (b5 n).mp (of_decide_eq_true c)
      exact no H1 s2 fun z => by
        have h2 := (hN z).2 n
        have h3 : (spots (ns.take i ++ [n]) n).length = 3 := by rw [sp, List.length_append, c5]; rfl
        rcases h2 with e | ⟨x, e⟩ | ⟨x, y, e, _⟩ <;> rw [e] at h3 <;> simp at h3
    have c5 : ¬ n ∈ l := by
      rw [b6 n] at c
      exact fun z => c (decide_eq_true z)
    have c6 : ¬ (spots (ns.take i) n).length = 2 := fun z => c5 ((b5 n).mpr z)
    -- number not in first
    refine ⟨_, rfl, _, rfl, d, _, rfl, DGet.k (k := Sum.inl n) f1, _, rfl, ite2 (fun c => ?_) (fun c => ?_)⟩
    · have c7 : spots (ns.take i) n = [] := by
        rcases f3 n with ⟨e, _⟩ | ⟨x, r, _, e⟩
        · exact e
        · rw [e] at c
          cases c
      have ok2 : okPre (ns.length / 2) (ns.take i ++ [n]) := okPre_snoc ok (by omega) (by omega) (.inl c7)
      have hv : valV kf (Sum.inl n) = none := by
        rcases f3 n with ⟨_, e⟩ | ⟨x, r, e, _⟩
        · exact e
        · rw [c7] at e
          cases e
      refine ⟨_, rfl, _, rfl, _, rfl, d, _, rfl, DPut.k (k := Sum.inl n) f1 (smaller (by omega)), _, _, rfl, s2.own nd, by rw [take_snoc hn]; exact ok2, ?_⟩
      rw [take_snoc hn]
      refine ⟨fb.ne, ⟨_, upd_same, ?_, fun k => ?_⟩, ⟨kb, l, by rw [upd_ne fb.ne.symm]; exact b1, by rw [List.length_append]; omega, b3, b4, fun k => ?_, b6⟩⟩
      · have := length_putK kf (Sum.inl n : Key) (V.int (0 + (i : Int)))
        rw [List.length_append, List.length_singleton]
        omega
      · rw [valV_put, spots_snoc]
        by_cases hk : n = k
        · subst hk
          rw [if_pos rfl, if_pos rfl, c7, htl]
          exact .inr ⟨(i : Int), [], rfl, by rw [Int.zero_add]⟩
        · have hk' : ¬ (Sum.inl k : Key) = Sum.inl n := fun z => hk (Sum.inl.inj z).symm
          rw [if_neg hk', if_neg hk, List.append_nil]
          exact f3 k
      · rw [spots_snoc]
        by_cases hk : n = k
        · subst hk
          rw [if_pos rfl, c7]
          constructor
          · intro z
            exact absurd z c5
          · intro z
            simp at z
        · rw [if_neg hk, List.append_nil]
          exact b5 k
    · have c7 : (spots (ns.take i) n) ≠ [] := fun z => by
        rcases f3 n with ⟨_, e⟩ | ⟨x, r, e, _⟩
        · rw [e] at c
          exact c rfl
        · rw [z] at e
          cases e
      obtain ⟨x, hx, hv⟩ : ∃ x, spots (ns.take i) n = [x] ∧ valV kf (Sum.inl n) = some (.int x) := by
        rcases f3 n with ⟨e, _⟩ | ⟨x, r, e, e2⟩
        · exact absurd e c7
        · rcases ok.2 n with e3 | ⟨y, e3⟩ | ⟨y, z, e3, _⟩
          · exact absurd e3 c7
          · rw [e] at e3
            cases e3
            exact ⟨x, e, e2⟩
          · rw [e3] at c6
            exact absurd rfl c6
      have hget : DGet H1 d (.int n) (some (.int x)) := hv ▸ DGet.k (k := Sum.inl n) f1
      refine ⟨_, rfl, _, rfl, _, rfl, d, _, rfl, hget, _, _, rfl, rfl, _, rfl, rfl, _, rfl, ite2 (fun c => ?_) (fun c => ?_)⟩
      · have c8 : ¬ (0 : Int) + (i : Int) - x = n := fun z => by
          have e : decide (V.int ((0 : Int) + (i : Int) - x) = V.int n) = true := decide_eq_true (congrArg V.int z)
          have c2 : (!decide (V.int ((0 : Int) + (i : Int) - x) = V.int n)) = true := c
          rw [e] at c2
          cases c2
        exact no H1 s2 fun z => by
          have h2 := (hN z).2 n
          rw [sp, hx] at h2
          rcases h2 with e | ⟨y, e⟩ | ⟨y, z, e, e2⟩
          · cases e
          · cases e
          · cases e
            exact c8 (by omega)
      · have c8 : (0 : Int) + (i : Int) - x = n := by
          have c2 : ¬ (!decide (V.int ((0 : Int) + (i : Int) - x) = V.int n)) = true := c
          rw [Bool.not_eq_true', decide_eq_false_iff_not, Decidable.not_not] at c2
          exact V.int.inj c2
        have ok2 : okPre (ns.length / 2) (ns.take i ++ [n]) := okPre_snoc ok (by omega) (by omega) (.inr ⟨x, hx, by rw [htl]; omega⟩)
        have hvb : valV kb (Sum.inl n) = none := by
          have := b6 n
          cases e : valV kb (Sum.inl n) with
          | none => rfl
          | some v =>
            rw [e] at this
            exact absurd (of_decide_eq_true this.symm) c5
        refine ⟨_, rfl, _, rfl, b, _, rfl, DPut.k (k := Sum.inl n) b1 (smaller (by omega)), _, _, rfl, s2.own nbH, by rw [take_snoc hn]; exact ok2, ?_⟩
        rw [take_snoc hn]
        refine ⟨fb.ne, ⟨kf, by rw [upd_ne fb.ne]; exact f1, by rw [List.length_append]; omega, fun k => ?_⟩, ⟨_, l ++ [n], upd_same, ?_, ?_, nd_snoc b4 c5, fun k => ?_, fun k => ?_⟩⟩
        · rw [spots_snoc]
          by_cases hk : n = k
          · subst hk
            rw [if_pos rfl, hx]
            exact .inr ⟨x, _, rfl, hv⟩
          · rw [if_neg hk, List.append_nil]
            exact f3 k
        · have := length_putK kb (Sum.inl n : Key) (V.bl true)
          rw [List.length_append, List.length_singleton]
          omega
        · rw [putK_new _ hvb, List.map_append, List.map_append, b3]
          rfl
        · rw [spots_snoc, List.mem_append, List.mem_singleton]
          by_cases hk : n = k
          · subst hk
            rw [if_pos rfl, hx]
            simp
          · rw [if_neg hk, List.append_nil, b5 k]
            constructor
            · rintro (z | z)
              · exact z
              · exact absurd z.symm hk
            · exact .inl
        · rw [valV_put]
          by_cases hk : n = k
          · subst hk
            rw [if_pos rfl]
            simp
          · have hk' : ¬ (Sum.inl k : Key) = Sum.inl n := fun z => hk (Sum.inl.inj z).symm
            rw [if_neg hk', b6 k]
            have : (k ∈ l ++ [n]) ↔ k ∈ l := by
              rw [List.mem_append, List.mem_singleton]
              constructor
              · rintro (z | z)
                · exact z
                · exact absurd z.symm hk
              · exact .inl
            rw [decide_eq_decide]
            exact this.symm
  · rintro σ H1 ⟨y4, y5, rfl, s2, ok, fb⟩
    obtain ⟨kb, l, b1, b2, b3, b4, b5, b6⟩ := fb.both
    rw [Int.toNat_natCast, hL, List.take_length] at ok b5
    have hlen2 : kb.length = l.length := by
      have := congrArg List.length b3
      rwa [List.length_map, List.length_map] at this
    refine ⟨_, rfl, b, kb, rfl, b1, _, rfl, rfl, ?_⟩
    have hb : ∀ x ∈ l, 1 ≤ x ∧ x ≤ ((ns.length / 2 : Nat) : Int) := fun x hx => by
      have h2 := (b5 x).mp hx
      cases e : spots ns x with
      | nil =>
        rw [e] at h2
        simp at h2
      | cons y r =>
        obtain ⟨j, hj, _⟩ := (mem_spots ns x y).mp (by rw [e]; simp)
        exact ok.1 x (List.mem_of_getElem? hj)
    have e : decide (V.int ((kb.length : Nat) : Int) = V.int ((ns.length / 2 : Nat) : Int)) = isRow ns := by
      rw [Bool.eq_iff_iff, decide_eq_true_iff]
      constructor
      · intro z
        have z1 := V.int.inj z
        have z2 : l.length = ns.length / 2 := by omega
        exact isRow_of_okPre c0 (by omega) (by omega) ok fun k h1 h2 => (b5 k).mp (all_of_nodup z2 b4 hb k h1 h2)
      · intro z
        have h4 := ((isRow_iff ns).mp z).2.2.2
        have : l.length = ns.length / 2 := length_of_all b4 hb fun k h1 h2 => (b5 k).mpr (by rw [spots_length]; exact good_count (h4 k h1 h2))
        exact congrArg V.int (by omega)
    show Q (V.bl (decide (V.int ((kb.length : Nat) : Int) = V.int ((ns.length / 2 : Nat) : Int)))) _
    rw [e]
    exact q H1 s2
end

-- IMPORT HandS.ExcIs
-- IMPORT HandS.HotCalls
/-! ### list.count of flat items -/
section
variable {X : Cx}
def rCntF (K : PySem.W.Frag) : V → List V → Hp → VK → Prop := fun x xs H Q => ∃ (a : Addr) (ys : List V) (y : V), x = V.ref a ∧ xs = [y] ∧ SqL K H a ys ∧ flatV y = true ∧ ys.all flatV = true ∧ Q (.int (ys.countP (fun z => eqV z y) : Nat)) H
theorem mt_countF : MtR X "list.count" (rCntF X.K) := by
  intro pins s σ H x xs v us Q I rx rxs h
  obtain ⟨a, ys, y, rfl, rfl, hs, fy, fys, q⟩ := h
  cases rx
  cases rxs with
  | cons ry rt =>
    rename_i uy ut
    cases rt
    obtain ⟨its, rv, ⟨⟨cls, dd, data, sl⟩, n, ho, hc, hdn, hd⟩, hlen⟩ := I.list hs
    simp only at hc hd
    subst hc hd
    refine call_meets PySem.F.slot_list_count ⟨_, ho, rfl⟩ PySem.F.entry_list_count (PySem.F.args_list_count_2 _ _)
      (SeqAt.list_countAt a its.toArray n dd sl uy (eqU y)) ⟨ho, fun u' hu' => mem_eqAt ry fy rv fys u' (by simpa using hu'), ?_⟩
    have ec : ∀ {ys : List V} {us : List Value}, Vals ys us → ys.all flatV = true → us.countP (eqU y) = ys.countP (fun z => eqV z y) := by
      intro ys
      induction ys with
      | nil => intro us r _; cases r; rfl
      | cons z ys ih =>
        intro us r f
        cases r with
        | cons rz rt =>
          have f' : flatV z = true ∧ ys.all flatV = true := by simpa using f
          rw [List.countP_cons, List.countP_cons, ih rt f'.2, eqU_of rz f'.1]
    refine ⟨.int (ys.countP (fun z => eqV z y) : Nat), H, I.tok _, ⟨s.toks, ?_⟩, q⟩
    show Value.int ((its.toArray.toList.countP (eqU y) : Nat) : Int) s.toks = _
    rw [show its.toArray.toList = its by simp, ec rv fys]
end
section
variable {X : Cx} {x : Str} {pos : Pos}
theorem pe_globC {C : Addr} (hg : Gl X x) (hm : X.mg x = some (.ref C)) (hd : (x == ("__debug__" : Str)) = false := by decide) : PE X (.Name x pos) (tC (.ref C)) := pe_glob hg hm rfl hd
end
/-! ### a def called in an except suite with the error that is handled -/
structure FnW (P : Program) (w : World) (K : PySem.W.Frag) (mg : Str → Option Value) (base : Heap) (k : Nat) (f : Addr) (fd : FuncData) (ps : List Str) (sp : Addr × Obj → Sp) : Prop where
  len : ∀ p vs H Q E, sp p vs H Q E → vs.length = ps.length
  run : ∀ (A : Around) (outer : List Env) (s : Shared) (H : Hp) (args : Args) (us : List Value) (vs : List V) (Q : VK) (E : XK) (p : Addr × Obj), L2H.RoomH k A → L2H.PinOk outer H s p → Env0 P w K mg base A outer s H → BindsTo s fd args (ps.zip us) → Vals vs us → sp p vs H Q E →
    codeAny (model P w) A (.call (.ref f) args) (CR CX0 outer P w H s Q E) s
theorem fn_ofW {P : Program} {w : World} {K : PySem.W.Frag} {mg : Str → Option Value} {base : Heap} {k : Nat} {f : Addr} {name qual : Str} {params : Arguments} {body : List Stmt} {scope : Scope} {dV kV doc pm cdv ct oc : Value} {an od : Option Addr}
    {osl : Array (Option Value)} {N ps : List Str} {sp : Addr × Obj → Sp} (lk : K.lookup f = some ⟨oc, od, .func (PySem.W.fnOf name qual params body scope dV kV doc pm an cdv ct), osl⟩) (hcd : PySem.W.codeIn K cdv qual = true) (S : FnScope N ps scope)
    (len : ∀ p vs H Q E, sp p vs H Q E → vs.length = ps.length)
    (hbody : ∀ (A : Around) (outer : List Env) (s : Shared) (H : Hp) (vs : List V) (Q : VK) (E : XK) (p : Addr × Obj), L2H.RoomH k (A.deeper (envOfC qual scope s.heap.objs.size f cdv)) → sp p vs H Q E →
      ∃ t, PSs (L2H.cxH CX0 P w K mg base N qual scope f cdv A outer s H E p) body t ∧ t { nx := fun _ H' => Q .non H', rt := Q } (L2.start N vs) H) :
    FnW P w K mg base (k + 1) f (PySem.W.fnOf name qual params body scope dV kV doc pm an cdv ct) ps sp := by
  refine ⟨len, fun A outer s H args us vs Q E p hr hpin e0 hb r hsp => ?_⟩
  have hl := len _ _ _ _ _ hsp
  have KX : K.In s.heap := e0.mod.kin.keeps fun b o e => (e0.bs b o e).1
  have lim : s.heap.NoLimit := e0.mod.nolimit.keeps fun b o e => (e0.bs b o e).1
  have hkind : ∀ y ∈ ps.zip us, scope.names.lookup y.1 = some .local ∨ (scope.names.lookup y.1 = some .cell ∧ ((PySem.cellsFrom (s.heap.objs.size + 1) scope.names []).lookup y.1).isSome = true) := fun ⟨n, v⟩ hy => by
    rcases S.par n (List.of_mem_zip hy).1 with q | q
    · exact .inl q
    · exact .inr ⟨q, PySem.W.cellsFrom_some _ _ _ (.inl q)⟩
  refine codeAny_call_function hr.depth (KX _ _ lk) rfl S.co S.gen rfl (PySem.W.codeRec_of KX hcd) (hb _ _ _ _ ?_)
  refine wpAny_newFunctionEnv_cells S.kind hkind fun env he s1 x => ?_
  subst he
  refine ⟨lim.keeps x.toInCall.keep, codeAny_func ?_⟩
  obtain ⟨t, ht, hq⟩ := hbody A outer s H vs Q E p (hr.deeper _) hsp
  have I : Inv (L2H.cxH CX0 P w K mg base N qual scope f cdv A outer s H E p) [] (L2.start N vs) H s1 := L2H.inv_startH S hpin e0 hl r x
  refine wpAny_mono (ht.run [] s1 (L2.start N vs) H _ I hq) (fun fl s' hs => ?_) fun e s' hs => hs
  have fin : ∀ {σ' : L2.St} {H' : Hp} {v : V} {u : Value}, Inv (L2H.cxH CX0 P w K mg base N qual scope f cdv A outer s H E p) [] σ' H' s' → RelV v u → Q v H' → CE outer P w H s Q u s' :=
    fun {σ' H' v u} J rv q => ⟨v, H', J.os, J.bare, J.base, J.hok, rv, q⟩
  cases fl with
  | ret u =>
    obtain ⟨v, σ', H', J, rv, q⟩ := hs
    exact fin J rv q
  | next =>
    obtain ⟨σ', H', J, q⟩ := hs
    exact fin (v := V.non) (u := Value.none) J rfl q
  | brk =>
    obtain ⟨_, _, _, q⟩ := hs
    exact False.elim q
  | cont =>
    obtain ⟨_, _, _, q⟩ := hs
    exact False.elim q
/-- a def of the text with such a promise -/
structure KnW (P : Program) (w : World) (K : PySem.W.Frag) (mg : Str → Option Value) (base : Heap) (k : Nat) (x : Str) (ps : List Str) (sp : Addr × Obj → Sp) : Prop where
  ex : ∃ (f : Addr) (fd : FuncData), FnW P w K mg base k f fd ps sp ∧ PySem.W.keepIn K (.ref f) = true ∧ Binds K fd ps [] ∧ mg x = some (.ref f)
theorem Df.knW {P : Program} {w : World} {K : PySem.W.Frag} {mg : Str → Option Value} {base : Heap} {x : Str} {st : Stmt} {ps N : List Str} {k : Nat} {sp : Addr × Obj → Sp} (D : Df K mg x st ps) (S : FnScope N ps (defScope st)) (len : ∀ p vs H Q E, sp p vs H Q E → vs.length = ps.length)
    (hbody : ∀ (f : Addr) (cdv : Value) (A : Around) (outer : List Env) (s : Shared) (H : Hp) (vs : List V) (Q : VK) (E : XK) (p : Addr × Obj), L2H.RoomH k (A.deeper (envOfC x (defScope st) s.heap.objs.size f cdv)) → sp p vs H Q E →
      ∃ t, PSs (L2H.cxH CX0 P w K mg base N x (defScope st) f cdv A outer s H E p) (defBody st) t ∧ t { nx := fun _ H' => Q .non H', rt := Q } (L2.start N vs) H) : KnW P w K mg base (k + 1) x ps sp := by
  obtain ⟨f, fd, F, b, g⟩ := D.ex
  obtain ⟨oc, od, kV, doc, pm, an, cdv, ct, osl, efd, lk, hcd⟩ := F.ex
  subst efd
  exact ⟨f, _, fn_ofW lk hcd S len (hbody f cdv), F.kp, b, g⟩
section
variable {X : Cx} {k : Nat} {x : Str} {ps : List Str} {sp : Addr × Obj → Sp} {p pos : Pos} {e : Expr} {es : List Expr} {t : TA}
theorem pe_kW {a : Addr} {oe : Obj} {pn : List (Addr × Obj)} (N : KnW X.prog X.w X.K X.mg X.base k x ps sp) (hr : L2H.RoomH k (X.suite a ((a, oe) :: pn)).A) (hg : Gl (X.suite a ((a, oe) :: pn)) x) (ha : PA (X.suite a ((a, oe) :: pn)) (e :: es) t) (hdb : (x == ("__debug__" : Str)) = false := by decide)
    (he : starEach (e :: es) X.env = (false, eval e X.env) :: starEach es X.env := by rfl) (hpl : (backTo pos (starEach es X.env)).any (·.1) = false := by rfl) :
    PE (X.suite a ((a, oe) :: pn)) (.Call (.Name x p) (e :: es) [] pos) (fun σ H Q => t σ H fun vs H1 => sp (a, oe) vs H1 Q E0) := by
  obtain ⟨f, fd, F, hk, hb, hm⟩ := N.ex
  refine ⟨fun pins s σ H Q I h => ?_⟩
  refine wpAny_Call_Name_kw (ld_glob I hg hm ?_ hdb)
  refine PySem.W.callWith_K (h₀ := X.base) I.ok.mod.kin hk (thn (ha.run pos pins s σ H _ I h) fun us s1 ⟨vs, H1, I1, r, q⟩ => ⟨I1.kIn, ?_⟩) he hpl
  have hl : us.length = ps.length := by rw [← r.length]; exact F.len _ _ _ _ _ q
  have b := hb s1 us I1.kIn (by rw [List.append_nil]; exact hl)
  rw [List.append_nil] at b
  have P1 := I1.pin (a, oe) (List.mem_append.mpr (.inl List.mem_cons_self))
  have hpin : L2H.PinOk (X.suite a ((a, oe) :: pn)).stack H1 s1 (a, oe) := ⟨P1.1, P1.2.1, fun hm => (List.mem_cons.mp (I1.stkSub a hm)).elim P1.2.2.1 P1.2.2.2.1, P1.2.2.2.2⟩
  refine wpAny_call (codeAny_mono (F.run _ _ s1 H1 ⟨us, []⟩ us vs Q E0 (a, oe) hr hpin I1.env0 b r q) fun r s' hq => ?_)
  cases r with
  | error e => exact (show False from hq).elim
  | ok fl =>
    cases fl with
    | ret u => exact I1.after hq
    | next => exact False.elim hq
    | brk => exact False.elim hq
    | cont => exact False.elim hq
/-- isinstance of that error in such a def -/
theorem call_isW {p : Addr × Obj} {D : Addr} (hp : p ∈ X.pn) (C : ExcC X.K D) (hz : Zc (.ref D) none p.2) (hf : ∃ vs, p.2.data = .fields vs) : CallR X (.builtin "isinstance") (rIsE X.K D p.1) := by
  intro pins s σ H xs us Q I r h
  obtain ⟨c, cv, b, rfl, hcv, e, q⟩ := h
  obtain ⟨a, oe⟩ := p
  cases r with
  | cons rx rr =>
    cases rr with
    | cons rt rr =>
      cases rr
      cases rx
      have ec := hcv _ rt
      subst ec
      obtain ⟨hget, _⟩ := I.pin (a, oe) (List.mem_append.mpr (.inl hp))
      obtain ⟨vs, hv⟩ := hf
      have J : PySem.W.InstAt s.heap a oe D none := by
        obtain ⟨oc, od, oda, osl⟩ := oe
        obtain ⟨h1, h2⟩ := hz
        dsimp only at h1 h2 hv
        subst h1 h2 hv
        exact ⟨hget, rfl, rfl, trivial⟩
      exact PySem.W.kia_one (PySem.W.handS_kitx_exc C.hg C.hk C.hs C.hd C.ha C.hn C.ht C.hm) I.kIn J e (fun z => nomatch z) fun tk => ⟨.bl b, H, I.kept (t' := tk) fun _ _ z => z, rfl, q⟩
/-- a call in a try -/
theorem pe_kT {W : WX} {sp : Sp} (N : Kn X.prog X.w X.K X.mg X.base (L2.CX X.prog X.w) k x ps sp) (tk : Takes X W) (hr : Room k X.A) (hg : Gl X x) (ha : PA X (e :: es) t) (hdb : (x == ("__debug__" : Str)) = false := by decide)
    (he : starEach (e :: es) X.env = (false, eval e X.env) :: starEach es X.env := by rfl) (hpl : (backTo pos (starEach es X.env)).any (·.1) = false := by rfl) : PE X (.Call (.Name x p) (e :: es) [] pos) (tCallS sp (WE W) t) := by
  obtain ⟨f, fd, F, kp, b, g⟩ := N.ex
  exact pe_callS F hr hg g kp b (fun σ => passAt tk σ) ha hdb he hpl
end

/-! ### _law_word_of -/
abbrev N_law_word_of : List Str := ["e", "kinds"]
theorem sc_law_word_of : FnScope N_law_word_of ["e"] (defScope st_law_word_of) := ⟨rfl, rfl, rfl, by decide +kernel, rfl, by decide +kernel, by decide +kernel⟩
/-- the error is of the j-th of the five classes -/
structure OfClass (K : PySem.W.Frag) (C0 C1 C2 C3 C4 D : Addr) (j : Nat) : Prop where
  x : ExcC K D
  k0 : PySem.W.kitOne K (.ref D) (.ref C0) = some (decide (j = 0))
  k1 : PySem.W.kitOne K (.ref D) (.ref C1) = some (decide (j = 1))
  k2 : PySem.W.kitOne K (.ref D) (.ref C2) = some (decide (j = 2))
  k3 : PySem.W.kitOne K (.ref D) (.ref C3) = some (decide (j = 3))
  k4 : PySem.W.kitOne K (.ref D) (.ref C4) = some (decide (j = 4))
  v : PySem.W.kitOne K (.ref D) (.type "ValueError") = some true
def classWords : List Str := ["size", "such", "row", "person", "note"]
def spWordOf (K : PySem.W.Frag) (C0 C1 C2 C3 C4 : Addr) (p : Addr × Obj) : Sp := fun vs H Q _ => ∃ (D : Addr) (j : Nat) (wd : Str), vs = [.ref p.1] ∧ Zc (.ref D) none p.2 ∧ (∃ vs, p.2.data = .fields vs) ∧ OfClass K C0 C1 C2 C3 C4 D j ∧ classWords[j]? = some wd ∧ ∀ H', Same H H' → Q (.str wd) H'
theorem one_count {j : Nat} (h : j < 5) : ([V.bl (decide (j = 0)), V.bl (decide (j = 1)), V.bl (decide (j = 2)), V.bl (decide (j = 3)), V.bl (decide (j = 4))] : List V).countP (fun z => eqV z (.bl true)) = 1 := by
  have : j = 0 ∨ j = 1 ∨ j = 2 ∨ j = 3 ∨ j = 4 := by omega
  rcases this with rfl | rfl | rfl | rfl | rfl <;> decide +kernel
theorem one_at {j : Nat} (h : j < 5) : ([V.bl (decide (j = 0)), V.bl (decide (j = 1)), V.bl (decide (j = 2)), V.bl (decide (j = 3)), V.bl (decide (j = 4))] : List V)[j]? = some (V.bl true) ∧
    ∀ (m : Nat) (z : V), m < j → ([V.bl (decide (j = 0)), V.bl (decide (j = 1)), V.bl (decide (j = 2)), V.bl (decide (j = 3)), V.bl (decide (j = 4))] : List V)[m]? = some z → eqV z (.bl true) = false := by
  have : j = 0 ∨ j = 1 ∨ j = 2 ∨ j = 3 ∨ j = 4 := by omega
  rcases this with rfl | rfl | rfl | rfl | rfl <;> refine ⟨by rfl, fun m z hm hz => ?_⟩
  · omega
  · have : m = 0 := by omega
    subst this
    cases hz
    rfl
  · have : m = 0 ∨ m = 1 := by omega
    rcases this with rfl | rfl <;> cases hz <;> rfl
  · have : m = 0 ∨ m = 1 ∨ m = 2 := by omega
    rcases this with rfl | rfl | rfl <;> cases hz <;> rfl
  · have : m = 0 ∨ m = 1 ∨ m = 2 ∨ m = 3 := by omega
    rcases this with rfl | rfl | rfl | rfl <;> cases hz <;> rfl
section
variable {P : Program} {w : World} {K : PySem.W.Frag} {mg : Str → Option Value} {base : Heap}
theorem kn_law_word_of {C0 C1 C2 C3 C4 : Addr} (D : Df K mg "_law_word_of" st_law_word_of ["e"]) (B : Bl mg) (X_NoSize : Ec K mg "NoSize" C0) (X_NoSuch : Ec K mg "NoSuch" C1) (X_NoRow : Ec K mg "NoRow" C2) (X_NoPerson : Ec K mg "NoPerson" C3) (X_NoNote : Ec K mg "NoNote" C4) :
    KnW P w K mg base 1 "_law_word_of" ["e"] (spWordOf K C0 C1 C2 C3 C4) := by
  refine D.knW sc_law_word_of (fun p vs H Q E h => ?_) (fun f cdv A outer s H vs Q E p hr h => ?_)
  · obtain ⟨_, _, _, rfl, _⟩ := h
    rfl
  obtain ⟨D, j, wd, rfl, hz, hf, O, hw, q⟩ := h
  have hj : j < 5 := (List.getElem?_eq_some_iff.mp hw).1
  have cW : CallR (L2H.cxH CX0 P w K mg base N_law_word_of "_law_word_of" (defScope st_law_word_of) f cdv A outer s H E p) (.builtin "isinstance") (rIsE K D p.1) := call_isW (p := p) (List.mem_singleton.mpr rfl) O.x hz hf
  refine ⟨_, (pss_cons (ps_set (i := 1) sc_law_word_of.nd rfl (Or.inl rfl) (pe_lst (pa_cons (pe_callB cW (by rfl) B.isinstance_ (by decide +kernel) (pa_cons (pv 0) (pa_cons (pe_globC (by rfl) X_NoSize.g) pa_nil))) (pa_cons (pe_callB cW (by rfl) B.isinstance_ (by decide +kernel) (pa_cons (pv 0) (pa_cons (pe_globC (by rfl) X_NoSuch.g) pa_nil))) (pa_cons (pe_callB cW (by rfl) B.isinstance_ (by decide +kernel) (pa_cons (pv 0) (pa_cons (pe_globC (by rfl) X_NoRow.g) pa_nil))) pa_nil)))))
      (pss_cons (ps_set (i := 1) sc_law_word_of.nd rfl (Or.inl rfl) (pe_op op_cat (pv 1) (pe_lst (pa_cons (pe_callB cW (by rfl) B.isinstance_ (by decide +kernel) (pa_cons (pv 0) (pa_cons (pe_globC (by rfl) X_NoPerson.g) pa_nil))) (pa_cons (pe_callB cW (by rfl) B.isinstance_ (by decide +kernel) (pa_cons (pv 0) (pa_cons (pe_globC (by rfl) X_NoNote.g) pa_nil))) pa_nil)))))
      (pss_cons (ps_if (PW.pt (pw_or (pt_cmpR op_ne (pe_bm PySem.F.plainAttrs_list PySem.F.slot_list_count PySem.F.type_list_count mt_countF (pv 1) (pa_cons pe_bl pa_nil)) pe_int (nomark _)) (pw_or1 (pt_not (pt_val (pe_callB cW (by rfl) B.isinstance_ (by decide +kernel) (pa_cons (pv 0) (pa_cons (pe_bltn (v := .ty "ValueError") (by rfl) B.ValueError_ (by decide +kernel) rfl) pa_nil))))))))
        (pss_one (ps_ret pe_str))
        pss_nil)
      (pss_one (ps_ret (pe_ix ix_list (pe_lst (pa_cons pe_str (pa_cons pe_str (pa_cons pe_str (pa_cons pe_str (pa_cons pe_str pa_nil)))))) (pe_bm PySem.F.plainAttrs_list PySem.F.slot_list_index PySem.F.type_list_index mt_index (pv 1) (pa_cons pe_bl pa_nil)) (fun _ _ => rfl))))))), ?_⟩
  have rc : ∀ C : Addr, ∀ u, RelV (V.ref C) u → u = Value.ref C := fun C u r => r
  refine ⟨_, rfl, _, _, _, rfl, rc C0, O.k0, _, rfl, _, _, _, rfl, rc C1, O.k1, _, rfl, _, _, _, rfl, rc C2, O.k2, small (show 3 ≤ 16777216 by decide), fun a na => ?_⟩
  generalize hH1 : upd H a (.lst [V.bl (decide (j = 0)), V.bl (decide (j = 1)), V.bl (decide (j = 2))]) = H1
  have s1 : Same H H1 := hH1 ▸ same_upd na
  have e1 : H1 a = some (.lst [V.bl (decide (j = 0)), V.bl (decide (j = 1)), V.bl (decide (j = 2))]) := hH1 ▸ upd_same
  clear hH1
  refine ⟨_, rfl, _, rfl, _, _, _, rfl, rc C3, O.k3, _, rfl, _, _, _, rfl, rc C4, O.k4, small (show 2 ≤ 16777216 by decide), fun b nb => ?_⟩
  generalize hH2 : upd H1 b (.lst [V.bl (decide (j = 3)), V.bl (decide (j = 4))]) = H2
  have s2 : Same H1 H2 := hH2 ▸ same_upd nb
  have e2 : H2 b = some (.lst [V.bl (decide (j = 3)), V.bl (decide (j = 4))]) := hH2 ▸ upd_same
  clear hH2
  refine ⟨a, b, _, _, rfl, rfl, s2 _ _ e1, e2, small (show 5 ≤ 16777216 by decide), fun c nc => ?_⟩
  generalize hH3 : upd H2 c _ = H3
  have s3 : Same H2 H3 := hH3 ▸ same_upd nc
  have e3 : H3 c = some (.lst [V.bl (decide (j = 0)), V.bl (decide (j = 1)), V.bl (decide (j = 2)), V.bl (decide (j = 3)), V.bl (decide (j = 4))]) := hH3 ▸ upd_same
  clear hH3
  refine ⟨_, rfl, .inl ⟨rfl, _, .inl (.inl e3)⟩, c, _, _, rfl, rfl, SqL.of e3, rfl, rfl, ?_⟩
  rw [one_count hj]
  refine ⟨rfl, _, rfl, iteFa rfl ?_⟩
  refine ⟨_, rfl, _, _, _, rfl, (fun u r => r), O.v, true, rfl, iteF ?_⟩
  refine ⟨small (show 5 ≤ 16777216 by decide), fun l nl => ?_⟩
  have s4 := same_upd nl (o := .lst (classWords.map V.str))
  obtain ⟨h1, h2⟩ := one_at hj
  refine ⟨_, rfl, .inl ⟨rfl, _, .inl (.inl (s4 _ _ e3))⟩, c, _, _, j, _, rfl, rfl, SqL.of (s4 _ _ e3), rfl, rfl, h1, rfl, h2, ?_⟩
  refine ⟨l, classWords.map V.str, _, V.str wd, rfl, rfl, SqL.of upd_same, atI_nat ?_, q _ (((s1.trans s2).trans s3).trans s4)⟩
  rw [List.getElem?_map, hw]
  rfl
end

/-! ### all([_law_whole(x) for x in ..]) -/
theorem lc_whole {K : PySem.W.Frag} {a : Addr} {xs : List Int} {j : Nat} {σ : L2.St} {H1 : Hp} {D : Addr} {Qd : Hp → Prop} (hj : j < σ.length) (hS : SqL K H1 a (xs.map V.int)) (nD : H1 D = none) (hl : xs.length < 16777216)
    (hd : ∀ H', Same H1 H' → H' D = some (.lst ((List.replicate xs.length true).map V.bl)) → Qd H') :
    ∃ W : Nat → Nat → Hp → Prop, (∃ m, W 0 m (upd H1 D (.lst []))) ∧ ∀ i m H, W i m H →
      ((Itl K a).stop i H ∧ Qd H) ∨ ((Itl K a).go i H ∧ ∃ Nx : Hp → Prop, (∀ H', Nx H' → ∃ m', m' < m ∧ W (i + 1) m' H') ∧ ∀ x H', (Itl K a).yld i H x H' → gName j x (wipe σ [j]) H' fun σ2 H2 => wipe σ2 [j] = wipe σ [j] ∧ tYes σ2 H2 fun b H3 =>
        if b = true then tCall spWhole [] E0 (tCons (tVar j) tNil) σ2 H3 fun y H4 => ∃ acc, H4 D = some (.lst acc) ∧ acc.length < sizeLine ∧ Nx (upd H4 D (.lst (acc ++ [y]))) else Nx H3) := by
  refine lc_list (K := K) (a := a) (xs := xs.map V.int) (fun i H' => Same H1 H' ∧ H' D = some (.lst ((List.replicate i true).map V.bl))) ⟨same_upd nD, upd_same⟩ (fun i H _ h => h.1.seq hS) ?_ ?_
  · rintro i x H hx ⟨s, e⟩
    have hi := (List.getElem?_eq_some_iff.mp hx).1
    rw [List.length_map] at hi
    obtain ⟨n, hn, rfl⟩ := of_ints_get hx
    refine ⟨?_, ?_⟩
    · show ((σ.set j none).set j (some (V.int n))).set j none = σ.set j none
      rw [List.set_set, List.set_set]
    refine iteT (B := Same H1 H ∧ H D = some (.lst ((List.replicate (i + 1) true).map V.bl))) ?_
    refine ⟨V.int n, ?_, n, rfl, _, e, ?_, ?_, ?_⟩
    · show ((σ.set j none).set j (some (V.int n)))[j]? = some (some (V.int n))
      rw [List.set_set, List.getElem?_set_self hj]
    · rw [List.length_map, List.length_replicate]
      exact smaller (by omega)
    · exact s.own nD
    · rw [upd_same, List.replicate_succ', List.map_append]
      rfl
  · rintro H ⟨s, e⟩
    rw [List.length_map] at e
    exact hd H s e
theorem all_whole (n : Nat) : (List.replicate n true).all id = true := by
  induction n with
  | zero => rfl
  | succ n ih => rw [List.replicate_succ, List.all_cons, ih]; rfl

/-! ### return _law_word_of(e) in an except suite -/
def tWordT (K : PySem.W.Frag) (C0 C1 C2 C3 C4 : Addr) (i : Nat) (a : Addr) (cls : Value) (d : Option Addr) : TE := fun σ H Q => tCons (tVar i) tNil σ H fun vs H1 => ∃ (D : Addr) (j : Nat) (wd : Str), vs = [.ref a] ∧ cls = .ref D ∧ d = none ∧ OfClass K C0 C1 C2 C3 C4 D j ∧ classWords[j]? = some wd ∧ ∀ H', Same H1 H' → Q (.str wd) H'
section
variable {X : Cx} {k i : Nat} {x n : Str} {ps : List Str} {p pos : Pos} {e : Expr}
theorem pe_word {C0 C1 C2 C3 C4 : Addr} {a : Addr} {oe : Obj} {cls : Value} {d : Option Addr} {pn : List (Addr × Obj)} (N : KnW X.prog X.w X.K X.mg X.base k x ps (spWordOf X.K C0 C1 C2 C3 C4)) (hr : L2H.RoomH k X.A) (hg : Gl (X.suite a ((a, oe) :: pn)) x)
    (he : PE (X.suite a ((a, oe) :: pn)) e (tVar i)) (hz : Zc cls d oe) (hf : ∃ vs, oe.data = .fields vs) (hdb : (x == ("__debug__" : Str)) = false := by decide)
    (hs : starEach [e] X.env = (false, eval e X.env) :: starEach [] X.env := by rfl) : PE (X.suite a ((a, oe) :: pn)) (.Call (.Name x p) [e] [] pos) (tWordT X.K C0 C1 C2 C3 C4 i a cls d) := by
  refine ⟨fun pins s σ H Q I h => ?_⟩
  have hr' : L2H.RoomH k (X.suite a ((a, oe) :: pn)).A := ⟨hr.dp, hr.un⟩
  refine (pe_kW (pos := pos) (p := p) N hr' hg (pa_cons he pa_nil hs) hdb hs rfl).run pins s σ H Q I ?_
  obtain ⟨v, hv, D, j, wd, h1, h2, h3, O, hw, q⟩ := h
  subst h2 h3
  exact ⟨v, hv, D, j, wd, h1, hz, hf, O, hw, q⟩
end
theorem kit_own {K : PySem.W.Frag} {D C : Addr} {b : Bool} (hdct : PySem.W.hasDictIn K C = true) (ht : PySem.W.typeIn K (.ref C) = some (.type "type")) (hs : PySem.W.subIn K (.ref D) (.ref C) = some b) (hd : PySem.W.subIn K (.ref D) (.ref D) = some true) : PySem.W.kitOne K (.ref D) (.ref C) = some b := by
  obtain ⟨cd, hc, _⟩ := PySem.W.any_some hdct
  unfold PySem.W.kitOne
  by_cases e : (Value.ref D == Value.ref C) = true
  · rw [if_pos e]
    have e2 : D = C := Value.ref.inj (beq_iff_eq.mp e)
    subst e2
    rw [hd] at hs
    exact hs
  · rw [if_neg e]
    unfold PySem.W.kitCls
    have e3 : ((PySem.W.clsIn K C).isSome && PySem.W.typeIn K (.ref C) == some (.type "type")) = true := by rw [hc, ht] <;> rfl
    show (if ((PySem.W.clsIn K C).isSome && PySem.W.typeIn K (.ref C) == some (.type "type")) = true then PySem.W.subIn K (.ref D) (.ref C) else none) = some b
    rw [if_pos e3]
    exact hs
theorem kit_value {K : PySem.W.Frag} {D : Addr} (h : PySem.W.subIn K (.ref D) (.type "ValueError") = some true) : PySem.W.kitOne K (.ref D) (.type "ValueError") = some true := by
  unfold PySem.W.kitOne
  rw [if_neg (by simp)]
  show (if PySem.W.kitMeta "ValueError" = true then PySem.W.subIn K (.ref D) (.type "ValueError") else none) = some true
  rw [if_pos (by decide +kernel)]
  exact h

-- LAWTYPES script=l size=i found=o turn=i number=i
-- TOLD (spRowOf C0 C1)
/-! ### _law_told, the law -/
abbrev lawLevel : Nat := 5
abbrev N_law_told : List Str := ["size", "e"]
theorem sc_law_told : FnScope N_law_told ["size"] (defScope st_law_told) := ⟨rfl, rfl, rfl, by decide +kernel, rfl, by decide +kernel, by decide +kernel⟩
abbrev N_law : List Str := ["script", "size", "turn", "found", "number"]
theorem sc_law : FnScope N_law ["script"] (defScope st_law) := ⟨rfl, rfl, rfl, by decide +kernel, rfl, by decide +kernel, by decide +kernel⟩
def spTold (K : PySem.W.Frag) : Sp := fun vs H Q _ => ∃ size : Int, vs = [.int size] ∧ (1 ≤ size ∧ size ≤ 400) ∧ (¬ size % 4 < 2 → ∀ H', Same H H' → Q (.str "such") H') ∧
  (size % 4 < 2 → ∀ H' p, Same H H' → H p = none → H' p = some (.lst ((rowOf size).map V.int)) → Q (.ref p) H')
def spLaw (K : PySem.W.Frag) : Sp := fun vs H Q _ => ∃ (a : Addr) (ns : List Int), vs = [.ref a] ∧ SqL K H a (ns.map V.int) ∧ ns.length ≤ 63 ∧ ∀ H', Q (.bl true) H'
section
variable {P : Program} {w : World} {K : PySem.W.Frag} {mg : Str → Option Value} {base : Heap}
theorem kn_law_told {C0 C1 C2 C3 C4 CA : Addr} (D : Df K mg "_law_told" st_law_told ["size"]) (X_ApartError : Ec K mg "ApartError" CA) (K_law_word_of : KnW P w K mg base 1 "_law_word_of" ["e"] (spWordOf K C0 C1 C2 C3 C4)) (K_row_of : Kn P w K mg base (L2.CX P w) 3 "row_of" ["size"] (spRowOf C0 C1))
    (O1 : OfClass K C0 C1 C2 C3 C4 C1 1) (M1 : PySem.W.exmOne K (.ref C1) (.ref CA) = some true) : Kn P w K mg base CX0 4 "_law_told" ["size"] (spTold K) := by
  refine D.kn sc_law_told (fun vs H Q E h => ?_) (fun f cdv A outer s H vs Q E hr h => ?_)
  · obtain ⟨_, rfl, _⟩ := h
    rfl
  obtain ⟨size, rfl, z, h1, h2⟩ := h
  refine ⟨_, (pss_one (ps_try_as (i := 1) (tb := fun W => tRet (tCallS (spRowOf C0 C1) (WE W) (tCons (tVar 0) tNil))) (ts := fun a cls d => tRet (tWordT K C0 C1 C2 C3 C4 1 a cls d)) (Wout := fun _ _ _ _ => False) rfl rfl sc_law_told.nd rfl rfl ⟨rfl, by decide, Or.inl X_ApartError.g⟩ takes0 (fun W pn xe tk _ => (pss_one (ps_ret (pe_kT K_row_of tk (hr.mono (by first | decide | omega)) (by rfl) (pa_cons (pv 0) pa_nil))))) (fun a oe cls d pn hz hf => (pss_one (ps_ret (pe_word K_law_word_of (L2H.roomH_of (hr.mono (by first | decide | omega))) (by rfl) (pv 1) hz hf)))))), ?_⟩
  refine ⟨_, rfl, size, rfl, (fun c => absurd z c), (fun _ c => ?_), fun _ c H' p s1 np e1 => h2 c H' p s1 np e1⟩
  exact ⟨true, M1, (fun _ a ha => ⟨_, rfl, C1, 1, "such", rfl, rfl, rfl, O1, rfl, fun H' s1 => h1 c H' s1⟩), fun q => nomatch q⟩
theorem ok_law {C0 f : Addr} {fd : FuncData} (F : Fun K "law" "law" st_law f fd) (B : Bl mg) (K_law_cell_at : Kn P w K mg base CX0 1 "_law_cell_at" ["script", "k"] (spCellAt K)) (K_law_whole : Kn P w K mg base CX0 1 "_law_whole" ["found"] spWhole)
    (K_is_row : Kn P w K mg base CX0 2 "is_row" ["row"] (spIsRow K)) (K_law_is_row : Kn P w K mg base CX0 1 "_law_is_row" ["row"] (spIsRow K)) (K_can_be : Kn P w K mg base (L2.CX P w) 2 "can_be" ["size"] (spCanBe C0)) (K_law_told : Kn P w K mg base CX0 4 "_law_told" ["size"] (spTold K)) :
    FnOk P w K mg base CX0 5 f fd ["script"] (spLaw K) := by
  refine F.ok sc_law (fun vs H Q E h => ?_) (fun cdv A outer s H vs Q E hr h => ?_)
  · obtain ⟨a, ns, rfl, _⟩ := h
    rfl
  obtain ⟨a, ns, rfl, hS, hlen, q⟩ := h
  refine ⟨_, (pss_cons (ps_set (i := 1) sc_law.nd rfl (Or.inl rfl) (pe_op op_add pe_int (pe_op op_mod (pe_k0 K_law_cell_at (hr.mono (by first | decide | omega)) (by rfl) (pa_cons (pv 0) (pa_cons pe_int pa_nil))) pe_int)))
      (C8.pss_cut (ps_if (pt_cmpR op_eq (pe_op op_mod (pe_k0 K_law_cell_at (hr.mono (by first | decide | omega)) (by rfl) (pa_cons (pv 0) (pa_cons pe_int pa_nil))) pe_int) pe_int (nomark _))
        (pss_one (ps_set (i := 1) sc_law.nd rfl (Or.inl rfl) (pe_op op_add pe_int (pe_op op_mod (pe_k0 K_law_cell_at (hr.mono (by first | decide | omega)) (by rfl) (pa_cons (pv 0) (pa_cons pe_int pa_nil))) pe_int))))
        pss_nil)
      (pss_cons (ps_for PassesOwn.never rfl (pi_range1 (by rfl) B.range_ (pa_cons pe_int pa_nil)) (pg_name (i := 2) sc_law.nd rfl (Or.inl rfl))
        (pss_cons (ps_set (i := 3) sc_law.nd rfl (Or.inl rfl) (pe_k0 K_law_told (hr.mono (by first | decide | omega)) (by rfl) (pa_cons (pv 1) pa_nil)))
        (pss_cons (ps_if (pt_cmpR op_gt (pe_op op_mod (pv 1) pe_int) pe_int (nomark _))
          (pss_one (ps_ret (pe_and (pe_cmpR op_eq (pv 3) pe_str (nomark _)) (pe_one (pe_cmpR op_isBl (pe_kL K_can_be (hr.mono (by first | decide | omega)) (by rfl) (pa_cons (pv 1) pa_nil)) pe_bl (nomark _))))))
          pss_nil)
        (pss_cons (ps_if (PW.pt (pw_or (pt_not (pt_val (pe_callB call_isi (by rfl) B.isinstance_ (by decide +kernel) (pa_cons (pv 3) (pa_cons (pe_bltn (v := .ty "list") (by rfl) B.list_ (by decide +kernel) rfl) pa_nil))))) (pw_or (pt_cmpR op_ne (pe_callB call_len_seq (by rfl) B.len_ (by decide +kernel) (pa_cons (pv 3) pa_nil)) (pe_op op_mul pe_int (pv 1)) (nomark _)) (pw_or1 (pt_not (pt_val (pe_k0 K_law_is_row (hr.mono (by first | decide | omega)) (by rfl) (pa_cons (pv 3) pa_nil))))))))
          (pss_one (ps_ret pe_bl))
          pss_nil)
        (pss_cons (ps_if (PW.pt (pw_or (pt_not (pt_val (pe_callB (cr_all rfl) (by rfl) B.all_ (by decide +kernel) (pa_cons (pe_lc (own := [("number", 4)]) (g := gName 4) (tt := tYes) rfl sc_law.nd (pi_list (pv 3)) (blkOk_by (own := [("number", 4)]) (N := N_law) (sc := defScope st_law) (by decide +kernel)) (fun _ _ _ _ _ => pg_name (i := 4) sc_law.nd rfl (Or.inl rfl)) (fun _ _ _ _ _ => pts_nil) (fun _ _ _ _ _ => pe_k0 K_law_whole (hr.mono (by first | decide | omega)) (by rfl) (pa_cons (pv 4) pa_nil))) pa_nil)))) (pw_or1 (pt_cmpR op_notBl (pe_k0 K_is_row (hr.mono (by first | decide | omega)) (by rfl) (pa_cons (pe_callTy call_list_of (by rfl) B.list_ (by decide +kernel) (pa_cons (pv 3) pa_nil)) pa_nil)) pe_bl (nomark _)))))
          (pss_one (ps_ret pe_bl))
          pss_nil)
        (pss_cons (ps_asg pe_int (pg_sub (pv 3) pe_int set_list))
        (pss_one (ps_expr (pe_bm PySem.F.plainAttrs_list PySem.F.slot_list_append PySem.F.type_list_append mt_append (pv 3) (pa_cons pe_int pa_nil))))))))))
      (pss_one (ps_ret (pe_cmpR op_isBl (pe_kL K_can_be (hr.mono (by first | decide | omega)) (by rfl) (pa_cons (pv 1) pa_nil)) pe_bl (nomark _))))))), ?_⟩
  refine ⟨_, rfl, a, ns, 0, rfl, hS, by decide, _, _, rfl, rfl, (by decide : (0 : Int) < 400), _, _, rfl, rfl, ?_⟩
  refine ⟨fun σ H1 => ∃ size : Int, σ = [some (.ref a), some (.int size), none, none, none] ∧ (1 ≤ size ∧ size ≤ 400) ∧ H1 = H, ?_, ?_⟩
  · refine ⟨_, rfl, a, ns, 1, rfl, hS, by decide, _, _, rfl, rfl, (by decide : (0 : Int) < 3), rfl, _, rfl, ite2 (fun c => ?_) (fun c => ?_)⟩
    · exact ⟨_, rfl, a, ns, 0, rfl, hS, by decide, _, _, rfl, rfl, (by decide : (0 : Int) < 40), _, _, rfl, rfl, _, rfl, ⟨by omega, by omega⟩, rfl⟩
    · exact ⟨_, rfl, ⟨by omega, by omega⟩, rfl⟩
  rintro σ H1 ⟨size, rfl, z, rfl⟩
  have hlr := rowOf_length size
  refine ⟨2, rfl, by decide, by decide, ?_⟩
  refine for_range (lo := 0) (n := 2) (fun i σ H' => ∃ y2 y3 y4, σ = [some (.ref a), some (.int size), y2, y3, y4] ∧ (i = 0 ∨ size % 4 < 2)) ⟨none, none, none, rfl, .inl rfl⟩ ?_ ?_
  · rintro i σ H2 hi ⟨y2, y3, y4, rfl, _⟩
    refine ⟨_, rfl, size, rfl, z, (fun c H3 s3 => ?_), fun c H3 p s3 np e3 => ?_⟩
    · -- refused
      refine ⟨_, rfl, _, _, rfl, rfl, (by decide : (0 : Int) < 4), _, _, rfl, rfl, _, rfl, iteTr (decide_eq_true (by omega)) ?_⟩
      refine ⟨_, rfl, rfl, _, rfl, iteTr (decide_eq_true rfl) ?_⟩
      refine ⟨_, rfl, size, rfl, (fun c => absurd z c), fun _ => ⟨_, _, rfl, rfl, ?_⟩⟩
      have e : decide (decide (size % 4 < 2) = false) = true := decide_eq_true (decide_eq_false c)
      rw [e]
      exact q _
    · refine ⟨_, rfl, _, _, rfl, rfl, (by decide : (0 : Int) < 4), _, _, rfl, rfl, _, rfl, iteFa (decide_eq_false (by omega)) ?_⟩
      have hR := rowOf_row z.1 z.2 c
      -- the first test
      refine ⟨_, rfl, _, _, _, _, true, rfl, .ty _, .base (.lst e3), kit_ty (by decide +kernel), true, rfl, iteF ?_⟩
      refine ⟨_, rfl, p, _, rfl, .inl (SqL.of e3), _, rfl, _, _, rfl, rfl, .inl ⟨by decide, by decide⟩, rfl, _, rfl, iteFa ?_ ?_⟩
      · rw [Bool.not_eq_false']
        exact decide_eq_true (congrArg V.int (by rw [ints_len, hlr]; omega))
      refine ⟨_, rfl, p, rowOf size, rfl, SqL.of e3, by omega, fun H4 s4 => ?_⟩
      rw [hR]
      refine ⟨true, rfl, iteF ?_⟩
      have e4 := s4 _ _ e3
      -- the second
      refine ⟨_, rfl, p, rfl, ⟨_, SqL.of e4⟩, fun D nD => ?_⟩
      refine lc_whole (K := K) (by show 4 < 5; decide) (SqL.of e4) nD (by omega) fun H5 s5 e5 => ⟨D, _, rfl, SqL.of e5, ?_⟩
      rw [all_whole]
      refine ⟨true, rfl, iteF ?_⟩
      have e5' := s5 _ _ e4
      refine ⟨_, rfl, p, _, rfl, .inl (SqL.of e5'), fun l nl => ?_⟩
      refine ⟨l, rowOf size, rfl, SqL.of upd_same, by omega, fun H6 s6 => ?_⟩
      rw [hR]
      refine ⟨true, true, rfl, rfl, _, rfl, iteFa (by decide) ?_⟩
      have e6 := s6 _ _ ((same_upd nl) _ _ e5')
      -- found[0] = 999, found.append(0)
      refine ⟨_, rfl, p, _, _, _, rfl, rfl, e6, ixN_at (by omega) (by rw [ints_len]; omega), ?_⟩
      refine ⟨_, rfl, .inl ⟨rfl, _, .inl (.inl upd_same)⟩, p, _, _, rfl, rfl, upd_same, by rw [List.length_set, ints_len]; exact smaller (by omega), ?_⟩
      exact ⟨_, _, _, rfl, .inr c⟩
  · rintro σ H2 ⟨y2, y3, y4, rfl, hc⟩
    have c : size % 4 < 2 := by
      rcases hc with h | h
      · exact absurd h (by decide)
      · exact h
    refine ⟨_, rfl, size, rfl, (fun c => absurd z c), fun _ => ⟨_, _, rfl, rfl, ?_⟩⟩
    have e : decide (decide (size % 4 < 2) = true) = true := decide_eq_true (decide_eq_true c)
    rw [e]
    exact q _
end
-- CLOSED
/-! ### what the top has written -/
theorem all_mk {l : PySem.W.OpenLaw} {w : World} {K : PySem.W.Frag} {h : Heap} {mg : Str → Option Value} {fa : Addr} (X : K.In h) (G : h.Ns mainGlobals mg) (hfa : mg "law" = some (.ref fa))
    {f0 : Addr} {od0 an0 : Option Addr} {sl0 : Array (Option Value)} {oc0 kV0 dc0 pm0 cd0 ct0 : Value}
    {f1 : Addr} {od1 an1 : Option Addr} {sl1 : Array (Option Value)} {oc1 kV1 dc1 pm1 cd1 ct1 : Value}
    {f2 : Addr} {od2 an2 : Option Addr} {sl2 : Array (Option Value)} {oc2 kV2 dc2 pm2 cd2 ct2 : Value}
    {f3 : Addr} {od3 an3 : Option Addr} {sl3 : Array (Option Value)} {oc3 kV3 dc3 pm3 cd3 ct3 : Value}
    {f4 : Addr} {od4 an4 : Option Addr} {sl4 : Array (Option Value)} {oc4 kV4 dc4 pm4 cd4 ct4 : Value}
    {f5 : Addr} {od5 an5 : Option Addr} {sl5 : Array (Option Value)} {oc5 kV5 dc5 pm5 cd5 ct5 : Value}
    {f6 : Addr} {od6 an6 : Option Addr} {sl6 : Array (Option Value)} {oc6 kV6 dc6 pm6 cd6 ct6 : Value}
    {f7 : Addr} {od7 an7 : Option Addr} {sl7 : Array (Option Value)} {oc7 kV7 dc7 pm7 cd7 ct7 : Value}
    {f8 : Addr} {od8 an8 : Option Addr} {sl8 : Array (Option Value)} {oc8 kV8 dc8 pm8 cd8 ct8 : Value}
    {f9 : Addr} {od9 an9 : Option Addr} {sl9 : Array (Option Value)} {oc9 kV9 dc9 pm9 cd9 ct9 : Value}
    {f10 : Addr} {od10 an10 : Option Addr} {sl10 : Array (Option Value)} {oc10 kV10 dc10 pm10 cd10 ct10 : Value}
    {f11 : Addr} {od11 an11 : Option Addr} {sl11 : Array (Option Value)} {oc11 kV11 dc11 pm11 cd11 ct11 : Value}
    {f12 : Addr} {od12 an12 : Option Addr} {sl12 : Array (Option Value)} {oc12 kV12 dc12 pm12 cd12 ct12 : Value}
    {tk0 : Tok}
    {C0 : Addr}
    {C1 : Addr}
    {C2 : Addr}
    {C3 : Addr}
    {C4 : Addr}
    {C5 : Addr}
    (a0 : PySem.W.nsIn K mainGlobals "asked_size" = some (some (.ref f0))) (l0 : K.lookup f0 = some ⟨oc0, od0, .func (PySem.W.fnOf "asked_size" "asked_size" (defArgs st_asked_size) (defBody st_asked_size) (defScope st_asked_size) .none kV0 dc0 pm0 an0 cd0 ct0), sl0⟩) (c0 : PySem.W.codeIn K cd0 "asked_size" = true) (k0 : PySem.W.keepIn K (.ref f0) = true)
    (a1 : PySem.W.nsIn K mainGlobals "found_places" = some (some (.ref f1))) (l1 : K.lookup f1 = some ⟨oc1, od1, .func (PySem.W.fnOf "found_places" "found_places" (defArgs st_found_places) (defBody st_found_places) (defScope st_found_places) .none kV1 dc1 pm1 an1 cd1 ct1), sl1⟩) (c1 : PySem.W.codeIn K cd1 "found_places" = true) (k1 : PySem.W.keepIn K (.ref f1) = true)
    (a2 : PySem.W.nsIn K mainGlobals "is_row" = some (some (.ref f2))) (l2 : K.lookup f2 = some ⟨oc2, od2, .func (PySem.W.fnOf "is_row" "is_row" (defArgs st_is_row) (defBody st_is_row) (defScope st_is_row) .none kV2 dc2 pm2 an2 cd2 ct2), sl2⟩) (c2 : PySem.W.codeIn K cd2 "is_row" = true) (k2 : PySem.W.keepIn K (.ref f2) = true)
    (a3 : PySem.W.nsIn K mainGlobals "can_be" = some (some (.ref f3))) (l3 : K.lookup f3 = some ⟨oc3, od3, .func (PySem.W.fnOf "can_be" "can_be" (defArgs st_can_be) (defBody st_can_be) (defScope st_can_be) .none kV3 dc3 pm3 an3 cd3 ct3), sl3⟩) (c3 : PySem.W.codeIn K cd3 "can_be" = true) (k3 : PySem.W.keepIn K (.ref f3) = true)
    (a4 : PySem.W.nsIn K mainGlobals "pairs_of_four" = some (some (.ref f4))) (l4 : K.lookup f4 = some ⟨oc4, od4, .func (PySem.W.fnOf "pairs_of_four" "pairs_of_four" (defArgs st_pairs_of_four) (defBody st_pairs_of_four) (defScope st_pairs_of_four) .none kV4 dc4 pm4 an4 cd4 ct4), sl4⟩) (c4 : PySem.W.codeIn K cd4 "pairs_of_four" = true) (k4 : PySem.W.keepIn K (.ref f4) = true)
    (a5 : PySem.W.nsIn K mainGlobals "pairs_of_one_more" = some (some (.ref f5))) (l5 : K.lookup f5 = some ⟨oc5, od5, .func (PySem.W.fnOf "pairs_of_one_more" "pairs_of_one_more" (defArgs st_pairs_of_one_more) (defBody st_pairs_of_one_more) (defScope st_pairs_of_one_more) .none kV5 dc5 pm5 an5 cd5 ct5), sl5⟩) (c5 : PySem.W.codeIn K cd5 "pairs_of_one_more" = true) (k5 : PySem.W.keepIn K (.ref f5) = true)
    (a6 : PySem.W.nsIn K mainGlobals "row_of" = some (some (.ref f6))) (l6 : K.lookup f6 = some ⟨oc6, od6, .func (PySem.W.fnOf "row_of" "row_of" (defArgs st_row_of) (defBody st_row_of) (defScope st_row_of) .none kV6 dc6 pm6 an6 cd6 ct6), sl6⟩) (c6 : PySem.W.codeIn K cd6 "row_of" = true) (k6 : PySem.W.keepIn K (.ref f6) = true)
    (a7 : PySem.W.nsIn K mainGlobals "_law_cell_at" = some (some (.ref f7))) (l7 : K.lookup f7 = some ⟨oc7, od7, .func (PySem.W.fnOf "_law_cell_at" "_law_cell_at" (defArgs st_law_cell_at) (defBody st_law_cell_at) (defScope st_law_cell_at) .none kV7 dc7 pm7 an7 cd7 ct7), sl7⟩) (c7 : PySem.W.codeIn K cd7 "_law_cell_at" = true) (k7 : PySem.W.keepIn K (.ref f7) = true)
    (a8 : PySem.W.nsIn K mainGlobals "_law_whole" = some (some (.ref f8))) (l8 : K.lookup f8 = some ⟨oc8, od8, .func (PySem.W.fnOf "_law_whole" "_law_whole" (defArgs st_law_whole) (defBody st_law_whole) (defScope st_law_whole) .none kV8 dc8 pm8 an8 cd8 ct8), sl8⟩) (c8 : PySem.W.codeIn K cd8 "_law_whole" = true) (k8 : PySem.W.keepIn K (.ref f8) = true)
    (a9 : PySem.W.nsIn K mainGlobals "_law_is_row" = some (some (.ref f9))) (l9 : K.lookup f9 = some ⟨oc9, od9, .func (PySem.W.fnOf "_law_is_row" "_law_is_row" (defArgs st_law_is_row) (defBody st_law_is_row) (defScope st_law_is_row) .none kV9 dc9 pm9 an9 cd9 ct9), sl9⟩) (c9 : PySem.W.codeIn K cd9 "_law_is_row" = true) (k9 : PySem.W.keepIn K (.ref f9) = true)
    (a10 : PySem.W.nsIn K mainGlobals "_law_word_of" = some (some (.ref f10))) (l10 : K.lookup f10 = some ⟨oc10, od10, .func (PySem.W.fnOf "_law_word_of" "_law_word_of" (defArgs st_law_word_of) (defBody st_law_word_of) (defScope st_law_word_of) .none kV10 dc10 pm10 an10 cd10 ct10), sl10⟩) (c10 : PySem.W.codeIn K cd10 "_law_word_of" = true) (k10 : PySem.W.keepIn K (.ref f10) = true)
    (a11 : PySem.W.nsIn K mainGlobals "_law_told" = some (some (.ref f11))) (l11 : K.lookup f11 = some ⟨oc11, od11, .func (PySem.W.fnOf "_law_told" "_law_told" (defArgs st_law_told) (defBody st_law_told) (defScope st_law_told) .none kV11 dc11 pm11 an11 cd11 ct11), sl11⟩) (c11 : PySem.W.codeIn K cd11 "_law_told" = true) (k11 : PySem.W.keepIn K (.ref f11) = true)
    (a12 : PySem.W.nsIn K mainGlobals "law" = some (some (.ref f12))) (l12 : K.lookup f12 = some ⟨oc12, od12, .func (PySem.W.fnOf "law" "law" (defArgs st_law) (defBody st_law) (defScope st_law) .none kV12 dc12 pm12 an12 cd12 ct12), sl12⟩) (c12 : PySem.W.codeIn K cd12 "law" = true) (k12 : PySem.W.keepIn K (.ref f12) = true)
    (z0 : PySem.W.nsIn K mainGlobals "len" = some none)
    (z1 : PySem.W.nsIn K mainGlobals "range" = some none)
    (z2 : PySem.W.nsIn K mainGlobals "enumerate" = some none)
    (z3 : PySem.W.nsIn K mainGlobals "list" = some none)
    (z4 : PySem.W.nsIn K mainGlobals "reversed" = some none)
    (z5 : PySem.W.nsIn K mainGlobals "sorted" = some none)
    (z6 : PySem.W.nsIn K mainGlobals "tuple" = some none)
    (z7 : PySem.W.nsIn K mainGlobals "min" = some none)
    (z8 : PySem.W.nsIn K mainGlobals "max" = some none)
    (z9 : PySem.W.nsIn K mainGlobals "isinstance" = some none)
    (z10 : PySem.W.nsIn K mainGlobals "int" = some none)
    (z11 : PySem.W.nsIn K mainGlobals "str" = some none)
    (z12 : PySem.W.nsIn K mainGlobals "bool" = some none)
    (z13 : PySem.W.nsIn K mainGlobals "all" = some none)
    (z14 : PySem.W.nsIn K mainGlobals "ValueError" = some none)
    (q0 : PySem.W.nsIn K mainGlobals "MOST" = some (some (.int 400 tk0)))
    (eg0 : PySem.W.nsIn K mainGlobals "NoSize" = some (some (.ref C0))) (ex0 : PySem.W.excIn K C0 [.type "ValueError", .type "Exception", .type "BaseException", .type "object"] "ValueError.__new__" = true) (ee0 : PySem.W.keepIn K (.ref C0) = true) (eb0 : PySem.W.subIn K (.ref C0) (.type "BaseException") = some true) (et0 : PySem.W.typeIn K (.ref C0) = some (.type "type"))
    (eg1 : PySem.W.nsIn K mainGlobals "NoSuch" = some (some (.ref C1))) (ex1 : PySem.W.excIn K C1 [.type "ValueError", .type "Exception", .type "BaseException", .type "object"] "ValueError.__new__" = true) (ee1 : PySem.W.keepIn K (.ref C1) = true) (eb1 : PySem.W.subIn K (.ref C1) (.type "BaseException") = some true) (et1 : PySem.W.typeIn K (.ref C1) = some (.type "type"))
    (eg2 : PySem.W.nsIn K mainGlobals "NoRow" = some (some (.ref C2))) (ex2 : PySem.W.excIn K C2 [.type "ValueError", .type "Exception", .type "BaseException", .type "object"] "ValueError.__new__" = true) (ee2 : PySem.W.keepIn K (.ref C2) = true) (eb2 : PySem.W.subIn K (.ref C2) (.type "BaseException") = some true) (et2 : PySem.W.typeIn K (.ref C2) = some (.type "type"))
    (eg3 : PySem.W.nsIn K mainGlobals "NoPerson" = some (some (.ref C3))) (ex3 : PySem.W.excIn K C3 [.type "ValueError", .type "Exception", .type "BaseException", .type "object"] "ValueError.__new__" = true) (ee3 : PySem.W.keepIn K (.ref C3) = true) (eb3 : PySem.W.subIn K (.ref C3) (.type "BaseException") = some true) (et3 : PySem.W.typeIn K (.ref C3) = some (.type "type"))
    (eg4 : PySem.W.nsIn K mainGlobals "NoNote" = some (some (.ref C4))) (ex4 : PySem.W.excIn K C4 [.type "ValueError", .type "Exception", .type "BaseException", .type "object"] "ValueError.__new__" = true) (ee4 : PySem.W.keepIn K (.ref C4) = true) (eb4 : PySem.W.subIn K (.ref C4) (.type "BaseException") = some true) (et4 : PySem.W.typeIn K (.ref C4) = some (.type "type"))
    (eg5 : PySem.W.nsIn K mainGlobals "ApartError" = some (some (.ref C5))) (ex5 : PySem.W.excIn K C5 [.type "ValueError", .type "Exception", .type "BaseException", .type "object"] "ValueError.__new__" = true) (ee5 : PySem.W.keepIn K (.ref C5) = true) (eb5 : PySem.W.subIn K (.ref C5) (.type "BaseException") = some true) (et5 : PySem.W.typeIn K (.ref C5) = some (.type "type"))
    (o1_0 : PySem.W.findIn K (.ref C1) "__getattribute__" = some (some (.builtin "BaseException.__getattribute__")))
    (o1_1 : PySem.W.findIn K (.ref C1) "__getattr__" = some none)
    (o1_2 : PySem.W.subIn K (.ref C1) (.type "BaseException") = some true)
    (o1_3 : PySem.W.hasDictIn K C1 = true)
    (o1_4 : PySem.W.findIn K (.ref C1) "__class__" = some (some (.builtin "object.__class__")))
    (o1_5 : PySem.W.specialIn K (.builtin "object.__class__") "__get__" = some (some (.builtin "getset_descriptor.__get__")))
    (o1_6 : PySem.W.takesIn K (.builtin "object.__class__") = some true)
    (o1_7 : PySem.W.mroIn K C1 (.type "object") = some true)
    (o1_8 : PySem.W.subIn K (.ref C1) (.ref C0) = some false)
    (o1_9 : PySem.W.subIn K (.ref C1) (.ref C1) = some true)
    (o1_10 : PySem.W.subIn K (.ref C1) (.ref C2) = some false)
    (o1_11 : PySem.W.subIn K (.ref C1) (.ref C3) = some false)
    (o1_12 : PySem.W.subIn K (.ref C1) (.ref C4) = some false)
    (o1_13 : PySem.W.subIn K (.ref C1) (.type "ValueError") = some true)
    (o1_14 : PySem.W.subIn K (.ref C1) (.ref C5) = some true)
    (hd0 : PySem.W.hasDictIn K C0 = true)
    (hd1 : PySem.W.hasDictIn K C1 = true)
    (hd2 : PySem.W.hasDictIn K C2 = true)
    (hd3 : PySem.W.hasDictIn K C3 = true)
    (hd4 : PySem.W.hasDictIn K C4 = true)
    (hd5 : PySem.W.hasDictIn K C5 = true)
    : ∃ fd : FuncData, (∀ (s : Shared) (v : Value), BindsTo s fd ⟨[v], []⟩ [("script", v)]) ∧ ∀ base : Heap, K.In base → base.Ns mainGlobals mg → FnOk l.prog w K mg base CX0 lawLevel fa fd ["script"] (spLaw K) := by
  have e := hfa.symm.trans (PySem.W.mg_of X G a12)
  cases e
  have B : Bl mg := ⟨PySem.W.mg_none_of X G z0, PySem.W.mg_none_of X G z1, PySem.W.mg_none_of X G z2, PySem.W.mg_none_of X G z3, PySem.W.mg_none_of X G z4, PySem.W.mg_none_of X G z5, PySem.W.mg_none_of X G z6, PySem.W.mg_none_of X G z7, PySem.W.mg_none_of X G z8, PySem.W.mg_none_of X G z9, PySem.W.mg_none_of X G z10, PySem.W.mg_none_of X G z11, PySem.W.mg_none_of X G z12, PySem.W.mg_none_of X G z13, PySem.W.mg_none_of X G z14⟩
  have D_asked_size : Df K mg "asked_size" st_asked_size ["size", "most"] := ⟨f0, _, fun_mk (st := st_asked_size) l0 c0 k0, (fun_mk (st := st_asked_size) l0 c0 k0).binds (ps := ["size", "most"]) (fun _ _ _ _ _ _ us hl => match us, hl with | [_, _], _ => rfl), PySem.W.mg_of X G a0⟩
  have D_found_places : Df K mg "found_places" st_found_places ["row"] := ⟨f1, _, fun_mk (st := st_found_places) l1 c1 k1, (fun_mk (st := st_found_places) l1 c1 k1).binds (ps := ["row"]) (fun _ _ _ _ _ _ us hl => match us, hl with | [_], _ => rfl), PySem.W.mg_of X G a1⟩
  have D_is_row : Df K mg "is_row" st_is_row ["row"] := ⟨f2, _, fun_mk (st := st_is_row) l2 c2 k2, (fun_mk (st := st_is_row) l2 c2 k2).binds (ps := ["row"]) (fun _ _ _ _ _ _ us hl => match us, hl with | [_], _ => rfl), PySem.W.mg_of X G a2⟩
  have D_can_be : Df K mg "can_be" st_can_be ["size"] := ⟨f3, _, fun_mk (st := st_can_be) l3 c3 k3, (fun_mk (st := st_can_be) l3 c3 k3).binds (ps := ["size"]) (fun _ _ _ _ _ _ us hl => match us, hl with | [_], _ => rfl), PySem.W.mg_of X G a3⟩
  have D_pairs_of_four : Df K mg "pairs_of_four" st_pairs_of_four ["fourth"] := ⟨f4, _, fun_mk (st := st_pairs_of_four) l4 c4 k4, (fun_mk (st := st_pairs_of_four) l4 c4 k4).binds (ps := ["fourth"]) (fun _ _ _ _ _ _ us hl => match us, hl with | [_], _ => rfl), PySem.W.mg_of X G a4⟩
  have D_pairs_of_one_more : Df K mg "pairs_of_one_more" st_pairs_of_one_more ["fourth"] := ⟨f5, _, fun_mk (st := st_pairs_of_one_more) l5 c5 k5, (fun_mk (st := st_pairs_of_one_more) l5 c5 k5).binds (ps := ["fourth"]) (fun _ _ _ _ _ _ us hl => match us, hl with | [_], _ => rfl), PySem.W.mg_of X G a5⟩
  have D_row_of : Df K mg "row_of" st_row_of ["size"] := ⟨f6, _, fun_mk (st := st_row_of) l6 c6 k6, (fun_mk (st := st_row_of) l6 c6 k6).binds (ps := ["size"]) (fun _ _ _ _ _ _ us hl => match us, hl with | [_], _ => rfl), PySem.W.mg_of X G a6⟩
  have D_law_cell_at : Df K mg "_law_cell_at" st_law_cell_at ["script", "k"] := ⟨f7, _, fun_mk (st := st_law_cell_at) l7 c7 k7, (fun_mk (st := st_law_cell_at) l7 c7 k7).binds (ps := ["script", "k"]) (fun _ _ _ _ _ _ us hl => match us, hl with | [_, _], _ => rfl), PySem.W.mg_of X G a7⟩
  have D_law_whole : Df K mg "_law_whole" st_law_whole ["found"] := ⟨f8, _, fun_mk (st := st_law_whole) l8 c8 k8, (fun_mk (st := st_law_whole) l8 c8 k8).binds (ps := ["found"]) (fun _ _ _ _ _ _ us hl => match us, hl with | [_], _ => rfl), PySem.W.mg_of X G a8⟩
  have D_law_is_row : Df K mg "_law_is_row" st_law_is_row ["row"] := ⟨f9, _, fun_mk (st := st_law_is_row) l9 c9 k9, (fun_mk (st := st_law_is_row) l9 c9 k9).binds (ps := ["row"]) (fun _ _ _ _ _ _ us hl => match us, hl with | [_], _ => rfl), PySem.W.mg_of X G a9⟩
  have D_law_word_of : Df K mg "_law_word_of" st_law_word_of ["e"] := ⟨f10, _, fun_mk (st := st_law_word_of) l10 c10 k10, (fun_mk (st := st_law_word_of) l10 c10 k10).binds (ps := ["e"]) (fun _ _ _ _ _ _ us hl => match us, hl with | [_], _ => rfl), PySem.W.mg_of X G a10⟩
  have D_law_told : Df K mg "_law_told" st_law_told ["size"] := ⟨f11, _, fun_mk (st := st_law_told) l11 c11 k11, (fun_mk (st := st_law_told) l11 c11 k11).binds (ps := ["size"]) (fun _ _ _ _ _ _ us hl => match us, hl with | [_], _ => rfl), PySem.W.mg_of X G a11⟩
  have C_MOST := PySem.W.mg_of X G q0
  have X_NoSize : Ec K mg "NoSize" C0 := ⟨PySem.W.mg_of X G eg0, ex0, ee0, eb0, et0⟩
  have X_NoSuch : Ec K mg "NoSuch" C1 := ⟨PySem.W.mg_of X G eg1, ex1, ee1, eb1, et1⟩
  have X_NoRow : Ec K mg "NoRow" C2 := ⟨PySem.W.mg_of X G eg2, ex2, ee2, eb2, et2⟩
  have X_NoPerson : Ec K mg "NoPerson" C3 := ⟨PySem.W.mg_of X G eg3, ex3, ee3, eb3, et3⟩
  have X_NoNote : Ec K mg "NoNote" C4 := ⟨PySem.W.mg_of X G eg4, ex4, ee4, eb4, et4⟩
  have X_ApartError : Ec K mg "ApartError" C5 := ⟨PySem.W.mg_of X G eg5, ex5, ee5, eb5, et5⟩
  have O_NoSuch : OfClass K C0 C1 C2 C3 C4 C1 1 := ⟨⟨o1_0, o1_1, o1_2, o1_3, o1_4, o1_5, o1_6, o1_7⟩, kit_own hd0 et0 o1_8 o1_9, kit_own hd1 et1 o1_9 o1_9, kit_own hd2 et2 o1_10 o1_9, kit_own hd3 et3 o1_11 o1_9, kit_own hd4 et4 o1_12 o1_9, kit_value o1_13⟩
  have M_NoSuch : PySem.W.exmOne K (.ref C1) (.ref C5) = some true := PySem.W.exm_ref eb5 hd5 et5 o1_14
  refine ⟨PySem.W.fnOf "law" "law" (defArgs st_law) (defBody st_law) (defScope st_law) .none kV12 dc12 pm12 an12 cd12 ct12, fun s v => .of_eq rfl, fun base _ _ => ?_⟩
  have F := fun_mk (st := st_law) l12 c12 k12
  have K_cell := kn_law_cell_at (P := l.prog) (w := w) (base := base) D_law_cell_at B
  have K_asked := kn_asked_size (P := l.prog) (w := w) (base := base) D_asked_size X_NoSize
  have K_can := kn_can_be D_can_be K_asked C_MOST
  have K_row_of := kn_row_of D_row_of B X_NoSuch K_can (kn_pairs_of_four D_pairs_of_four B) (kn_pairs_of_one_more D_pairs_of_one_more B)
  have K_word := kn_law_word_of (P := l.prog) (w := w) (base := base) D_law_word_of B X_NoSize X_NoSuch X_NoRow X_NoPerson X_NoNote
  exact ok_law F B K_cell (kn_law_whole D_law_whole B) (kn_is_row D_is_row B C_MOST (kn_found_places D_found_places B)) (kn_law_is_row D_law_is_row B) K_can (kn_law_told D_law_told X_ApartError K_word K_row_of O_NoSuch M_NoSuch)
end Sa
open PySem PySem.W PyProof.Rows
set_option maxHeartbeats 0 in
theorem PySem.Challenge.cw_sameapart_k04_whole_each_size_holds : PySem.Challenge.rw_sameapart_k04_whole_each_size.Holds := by
  w_on; o_law; k_head; (case hw => w_witness2)
  k_fill
  refine L2.walk_of (l := PySem.Challenge.rw_sameapart_k04_whole_each_size) (n := 63) (k := Sa.lawLevel) (x := "script") (CX := fun _ => L2.CX0) (sp := fun w => Sa.spLaw _) rfl (by decide) rfl ⟨rfl, by decide, by decide⟩ (fun w h Y => PySem.W.kIn_of Y) ?F (fun _ H a ns hl hO hS => ⟨a, ns, rfl, hS, hl, fun _ => rfl⟩) (fun _ _ _ _ _ h => h)
  case F =>
    intro w mg fa h KX G hmg
    refine' Sa.all_mk KX G hmg ?a0 ?l0 ?c0 ?k0 ?a1 ?l1 ?c1 ?k1 ?a2 ?l2 ?c2 ?k2 ?a3 ?l3 ?c3 ?k3 ?a4 ?l4 ?c4 ?k4 ?a5 ?l5 ?c5 ?k5 ?a6 ?l6 ?c6 ?k6 ?a7 ?l7 ?c7 ?k7 ?a8 ?l8 ?c8 ?k8 ?a9 ?l9 ?c9 ?k9 ?a10 ?l10 ?c10 ?k10 ?a11 ?l11 ?c11 ?k11 ?a12 ?l12 ?c12 ?k12 ?z0 ?z1 ?z2 ?z3 ?z4 ?z5 ?z6 ?z7 ?z8 ?z9 ?z10 ?z11 ?z12 ?z13 ?z14 ?q0 ?eg0 ?ex0 ?ee0 ?eb0 ?et0 ?eg1 ?ex1 ?ee1 ?eb1 ?et1 ?eg2 ?ex2 ?ee2 ?eb2 ?et2 ?eg3 ?ex3 ?ee3 ?eb3 ?et3 ?eg4 ?ex4 ?ee4 ?eb4 ?et4 ?eg5 ?ex5 ?ee5 ?eb5 ?et5 ?o1_0 ?o1_1 ?o1_2 ?o1_3 ?o1_4 ?o1_5 ?o1_6 ?o1_7 ?o1_8 ?o1_9 ?o1_10 ?o1_11 ?o1_12 ?o1_13 ?o1_14 ?hd0 ?hd1 ?hd2 ?hd3 ?hd4 ?hd5
    (case a0 => k_is)
    (case l0 => k_is)
    (case c0 => k_is)
    (case k0 => k_is)
    (case a1 => k_is)
    (case l1 => k_is)
    (case c1 => k_is)
    (case k1 => k_is)
    (case a2 => k_is)
    (case l2 => k_is)
    (case c2 => k_is)
    (case k2 => k_is)
    (case a3 => k_is)
    (case l3 => k_is)
    (case c3 => k_is)
    (case k3 => k_is)
    (case a4 => k_is)
    (case l4 => k_is)
    (case c4 => k_is)
    (case k4 => k_is)
    (case a5 => k_is)
    (case l5 => k_is)
    (case c5 => k_is)
    (case k5 => k_is)
    (case a6 => k_is)
    (case l6 => k_is)
    (case c6 => k_is)
    (case k6 => k_is)
    (case a7 => k_is)
    (case l7 => k_is)
    (case c7 => k_is)
    (case k7 => k_is)
    (case a8 => k_is)
    (case l8 => k_is)
    (case c8 => k_is)
    (case k8 => k_is)
    (case a9 => k_is)
    (case l9 => k_is)
    (case c9 => k_is)
    (case k9 => k_is)
    (case a10 => k_is)
    (case l10 => k_is)
    (case c10 => k_is)
    (case k10 => k_is)
    (case a11 => k_is)
    (case l11 => k_is)
    (case c11 => k_is)
    (case k11 => k_is)
    (case a12 => k_is)
    (case l12 => k_is)
    (case c12 => k_is)
    (case k12 => k_is)
    (case z0 => k_is)
    (case z1 => k_is)
    (case z2 => k_is)
    (case z3 => k_is)
    (case z4 => k_is)
    (case z5 => k_is)
    (case z6 => k_is)
    (case z7 => k_is)
    (case z8 => k_is)
    (case z9 => k_is)
    (case z10 => k_is)
    (case z11 => k_is)
    (case z12 => k_is)
    (case z13 => k_is)
    (case z14 => k_is)
    (case q0 => k_is)
    (case eg0 => k_is)
    (case ex0 => k_exc)
    (case ee0 => k_is)
    (case eb0 => k_is)
    (case et0 => k_is)
    (case eg1 => k_is)
    (case ex1 => k_exc)
    (case ee1 => k_is)
    (case eb1 => k_is)
    (case et1 => k_is)
    (case eg2 => k_is)
    (case ex2 => k_exc)
    (case ee2 => k_is)
    (case eb2 => k_is)
    (case et2 => k_is)
    (case eg3 => k_is)
    (case ex3 => k_exc)
    (case ee3 => k_is)
    (case eb3 => k_is)
    (case et3 => k_is)
    (case eg4 => k_is)
    (case ex4 => k_exc)
    (case ee4 => k_is)
    (case eb4 => k_is)
    (case et4 => k_is)
    (case eg5 => k_is)
    (case ex5 => k_exc)
    (case ee5 => k_is)
    (case eb5 => k_is)
    (case et5 => k_is)
    (case o1_0 => k_is)
    (case o1_1 => k_is)
    (case o1_2 => k_is)
    (case o1_3 => k_is)
    (case o1_4 => k_is)
    (case o1_5 => k_is)
    (case o1_6 => k_is)
    (case o1_7 => k_is)
    (case o1_8 => k_is)
    (case o1_9 => k_is)
    (case o1_10 => k_is)
    (case o1_11 => k_is)
    (case o1_12 => k_is)
    (case o1_13 => k_is)
    (case o1_14 => k_is)
    (case hd0 => k_is)
    (case hd1 => k_is)
    (case hd2 => k_is)
    (case hd3 => k_is)
    (case hd4 => k_is)
    (case hd5 => k_is)

