import PyProof.Rows.All
import Wide.All
import OpenK.AllK
import Wide.FinOn
import HandS.ForMost
import HandS.Walk
import HandS.Exc
import HandS.ExcOwn
import HandS.WordsExc
import HandS.TryOnly
import HandS.IsInst
import HandS.Style
import HandS.Conv
import HandS.Codes
import HandS.Rev
import HandS.ExcIs
import HandS.HotCalls
import PySem.Challenge.RW_sameapart_k11_read_or_refused
set_option Elab.async false
set_option linter.all false
set_option maxRecDepth 100000
set_option maxHeartbeats 4000000
namespace Sa
end Sa
/-! PLAIN rows -/
namespace Sa
/-- the places of k in a list, counted from i -/
def spotsFrom (k : Int) : Nat → List Int → List Int
  | _, [] => []
  | i, x :: r => if x = k then (i : Int) :: spotsFrom k (i + 1) r else spotsFrom k (i + 1) r
def spots (row : List Int) (k : Int) : List Int := spotsFrom k 0 row
/-- the number k stands at two places, k apart -/
def good (row : List Int) (k : Int) : Bool := match spots row k with
  | [a, b] => decide (b - a = k)
  | _ => false
def isRow (row : List Int) : Bool :=
  decide (row.length = 2 * (row.length / 2)) && decide (1 ≤ row.length / 2) && decide (row.length / 2 ≤ 400) && (List.range (row.length / 2)).all fun i => good row ((i : Int) + 1)

theorem spotsFrom_append (k : Int) : ∀ (xs ys : List Int) (i : Nat), spotsFrom k i (xs ++ ys) = spotsFrom k i xs ++ spotsFrom k (i + xs.length) ys
  | [], ys, i => by simp [spotsFrom]
  | x :: r, ys, i => by
    have ih := spotsFrom_append k r ys (i + 1)
    simp only [List.cons_append, spotsFrom, List.length_cons]
    split <;> simp [ih, Nat.add_assoc, Nat.add_comm 1]
theorem spots_snoc (row : List Int) (x k : Int) : spots (row ++ [x]) k = spots row k ++ (if x = k then [(row.length : Int)] else []) := by
  unfold spots
  rw [spotsFrom_append]
  simp [spotsFrom]
theorem mem_spotsFrom (k : Int) : ∀ (row : List Int) (i : Nat) (p : Int), p ∈ spotsFrom k i row ↔ ∃ j : Nat, row[j]? = some k ∧ p = ((i + j : Nat) : Int)
  | [], i, p => by simp [spotsFrom]
  | x :: r, i, p => by
    have ih := mem_spotsFrom k r (i + 1) p
    unfold spotsFrom
    split
    · rename_i e
      rw [List.mem_cons, ih]
      constructor
      · rintro (rfl | ⟨j, h1, h2⟩)
        · exact ⟨0, by simp [e], by simp⟩
        · exact ⟨j + 1, by simpa using h1, by rw [h2]; congr 1; omega⟩
      · rintro ⟨j, h1, h2⟩
        cases j with
        | zero => exact .inl (by simpa using h2)
        | succ j => exact .inr ⟨j, by simpa using h1, by rw [h2]; congr 1; omega⟩
    · rename_i e
      rw [ih]
      constructor
      · rintro ⟨j, h1, h2⟩
        exact ⟨j + 1, by simpa using h1, by rw [h2]; congr 1; omega⟩
      · rintro ⟨j, h1, h2⟩
        cases j with
        | zero => exact absurd (by simpa using h1) e
        | succ j => exact ⟨j, by simpa using h1, by rw [h2]; congr 1; omega⟩
theorem mem_spots (row : List Int) (k p : Int) : p ∈ spots row k ↔ ∃ j : Nat, row[j]? = some k ∧ p = (j : Int) := by
  unfold spots
  rw [mem_spotsFrom]
  simp
theorem spotsFrom_sorted (k : Int) : ∀ (row : List Int) (i : Nat), (spotsFrom k i row).Pairwise (· < ·) ∧ ∀ p ∈ spotsFrom k i row, (i : Int) ≤ p
  | [], i => by simp [spotsFrom]
  | x :: r, i => by
    have ih := spotsFrom_sorted k r (i + 1)
    unfold spotsFrom
    split
    · refine ⟨List.pairwise_cons.mpr ⟨fun p hp => ?_, ih.1⟩, fun p hp => ?_⟩
      · have := ih.2 p hp
        omega
      · rcases List.mem_cons.mp hp with rfl | hp
        · exact Int.le_refl _
        · have := ih.2 p hp
          omega
    · refine ⟨ih.1, fun p hp => ?_⟩
      have := ih.2 p hp
      omega
theorem spots_sorted (row : List Int) (k : Int) : (spots row k).Pairwise (· < ·) := (spotsFrom_sorted k row 0).1
theorem spots_length (row : List Int) (k : Int) : (spots row k).length = row.count k := by
  have h : ∀ (row : List Int) (i : Nat), (spotsFrom k i row).length = row.count k := by
    intro row
    induction row with
    | nil => intro i; simp [spotsFrom]
    | cons x r ih =>
      intro i
      unfold spotsFrom
      split
      · rename_i e
        rw [List.length_cons, ih, e, List.count_cons_self]
      · rename_i e
        rw [ih, List.count_cons_of_ne e]
  exact h row 0
/-- what a good number is -/
theorem good_iff (row : List Int) (k : Int) (hk : 0 < k) : good row k = true ↔ ∃ p : Nat, row[p]? = some k ∧ row[p + k.toNat]? = some k ∧ ∀ q : Nat, row[q]? = some k → q = p ∨ q = p + k.toNat := by
  unfold good
  have hm := mem_spots row k
  have hs := spots_sorted row k
  generalize spots row k = l at hm hs
  constructor
  · intro h
    match l, h with
    | [a, b], h =>
      have e : b - a = k := of_decide_eq_true h
      obtain ⟨p, h1, rfl⟩ := (hm a).mp (by simp)
      obtain ⟨q, h2, rfl⟩ := (hm b).mp (by simp)
      have eq : q = p + k.toNat := by omega
      subst eq
      refine ⟨p, h1, h2, fun j hj => ?_⟩
      have := (hm j).mpr ⟨j, hj, rfl⟩
      simp at this
      omega
  · rintro ⟨p, h1, h2, h3⟩
    have m1 := (hm p).mpr ⟨p, h1, rfl⟩
    have m2 := (hm ((p + k.toNat : Nat) : Int)).mpr ⟨p + k.toNat, h2, rfl⟩
    have m3 : ∀ z ∈ l, z = (p : Int) ∨ z = ((p + k.toNat : Nat) : Int) := fun z hz => by
      obtain ⟨j, hj, rfl⟩ := (hm z).mp hz
      rcases h3 j hj with e | e
      · exact .inl (by rw [e])
      · exact .inr (by rw [e])
    match l, hs, m1, m2, m3 with
    | [], _, m1, _, _ => simp at m1
    | [a], _, m1, m2, _ => simp at m1 m2; omega
    | [a, b], hs, m1, m2, m3 =>
      have hab : a < b := by simpa using hs
      have ha := m3 a (by simp)
      have hb := m3 b (by simp)
      exact decide_eq_true (by omega)
    | a :: b :: c :: r, hs, m1, m2, m3 =>
      have ha := m3 a (by simp)
      have hb := m3 b (by simp)
      have hc := m3 c (by simp)
      simp at hs
      omega
end Sa

/-! PLAIN rows, looked at from the first place on -/
namespace Sa
theorem isRow_iff (row : List Int) : isRow row = true ↔ row.length = 2 * (row.length / 2) ∧ 1 ≤ row.length / 2 ∧ row.length / 2 ≤ 400 ∧ ∀ k : Int, 1 ≤ k → k ≤ ((row.length / 2 : Nat) : Int) → good row k = true := by
  unfold isRow
  rw [Bool.and_eq_true, Bool.and_eq_true, Bool.and_eq_true, decide_eq_true_iff, decide_eq_true_iff, decide_eq_true_iff, List.all_eq_true]
  constructor
  · rintro ⟨⟨⟨h1, h2⟩, h3⟩, h4⟩
    refine ⟨h1, h2, h3, fun k k1 k2 => ?_⟩
    have := h4 (k.toNat - 1) (List.mem_range.mpr (by omega))
    rw [show ((k.toNat - 1 : Nat) : Int) + 1 = k by omega] at this
    exact this
  · rintro ⟨h1, h2, h3, h4⟩
    refine ⟨⟨⟨h1, h2⟩, h3⟩, fun i hi => ?_⟩
    have := List.mem_range.mp hi
    exact h4 _ (by omega) (by omega)
theorem good_count {row : List Int} {k : Int} (h : good row k = true) : row.count k = 2 := by
  rw [← spots_length]
  unfold good at h
  match spots row k, h with
  | [a, b], _ => rfl
theorem countP_range (row : List Int) : ∀ n : Nat, (∀ k : Int, 1 ≤ k → k ≤ (n : Int) → row.count k = 2) → row.countP (fun x => decide (1 ≤ x ∧ x ≤ (n : Int))) = 2 * n
  | 0, _ => by
    rw [List.countP_eq_zero]
    intro x _
    simp
    omega
  | n + 1, h => by
    have ih := countP_range row n fun k h1 h2 => h k h1 (by omega)
    have hc := h ((n : Int) + 1) (by omega) (by omega)
    have e : ∀ l : List Int, l.countP (fun x => decide (1 ≤ x ∧ x ≤ ((n + 1 : Nat) : Int))) = l.countP (fun x => decide (1 ≤ x ∧ x ≤ (n : Int))) + l.count ((n : Int) + 1) := by
      intro l
      induction l with
      | nil => rfl
      | cons x r ih =>
        rw [List.countP_cons, List.countP_cons, List.count_cons, ih]
        by_cases e1 : x = (n : Int) + 1
        · subst e1
          have a1 : decide (1 ≤ (n : Int) + 1 ∧ (n : Int) + 1 ≤ ((n + 1 : Nat) : Int)) = true := decide_eq_true (by omega)
          have a2 : decide (1 ≤ (n : Int) + 1 ∧ (n : Int) + 1 ≤ (n : Int)) = false := decide_eq_false (by omega)
          simp only [a1, a2, beq_self_eq_true, if_true]
          simp
          omega
        · have a3 : (x == (n : Int) + 1) = false := by simpa using e1
          have a4 : decide (1 ≤ x ∧ x ≤ ((n + 1 : Nat) : Int)) = decide (1 ≤ x ∧ x ≤ (n : Int)) := by
            rw [decide_eq_decide]
            omega
          rw [a3, a4]
          simp
          omega
    rw [e, ih, hc]
    omega
/-- in a row each number is from one to the size -/
theorem isRow_bound {row : List Int} (h : isRow row = true) : ∀ x ∈ row, 1 ≤ x ∧ x ≤ ((row.length / 2 : Nat) : Int) := by
  obtain ⟨h1, _, _, h4⟩ := (isRow_iff row).mp h
  have c := countP_range row (row.length / 2) fun k k1 k2 => good_count (h4 k k1 k2)
  rw [← h1] at c
  have := List.countP_eq_length.mp c
  intro x hx
  exact of_decide_eq_true (this x hx)
/-- .. and stands at two places -/
theorem isRow_spots {row : List Int} (h : isRow row = true) {k : Int} (h1 : 1 ≤ k) (h2 : k ≤ ((row.length / 2 : Nat) : Int)) : ∃ a b : Nat, spots row k = [(a : Int), (b : Int)] ∧ (b : Int) - a = k ∧ b < row.length := by
  have g := ((isRow_iff row).mp h).2.2.2 k h1 h2
  unfold good at g
  have hm := mem_spots row k
  match e : spots row k, g with
  | [a, b], g =>
    rw [e] at hm
    have e2 : b - a = k := of_decide_eq_true g
    obtain ⟨p, p1, rfl⟩ := (hm a).mp (by simp)
    obtain ⟨q, q1, rfl⟩ := (hm b).mp (by simp)
    exact ⟨p, q, rfl, e2, (List.getElem?_eq_some_iff.mp q1).1⟩
/-- the reverse -/
theorem spots_of_good {row : List Int} {k : Int} {a b : Int} (e : spots row k = [a, b]) (h : b - a = k) : good row k = true := by
  unfold good
  rw [e]
  exact decide_eq_true h

/-! ### a row looked at from the first place on -/
/-- what has been passed is in order so far -/
def okPre (n : Nat) (pre : List Int) : Prop := (∀ x ∈ pre, 1 ≤ x ∧ x ≤ (n : Int)) ∧ ∀ k : Int, spots pre k = [] ∨ (∃ a, spots pre k = [a]) ∨ ∃ a b, spots pre k = [a, b] ∧ b - a = k
theorem okPre_nil (n : Nat) : okPre n [] := ⟨by simp, fun k => .inl rfl⟩
theorem spots_take (row : List Int) (k : Int) (i : Nat) : ∃ r, spots row k = spots (row.take i) k ++ r := by
  refine ⟨spotsFrom k (0 + (row.take i).length) (row.drop i), ?_⟩
  unfold spots
  rw [← spotsFrom_append, List.take_append_drop]
theorem isRow_okPre {row : List Int} (h : isRow row = true) (i : Nat) : okPre (row.length / 2) (row.take i) := by
  refine ⟨fun x hx => isRow_bound h x (List.mem_of_mem_take hx), fun k => ?_⟩
  obtain ⟨r, e⟩ := spots_take row k i
  by_cases hk : 1 ≤ k ∧ k ≤ ((row.length / 2 : Nat) : Int)
  · obtain ⟨a, b, e2, e3, _⟩ := isRow_spots h hk.1 hk.2
    rw [e2] at e
    match hs : spots (row.take i) k with
    | [] => exact .inl rfl
    | [c] => exact .inr (.inl ⟨c, rfl⟩)
    | [c, d] =>
      rw [hs] at e
      simp at e
      exact .inr (.inr ⟨c, d, rfl, by omega⟩)
    | c :: d :: f :: t =>
      rw [hs] at e
      simp at e
  · refine .inl ?_
    match hs : spots (row.take i) k with
    | [] => rfl
    | c :: t =>
      obtain ⟨j, hj, _⟩ := (mem_spots (row.take i) k c).mp (by rw [hs]; simp)
      have := isRow_bound h k (List.mem_of_mem_take (List.mem_of_getElem? hj))
      exact absurd this hk
theorem isRow_of_okPre {row : List Int} (h1 : row.length = 2 * (row.length / 2)) (h2 : 1 ≤ row.length / 2) (h3 : row.length / 2 ≤ 400) (ok : okPre (row.length / 2) row)
    (full : ∀ k : Int, 1 ≤ k → k ≤ ((row.length / 2 : Nat) : Int) → (spots row k).length = 2) : isRow row = true := by
  refine (isRow_iff row).mpr ⟨h1, h2, h3, fun k k1 k2 => ?_⟩
  have f := full k k1 k2
  rcases ok.2 k with e | ⟨a, e⟩ | ⟨a, b, e, e2⟩
  · rw [e] at f; simp at f
  · rw [e] at f; simp at f
  · exact spots_of_good e e2
theorem okPre_snoc {n : Nat} {pre : List Int} {x : Int} (ok : okPre n pre) (h1 : 1 ≤ x) (h2 : x ≤ (n : Int)) (h : spots pre x = [] ∨ ∃ a, spots pre x = [a] ∧ (pre.length : Int) - a = x) : okPre n (pre ++ [x]) := by
  refine ⟨fun y hy => ?_, fun k => ?_⟩
  · rcases List.mem_append.mp hy with hy | hy
    · exact ok.1 y hy
    · rw [List.mem_singleton.mp hy]
      exact ⟨h1, h2⟩
  · rw [spots_snoc]
    by_cases e : x = k
    · subst e
      rw [if_pos rfl]
      rcases h with h | ⟨a, h, h'⟩
      · rw [h]
        exact .inr (.inl ⟨_, rfl⟩)
      · rw [h]
        exact .inr (.inr ⟨a, _, rfl, h'⟩)
    · rw [if_neg e, List.append_nil]
      exact ok.2 k
/-- n different numbers from one to n are all of them -/
theorem all_of_nodup {n : Nat} {l : List Int} (hl : l.length = n) (hn : l.Nodup) (hb : ∀ x ∈ l, 1 ≤ x ∧ x ≤ (n : Int)) : ∀ k : Int, 1 ≤ k → k ≤ (n : Int) → k ∈ l := by
  induction n generalizing l with
  | zero => intro k h1 h2; omega
  | succ n ih =>
    by_cases hm : ((n + 1 : Nat) : Int) ∈ l
    · intro k h1 h2
      by_cases e : k = ((n + 1 : Nat) : Int)
      · rw [e]; exact hm
      · have q := ih (l := l.erase ((n + 1 : Nat) : Int)) (by rw [List.length_erase_of_mem hm]; omega) (hn.erase _) (fun x hx => by
          have h1 := hb x (List.mem_of_mem_erase hx)
          have h2 := (List.Nodup.mem_erase_iff hn).mp hx
          have : x ≠ ((n + 1 : Nat) : Int) := h2.1
          omega) k h1 (by omega)
        exact List.mem_of_mem_erase q
    · exfalso
      have big : ∀ (m : Nat) (l : List Int), l.Nodup → (∀ x ∈ l, 1 ≤ x ∧ x ≤ (m : Int)) → l.length ≤ m := by
        intro m
        induction m with
        | zero =>
          intro l _ hb
          cases l with
          | nil => simp
          | cons x r =>
            have := hb x (by simp)
            omega
        | succ m ih2 =>
          intro l hn hb
          have := ih2 (l.erase ((m + 1 : Nat) : Int)) (hn.erase _) (fun x hx => by
            have h1 := hb x (List.mem_of_mem_erase hx)
            have h2 := (List.Nodup.mem_erase_iff hn).mp hx
            have : x ≠ ((m + 1 : Nat) : Int) := h2.1
            omega)
          by_cases hm : ((m + 1 : Nat) : Int) ∈ l
          · rw [List.length_erase_of_mem hm] at this
            omega
          · rw [List.erase_of_not_mem hm] at this
            omega
      have := big n l hn (fun x hx => by
        have h1 := hb x hx
        have : x ≠ ((n + 1 : Nat) : Int) := fun e => hm (e ▸ hx)
        omega)
      omega
theorem length_of_all {n : Nat} {l : List Int} (hn : l.Nodup) (hb : ∀ x ∈ l, 1 ≤ x ∧ x ≤ (n : Int)) (ha : ∀ k : Int, 1 ≤ k → k ≤ (n : Int) → k ∈ l) : l.length = n := by
  induction n generalizing l with
  | zero =>
    cases l with
    | nil => rfl
    | cons x r =>
      have := hb x (by simp)
      omega
  | succ n ih =>
    have hm : ((n + 1 : Nat) : Int) ∈ l := ha _ (by omega) (Int.le_refl _)
    have q := ih (l := l.erase ((n + 1 : Nat) : Int)) (hn.erase _) (fun x hx => by
      have h1 := hb x (List.mem_of_mem_erase hx)
      have h2 := (List.Nodup.mem_erase_iff hn).mp hx
      have : x ≠ ((n + 1 : Nat) : Int) := h2.1
      omega) (fun k h1 h2 => (List.Nodup.mem_erase_iff hn).mpr ⟨by omega, ha k h1 (by omega)⟩)
    rw [List.length_erase_of_mem hm] at q
    have := List.length_pos_of_mem hm
    omega
end Sa

/-! PLAIN rows made of pairs of places -/
namespace Sa
/-- f of the n numbers from lo on -/
def fam (lo : Int) (n : Nat) (f : Int → Int × Int) : List (Int × Int) := (List.range n).map fun (i : Nat) => f (lo + (i : Int))
theorem mem_fam {lo : Int} {n : Nat} {f : Int → Int × Int} {q : Int × Int} : q ∈ fam lo n f ↔ ∃ k : Int, lo ≤ k ∧ k < lo + n ∧ f k = q := by
  unfold fam
  rw [List.mem_map]
  constructor
  · rintro ⟨i, hi, rfl⟩
    have := List.mem_range.mp hi
    exact ⟨lo + i, by omega, by omega, rfl⟩
  · rintro ⟨k, h1, h2, rfl⟩
    exact ⟨(k - lo).toNat, List.mem_range.mpr (by omega), by congr 1; omega⟩
theorem fam_length (lo : Int) (n : Nat) (f : Int → Int × Int) : (fam lo n f).length = n := by
  unfold fam
  rw [List.length_map, List.length_range]
def pairs4g (f : Int) : List (Int × Int) :=
  fam 0 (2 * f).toNat (fun k => (4 * f + k, 8 * f - k)) ++ fam 1 (f - 1).toNat (fun k => (k, 4 * f - 1 - k)) ++ fam 0 (f - 2).toNat (fun k => (f + 2 + k, 3 * f - 1 - k)) ++ [(f, f + 1), (2 * f, 4 * f - 1), (2 * f + 1, 6 * f)]
def pairs4 (f : Int) : List (Int × Int) := if f = 1 then [(4, 8), (5, 7), (1, 2), (3, 6)] else pairs4g f
def pairs5g (f : Int) : List (Int × Int) :=
  fam 0 (2 * f).toNat (fun k => (4 * f + 2 + k, 8 * f + 2 - k)) ++ fam 1 (f + 1 - 1).toNat (fun k => (k, 4 * f + 1 - k)) ++ fam 1 (f - 1 - 1).toNat (fun k => (f + 2 + k, 3 * f + 1 - k)) ++ [(f + 1, f + 2), (2 * f + 1, 6 * f + 2), (2 * f + 2, 4 * f + 1)]
def pairs5 (f : Int) : List (Int × Int) := if f = 0 then [(1, 2)] else if f = 1 then [(1, 2), (3, 6), (4, 8), (5, 10), (7, 9)] else pairs5g f
/-- one pair's places filled -/
def fill1 (row : List Int) (q : Int × Int) : List Int := (row.set (q.1 - 1).toNat (q.2 - q.1)).set (q.2 - 1).toNat (q.2 - q.1)
def fillRow (row : List Int) (ps : List (Int × Int)) : List Int := ps.foldl fill1 row
theorem fill1_length (row : List Int) (q : Int × Int) : (fill1 row q).length = row.length := by simp [fill1]
theorem fillRow_length (ps : List (Int × Int)) : ∀ row : List Int, (fillRow row ps).length = row.length := by
  induction ps with
  | nil => intro row; rfl
  | cons q r ih =>
    intro row
    show (fillRow (fill1 row q) r).length = _
    rw [ih, fill1_length]
/-- q has the place p (counted from nought) -/
def touch (q : Int × Int) (p : Nat) : Prop := (q.1 - 1).toNat = p ∨ (q.2 - 1).toNat = p
theorem fill1_at {row : List Int} {q : Int × Int} {p : Nat} (hp : p < row.length) (h : touch q p) : (fill1 row q)[p]? = some (q.2 - q.1) := by
  unfold fill1
  rw [List.getElem?_set]
  split
  · rename_i e
    rw [if_pos (by rw [List.length_set, e]; exact hp)]
  · rename_i e
    rcases h with h | h
    · rw [h, List.getElem?_set_self hp]
    · exact absurd h e
theorem fill1_off {row : List Int} {q : Int × Int} {p : Nat} (h : ¬ touch q p) : (fill1 row q)[p]? = row[p]? := by
  unfold fill1
  rw [List.getElem?_set_ne (fun e => h (.inr e)), List.getElem?_set_ne (fun e => h (.inl e))]
theorem fillRow_at : ∀ (ps : List (Int × Int)) (row : List Int) (p : Nat), p < row.length → (∀ q ∈ ps, ∀ q' ∈ ps, touch q p → touch q' p → q = q') →
    (∀ q ∈ ps, touch q p → (fillRow row ps)[p]? = some (q.2 - q.1)) ∧ ((∀ q ∈ ps, ¬ touch q p) → (fillRow row ps)[p]? = row[p]?)
  | [], row, p, _, _ => ⟨fun q hq => absurd hq (by simp), fun _ => rfl⟩
  | q :: r, row, p, hp, u => by
    obtain ⟨i1, i2⟩ := fillRow_at r (fill1 row q) p (by rw [fill1_length]; exact hp) fun a ha b hb => u a (List.mem_cons_of_mem _ ha) b (List.mem_cons_of_mem _ hb)
    refine ⟨fun q' hq' ht => ?_, fun h => ?_⟩
    · show (fillRow (fill1 row q) r)[p]? = _
      by_cases hr : ∃ a ∈ r, touch a p
      · obtain ⟨a, ha, hta⟩ := hr
        have e := u q' hq' a (List.mem_cons_of_mem _ ha) ht hta
        rw [e]
        exact i1 a ha hta
      · have hno : ∀ a ∈ r, ¬ touch a p := fun a ha z => hr ⟨a, ha, z⟩
        rw [i2 hno]
        rcases List.mem_cons.mp hq' with e | e
        · rw [e] at ht ⊢
          exact fill1_at hp ht
        · exact absurd ht (hno q' e)
    · show (fillRow (fill1 row q) r)[p]? = _
      rw [i2 fun a ha => h a (List.mem_cons_of_mem _ ha), fill1_off (h q (by simp))]
/-- what pairs make a row of size n -/
structure RowPairs (n : Nat) (ps : List (Int × Int)) : Prop where
  one : 1 ≤ n
  most : n ≤ 400
  inn : ∀ q ∈ ps, 1 ≤ q.1 ∧ q.1 < q.2 ∧ q.2 ≤ 2 * (n : Int)
  apart : ∀ q ∈ ps, ∀ q' ∈ ps, (q.1 = q'.1 ∨ q.1 = q'.2 ∨ q.2 = q'.1 ∨ q.2 = q'.2) → q = q'
  all : ∀ k : Int, 1 ≤ k → k ≤ (n : Int) → ∃ q ∈ ps, q.2 - q.1 = k
  uniq : ∀ q ∈ ps, ∀ q' ∈ ps, q.2 - q.1 = q'.2 - q'.1 → q = q'
theorem RowPairs.isRow {n : Nat} {ps : List (Int × Int)} (R : RowPairs n ps) : isRow (fillRow (List.replicate (2 * n) 0) ps) = true := by
  have hl : (fillRow (List.replicate (2 * n) 0) ps).length = 2 * n := by rw [fillRow_length, List.length_replicate]
  have hat := fun p (hp : p < 2 * n) => fillRow_at ps (List.replicate (2 * n) 0) p (by rw [List.length_replicate]; exact hp) (fun q hq q' hq' t t' => R.apart q hq q' hq' (by
    have h1 := R.inn q hq
    have h2 := R.inn q' hq'
    rcases t with t | t <;> rcases t' with t' | t'
    · exact .inl (by omega)
    · exact .inr (.inl (by omega))
    · exact .inr (.inr (.inl (by omega)))
    · exact .inr (.inr (.inr (by omega)))))
  have hh : (fillRow (List.replicate (2 * n) 0) ps).length / 2 = n := by rw [hl]; omega
  refine (isRow_iff _).mpr ⟨by rw [hh, hl], by rw [hh]; exact R.one, by rw [hh]; exact R.most, fun k k1 k2 => ?_⟩
  rw [hh] at k2
  obtain ⟨q, hq, e⟩ := R.all k k1 k2
  have hi := R.inn q hq
  refine (good_iff _ k (by omega)).mpr ⟨(q.1 - 1).toNat, ?_, ?_, fun j hj => ?_⟩
  · rw [(hat (q.1 - 1).toNat (by omega)).1 q hq (.inl rfl), e]
  · have ep : (q.1 - 1).toNat + k.toNat = (q.2 - 1).toNat := by omega
    rw [ep, (hat (q.2 - 1).toNat (by omega)).1 q hq (.inr rfl), e]
  · have hj2 : j < 2 * n := by
      have := (List.getElem?_eq_some_iff.mp hj).1
      rwa [hl] at this
    by_cases ht : ∃ a ∈ ps, touch a j
    · obtain ⟨a, ha, t⟩ := ht
      have e1 := (hat j hj2).1 a ha t
      rw [hj] at e1
      have e2 : a = q := R.uniq a ha q hq (by have := Option.some.inj e1; omega)
      rw [e2] at t
      rcases t with t | t
      · exact .inl t.symm
      · exact .inr (by omega)
    · have e1 := (hat j hj2).2 fun a ha t => ht ⟨a, ha, t⟩
      rw [hj, List.getElem?_replicate, if_pos hj2] at e1
      have := Option.some.inj e1
      omega
theorem mem_pairs4g {f : Int} {q : Int × Int} (hf : 2 ≤ f) : q ∈ pairs4g f ↔ (∃ k, 0 ≤ k ∧ k < 2 * f ∧ q = (4 * f + k, 8 * f - k)) ∨ (∃ k, 1 ≤ k ∧ k < f ∧ q = (k, 4 * f - 1 - k)) ∨ (∃ k, 0 ≤ k ∧ k < f - 2 ∧ q = (f + 2 + k, 3 * f - 1 - k)) ∨ q = (f, f + 1) ∨ q = (2 * f, 4 * f - 1) ∨ q = (2 * f + 1, 6 * f) := by
  unfold pairs4g
  simp only [List.mem_append, mem_fam, List.mem_cons, List.not_mem_nil, or_false]
  have e1 : (((2 * f).toNat : Nat) : Int) = 2 * f := by omega
  have e2 : (((f - 1).toNat : Nat) : Int) = f - 1 := by omega
  have e3 : (((f - 2).toNat : Nat) : Int) = f - 2 := by omega
  rw [e1, e2, e3]
  constructor
  · rintro (((⟨k, h1, h2, rfl⟩ | ⟨k, h1, h2, rfl⟩) | ⟨k, h1, h2, rfl⟩) | h)
    · exact .inl ⟨k, h1, by omega, rfl⟩
    · exact .inr (.inl ⟨k, h1, by omega, rfl⟩)
    · exact .inr (.inr (.inl ⟨k, h1, by omega, rfl⟩))
    · exact .inr (.inr (.inr h))
  · rintro (⟨k, h1, h2, rfl⟩ | ⟨k, h1, h2, rfl⟩ | ⟨k, h1, h2, rfl⟩ | h)
    · exact .inl (.inl (.inl ⟨k, h1, by omega, rfl⟩))
    · exact .inl (.inl (.inr ⟨k, h1, by omega, rfl⟩))
    · exact .inl (.inr ⟨k, h1, by omega, rfl⟩)
    · exact .inr h
theorem mem_pairs5g {f : Int} {q : Int × Int} (hf : 2 ≤ f) : q ∈ pairs5g f ↔ (∃ k, 0 ≤ k ∧ k < 2 * f ∧ q = (4 * f + 2 + k, 8 * f + 2 - k)) ∨ (∃ k, 1 ≤ k ∧ k < f + 1 ∧ q = (k, 4 * f + 1 - k)) ∨ (∃ k, 1 ≤ k ∧ k < f - 1 ∧ q = (f + 2 + k, 3 * f + 1 - k)) ∨ q = (f + 1, f + 2) ∨ q = (2 * f + 1, 6 * f + 2) ∨ q = (2 * f + 2, 4 * f + 1) := by
  unfold pairs5g
  simp only [List.mem_append, mem_fam, List.mem_cons, List.not_mem_nil, or_false]
  have e1 : (((2 * f).toNat : Nat) : Int) = 2 * f := by omega
  have e2 : (((f + 1 - 1).toNat : Nat) : Int) = f := by omega
  have e3 : (((f - 1 - 1).toNat : Nat) : Int) = f - 2 := by omega
  rw [e1, e2, e3]
  constructor
  · rintro (((⟨k, h1, h2, rfl⟩ | ⟨k, h1, h2, rfl⟩) | ⟨k, h1, h2, rfl⟩) | h)
    · exact .inl ⟨k, h1, by omega, rfl⟩
    · exact .inr (.inl ⟨k, h1, by omega, rfl⟩)
    · exact .inr (.inr (.inl ⟨k, h1, by omega, rfl⟩))
    · exact .inr (.inr (.inr h))
  · rintro (⟨k, h1, h2, rfl⟩ | ⟨k, h1, h2, rfl⟩ | ⟨k, h1, h2, rfl⟩ | h)
    · exact .inl (.inl (.inl ⟨k, h1, by omega, rfl⟩))
    · exact .inl (.inl (.inr ⟨k, h1, by omega, rfl⟩))
    · exact .inl (.inr ⟨k, h1, by omega, rfl⟩)
    · exact .inr h
theorem pairs4_row {f : Int} (h1 : 1 ≤ f) (h2 : f ≤ 100) : RowPairs (4 * f).toNat (pairs4 f) := by
  unfold pairs4
  by_cases e : f = 1
  · subst e
    rw [if_pos rfl]
    refine ⟨by decide, by decide, by decide, by decide, fun k k1 k2 => ?_, by decide⟩
    have : k = 1 ∨ k = 2 ∨ k = 3 ∨ k = 4 := by omega
    rcases this with rfl | rfl | rfl | rfl <;> decide
  · rw [if_neg e]
    have hf : 2 ≤ f := by omega
    have hn : (((4 * f).toNat : Nat) : Int) = 4 * f := by omega
    refine ⟨by omega, by omega, fun q hq => ?_, fun q hq q' hq' h => ?_, fun k k1 k2 => ?_, fun q hq q' hq' h => ?_⟩
    · rw [hn]
      rcases (mem_pairs4g hf).mp hq with ⟨k, a, b, rfl⟩ | ⟨k, a, b, rfl⟩ | ⟨k, a, b, rfl⟩ | rfl | rfl | rfl <;> simp <;> omega
    · rcases (mem_pairs4g hf).mp hq with ⟨k, a, b, rfl⟩ | ⟨k, a, b, rfl⟩ | ⟨k, a, b, rfl⟩ | rfl | rfl | rfl <;>
        rcases (mem_pairs4g hf).mp hq' with ⟨k', a', b', rfl⟩ | ⟨k', a', b', rfl⟩ | ⟨k', a', b', rfl⟩ | rfl | rfl | rfl <;> simp at h ⊢ <;> omega
    · rw [hn] at k2
      by_cases hk : k % 2 = 0
      · exact ⟨(4 * f + (4 * f - k) / 2, 8 * f - (4 * f - k) / 2), (mem_pairs4g hf).mpr (.inl ⟨(4 * f - k) / 2, by omega, by omega, rfl⟩), by simp; omega⟩
      · by_cases c1 : 2 * f < k
        · by_cases c2 : k = 4 * f - 1
          · exact ⟨(2 * f + 1, 6 * f), (mem_pairs4g hf).mpr (.inr (.inr (.inr (.inr (.inr rfl))))), by simp; omega⟩
          · exact ⟨((4 * f - 1 - k) / 2, 4 * f - 1 - (4 * f - 1 - k) / 2), (mem_pairs4g hf).mpr (.inr (.inl ⟨(4 * f - 1 - k) / 2, by omega, by omega, rfl⟩)), by simp; omega⟩
        · by_cases c2 : k = 2 * f - 1
          · exact ⟨(2 * f, 4 * f - 1), (mem_pairs4g hf).mpr (.inr (.inr (.inr (.inr (.inl rfl))))), by simp; omega⟩
          · by_cases c3 : k = 1
            · exact ⟨(f, f + 1), (mem_pairs4g hf).mpr (.inr (.inr (.inr (.inl rfl)))), by simp; omega⟩
            · exact ⟨(f + 2 + (2 * f - 3 - k) / 2, 3 * f - 1 - (2 * f - 3 - k) / 2), (mem_pairs4g hf).mpr (.inr (.inr (.inl ⟨(2 * f - 3 - k) / 2, by omega, by omega, rfl⟩))), by simp; omega⟩
    · rcases (mem_pairs4g hf).mp hq with ⟨k, a, b, rfl⟩ | ⟨k, a, b, rfl⟩ | ⟨k, a, b, rfl⟩ | rfl | rfl | rfl <;>
        rcases (mem_pairs4g hf).mp hq' with ⟨k', a', b', rfl⟩ | ⟨k', a', b', rfl⟩ | ⟨k', a', b', rfl⟩ | rfl | rfl | rfl <;> simp at h ⊢ <;> omega
theorem pairs5_row {f : Int} (h1 : 0 ≤ f) (h2 : f ≤ 99) : RowPairs (4 * f + 1).toNat (pairs5 f) := by
  unfold pairs5
  by_cases e0 : f = 0
  · subst e0
    rw [if_pos rfl]
    refine ⟨by decide, by decide, by decide, by decide, fun k k1 k2 => ?_, by decide⟩
    have : k = 1 := by omega
    rcases this with rfl
    decide
  rw [if_neg e0]
  by_cases e : f = 1
  · subst e
    rw [if_pos rfl]
    refine ⟨by decide, by decide, by decide, by decide, fun k k1 k2 => ?_, by decide⟩
    have : k = 1 ∨ k = 2 ∨ k = 3 ∨ k = 4 ∨ k = 5 := by omega
    rcases this with rfl | rfl | rfl | rfl | rfl <;> decide
  · rw [if_neg e]
    have hf : 2 ≤ f := by omega
    have hn : (((4 * f + 1).toNat : Nat) : Int) = 4 * f + 1 := by omega
    refine ⟨by omega, by omega, fun q hq => ?_, fun q hq q' hq' h => ?_, fun k k1 k2 => ?_, fun q hq q' hq' h => ?_⟩
    · rw [hn]
      rcases (mem_pairs5g hf).mp hq with ⟨k, a, b, rfl⟩ | ⟨k, a, b, rfl⟩ | ⟨k, a, b, rfl⟩ | rfl | rfl | rfl <;> simp <;> omega
    · rcases (mem_pairs5g hf).mp hq with ⟨k, a, b, rfl⟩ | ⟨k, a, b, rfl⟩ | ⟨k, a, b, rfl⟩ | rfl | rfl | rfl <;>
        rcases (mem_pairs5g hf).mp hq' with ⟨k', a', b', rfl⟩ | ⟨k', a', b', rfl⟩ | ⟨k', a', b', rfl⟩ | rfl | rfl | rfl <;> simp at h ⊢ <;> omega
    · rw [hn] at k2
      by_cases hk : k % 2 = 0
      · exact ⟨(4 * f + 2 + (4 * f - k) / 2, 8 * f + 2 - (4 * f - k) / 2), (mem_pairs5g hf).mpr (.inl ⟨(4 * f - k) / 2, by omega, by omega, rfl⟩), by simp; omega⟩
      · by_cases c1 : 2 * f < k
        · by_cases c2 : k = 4 * f + 1
          · exact ⟨(2 * f + 1, 6 * f + 2), (mem_pairs5g hf).mpr (.inr (.inr (.inr (.inr (.inl rfl))))), by simp; omega⟩
          · exact ⟨((4 * f + 1 - k) / 2, 4 * f + 1 - (4 * f + 1 - k) / 2), (mem_pairs5g hf).mpr (.inr (.inl ⟨(4 * f + 1 - k) / 2, by omega, by omega, rfl⟩)), by simp; omega⟩
        · by_cases c2 : k = 2 * f - 1
          · exact ⟨(2 * f + 2, 4 * f + 1), (mem_pairs5g hf).mpr (.inr (.inr (.inr (.inr (.inr rfl))))), by simp; omega⟩
          · by_cases c3 : k = 1
            · exact ⟨(f + 1, f + 2), (mem_pairs5g hf).mpr (.inr (.inr (.inr (.inl rfl)))), by simp; omega⟩
            · exact ⟨(f + 2 + (2 * f - 1 - k) / 2, 3 * f + 1 - (2 * f - 1 - k) / 2), (mem_pairs5g hf).mpr (.inr (.inr (.inl ⟨(2 * f - 1 - k) / 2, by omega, by omega, rfl⟩))), by simp; omega⟩
    · rcases (mem_pairs5g hf).mp hq with ⟨k, a, b, rfl⟩ | ⟨k, a, b, rfl⟩ | ⟨k, a, b, rfl⟩ | rfl | rfl | rfl <;>
        rcases (mem_pairs5g hf).mp hq' with ⟨k', a', b', rfl⟩ | ⟨k', a', b', rfl⟩ | ⟨k', a', b', rfl⟩ | rfl | rfl | rfl <;> simp at h ⊢ <;> omega
/-- the row of a size -/
def rowOf (size : Int) : List Int := fillRow (List.replicate (2 * size.toNat) 0) (if size % 4 = 0 then pairs4 (size / 4) else pairs5 (size / 4))
theorem rowOf_pairs {size : Int} (h1 : 1 ≤ size) (h2 : size ≤ 400) (h3 : size % 4 < 2) : RowPairs size.toNat (if size % 4 = 0 then pairs4 (size / 4) else pairs5 (size / 4)) := by
  by_cases e : size % 4 = 0
  · rw [if_pos e]
    have := pairs4_row (f := size / 4) (by omega) (by omega)
    rwa [show 4 * (size / 4) = size by omega] at this
  · rw [if_neg e]
    have := pairs5_row (f := size / 4) (by omega) (by omega)
    rwa [show 4 * (size / 4) + 1 = size by omega] at this
theorem rowOf_row {size : Int} (h1 : 1 ≤ size) (h2 : size ≤ 400) (h3 : size % 4 < 2) : isRow (rowOf size) = true := (rowOf_pairs h1 h2 h3).isRow
theorem rowOf_length (size : Int) : (rowOf size).length = 2 * size.toNat := by
  unfold rowOf
  rw [fillRow_length, List.length_replicate]
end Sa

/-! PLAIN rows found by trying places in a drawn order -/
namespace Sa
/-- what the first of n turns from i on that finds one finds -/
def firstFrom {α : Type} (f : Nat → Option α) : Nat → Nat → Option α
  | _, 0 => none
  | i, n + 1 => match f i with
    | some r => some r
    | none => firstFrom f (i + 1) n
theorem firstFrom_some {α : Type} {f : Nat → Option α} : ∀ {n i : Nat} {r : α}, firstFrom f i n = some r → ∃ j, i ≤ j ∧ j < i + n ∧ f j = some r
  | 0, i, r, h => by cases h
  | n + 1, i, r, h => by
    unfold firstFrom at h
    split at h
    · rename_i r' e
      exact ⟨i, Nat.le_refl _, by omega, by rw [e]; exact h⟩
    · obtain ⟨j, h1, h2, h3⟩ := firstFrom_some h
      exact ⟨j, by omega, by omega, h3⟩
theorem firstFrom_ne {α : Type} {f : Nat → Option α} : ∀ {n i j : Nat}, i ≤ j → j < i + n → f j ≠ none → firstFrom f i n ≠ none
  | 0, i, j, h1, h2, _ => by omega
  | n + 1, i, j, h1, h2, h3 => by
    unfold firstFrom
    split
    · simp
    · rename_i e
      have : i ≠ j := fun z => h3 (z ▸ e)
      exact firstFrom_ne (i := i + 1) (j := j) (by omega) (by omega) h3
theorem firstFrom_hit {α : Type} {f : Nat → Option α} {i n : Nat} {r : α} (h : f i = some r) : firstFrom f i (n + 1) = some r := by
  unfold firstFrom
  rw [h]
theorem firstFrom_miss {α : Type} {f : Nat → Option α} {i n : Nat} (h : f i = none) : firstFrom f i (n + 1) = firstFrom f (i + 1) n := by
  rw [firstFrom, h]
def lawDraw (cell k bound : Int) : Int :=
  let s1 := (cell % 2147483647 + 977 * k + 1) * 48271 % 2147483647
  let s2 := s1 * s1 % 2147483629
  let s3 := (s2 + 40692 * (k + 3)) * 69621 % 2147483647
  s3 / 8 % bound
/-- the place that the i-th turn tries -/
def placeOf (cell : Int) (m spare i : Nat) : Nat := (((i : Int) + lawDraw cell (m : Int) (spare : Int)) % (spare : Int)).toNat
def put2 (row : List Int) (p m : Nat) : List Int := (row.set p (m : Int)).set (p + m) (m : Int)
def lawFilled (cell : Int) : Nat → List Int → Option (List Int)
  | 0, row => some row
  | n + 1, row => firstFrom (fun i =>
      let p := placeOf cell (n + 1) (row.length - (n + 1)) i
      if row[p]? = some 0 ∧ row[p + (n + 1)]? = some 0 then lawFilled cell n (put2 row p (n + 1)) else none) 0 (row.length - (n + 1))
theorem put2_length (row : List Int) (p m : Nat) : (put2 row p m).length = row.length := by simp [put2]
theorem put2_at {row : List Int} {p m j : Nat} (hm : 0 < m) (hp : p + m < row.length) : (put2 row p m)[j]? = if j = p ∨ j = p + m then some (m : Int) else row[j]? := by
  unfold put2
  rw [List.getElem?_set, List.getElem?_set, List.length_set]
  by_cases h1 : p + m = j
  · rw [if_pos h1, if_pos (by omega), if_pos (.inr h1.symm)]
  · rw [if_neg h1]
    by_cases h2 : p = j
    · rw [if_pos h2, if_pos (by omega), if_pos (.inl h2.symm)]
    · rw [if_neg h2, if_neg (by omega)]
theorem placeOf_lt {cell : Int} {m spare i : Nat} (h : 0 < spare) : placeOf cell m spare i < spare := by
  unfold placeOf
  have h1 := Int.emod_nonneg ((i : Int) + lawDraw cell (m : Int) (spare : Int)) (show (spare : Int) ≠ 0 by omega)
  have h2 := Int.emod_lt_of_pos ((i : Int) + lawDraw cell (m : Int) (spare : Int)) (show (0 : Int) < spare by omega)
  omega
theorem placeOf_hit {cell : Int} {m spare p : Nat} (h : p < spare) : ∃ i, i < spare ∧ placeOf cell m spare i = p := by
  refine ⟨(((p : Int) - lawDraw cell (m : Int) (spare : Int)) % (spare : Int)).toNat, ?_, ?_⟩
  · have h1 := Int.emod_nonneg ((p : Int) - lawDraw cell (m : Int) (spare : Int)) (show (spare : Int) ≠ 0 by omega)
    have h2 := Int.emod_lt_of_pos ((p : Int) - lawDraw cell (m : Int) (spare : Int)) (show (0 : Int) < spare by omega)
    omega
  · unfold placeOf
    have h1 := Int.emod_nonneg ((p : Int) - lawDraw cell (m : Int) (spare : Int)) (show (spare : Int) ≠ 0 by omega)
    rw [Int.toNat_of_nonneg h1, Int.emod_add_emod, Int.sub_add_cancel, Int.emod_eq_of_lt (by omega) (by omega)]
    omega
/-- the numbers above n stand as they must, the rest is nought -/
structure Part (n size : Nat) (row : List Int) : Prop where
  len : row.length = 2 * size
  val : ∀ x ∈ row, x = 0 ∨ (n : Int) < x
  ok : ∀ m : Int, (n : Int) < m → m ≤ (size : Int) → good row m = true
theorem Part.put {n size : Nat} {row : List Int} {p : Nat} (h : Part (n + 1) size row) (h1 : row[p]? = some 0) (h2 : row[p + (n + 1)]? = some 0) : Part n size (put2 row p (n + 1)) := by
  have hp : p + (n + 1) < row.length := (List.getElem?_eq_some_iff.mp h2).1
  have hat := fun j => put2_at (row := row) (p := p) (m := n + 1) (j := j) (by omega) hp
  refine ⟨by rw [put2_length]; exact h.len, fun x hx => ?_, fun m m1 m2 => ?_⟩
  · obtain ⟨j, hj⟩ := List.getElem?_of_mem hx
    rw [hat] at hj
    split at hj
    · have := Option.some.inj hj
      exact .inr (by omega)
    · rcases h.val x (List.mem_of_getElem? hj) with e | e
      · exact .inl e
      · exact .inr (by omega)
  · by_cases hm : m = ((n + 1 : Nat) : Int)
    · subst hm
      refine (good_iff _ _ (by omega)).mpr ⟨p, ?_, ?_, fun q hq => ?_⟩
      · rw [hat, if_pos (.inl rfl)]
      · have e : (((n + 1 : Nat) : Int)).toNat = n + 1 := by omega
        rw [e, hat, if_pos (.inr rfl)]
      · rw [hat] at hq
        split at hq
        · rename_i e
          have e2 : (((n + 1 : Nat) : Int)).toNat = n + 1 := by omega
          rw [e2]
          exact e
        · rcases h.val _ (List.mem_of_getElem? hq) with e | e
          · omega
          · exact absurd e (Int.lt_irrefl _)
    · obtain ⟨q, q1, q2, q3⟩ := (good_iff _ _ (by omega)).mp (h.ok m (by omega) m2)
      have no : ∀ j, row[j]? = some m → ¬ (j = p ∨ j = p + (n + 1)) := fun j hj z => by
        rcases z with rfl | rfl
        · rw [h1] at hj
          have := Option.some.inj hj
          omega
        · rw [h2] at hj
          have := Option.some.inj hj
          omega
      refine (good_iff _ _ (by omega)).mpr ⟨q, ?_, ?_, fun j hj => ?_⟩
      · rw [hat, if_neg (no _ q1)]
        exact q1
      · rw [hat, if_neg (no _ q2)]
        exact q2
      · rw [hat] at hj
        split at hj
        · have := Option.some.inj hj
          omega
        · exact q3 j hj
theorem lawFilled_part (cell : Int) {size : Nat} : ∀ (n : Nat) (row r : List Int), Part n size row → lawFilled cell n row = some r → Part 0 size r
  | 0, row, r, h, e => by
    cases e
    exact h
  | n + 1, row, r, h, e => by
    unfold lawFilled at e
    obtain ⟨j, _, _, e2⟩ := firstFrom_some e
    simp only at e2
    split at e2
    · rename_i c
      exact lawFilled_part cell n _ r (h.put c.1 c.2) e2
    · cases e2
def mask (n : Nat) (S : List Int) : List Int := S.map fun x => if (n : Int) < x then x else 0
theorem mask_at (n : Nat) (S : List Int) (j : Nat) : (mask n S)[j]? = S[j]?.map fun x => if (n : Int) < x then x else 0 := by
  unfold mask
  rw [List.getElem?_map]
theorem lawFilled_found (cell : Int) {size : Nat} {S : List Int} (hS : isRow S = true) (hl : S.length = 2 * size) : ∀ n : Nat, n ≤ size → lawFilled cell n (mask n S) ≠ none
  | 0, _ => by simp [lawFilled]
  | n + 1, hn => by
    have ih := lawFilled_found cell hS hl n (by omega)
    have hml : (mask (n + 1) S).length = 2 * size := by unfold mask; rw [List.length_map, hl]
    have hg := ((isRow_iff S).mp hS).2.2.2 ((n + 1 : Nat) : Int) (by omega) (by rw [hl]; omega)
    obtain ⟨p, p1, p2, p3⟩ := (good_iff _ _ (by omega)).mp hg
    have e : (((n + 1 : Nat) : Int)).toNat = n + 1 := by omega
    rw [e] at p2 p3
    have hp : p + (n + 1) < 2 * size := by
      have := (List.getElem?_eq_some_iff.mp p2).1
      rwa [hl] at this
    unfold lawFilled
    obtain ⟨i, i1, i2⟩ := placeOf_hit (cell := cell) (m := n + 1) (spare := (mask (n + 1) S).length - (n + 1)) (p := p) (by rw [hml]; omega)
    refine firstFrom_ne (j := i) (Nat.zero_le _) (by omega) ?_
    simp only [i2]
    have z1 : (mask (n + 1) S)[p]? = some 0 := by
      rw [mask_at, p1]
      simp
    have z2 : (mask (n + 1) S)[p + (n + 1)]? = some 0 := by
      rw [mask_at, p2]
      simp
    rw [if_pos ⟨z1, z2⟩]
    have em : put2 (mask (n + 1) S) p (n + 1) = mask n S := by
      apply List.ext_getElem?
      intro j
      rw [put2_at (by omega) (by rw [hml]; exact hp), mask_at, mask_at]
      split
      · rename_i c
        have : S[j]? = some ((n + 1 : Nat) : Int) := by
          rcases c with rfl | rfl
          · exact p1
          · exact p2
        rw [this]
        simp
        omega
      · rename_i c
        cases hj : S[j]? with
        | none => rfl
        | some x =>
          have hx : x ≠ ((n + 1 : Nat) : Int) := fun z => by
            rw [z] at hj
            exact c (p3 j hj)
          simp only [Option.map_some]
          congr 1
          by_cases hlt : (n : Int) < x
          · rw [if_pos hlt, if_pos (by omega)]
          · rw [if_neg hlt, if_neg (by omega)]
    rw [em]
    exact ih
/-- trying places finds a row -/
theorem lawFilled_row (cell : Int) {size : Nat} (h1 : 1 ≤ size) (h2 : size ≤ 400) (h3 : size % 4 < 2) : ∃ r, lawFilled cell size (List.replicate (2 * size) 0) = some r ∧ isRow r = true ∧ r.length = 2 * size := by
  have hS := rowOf_row (size := (size : Int)) (by omega) (by omega) (by omega)
  have hl : (rowOf (size : Int)).length = 2 * size := by rw [rowOf_length]; omega
  have em : mask size (rowOf (size : Int)) = List.replicate (2 * size) 0 := by
    refine List.eq_replicate_iff.mpr ⟨by unfold mask; rw [List.length_map, hl], fun x hx => ?_⟩
    unfold mask at hx
    obtain ⟨y, hy, rfl⟩ := List.mem_map.mp hx
    have := isRow_bound hS y hy
    rw [hl] at this
    rw [if_neg (by omega)]
  have hne := lawFilled_found cell hS hl size (Nat.le_refl _)
  rw [em] at hne
  obtain ⟨r, hr⟩ := Option.ne_none_iff_exists'.mp hne
  have hp := lawFilled_part cell size _ r (size := size) ⟨by simp, fun x hx => .inl (List.eq_of_mem_replicate hx), fun m m1 m2 => by omega⟩ hr
  refine ⟨r, hr, (isRow_iff r).mpr ⟨by have := hp.len; omega, by have := hp.len; omega, by have := hp.len; omega, fun k k1 k2 => hp.ok k (by omega) (by have := hp.len; omega)⟩, hp.len⟩
end Sa

/-! PLAIN the third of two -/
namespace Sa
def nOf (row : List Int) : Int := ((row.length / 2 : Nat) : Int)
def NOf (row : List Int) : Int := 6 * nOf row + 1
/-- the number k tells of the step d the step e on to the third -/
structure Stp (row : List Int) (k d e : Int) : Prop where
  ex : ∃ p q : Nat, spots row k = [(p : Int), (q : Int)] ∧ (q : Int) - p = k ∧ (q : Int) < 2 * nOf row ∧ 1 ≤ k ∧ k ≤ nOf row ∧
    ((d = k ∧ e = nOf row + q + 1) ∨ (d = nOf row + q + 1 ∧ e = k) ∨ (d = nOf row + p + 1 ∧ e = 0 - k))
theorem isRow_two {row : List Int} (h : isRow row = true) : (row.length : Int) = 2 * nOf row := by
  have := ((isRow_iff row).mp h).1
  unfold nOf
  omega
theorem nOf_pos {row : List Int} (h : isRow row = true) : 1 ≤ nOf row ∧ nOf row ≤ 400 := by
  obtain ⟨_, h2, h3, _⟩ := (isRow_iff row).mp h
  unfold nOf
  omega
/-- the two places of a number of a row -/
theorem row_spots {row : List Int} (h : isRow row = true) {k : Int} (h1 : 1 ≤ k) (h2 : k ≤ nOf row) : ∃ p q : Nat, spots row k = [(p : Int), (q : Int)] ∧ (q : Int) - p = k ∧ (q : Int) < 2 * nOf row := by
  obtain ⟨a, b, e, e2, e3⟩ := isRow_spots h h1 h2
  exact ⟨a, b, e, e2, by rw [← isRow_two h]; omega⟩
theorem stp_range {row : List Int} {k d e : Int} (h : Stp row k d e) : 1 ≤ d ∧ d ≤ 3 * nOf row ∧ 0 - nOf row ≤ e ∧ e ≤ 3 * nOf row ∧ e ≠ 0 ∧ e ≠ d ∧ 1 ≤ k ∧ k ≤ nOf row := by
  obtain ⟨p, q, _, h2, h3, h4, h5, h6⟩ := h.ex
  omega
theorem stp_total {row : List Int} (h : isRow row = true) {d : Int} (h1 : 1 ≤ d) (h2 : d ≤ 3 * nOf row) : ∃ k e, Stp row k d e := by
  by_cases hd : d ≤ nOf row
  · obtain ⟨p, q, e1, e2, e3⟩ := row_spots h h1 hd
    exact ⟨d, _, ⟨p, q, e1, e2, e3, h1, hd, .inl ⟨rfl, rfl⟩⟩⟩
  · have hp : (d - nOf row - 1).toNat < row.length := by
      have := isRow_two h
      omega
    obtain ⟨k, hk⟩ : ∃ k, row[(d - nOf row - 1).toNat]? = some k := ⟨_, List.getElem?_eq_getElem hp⟩
    have hb := isRow_bound h k (List.mem_of_getElem? hk)
    obtain ⟨p, q, e1, e2, e3⟩ := row_spots h hb.1 hb.2
    have hm := (mem_spots row k (((d - nOf row - 1).toNat : Nat) : Int)).mpr ⟨_, hk, rfl⟩
    rw [e1] at hm
    simp at hm
    rcases hm with hm | hm
    · exact ⟨k, _, ⟨p, q, e1, e2, e3, hb.1, hb.2, .inr (.inr ⟨by omega, rfl⟩)⟩⟩
    · exact ⟨k, _, ⟨p, q, e1, e2, e3, hb.1, hb.2, .inr (.inl ⟨by omega, rfl⟩)⟩⟩
theorem stp_fun {row : List Int} {k d e k' e' : Int} (h : Stp row k d e) (h' : Stp row k' d e') : k = k' ∧ e = e' := by
  obtain ⟨p, q, a1, a2, a3, a4, a5, a6⟩ := h.ex
  obtain ⟨p', q', b1, b2, b3, b4, b5, b6⟩ := h'.ex
  have at1 : row[p]? = some k := by
    obtain ⟨j, hj, e⟩ := (mem_spots row k p).mp (by rw [a1]; simp)
    rw [show p = j by omega]; exact hj
  have at2 : row[q]? = some k := by
    obtain ⟨j, hj, e⟩ := (mem_spots row k q).mp (by rw [a1]; simp)
    rw [show q = j by omega]; exact hj
  have at3 : row[p']? = some k' := by
    obtain ⟨j, hj, e⟩ := (mem_spots row k' p').mp (by rw [b1]; simp)
    rw [show p' = j by omega]; exact hj
  have at4 : row[q']? = some k' := by
    obtain ⟨j, hj, e⟩ := (mem_spots row k' q').mp (by rw [b1]; simp)
    rw [show q' = j by omega]; exact hj
  have same : k = k' := by
    rcases a6 with ⟨c1, c2⟩ | ⟨c1, c2⟩ | ⟨c1, c2⟩ <;> rcases b6 with ⟨d1, d2⟩ | ⟨d1, d2⟩ | ⟨d1, d2⟩
    · omega
    · omega
    · omega
    · omega
    · have : q = q' := by omega
      rw [this, at4] at at2; exact (Option.some.inj at2).symm
    · have : q = p' := by omega
      rw [this, at3] at at2; exact (Option.some.inj at2).symm
    · omega
    · have : p = q' := by omega
      rw [this, at4] at at1; exact (Option.some.inj at1).symm
    · have : p = p' := by omega
      rw [this, at3] at at1; exact (Option.some.inj at1).symm
  subst same
  rw [a1] at b1
  have e1 : (p : Int) = p' ∧ (q : Int) = q' := by simpa using b1
  refine ⟨rfl, ?_⟩
  omega
/-- x and y differ by N, or not at all -/
def Cg (N x y : Int) : Prop := x = y ∨ x = y - N ∨ x = y + N
theorem cg_emod {N x : Int} (h : 0 < N) (h1 : 0 - N ≤ x) (h2 : x < 2 * N) : Cg N (x % N) x ∧ 0 ≤ x % N ∧ x % N < N := by
  refine ⟨?_, Int.emod_nonneg _ (by omega), Int.emod_lt_of_pos _ h⟩
  unfold Cg
  by_cases c : x < 0
  · right; right
    rw [← Int.add_emod_right, Int.emod_eq_of_lt (by omega) (by omega)]
  · by_cases c2 : x < N
    · left
      exact Int.emod_eq_of_lt (by omega) c2
    · right; left
      rw [← Int.sub_emod_right, Int.emod_eq_of_lt (by omega) (by omega)]
/-- c is with a and b -/
structure Thd (row : List Int) (a b c : Int) : Prop where
  ra : 0 ≤ a ∧ a < NOf row
  rb : 0 ≤ b ∧ b < NOf row
  rc : 0 ≤ c ∧ c < NOf row
  ex : ∃ k d e, Stp row k d e ∧ ((Cg (NOf row) (b - a) d ∧ Cg (NOf row) (c - a) e) ∨ (Cg (NOf row) (a - b) d ∧ Cg (NOf row) (c - b) e))
theorem Thd.symm {row : List Int} {a b c : Int} (h : Thd row a b c) : Thd row b a c := by
  obtain ⟨k, d, e, s, g⟩ := h.ex
  exact ⟨h.rb, h.ra, h.rc, k, d, e, s, g.symm⟩
theorem Thd.ne {row : List Int} {a b c : Int} (h : Thd row a b c) : a ≠ b ∧ a ≠ c ∧ b ≠ c := by
  obtain ⟨k, d, e, s, g⟩ := h.ex
  have r := stp_range s
  have ra := h.ra
  have rb := h.rb
  have rc := h.rc
  unfold Cg NOf at *
  omega
theorem Thd.uniq {row : List Int} {a b c c' : Int} (h : Thd row a b c) (h' : Thd row a b c') : c = c' := by
  obtain ⟨k, d, e, s, g⟩ := h.ex
  obtain ⟨k', d', e', s', g'⟩ := h'.ex
  have r := stp_range s
  have r' := stp_range s'
  have ra := h.ra
  have rb := h.rb
  have rc := h.rc
  have rc' := h'.rc
  have ed : d = d' := by
    unfold Cg NOf at *
    omega
  subst ed
  have ee := (stp_fun s s').2
  subst ee
  unfold Cg NOf at *
  omega
theorem thd_total {row : List Int} (h : isRow row = true) {a b : Int} (ra : 0 ≤ a ∧ a < NOf row) (rb : 0 ≤ b ∧ b < NOf row) (ne : a ≠ b) : ∃ c, Thd row a b c := by
  have mk : ∀ x y : Int, 0 ≤ x ∧ x < NOf row → 0 ≤ y ∧ y < NOf row → (∃ d, 1 ≤ d ∧ d ≤ 3 * nOf row ∧ Cg (NOf row) (y - x) d) → ∃ c, Thd row x y c := by
    rintro x y rx ry ⟨d, d1, d2, g⟩
    obtain ⟨k, e, s⟩ := stp_total h d1 d2
    have r := stp_range s
    have q := cg_emod (N := NOf row) (x := x + e) (by omega) (by unfold NOf at *; omega) (by unfold NOf at *; omega)
    exact ⟨(x + e) % NOf row, rx, ry, q.2, k, d, e, s, .inl ⟨g, by have := q.1; unfold Cg at *; omega⟩⟩
  by_cases c : (1 ≤ b - a ∧ b - a ≤ 3 * nOf row) ∨ b - a + NOf row ≤ 3 * nOf row
  · rcases c with c | c
    · exact mk a b ra rb ⟨b - a, c.1, c.2, .inl rfl⟩
    · exact mk a b ra rb ⟨b - a + NOf row, by omega, c, .inr (.inl (by omega))⟩
  · have : ∃ c, Thd row b a c := by
      by_cases c2 : 1 ≤ a - b
      · exact mk b a rb ra ⟨a - b, c2, by unfold NOf at *; omega, .inl rfl⟩
      · exact mk b a rb ra ⟨a - b + NOf row, by unfold NOf at *; omega, by unfold NOf at *; omega, .inr (.inl (by omega))⟩
    obtain ⟨z, hz⟩ := this
    exact ⟨z, hz.symm⟩
theorem Thd.rot {row : List Int} {a b c : Int} (h : Thd row a b c) : Thd row c a b := by
  obtain ⟨k, d, e, s, g⟩ := h.ex
  obtain ⟨p, q, a1, a2, a3, a4, a5, a6⟩ := s.ex
  have s1 : Stp row k k (nOf row + q + 1) := ⟨p, q, a1, a2, a3, a4, a5, .inl ⟨rfl, rfl⟩⟩
  have s2 : Stp row k (nOf row + q + 1) k := ⟨p, q, a1, a2, a3, a4, a5, .inr (.inl ⟨rfl, rfl⟩)⟩
  have s3 : Stp row k (nOf row + p + 1) (0 - k) := ⟨p, q, a1, a2, a3, a4, a5, .inr (.inr ⟨rfl, rfl⟩)⟩
  have ra := h.ra
  have rb := h.rb
  have rc := h.rc
  have cg : ∀ {x y x' y' : Int}, x - y = x' - y' → Cg (NOf row) x y → Cg (NOf row) x' y' := fun h1 h2 => by
    unfold Cg at *
    omega
  unfold Cg NOf at g ra rb rc
  refine ⟨h.rc, h.ra, h.rb, ?_⟩
  unfold Cg NOf
  rcases g with ⟨g1, g2⟩ | ⟨g1, g2⟩ <;> rcases a6 with ⟨c1, c2⟩ | ⟨c1, c2⟩ | ⟨c1, c2⟩
  · exact ⟨k, _, _, s2, .inr ⟨by omega, by omega⟩⟩
  · exact ⟨k, _, _, s1, .inr ⟨by omega, by omega⟩⟩
  · exact ⟨k, _, _, s1, .inl ⟨by omega, by omega⟩⟩
  · exact ⟨k, _, _, s3, .inr ⟨by omega, by omega⟩⟩
  · exact ⟨k, _, _, s3, .inl ⟨by omega, by omega⟩⟩
  · exact ⟨k, _, _, s2, .inl ⟨by omega, by omega⟩⟩
theorem Thd.rot2 {row : List Int} {a b c : Int} (h : Thd row a b c) : Thd row b c a := h.rot.rot
theorem Thd.turn {row : List Int} {a b c t a' b' c' : Int} (h : Thd row a b c) (ht : 0 ≤ t ∧ t < NOf row) (ha : a' = (a + t) % NOf row) (hb : b' = (b + t) % NOf row) (hc : c' = (c + t) % NOf row) : Thd row a' b' c' := by
  obtain ⟨k, d, e, s, g⟩ := h.ex
  have r := stp_range s
  have ra := h.ra
  have rb := h.rb
  have rc := h.rc
  have qa := cg_emod (N := NOf row) (x := a + t) (by omega) (by omega) (by omega)
  have qb := cg_emod (N := NOf row) (x := b + t) (by omega) (by omega) (by omega)
  have qc := cg_emod (N := NOf row) (x := c + t) (by omega) (by omega) (by omega)
  rw [← ha] at qa
  rw [← hb] at qb
  rw [← hc] at qc
  refine ⟨qa.2, qb.2, qc.2, k, d, e, s, ?_⟩
  obtain ⟨qa, qa2⟩ := qa
  obtain ⟨qb, qb2⟩ := qb
  obtain ⟨qc, qc2⟩ := qc
  clear ha hb hc
  unfold Cg NOf at *
  rcases g with ⟨g1, g2⟩ | ⟨g1, g2⟩
  · left
    constructor <;> omega
  · right
    constructor <;> omega
/-- the three that a number tells, turned -/
theorem thd_base {row : List Int} {k t : Int} {p q : Nat} (e : spots row k = [(p : Int), (q : Int)]) (e2 : (q : Int) - p = k) (e3 : (q : Int) < 2 * nOf row) (h1 : 1 ≤ k) (h2 : k ≤ nOf row) (ht : 0 ≤ t ∧ t < NOf row) :
    Thd row ((0 + t) % NOf row) ((k + t) % NOf row) ((nOf row + q + 1 + t) % NOf row) := by
  have hN : 0 < NOf row := by unfold NOf; omega
  have : Thd row 0 k (nOf row + q + 1) := ⟨⟨by omega, hN⟩, ⟨by omega, by unfold NOf; omega⟩, ⟨by omega, by unfold NOf; omega⟩, k, k, _, ⟨p, q, e, e2, e3, h1, h2, .inl ⟨rfl, rfl⟩⟩, .inl ⟨.inl (by omega), .inl (by omega)⟩⟩
  exact this.turn ht rfl rfl rfl
/-- each two are of three that a number tells, turned -/
theorem thd_made {row : List Int} {a b c : Int} (h : Thd row a b c) : ∃ (k t : Int) (p q : Nat), spots row k = [(p : Int), (q : Int)] ∧ (q : Int) - p = k ∧ (q : Int) < 2 * nOf row ∧ 1 ≤ k ∧ k ≤ nOf row ∧ (0 ≤ t ∧ t < NOf row) ∧
    ∃ x y z, x = (0 + t) % NOf row ∧ y = (k + t) % NOf row ∧ z = (nOf row + q + 1 + t) % NOf row ∧ ((a = x ∧ b = y) ∨ (a = y ∧ b = z) ∨ (a = x ∧ b = z) ∨ (b = x ∧ a = y) ∨ (b = y ∧ a = z) ∨ (b = x ∧ a = z)) := by
  obtain ⟨k, d, e, s, g⟩ := h.ex
  obtain ⟨p, q, a1, a2, a3, a4, a5, a6⟩ := s.ex
  have ra := h.ra
  have rb := h.rb
  have key : ∀ x y d : Int, 0 ≤ x ∧ x < NOf row → 0 ≤ y ∧ y < NOf row → Cg (NOf row) (y - x) d → (d = k ∨ d = nOf row + q + 1 ∨ d = nOf row + p + 1) → ∃ t, (0 ≤ t ∧ t < NOf row) ∧ ∃ u v w, u = (0 + t) % NOf row ∧ v = (k + t) % NOf row ∧ w = (nOf row + q + 1 + t) % NOf row ∧ ((x = u ∧ y = v) ∨ (x = v ∧ y = w) ∨ (x = u ∧ y = w)) := by
    intro x y d rx ry g hd
    have fin : ∀ t : Int, 0 ≤ t ∧ t < NOf row → (Cg (NOf row) x t ∧ Cg (NOf row) y (k + t)) ∨ (Cg (NOf row) x (k + t) ∧ Cg (NOf row) y (nOf row + q + 1 + t)) ∨ (Cg (NOf row) x t ∧ Cg (NOf row) y (nOf row + q + 1 + t)) →
        ∃ t, (0 ≤ t ∧ t < NOf row) ∧ ∃ u v w, u = (0 + t) % NOf row ∧ v = (k + t) % NOf row ∧ w = (nOf row + q + 1 + t) % NOf row ∧ ((x = u ∧ y = v) ∨ (x = v ∧ y = w) ∨ (x = u ∧ y = w)) := by
      intro t ht o
      refine ⟨t, ht, _, _, _, rfl, rfl, rfl, ?_⟩
      have q1 := cg_emod (N := NOf row) (x := 0 + t) (by omega) (by omega) (by omega)
      have q2 := cg_emod (N := NOf row) (x := k + t) (by omega) (by omega) (by unfold NOf at *; omega)
      have q3 := cg_emod (N := NOf row) (x := nOf row + q + 1 + t) (by omega) (by omega) (by unfold NOf at *; omega)
      generalize (0 + t) % NOf row = u at q1
      generalize (k + t) % NOf row = v at q2
      generalize (nOf row + q + 1 + t) % NOf row = w at q3
      obtain ⟨q1, q1b⟩ := q1
      obtain ⟨q2, q2b⟩ := q2
      obtain ⟨q3, q3b⟩ := q3
      rcases o with ⟨o1, o2⟩ | ⟨o1, o2⟩ | ⟨o1, o2⟩
      · left
        unfold Cg at *
        constructor <;> omega
      · right; left
        unfold Cg at *
        constructor <;> omega
      · right; right
        unfold Cg at *
        constructor <;> omega
    rcases hd with rfl | rfl | rfl
    · exact fin x rx (.inl ⟨.inl rfl, by unfold Cg at *; omega⟩)
    · exact fin x rx (.inr (.inr ⟨.inl rfl, by unfold Cg at *; omega⟩))
    · have q1 := cg_emod (N := NOf row) (x := x - k) (by omega) (by unfold NOf at *; omega) (by unfold NOf at *; omega)
      exact fin _ q1.2 (.inr (.inl ⟨by have := q1.1; unfold Cg at *; omega, by have := q1.1; have := q1.2; unfold Cg NOf at *; omega⟩))
  have hd : d = k ∨ d = nOf row + q + 1 ∨ d = nOf row + p + 1 := by
    rcases a6 with ⟨c, _⟩ | ⟨c, _⟩ | ⟨c, _⟩
    · exact .inl c
    · exact .inr (.inl c)
    · exact .inr (.inr c)
  rcases g with ⟨g, _⟩ | ⟨g, _⟩
  · obtain ⟨t, ht, u, v, w, e1, e2, e3, o⟩ := key a b d ra rb g hd
    refine ⟨k, t, p, q, a1, a2, a3, a4, a5, ht, u, v, w, e1, e2, e3, ?_⟩
    rcases o with o | o | o
    · exact .inl o
    · exact .inr (.inl o)
    · exact .inr (.inr (.inl o))
  · obtain ⟨t, ht, u, v, w, e1, e2, e3, o⟩ := key b a d rb ra g hd
    refine ⟨k, t, p, q, a1, a2, a3, a4, a5, ht, u, v, w, e1, e2, e3, ?_⟩
    rcases o with o | o | o
    · exact .inr (.inr (.inr (.inl o)))
    · exact .inr (.inr (.inr (.inr (.inl o))))
    · exact .inr (.inr (.inr (.inr (.inr o))))
end Sa

namespace Sa
open PySem PySem.Spec PyProof.Rows L2
def topS (i : Nat) : Stmt := PySem.Challenge.pw_sameapart_k11_read_or_refused.main.body.getD i (.Pass ⟨0, 0, 0, 0⟩)
abbrev st_found_places : Stmt := topS 9
abbrev st_is_row : Stmt := topS 10
abbrev st_number_of : Stmt := topS 13
abbrev st_read : Stmt := topS 14
abbrev st_law_cell_at : Stmt := topS 16
abbrev st_law_draw : Stmt := topS 17
abbrev st_law_is_row : Stmt := topS 18
abbrev st_law_filled : Stmt := topS 19
abbrev st_law_small_row : Stmt := topS 20
abbrev st_law_word_of : Stmt := topS 21
abbrev st_law_due : Stmt := topS 22
abbrev st_law_told : Stmt := topS 23
abbrev st_law_spoilt : Stmt := topS 24
abbrev st_law : Stmt := topS 25
/-! ### words for a def of the text, for the built-in names, for an error class -/
section
/-- a def of the text as it stands behind the top, under its name -/
structure Df (K : PySem.W.Frag) (mg : Str → Option Value) (x : Str) (st : Stmt) (ps : List Str) : Prop where
  ex : ∃ (f : Addr) (fd : FuncData), Fun K x x st f fd ∧ Binds K fd ps [] ∧ mg x = some (.ref f)
/-- a def whose promise is known -/
structure Kn (P : Program) (w : World) (K : PySem.W.Frag) (mg : Str → Option Value) (base : Heap) (CX : CXT) (k : Nat) (x : Str) (ps : List Str) (sp : Sp) : Prop where
  ex : ∃ (f : Addr) (fd : FuncData), FnOk P w K mg base CX k f fd ps sp ∧ PySem.W.keepIn K (.ref f) = true ∧ Binds K fd ps [] ∧ mg x = some (.ref f)
/-- the built-in names are not bound by the module -/
structure Bl (mg : Str → Option Value) : Prop where
  len_ : mg "len" = none
  range_ : mg "range" = none
  enumerate_ : mg "enumerate" = none
  list_ : mg "list" = none
  reversed_ : mg "reversed" = none
  sorted_ : mg "sorted" = none
  tuple_ : mg "tuple" = none
  min_ : mg "min" = none
  max_ : mg "max" = none
  isinstance_ : mg "isinstance" = none
  int_ : mg "int" = none
  str_ : mg "str" = none
  bool_ : mg "bool" = none
  all_ : mg "all" = none
  ValueError_ : mg "ValueError" = none
/-- an error class of the text -/
structure Ec (K : PySem.W.Frag) (mg : Str → Option Value) (x : Str) (C : Addr) : Prop where
  g : mg x = some (.ref C)
  x : PySem.W.excIn K C [.type "ValueError", .type "Exception", .type "BaseException", .type "object"] "ValueError.__new__" = true
  k : PySem.W.keepIn K (.ref C) = true
  b : PySem.W.subIn K (.ref C) (.type "BaseException") = some true
  t : PySem.W.typeIn K (.ref C) = some (.type "type")
variable {P : Program} {w : World} {K : PySem.W.Frag} {mg : Str → Option Value} {base : Heap}
theorem Df.kn {x : Str} {st : Stmt} {ps N : List Str} {k : Nat} {sp : Sp} (D : Df K mg x st ps) (S : FnScope N ps (defScope st)) (len : ∀ vs H Q E, sp vs H Q E → vs.length = ps.length)
    (hbody : ∀ (f : Addr) (cdv : Value) (A : Around) (outer : List Env) (s : Shared) (H : Hp) (vs : List V) (Q : VK) (E : XK), Room k (A.deeper (envOfC x (defScope st) s.heap.objs.size f cdv)) → sp vs H Q E →
      ∃ t, PSs (cxOf CX0 P w K mg base N x (defScope st) f cdv A outer s H E).nox (defBody st) t ∧ t { nx := fun _ H' => Q .non H', rt := Q } (start N vs) H) : Kn P w K mg base CX0 (k + 1) x ps sp := by
  obtain ⟨f, fd, F, b, g⟩ := D.ex
  exact ⟨f, fd, F.ok S len (hbody f), F.kp, b, g⟩
theorem Df.knX {x : Str} {st : Stmt} {ps N : List Str} {k : Nat} {sp : Sp} (D : Df K mg x st ps) (S : FnScope N ps (defScope st)) (len : ∀ vs H Q E, sp vs H Q E → vs.length = ps.length)
    (hbody : ∀ (f : Addr) (cdv : Value) (A : Around) (outer : List Env) (s : Shared) (H : Hp) (vs : List V) (Q : VK) (E : XK), Room k (A.deeper (envOfC x (defScope st) s.heap.objs.size f cdv)) → sp vs H Q E →
      ∃ t, PSs (cxOf (L2.CX P w) P w K mg base N x (defScope st) f cdv A outer s H E) (defBody st) t ∧ t { nx := fun _ H' => Q .non H', rt := Q } (start N vs) H) : Kn P w K mg base (L2.CX P w) (k + 1) x ps sp := by
  obtain ⟨f, fd, F, b, g⟩ := D.ex
  exact ⟨f, fd, F.okX S len (hbody f), F.kp, b, g⟩
theorem Kn.imp {CX : CXT} {k : Nat} {x : Str} {ps : List Str} {sp sp' : Sp} (N : Kn P w K mg base CX k x ps sp) (h : ∀ vs H Q E, sp' vs H Q E → sp vs H Q E) : Kn P w K mg base CX k x ps sp' := by
  obtain ⟨f, fd, F, r⟩ := N.ex
  exact ⟨f, fd, F.imp h, r⟩
theorem Kn.mono {CX : CXT} {j k : Nat} {x : Str} {ps : List Str} {sp : Sp} (N : Kn P w K mg base CX j x ps sp) (h : j ≤ k) : Kn P w K mg base CX k x ps sp := by
  obtain ⟨f, fd, F, r⟩ := N.ex
  exact ⟨f, fd, F.mono h, r⟩
end
section
variable {X : Cx} {CX : CXT} {k : Nat} {x : Str} {ps : List Str} {sp : Sp} {p pos : Pos} {e : Expr} {es : List Expr} {t : TA}
/-- a call of a def that lets no error out -/
theorem pe_k0 (N : Kn X.prog X.w X.K X.mg X.base CX0 k x ps sp) (hr : Room k X.A) (hg : Gl X x) (ha : PA X (e :: es) t) (hdb : (x == ("__debug__" : Str)) = false := by decide)
    (he : starEach (e :: es) X.env = (false, eval e X.env) :: starEach es X.env := by rfl) (hpl : (backTo pos (starEach es X.env)).any (·.1) = false := by rfl) : PE X (.Call (.Name x p) (e :: es) [] pos) (tCall sp [] E0 t) := by
  obtain ⟨f, fd, F, kp, b, g⟩ := N.ex
  exact pe_call F hr hg g kp b .nil pass0 ha hdb he hpl
/-- a call of a def that may let one out but here does not -/
theorem pe_kL (N : Kn X.prog X.w X.K X.mg X.base (L2.CX X.prog X.w) k x ps sp) (hr : Room k X.A) (hg : Gl X x) (ha : PA X (e :: es) t) (hdb : (x == ("__debug__" : Str)) = false := by decide)
    (he : starEach (e :: es) X.env = (false, eval e X.env) :: starEach es X.env := by rfl) (hpl : (backTo pos (starEach es X.env)).any (·.1) = false := by rfl) : PE X (.Call (.Name x p) (e :: es) [] pos) (tCall sp [] E0 t) := by
  obtain ⟨f, fd, F, kp, b, g⟩ := N.ex
  exact pe_call F hr hg g kp b .nil passL ha hdb he hpl
/-- .. whose error goes on out of the def at hand -/
theorem pe_kE {E : XK} (N : Kn X.prog X.w X.K X.mg X.base (L2.CX X.prog X.w) k x ps sp) (tk : Takes X (fun cls d _ H => E cls d H)) (hr : Room k X.A) (hg : Gl X x) (ha : PA X (e :: es) t) (hdb : (x == ("__debug__" : Str)) = false := by decide)
    (he : starEach (e :: es) X.env = (false, eval e X.env) :: starEach es X.env := by rfl) (hpl : (backTo pos (starEach es X.env)).any (·.1) = false := by rfl) : PE X (.Call (.Name x p) (e :: es) [] pos) (tCall sp [] E t) := by
  obtain ⟨f, fd, F, kp, b, g⟩ := N.ex
  exact pe_call F hr hg g kp b .nil (passes_call tk (fun _ _ _ _ h => h)) ha hdb he hpl
end
section
variable {X : Cx} {x : Str} {pos : Pos}
theorem pe_globI {n : Int} {tk : Tok} (hg : Gl X x) (hm : X.mg x = some (.int n tk)) (hd : (x == ("__debug__" : Str)) = false := by decide) : PE X (.Name x pos) (tC (.int n)) := pe_glob hg hm ⟨_, rfl⟩ hd
theorem pe_globS {n : Str} {tk : Tok} (hg : Gl X x) (hm : X.mg x = some (.str n tk)) (hd : (x == ("__debug__" : Str)) = false := by decide) : PE X (.Name x pos) (tC (.str n)) := pe_glob hg hm ⟨_, rfl⟩ hd
end
/-! ### heaps, lists of ints -/
theorem same_upd {H : Hp} {p : Addr} {o : HO} (h : H p = none) : Same H (upd H p o) := fun b x e => by
  rw [upd_ne (ne_of_none e h)]
  exact e
theorem _root_.L2.Same.new {H H' : Hp} {p : Addr} {o : HO} (s : Same H H') (h : H' p = none) : Same H (upd H' p o) := s.trans (same_upd h)
/-- what was made behind H may be changed -/
theorem _root_.L2.Same.own {H H' : Hp} {p : Addr} {o : HO} (s : Same H H') (h : H p = none) : Same H (upd H' p o) := fun b x e => by
  rw [upd_ne (ne_of_none e h)]
  exact s b x e
theorem line_eq : (sizeLine : Nat) = 16777216 := sizeLine_eq
theorem small {n : Nat} (h : n ≤ 16777216) : n ≤ sizeLine := by rw [line_eq]; exact h
theorem smaller {n : Nat} (h : n < 16777216) : n < sizeLine := by rw [line_eq]; exact h
theorem ints_get {ns : List Int} {i : Nat} {n : Int} (h : ns[i]? = some n) : (ns.map V.int)[i]? = some (.int n) := by
  rw [List.getElem?_map, h]
  rfl
theorem of_ints_get {ns : List Int} {i : Nat} {y : V} (h : (ns.map V.int)[i]? = some y) : ∃ z, ns[i]? = some z ∧ y = V.int z := by
  rw [List.getElem?_map] at h
  cases e : ns[i]? with
  | none =>
    rw [e] at h
    cases h
  | some z =>
    rw [e] at h
    exact ⟨z, rfl, (Option.some.inj h).symm⟩
theorem ints_len (ns : List Int) : (ns.map V.int).length = ns.length := List.length_map _
/-- an item at a place that is not below nought -/
theorem at_ints {ns : List Int} {i : Int} {n : Int} (h0 : 0 ≤ i) (h : ns[i.toNat]? = some n) : atI (ns.map V.int) i = some (.int n) := by
  have q : atI (ns.map V.int) ((i.toNat : Nat) : Int) = some (.int n) := atI_nat (ints_get h)
  rwa [Int.toNat_of_nonneg h0] at q
theorem at_vals {α : Type} {xs : List α} {i : Int} {v : α} (h0 : 0 ≤ i) (h : xs[i.toNat]? = some v) : atI xs i = some v := by
  have q : atI xs ((i.toNat : Nat) : Int) = some v := atI_nat h
  rwa [Int.toNat_of_nonneg h0] at q
theorem take_snoc {α : Type} {l : List α} {i : Nat} {x : α} (h : l[i]? = some x) : l.take (i + 1) = l.take i ++ [x] := by
  rw [List.take_add_one, h]
  rfl

/-! ### == of data made of ints -/
section
variable {K : PySem.W.Frag} {H : Hp}
theorem dpAll_ints : ∀ ns : List Int, DpAll K H (ns.map V.int) (ns.map PyData.int)
  | [] => .nil
  | n :: r => .cons (.int n) (dpAll_ints r)
theorem dp_list {a : Addr} {ns : List Int} (h : SqL K H a (ns.map V.int)) : Dp K H (.ref a) (.list (ns.map PyData.int)) := .lst h (dpAll_ints ns)
theorem dp_tup {a : Addr} {ns : List Int} (h : SqT K H a (ns.map V.int)) : Dp K H (.ref a) (.tuple (ns.map PyData.int)) := .tup h (dpAll_ints ns)
end
theorem lay_ints : ∀ ns : List Int, PyData.canLayAll0 (ns.map PyData.int) = true
  | [] => by simp [PyData.canLayAll0]
  | n :: r => by simp [PyData.canLayAll0, PyData.canLay0, lay_ints r]
theorem depth_ints : ∀ ns : List Int, PyData.depthAll (ns.map PyData.int) = 0
  | [] => by simp [PyData.depthAll]
  | n :: r => by simp [PyData.depthAll, PyData.depth, depth_ints r]
theorem shaped_list (ns : List Int) : SeqAt.shaped (.list (ns.map PyData.int)) = true := by
  show (PyData.canLay0 (.list (ns.map PyData.int)) && decide (PyData.depth (.list (ns.map PyData.int)) ≤ 64)) = true
  simp [PyData.canLay0, PyData.depth, lay_ints, depth_ints]
theorem shaped_tup (ns : List Int) : SeqAt.shaped (.tuple (ns.map PyData.int)) = true := by
  show (PyData.canLay0 (.tuple (ns.map PyData.int)) && decide (PyData.depth (.tuple (ns.map PyData.int)) ≤ 64)) = true
  simp [PyData.canLay0, PyData.depth, lay_ints, depth_ints]
theorem eqvAll_ints : ∀ xs ys : List Int, PyData.eqvAll (xs.map PyData.int) (ys.map PyData.int) = decide (xs = ys)
  | [], [] => by simp [PyData.eqvAll]
  | [], _ :: _ => by simp [PyData.eqvAll]
  | _ :: _, [] => by simp [PyData.eqvAll]
  | x :: xs, y :: ys => by
    have ih := eqvAll_ints xs ys
    simp only [List.map_cons, PyData.eqvAll, PyData.eqv, ih, List.cons.injEq]
    by_cases h : x = y <;> simp [h]
theorem eqv_lists (xs ys : List Int) : PyData.eqv (.list (xs.map PyData.int)) (.list (ys.map PyData.int)) = decide (xs = ys) := by
  simp only [PyData.eqv, eqvAll_ints]
theorem eqv_tups (xs ys : List Int) : PyData.eqv (.tuple (xs.map PyData.int)) (.tuple (ys.map PyData.int)) = decide (xs = ys) := by
  simp only [PyData.eqv, eqvAll_ints]
/-- .. the answers of == and != of two lists, two tuples of ints -/
theorem eqD_lists {K : PySem.W.Frag} {H : Hp} {Q : VK} {a b : Addr} {xs ys : List Int} (ha : SqL K H a (xs.map V.int)) (hb : SqL K H b (ys.map V.int)) (q : Q (.bl (decide (xs = ys))) H) : rEqD K (.ref a) (.ref b) H Q :=
  ⟨_, _, dp_list ha, dp_list hb, shaped_list _, shaped_list _, by rw [eqv_lists]; exact q⟩
theorem neD_lists {K : PySem.W.Frag} {H : Hp} {Q : VK} {a b : Addr} {xs ys : List Int} (ha : SqL K H a (xs.map V.int)) (hb : SqL K H b (ys.map V.int)) (q : Q (.bl (!decide (xs = ys))) H) : rNeD K (.ref a) (.ref b) H Q :=
  ⟨_, _, dp_list ha, dp_list hb, shaped_list _, shaped_list _, by rw [eqv_lists]; exact q⟩
theorem eqD_tups {K : PySem.W.Frag} {H : Hp} {Q : VK} {a b : Addr} {xs ys : List Int} (ha : SqT K H a (xs.map V.int)) (hb : SqT K H b (ys.map V.int)) (q : Q (.bl (decide (xs = ys))) H) : rEqD K (.ref a) (.ref b) H Q :=
  ⟨_, _, dp_tup ha, dp_tup hb, shaped_tup _, shaped_tup _, by rw [eqv_tups]; exact q⟩
theorem neD_tups {K : PySem.W.Frag} {H : Hp} {Q : VK} {a b : Addr} {xs ys : List Int} (ha : SqT K H a (xs.map V.int)) (hb : SqT K H b (ys.map V.int)) (q : Q (.bl (!decide (xs = ys))) H) : rNeD K (.ref a) (.ref b) H Q :=
  ⟨_, _, dp_tup ha, dp_tup hb, shaped_tup _, shaped_tup _, by rw [eqv_tups]; exact q⟩
/-- a test whose answer is known -/
theorem iteTr {c : Bool} {A B : Prop} (hc : c = true) (h : A) : if c = true then A else B := by
  rw [if_pos hc]
  exact h
theorem iteFa {c : Bool} {A B : Prop} (hc : c = false) (h : B) : if c = true then A else B := by
  rw [hc]
  exact iteF h

/-! ### lists of pairs, lists of noughts -/
theorem fam_succ (lo : Int) (n : Nat) (f : Int → Int × Int) : fam lo (n + 1) f = fam lo n f ++ [f (lo + (n : Int))] := by
  unfold fam
  rw [List.range_succ, List.map_append]
  rfl
/-- at ts stand the pairs of numbers ps -/
def PairsAt (H : Hp) (ts : List Addr) (ps : List (Int × Int)) : Prop := ts.length = ps.length ∧ ∀ (i : Nat) (t : Addr) (q : Int × Int), ts[i]? = some t → ps[i]? = some q → H t = some (.tup [.int q.1, .int q.2])
theorem PairsAt.nil {H : Hp} : PairsAt H [] [] := ⟨rfl, fun i t q h => by simp at h⟩
theorem PairsAt.keep {H H' : Hp} {ts : List Addr} {ps : List (Int × Int)} (h : PairsAt H ts ps) (s : Same H H') : PairsAt H' ts ps := ⟨h.1, fun i t q h1 h2 => s _ _ (h.2 i t q h1 h2)⟩
theorem PairsAt.append {H : Hp} {ts us : List Addr} {ps qs : List (Int × Int)} (h : PairsAt H ts ps) (g : PairsAt H us qs) : PairsAt H (ts ++ us) (ps ++ qs) := by
  refine ⟨by rw [List.length_append, List.length_append, h.1, g.1], fun i t q h1 h2 => ?_⟩
  by_cases hi : i < ts.length
  · rw [List.getElem?_append_left hi] at h1
    rw [List.getElem?_append_left (by rw [← h.1]; exact hi)] at h2
    exact h.2 i t q h1 h2
  · rw [List.getElem?_append_right (by omega)] at h1
    rw [List.getElem?_append_right (by rw [← h.1]; omega), ← h.1] at h2
    exact g.2 _ t q h1 h2
theorem PairsAt.one {H : Hp} {t : Addr} {q : Int × Int} (h : H t = some (.tup [.int q.1, .int q.2])) : PairsAt H [t] [q] := by
  refine ⟨rfl, fun i t' q' h1 h2 => ?_⟩
  cases i with
  | zero =>
    cases h1
    cases h2
    exact h
  | succ i => simp at h1
theorem PairsAt.get {H : Hp} {ts : List Addr} {ps : List (Int × Int)} (h : PairsAt H ts ps) {i : Nat} {y : V} (hy : (ts.map V.ref)[i]? = some y) : ∃ t q, y = .ref t ∧ ps[i]? = some q ∧ H t = some (.tup [.int q.1, .int q.2]) := by
  rw [List.getElem?_map] at hy
  cases e : ts[i]? with
  | none =>
    rw [e] at hy
    cases hy
  | some t =>
    rw [e] at hy
    have hi := (List.getElem?_eq_some_iff.mp e).1
    rw [h.1] at hi
    exact ⟨t, ps[i], (Option.some.inj hy).symm, List.getElem?_eq_getElem hi, h.2 i t _ e (List.getElem?_eq_getElem hi)⟩
/-- a comprehension of pairs over a range -/
theorem lc_pairs {lo : Int} {n j : Nat} {te : TE} {σ : L2.St} {H1 : Hp} {D : Addr} {Qd : Hp → Prop} (nD : H1 D = none) (hn : n < 16777216) (f : Int → Int × Int)
    (hs : ∀ (i : Nat) (H : Hp) (Q : VK), i < n → (∀ p, H p = none → Q (.ref p) (upd H p (.tup [.int (f (lo + (i : Int))).1, .int (f (lo + (i : Int))).2]))) → te ((σ.set j none).set j (some (.int (lo + (i : Int))))) H Q)
    (hd : ∀ H' ts, Same H1 H' → H' D = some (.lst (ts.map V.ref)) → PairsAt H' ts (fam lo n f) → Qd H') :
    ∃ W : Nat → Nat → Hp → Prop, (∃ m, W 0 m (upd H1 D (.lst []))) ∧ ∀ i m H, W i m H →
      ((Itr lo n).stop i H ∧ Qd H) ∨ ((Itr lo n).go i H ∧ ∃ Nx : Hp → Prop, (∀ H', Nx H' → ∃ m', m' < m ∧ W (i + 1) m' H') ∧ ∀ x H', (Itr lo n).yld i H x H' → gName j x (wipe σ [j]) H' fun σ2 H2 => wipe σ2 [j] = wipe σ [j] ∧ tYes σ2 H2 fun b H3 =>
        if b = true then te σ2 H3 fun y H4 => ∃ acc, H4 D = some (.lst acc) ∧ acc.length < sizeLine ∧ Nx (upd H4 D (.lst (acc ++ [y]))) else Nx H3) := by
  refine lc_range (fun i H' => ∃ ts, Same H1 H' ∧ H' D = some (.lst (ts.map V.ref)) ∧ PairsAt H' ts (fam lo i f)) ⟨[], same_upd nD, upd_same, .nil⟩ ?_ ?_
  · rintro i H hi ⟨ts, s1, e1, p1⟩
    refine ⟨?_, ?_⟩
    · show ((σ.set j none).set j (some (V.int (lo + (i : Int))))).set j none = σ.set j none
      rw [List.set_set, List.set_set]
    refine iteT (B := ∃ ts, Same H1 H ∧ H D = some (HO.lst (List.map V.ref ts)) ∧ PairsAt H ts (fam lo (i + 1) f)) ?_
    refine hs i H _ hi fun p np => ?_
    refine ⟨ts.map V.ref, ?_, ?_, ts ++ [p], ?_, ?_, ?_⟩
    · have nDp : D ≠ p := ne_of_none e1 np
      rw [upd_ne nDp]
      exact e1
    · rw [List.length_map, p1.1, fam_length]
      exact smaller (by omega)
    · exact (s1.new np).own nD
    · rw [upd_same, List.map_append]
      rfl
    · rw [fam_succ]
      have nDp : p ≠ D := fun e => by
        rw [e, e1] at np
        cases np
      have nt : ∀ {t : Addr} {q : Int × Int}, H t = some (.tup [.int q.1, .int q.2]) → t ≠ D := fun h e => by
        rw [e, e1] at h
        cases h
      refine PairsAt.append ⟨p1.1, fun k t q h1 h2 => ?_⟩ (.one ?_)
      · have h3 := p1.2 k t q h1 h2
        rw [upd_ne (nt h3), upd_ne (ne_of_none h3 np)]
        exact h3
      · rw [upd_ne nDp, upd_same]
  · rintro H ⟨ts, s1, e1, p1⟩
    exact hd H ts s1 e1 p1
/-- [0 for k in range(n)] -/
theorem lc_noughts {n j : Nat} {σ : L2.St} {H1 : Hp} {D : Addr} {Qd : Hp → Prop} (hn : n < 16777216) (hd : Qd (upd H1 D (.lst ((List.replicate n (0 : Int)).map V.int)))) :
    ∃ W : Nat → Nat → Hp → Prop, (∃ m, W 0 m (upd H1 D (.lst []))) ∧ ∀ i m H, W i m H →
      ((Itr 0 n).stop i H ∧ Qd H) ∨ ((Itr 0 n).go i H ∧ ∃ Nx : Hp → Prop, (∀ H', Nx H' → ∃ m', m' < m ∧ W (i + 1) m' H') ∧ ∀ x H', (Itr 0 n).yld i H x H' → gName j x (wipe σ [j]) H' fun σ2 H2 => wipe σ2 [j] = wipe σ [j] ∧ tYes σ2 H2 fun b H3 =>
        if b = true then tC (.int 0) σ2 H3 fun y H4 => ∃ acc, H4 D = some (.lst acc) ∧ acc.length < sizeLine ∧ Nx (upd H4 D (.lst (acc ++ [y]))) else Nx H3) := by
  refine lc_range (lo := 0) (fun i H' => H' = upd H1 D (.lst ((List.replicate i (0 : Int)).map V.int))) rfl ?_ ?_
  · rintro i H hi rfl
    refine ⟨?_, iteT (B := upd H1 D (HO.lst (List.map V.int (List.replicate i (0 : Int)))) = upd H1 D (HO.lst (List.map V.int (List.replicate (i + 1) (0 : Int))))) ⟨_, upd_same, ?_, ?_⟩⟩
    · show ((σ.set j none).set j (some (V.int (0 + (i : Int))))).set j none = σ.set j none
      rw [List.set_set, List.set_set]
    · rw [List.length_map, List.length_replicate]
      exact smaller (by omega)
    · rw [upd_upd, List.replicate_succ', List.map_append]
      rfl
  · rintro H rfl
    exact hd
/-- a place that set_list asks -/
theorem ixN_at {n : Nat} {i : Int} (h0 : 0 ≤ i) (h1 : i < n) : ixN n i = some i.toNat := by
  unfold ixN
  rw [if_pos h0, if_pos h1]
theorem set_ints (ns : List Int) (j : Nat) (x : Int) : (ns.map V.int).set j (.int x) = (ns.set j x).map V.int := by
  rw [List.map_set]

/-! ### found_places -/
abbrev N_found_places : List Str := ["row", "found", "place", "number"]
theorem sc_found_places : FnScope N_found_places ["row"] (defScope st_found_places) := ⟨rfl, rfl, rfl, by decide +kernel, rfl, by decide +kernel, by decide +kernel⟩
/-- a dict that holds for each number of a list the list of its places -/
def PlD (H : Hp) (d : Addr) (ns : List Int) : Prop := ∃ kvs : List (Key × V), H d = some (.dK kvs) ∧ kvs.length ≤ ns.length ∧
  ∀ k : Int, (spots ns k = [] ∧ valV kvs (.inl k) = none) ∨ (spots ns k ≠ [] ∧ ∃ p, valV kvs (.inl k) = some (.ref p) ∧ H p = some (.lst ((spots ns k).map V.int)))
theorem PlD.keep {H H' : Hp} {d : Addr} {ns : List Int} (s : Same H H') (h : PlD H d ns) : PlD H' d ns := by
  obtain ⟨kvs, e, l, a⟩ := h
  refine ⟨kvs, s _ _ e, l, fun k => ?_⟩
  rcases a k with h | ⟨h1, p, h2, h3⟩
  · exact .inl h
  · exact .inr ⟨h1, p, h2, s _ _ h3⟩
/-- what get tells, with a new empty list where there is none -/
theorem PlD.get {H : Hp} {d e : Addr} {ns : List Int} (h : PlD H d ns) (k : Int) (he : H e = some (.lst [])) : ∃ (o : Option V) (p : Addr), DGet H d (.int k) o ∧ o.getD (.ref e) = .ref p ∧ H p = some (.lst ((spots ns k).map V.int)) := by
  obtain ⟨kvs, e1, l, a⟩ := h
  refine ⟨valV kvs (.inl k), ?_⟩
  rcases a k with ⟨h1, h2⟩ | ⟨h1, p, h2, h3⟩
  · rw [h1, h2]
    exact ⟨e, h2 ▸ DGet.k (k := Sum.inl k) e1, rfl, he⟩
  · rw [h2]
    exact ⟨p, h2 ▸ DGet.k (k := Sum.inl k) e1, rfl, h3⟩
theorem PlD.get' {H : Hp} {d : Addr} {ns : List Int} (h : PlD H d ns) {k : Int} (hk : spots ns k ≠ []) : ∃ p : Addr, DGet H d (.int k) (some (.ref p)) ∧ H p = some (.lst ((spots ns k).map V.int)) := by
  obtain ⟨kvs, e1, l, a⟩ := h
  rcases a k with ⟨h1, h2⟩ | ⟨h1, p, h2, h3⟩
  · exact absurd h1 hk
  · exact ⟨p, h2 ▸ DGet.k (k := Sum.inl k) e1, h3⟩
theorem PlD.isD {H : Hp} {d : Addr} {ns : List Int} (h : PlD H d ns) : IsD H d := by
  obtain ⟨kvs, e1, _⟩ := h
  exact .inl ⟨kvs, .inl e1⟩
/-- one more place -/
theorem PlD.put {H : Hp} {d c : Addr} {ns : List Int} {x : Int} (h : PlD H d ns) (hl : ns.length < 16777216) (hc : H c = some (.lst ((spots (ns ++ [x]) x).map V.int))) :
    ∃ H', DPut H d (.int x) (.ref c) H' ∧ PlD H' d (ns ++ [x]) ∧ ∀ b, b ≠ d → H' b = H b := by
  obtain ⟨kvs, e1, l, a⟩ := h
  refine ⟨upd H d (.dK (putK kvs (Sum.inl x) (.ref c))), DPut.k (k := Sum.inl x) e1 (smaller (by omega)), ⟨_, upd_same, ?_, fun k => ?_⟩, fun b hb => upd_ne hb⟩
  · have := length_putK kvs (Sum.inl x : Key) (.ref c)
    rw [List.length_append, List.length_singleton]
    omega
  · have nd : ∀ {p : Addr} {xs : List V}, H p = some (.lst xs) → p ≠ d := fun h => ne_of h e1 (by intro z; cases z)
    rw [valV_put]
    by_cases hk : x = k
    · subst hk
      rw [if_pos rfl]
      refine .inr ⟨?_, c, rfl, by rw [upd_ne (nd hc)]; exact hc⟩
      rw [spots_snoc, if_pos rfl]
      simp
    · have hk' : ¬ (Sum.inl k : Key) = Sum.inl x := fun z => hk (Sum.inl.inj z).symm
      rw [if_neg hk', spots_snoc, if_neg hk, List.append_nil]
      rcases a k with h | ⟨h1, p, h2, h3⟩
      · exact .inl h
      · exact .inr ⟨h1, p, h2, by rw [upd_ne (nd h3)]; exact h3⟩
def spFoundPlaces (K : PySem.W.Frag) : Sp := fun vs H Q _ => ∃ (a : Addr) (ns : List Int), vs = [.ref a] ∧ SqL K H a (ns.map V.int) ∧ ns.length ≤ 100000 ∧ ∀ H' d, Same H H' → PlD H' d ns → Q (.ref d) H'
section
variable {P : Program} {w : World} {K : PySem.W.Frag} {mg : Str → Option Value} {base : Heap}
theorem kn_found_places (D : Df K mg "found_places" st_found_places ["row"]) (B : Bl mg) : Kn P w K mg base CX0 1 "found_places" ["row"] (spFoundPlaces K) := by
  refine D.kn sc_found_places (fun vs H Q E h => ?_) (fun f cdv A outer s H vs Q E hr h => ?_)
  · obtain ⟨a, ns, rfl, _⟩ := h
    rfl
  obtain ⟨a, ns, rfl, hS, hlen, q⟩ := h
  refine ⟨_, (pss_cons (ps_set (i := 1) sc_found_places.nd rfl (Or.inl rfl) pe_dnewK)
      (pss_cons (ps_for PassesOwn.never rfl (pi_enum (by rfl) B.enumerate_ (pa_cons (pv 0) pa_nil)) (pg_tup rfl (pgs_cons (pg_name (i := 2) sc_found_places.nd rfl (Or.inl rfl)) (pgs_cons (pg_name (i := 3) sc_found_places.nd rfl (Or.inl rfl)) pgs_nil)))
        (pss_one (ps_dput (hu_of hr) (pv 1) (pv 3) (pe_op op_cat (pe_dget2 (hu_of hr) (pv 1) (pv 3) (pe_lst pa_nil) ⟨rfl, rfl, rfl, rfl⟩) (pe_lst (pa_cons (pv 2) pa_nil))) rfl)))
      (pss_one (ps_ret (pv 1))))), ?_⟩
  intro d nd
  have s1 : Same H (upd H d (.dK [])) := same_upd nd
  refine ⟨.ref a, rfl, a, ns.map V.int, rfl, s1.seq hS, ?_⟩
  refine for_it (walk_enum (K := K) (a := a) (xs := ns.map V.int)) (fun i σ H' => ∃ y2 y3, σ = [some (.ref a), some (.ref d), y2, y3] ∧ Same H H' ∧ PlD H' d (ns.take i)) ⟨none, none, rfl, s1, ⟨[], upd_same, Nat.le_refl _, fun k => .inl ⟨rfl, rfl⟩⟩⟩ ?_ ?_ ?_
  · rintro i σ H' hi ⟨_, _, _, s2, _⟩
    exact s2.seq hS
  · rintro i x σ H2 H3 hi ⟨y2, y3, rfl, s2, hD⟩ ⟨T, x1, x2, rfl, nT, rfl, f1, f2⟩
    obtain ⟨n, hn, rfl⟩ := of_ints_get f2
    cases f1
    generalize hT : upd H2 T (.tup [V.int ((i : Nat) : Int), V.int n]) = H3
    have s3 : Same H2 H3 := hT ▸ same_upd nT
    have e3 : H3 T = some (.tup [V.int ((i : Nat) : Int), V.int n]) := hT ▸ upd_same
    clear hT
    refine ⟨T, _, rfl, SqT.of e3, rfl, _, _, rfl, _, _, rfl, rfl, ?_⟩
    -- found.get(number, [])
    refine ⟨_, rfl, d, rfl, (hD.keep s3).isD, _, rfl, Nat.zero_le _, fun e ne => ?_⟩
    generalize hE : upd H3 e (.lst []) = H4
    have s4 : Same H3 H4 := hE ▸ same_upd ne
    have e4 : H4 e = some (.lst []) := hE ▸ upd_same
    clear hE
    have hD4 := (hD.keep s3).keep s4
    obtain ⟨o, p, g1, g2, g3⟩ := hD4.get n e4
    refine ⟨o, g1, ?_⟩
    rw [g2]
    -- [place]
    refine ⟨_, rfl, small (show 1 ≤ 16777216 by decide), fun l nl => ?_⟩
    generalize hL : upd H4 l (.lst [V.int ((i : Nat) : Int)]) = H5
    have s5 : Same H4 H5 := hL ▸ same_upd nl
    have e5 : H5 l = some (.lst [V.int ((i : Nat) : Int)]) := hL ▸ upd_same
    clear hL
    have hsp : (spots (ns.take i) n).length ≤ i := by
      rw [spots_length]
      have := List.count_le_length (a := n) (l := ns.take i)
      rw [List.length_take] at this
      omega
    have hi' : i < ns.length := by
      rw [ints_len] at hi
      exact hi
    refine ⟨p, l, _, _, rfl, rfl, s5 _ _ g3, e5, ?_, fun c nc => ?_⟩
    · rw [List.length_map, List.length_singleton]
      exact small (by omega)
    have ec : spots (ns.take i ++ [n]) n = spots (ns.take i) n ++ [(i : Int)] := by
      rw [spots_snoc, if_pos rfl, List.length_take, Nat.min_eq_left (Nat.le_of_lt hi')]
    have ec2 : (spots (ns.take i) n).map V.int ++ [V.int (i : Int)] = (spots (ns.take i ++ [n]) n).map V.int := by
      rw [ec, List.map_append]
      rfl
    rw [ec2]
    generalize hC : upd H5 c (.lst ((spots (ns.take i ++ [n]) n).map V.int)) = H6
    have s6 : Same H5 H6 := hC ▸ same_upd nc
    have e6 : H6 c = some (.lst ((spots (ns.take i ++ [n]) n).map V.int)) := hC ▸ upd_same
    clear hC
    have hD6 := (hD4.keep s5).keep s6
    obtain ⟨H7, p1, p2, p3⟩ := hD6.put (x := n) (by rw [List.length_take]; omega) e6
    refine ⟨_, rfl, _, rfl, d, H7, rfl, p1, _, _, rfl, fun b o hb => ?_, ?_⟩
    · have hbd : b ≠ d := ne_of_none hb nd
      rw [p3 b hbd]
      exact s6 _ _ (s5 _ _ (s4 _ _ (s3 _ _ (s2 _ _ hb))))
    · rw [take_snoc hn]
      exact p2
  · rintro σ H2 ⟨y2, y3, rfl, s2, hD⟩
    rw [ints_len, List.take_length] at hD
    exact ⟨_, rfl, q _ _ s2 hD⟩
end

/-! ### is_row -/
abbrev N_is_row : List Str := ["row", "size", "known", "number", "spots"]
theorem sc_is_row : FnScope N_is_row ["row"] (defScope st_is_row) := ⟨rfl, rfl, rfl, by decide +kernel, rfl, by decide +kernel, by decide +kernel⟩
def spIsRow (K : PySem.W.Frag) : Sp := fun vs H Q _ => ∃ (a : Addr) (ns : List Int), vs = [.ref a] ∧ SqL K H a (ns.map V.int) ∧ ns.length ≤ 100000 ∧ ∀ H', Same H H' → Q (.bl (isRow ns)) H'
theorem isRow_no {row : List Int} (h : ¬ isRow row = true) : isRow row = false := Bool.eq_false_iff.mpr h
section
variable {P : Program} {w : World} {K : PySem.W.Frag} {mg : Str → Option Value} {base : Heap}
theorem kn_is_row {tk : Tok} (D : Df K mg "is_row" st_is_row ["row"]) (B : Bl mg) (C_MOST : mg "MOST" = some (.int 400 tk)) (K_found_places : Kn P w K mg base CX0 1 "found_places" ["row"] (spFoundPlaces K)) : Kn P w K mg base CX0 2 "is_row" ["row"] (spIsRow K) := by
  refine D.kn sc_is_row (fun vs H Q E h => ?_) (fun f cdv A outer s H vs Q E hr h => ?_)
  · obtain ⟨a, ns, rfl, _⟩ := h
    rfl
  obtain ⟨a, ns, rfl, hS, hlen, q⟩ := h
  refine ⟨_, (pss_cons (ps_set (i := 1) sc_is_row.nd rfl (Or.inl rfl) (pe_op op_fdiv (pe_callB call_len_seq (by rfl) B.len_ (by decide +kernel) (pa_cons (pv 0) pa_nil)) pe_int))
      (pss_cons (ps_if (PW.pt (pw_or (pt_cmpR op_ne (pe_callB call_len_seq (by rfl) B.len_ (by decide +kernel) (pa_cons (pv 0) pa_nil)) (pe_op op_mul pe_int (pv 1)) (nomark _)) (pw_or (pt_cmpR op_lt (pv 1) pe_int (nomark _)) (pw_or1 (pt_cmpR op_gt (pv 1) (pe_globI (by rfl) C_MOST) (nomark _))))))
        (pss_one (ps_ret pe_bl))
        pss_nil)
      (pss_cons (ps_set (i := 2) sc_is_row.nd rfl (Or.inl rfl) (pe_k0 K_found_places (hr.mono (by first | decide | omega)) (by rfl) (pa_cons (pv 0) pa_nil)))
      (pss_cons (ps_for PassesOwn.never rfl (pi_range2 (by rfl) B.range_ (pa_cons pe_int (pa_cons (pe_op op_add (pv 1) pe_int) pa_nil))) (pg_name (i := 3) sc_is_row.nd rfl (Or.inl rfl))
        (pss_cons (ps_set (i := 4) sc_is_row.nd rfl (Or.inl rfl) (pe_dget2 (hu_of hr) (pv 2) (pv 3) (pe_lst pa_nil) ⟨rfl, rfl, rfl, rfl⟩))
        (pss_one (ps_if (PW.pt (pw_or (pt_cmpR op_ne (pe_callB call_len_seq (by rfl) B.len_ (by decide +kernel) (pa_cons (pv 4) pa_nil)) pe_int (nomark _)) (pw_or1 (pt_cmpR op_ne (pe_op op_sub (pe_ix ix_list (pv 4) pe_int (fun _ _ => rfl)) (pe_ix ix_list (pv 4) pe_int (fun _ _ => rfl))) (pv 3) (nomark _)))))
          (pss_one (ps_ret pe_bl))
          pss_nil))))
      (pss_one (ps_ret pe_bl)))))), ?_⟩
  refine ⟨_, rfl, a, _, rfl, .inl hS, _, _, rfl, rfl, ⟨by decide, by decide⟩, ?_⟩
  have hL := ints_len ns
  have hsz : (((ns.map V.int).length : Nat) : Int) / 2 = ((ns.length / 2 : Nat) : Int) := by
    rw [hL]
    omega
  simp only [hsz]
  -- len(row) != 2 * size or size < 1 or size > MOST
  refine ⟨_, rfl, a, _, rfl, .inl hS, _, rfl, _, _, rfl, rfl, .inl ⟨by decide, by decide⟩, rfl, _, rfl, ite2 (fun c => ?_) (fun c => ?_)⟩
  · refine iteT ?_
    have c' : ¬ ns.length = 2 * (ns.length / 2) := fun z => by
      have e : decide (V.int (((ns.map V.int).length : Nat) : Int) = V.int (2 * ((ns.length / 2 : Nat) : Int))) = true := decide_eq_true (congrArg V.int (by rw [hL]; omega))
      have c2 : (!decide (V.int (((ns.map V.int).length : Nat) : Int) = V.int (2 * ((ns.length / 2 : Nat) : Int)))) = true := c
      rw [e] at c2
      cases c2
    have := q H (Same.refl _)
    rw [isRow_no (fun z => c' ((isRow_iff ns).mp z).1)] at this
    exact this
  have c0 : ns.length = 2 * (ns.length / 2) := by
    have c2 : ¬ (!decide (V.int (((ns.map V.int).length : Nat) : Int) = V.int (2 * ((ns.length / 2 : Nat) : Int)))) = true := c
    rw [Bool.not_eq_true', decide_eq_false_iff_not, Decidable.not_not] at c2
    have := V.int.inj c2
    rw [hL] at this
    omega
  refine ⟨_, rfl, _, _, rfl, rfl, _, rfl, ite2 (fun c => ?_) (fun c => ?_)⟩
  · refine iteT ?_
    have c1 : ((ns.length / 2 : Nat) : Int) < 1 := of_decide_eq_true c
    have := q H (Same.refl _)
    rw [isRow_no (fun z => by have := ((isRow_iff ns).mp z).2.1; omega)] at this
    exact this
  have c1 : ¬ ((ns.length / 2 : Nat) : Int) < 1 := of_decide_eq_false (Bool.eq_false_iff.mpr c)
  refine ⟨_, rfl, _, _, rfl, rfl, _, rfl, ite2 (fun c => ?_) (fun c => ?_)⟩
  · have c2 : (400 : Int) < ((ns.length / 2 : Nat) : Int) := of_decide_eq_true c
    have := q H (Same.refl _)
    rw [isRow_no (fun z => by have := ((isRow_iff ns).mp z).2.2.1; omega)] at this
    exact this
  have c2 : ¬ (400 : Int) < ((ns.length / 2 : Nat) : Int) := of_decide_eq_false (Bool.eq_false_iff.mpr c)
  -- known
  refine ⟨_, rfl, a, ns, rfl, hS, hlen, fun H1 d s1 hD => ?_⟩
  refine ⟨_, rfl, _, _, rfl, rfl, 1, ((ns.length / 2 : Nat) : Int) + 1, rfl, ⟨by omega, by omega, by omega, by omega⟩, ?_⟩
  refine for_range (lo := 1) (n := (((ns.length / 2 : Nat) : Int) + 1 - 1).toNat) (fun i σ H' => ∃ y3 y4, σ = [some (.ref a), some (.int ((ns.length / 2 : Nat) : Int)), some (.ref d), y3, y4] ∧ Same H H' ∧ PlD H' d ns ∧ ∀ k : Int, 1 ≤ k → k ≤ (i : Int) → good ns k = true) ⟨none, none, rfl, s1, hD, fun k h1 h2 => by omega⟩ ?_ ?_
  · rintro i σ H2 hi ⟨y3, y4, rfl, s2, hD2, hg⟩
    refine ⟨_, rfl, d, rfl, hD2.isD, _, rfl, Nat.zero_le _, fun e ne => ?_⟩
    generalize hE : upd H2 e (.lst []) = H3
    have s3 : Same H2 H3 := hE ▸ same_upd ne
    have e3 : H3 e = some (.lst []) := hE ▸ upd_same
    clear hE
    have hD3 := hD2.keep s3
    obtain ⟨o, p, g1, g2, g3⟩ := hD3.get ((1 : Int) + (i : Int)) e3
    refine ⟨o, g1, ?_⟩
    rw [g2]
    have h1 : 1 + (i : Int) ≤ ((ns.length / 2 : Nat) : Int) := by omega
    have bad : good ns (1 + (i : Int)) = false → isRow ns = false := fun hb => isRow_no fun z => by
      have := ((isRow_iff ns).mp z).2.2.2 (1 + (i : Int)) (by omega) h1
      rw [hb] at this
      cases this
    have sAll : Same H H3 := s2.trans s3
    -- len(spots) != 2 or spots[1] - spots[0] != number
    refine ⟨_, rfl, p, _, rfl, .inl (SqL.of g3), rfl, _, rfl, ite2 (fun c => ?_) (fun c => ?_)⟩
    · refine iteT ?_
      have c3 : ¬ (spots ns (1 + (i : Int))).length = 2 := fun z => by
        have e : decide (V.int ((((spots ns (1 + (i : Int))).map V.int).length : Nat) : Int) = V.int 2) = true := decide_eq_true (congrArg V.int (by rw [ints_len, z]; rfl))
        have c2 : (!decide (V.int ((((spots ns (1 + (i : Int))).map V.int).length : Nat) : Int) = V.int 2)) = true := c
        rw [e] at c2
        cases c2
      have hb : good ns (1 + (i : Int)) = false := Bool.eq_false_iff.mpr fun z => c3 (by rw [spots_length]; exact good_count z)
      have := q H3 sAll
      rw [bad hb] at this
      exact this
    have c3 : (spots ns (1 + (i : Int))).length = 2 := by
      have c2 : ¬ (!decide (V.int ((((spots ns (1 + (i : Int))).map V.int).length : Nat) : Int) = V.int 2)) = true := c
      rw [Bool.not_eq_true', decide_eq_false_iff_not, Decidable.not_not] at c2
      have := V.int.inj c2
      rw [ints_len] at this
      omega
    obtain ⟨x, y, exy⟩ : ∃ x y, spots ns (1 + (i : Int)) = [x, y] := by
      match spots ns (1 + (i : Int)), c3 with
      | [x, y], _ => exact ⟨x, y, rfl⟩
    rw [exy] at g3
    refine ⟨_, rfl, p, _, _, _, rfl, rfl, SqL.of g3, atI_nat (j := 1) rfl, _, rfl, p, _, _, _, rfl, rfl, SqL.of g3, atI_nat (j := 0) rfl, _, _, rfl, rfl, _, rfl, rfl, _, rfl, ite2 (fun c => ?_) (fun c => ?_)⟩
    · have c4 : ¬ y - x = 1 + (i : Int) := fun z => by
        have e : decide (V.int (y - x) = V.int (1 + (i : Int))) = true := decide_eq_true (congrArg V.int z)
        have c2 : (!decide (V.int (y - x) = V.int (1 + (i : Int)))) = true := c
        rw [e] at c2
        cases c2
      have hb : good ns (1 + (i : Int)) = false := by
        unfold good
        rw [exy]
        exact decide_eq_false c4
      have := q H3 sAll
      rw [bad hb] at this
      exact this
    · have c4 : y - x = 1 + (i : Int) := by
        have c2 : ¬ (!decide (V.int (y - x) = V.int (1 + (i : Int)))) = true := c
        rw [Bool.not_eq_true', decide_eq_false_iff_not, Decidable.not_not] at c2
        exact V.int.inj c2
      refine ⟨_, _, rfl, sAll, hD3, fun k h1 h2 => ?_⟩
      by_cases hk : k = 1 + (i : Int)
      · rw [hk]
        exact spots_of_good exy c4
      · exact hg k h1 (by omega)
  · rintro σ H2 ⟨y3, y4, rfl, s2, hD2, hg⟩
    have hr : isRow ns = true := (isRow_iff ns).mpr ⟨c0, by omega, by omega, fun k h1 h2 => hg k h1 (by omega)⟩
    have := q H2 s2
    rw [hr] at this
    exact this
end

/-! ### _law_cell_at -/
abbrev N_law_cell_at : List Str := ["script", "k"]
theorem sc_law_cell_at : FnScope N_law_cell_at ["script", "k"] (defScope st_law_cell_at) := ⟨rfl, rfl, rfl, by decide +kernel, rfl, by decide +kernel, by decide +kernel⟩
/-- a cell of the script, nought beyond -/
def cellAt (ns : List Int) (k : Int) : Int := if k < (ns.length : Int) then ns.getD k.toNat 0 else 0
def spCellAt (K : PySem.W.Frag) : Sp := fun vs H Q _ => ∃ (a : Addr) (ns : List Int) (k : Int), vs = [.ref a, .int k] ∧ SqL K H a (ns.map V.int) ∧ 0 ≤ k ∧ Q (.int (cellAt ns k)) H
section
variable {P : Program} {w : World} {K : PySem.W.Frag} {mg : Str → Option Value} {base : Heap}
theorem kn_law_cell_at (D : Df K mg "_law_cell_at" st_law_cell_at ["script", "k"]) (B : Bl mg) : Kn P w K mg base CX0 1 "_law_cell_at" ["script", "k"] (spCellAt K) := by
  refine D.kn sc_law_cell_at (fun vs H Q E h => ?_) (fun f cdv A outer s H vs Q E hr h => ?_)
  · obtain ⟨a, ns, k, rfl, _⟩ := h
    rfl
  obtain ⟨a, ns, k, rfl, hS, h0, q⟩ := h
  refine ⟨_, (pss_cons (ps_if (pt_cmpR op_lt (pv 1) (pe_callB call_len_seq (by rfl) B.len_ (by decide +kernel) (pa_cons (pv 0) pa_nil)) (nomark _))
        (pss_one (ps_ret (pe_ix ix_list (pv 0) (pv 1) (fun _ _ => rfl))))
        pss_nil)
      (pss_one (ps_ret pe_int))), ?_⟩
  refine ⟨_, rfl, _, rfl, a, _, rfl, .inl hS, _, _, rfl, rfl, _, rfl, ite2 (fun c => ?_) (fun c => ?_)⟩
  · have c' : k < ((ns.map V.int).length : Int) := of_decide_eq_true c
    rw [ints_len] at c'
    have hk : k.toNat < ns.length := by omega
    refine ⟨_, rfl, _, rfl, a, _, k, _, rfl, rfl, hS, at_ints h0 (List.getElem?_eq_getElem hk), ?_⟩
    have e : cellAt ns k = ns[k.toNat] := by
      unfold cellAt
      rw [if_pos c', List.getD_eq_getElem?_getD, List.getElem?_eq_getElem hk]
      rfl
    rw [← e]
    exact q
  · have c' : ¬ k < ((ns.map V.int).length : Int) := of_decide_eq_false (Bool.eq_false_iff.mpr c)
    rw [ints_len] at c'
    have e : cellAt ns k = 0 := if_neg c'
    rw [e] at q
    exact q
end

/-! ### _law_draw -/
abbrev N_law_draw : List Str := ["cell", "k", "bound", "stir"]
theorem sc_law_draw : FnScope N_law_draw ["cell", "k", "bound"] (defScope st_law_draw) := ⟨rfl, rfl, rfl, by decide +kernel, rfl, by decide +kernel, by decide +kernel⟩
def spDraw : Sp := fun vs H Q _ => ∃ cell k bound : Int, vs = [.int cell, .int k, .int bound] ∧ 0 < bound ∧ Q (.int (lawDraw cell k bound)) H
section
variable {P : Program} {w : World} {K : PySem.W.Frag} {mg : Str → Option Value} {base : Heap}
theorem kn_law_draw (D : Df K mg "_law_draw" st_law_draw ["cell", "k", "bound"]) : Kn P w K mg base CX0 1 "_law_draw" ["cell", "k", "bound"] spDraw := by
  refine D.kn sc_law_draw (fun vs H Q E h => ?_) (fun f cdv A outer s H vs Q E hr h => ?_)
  · obtain ⟨a, b, c, rfl, _⟩ := h
    rfl
  obtain ⟨cell, k, bound, rfl, hb, q⟩ := h
  refine ⟨_, (pss_cons (ps_set (i := 3) sc_law_draw.nd rfl (Or.inl rfl) (pe_op op_mod (pe_op op_mul (pe_op op_add (pe_op op_add (pe_op op_mod (pv 0) pe_int) (pe_op op_mul pe_int (pv 1))) pe_int) pe_int) pe_int))
      (pss_cons (ps_set (i := 3) sc_law_draw.nd rfl (Or.inl rfl) (pe_op op_mod (pe_op op_mul (pv 3) (pv 3)) pe_int))
      (pss_cons (ps_set (i := 3) sc_law_draw.nd rfl (Or.inl rfl) (pe_op op_mod (pe_op op_mul (pe_op op_add (pv 3) (pe_op op_mul pe_int (pe_op op_add (pv 1) pe_int))) pe_int) pe_int))
      (pss_one (ps_ret (pe_op op_mod (pe_op op_fdiv (pv 3) pe_int) (pv 2))))))), ?_⟩
  refine ⟨_, rfl, _, _, rfl, rfl, (by decide : (0 : Int) < 2147483647), _, rfl, _, _, rfl, rfl, .inl ⟨by decide, by decide⟩, _, _, rfl, rfl, _, _, rfl, rfl, _, _, rfl, rfl, .inr ⟨by decide, by decide⟩, _, _, rfl, rfl, (by decide : (0 : Int) < 2147483647), ?_⟩
  obtain ⟨s1, h1⟩ : ∃ s1, (cell % 2147483647 + 977 * k + 1) * 48271 % 2147483647 = s1 := ⟨_, rfl⟩
  simp only [h1]
  refine ⟨_, rfl, _, rfl, _, _, rfl, rfl, .inl ⟨by omega, by omega⟩, _, _, rfl, rfl, (by decide : (0 : Int) < 2147483629), ?_⟩
  obtain ⟨s2, h2⟩ : ∃ s2, s1 * s1 % 2147483629 = s2 := ⟨_, rfl⟩
  simp only [h2]
  refine ⟨_, rfl, _, rfl, _, _, rfl, rfl, _, _, rfl, rfl, .inl ⟨by decide, by decide⟩, _, _, rfl, rfl, _, _, rfl, rfl, .inr ⟨by decide, by decide⟩, _, _, rfl, rfl, (by decide : (0 : Int) < 2147483647), ?_⟩
  refine ⟨_, rfl, _, _, rfl, rfl, ⟨by decide, by decide⟩, _, rfl, _, _, rfl, rfl, hb, ?_⟩
  unfold lawDraw at q
  simp only [h1, h2] at q
  exact q
end

/-! ### _law_filled -/
abbrev N_law_filled : List Str := ["row", "number", "cell", "spare", "k", "place", "more", "found"]
theorem sc_law_filled : FnScope N_law_filled ["row", "number", "cell"] (defScope st_law_filled) := ⟨rfl, rfl, rfl, by decide +kernel, rfl, by decide +kernel, by decide +kernel⟩
def spLawFilled (n : Nat) : Sp := fun vs H Q _ => ∃ (a : Addr) (row : List Int) (m : Nat) (z cell : Int), vs = [.ref a, .int z, .int cell] ∧ z = (m : Int) ∧ H a = some (.lst (row.map V.int)) ∧ m < n ∧ m < row.length ∧ row.length ≤ 1000 ∧
  (lawFilled cell m row = none → ∀ H', Same H H' → Q .non H') ∧ ∀ r, lawFilled cell m row = some r → ∀ H' p, Same H H' → H' p = some (.lst (r.map V.int)) → Q (.ref p) H'
section
variable {P : Program} {w : World} {K : PySem.W.Frag} {mg : Str → Option Value} {base : Heap}
theorem Df.neverL {CX : CXT} {k : Nat} {x : Str} {st : Stmt} {ps : List Str} {sp : Sp} (D : Df K mg x st ps) (no : ∀ vs H Q E, ¬ sp vs H Q E) : Kn P w K mg base CX k x ps sp := by
  obtain ⟨f, fd, F, b, g⟩ := D.ex
  exact ⟨f, fd, ⟨fun vs H Q E h => absurd h (no vs H Q E), fun A outer s H args us vs Q E _ _ _ _ h => absurd h (no vs H Q E)⟩, F.kp, b, g⟩
theorem kn_law_filled1 {n : Nat} (D : Df K mg "_law_filled" st_law_filled ["row", "number", "cell"]) (B : Bl mg) (K_law_draw : Kn P w K mg base CX0 1 "_law_draw" ["cell", "k", "bound"] spDraw) (K_law_filled : Kn P w K mg base CX0 (n + 1) "_law_filled" ["row", "number", "cell"] (spLawFilled n)) :
    Kn P w K mg base CX0 (n + 2) "_law_filled" ["row", "number", "cell"] (spLawFilled (n + 1)) := by
  refine D.kn sc_law_filled (fun vs H Q E h => ?_) (fun f cdv A outer s H vs Q E hr h => ?_)
  · obtain ⟨a, row, m, z, cell, rfl, _⟩ := h
    rfl
  obtain ⟨a, row, m, z, cell, rfl, rfl, eA, hm, hml, hlen, qn, qs⟩ := h
  have hr1 : Room 1 _ := hr.mono (by omega)
  refine ⟨_, (pss_cons (ps_if (pt_cmpR op_eq (pv 1) pe_int (nomark _))
        (pss_one (ps_ret (pv 0)))
        pss_nil)
      (pss_cons (ps_set (i := 3) sc_law_filled.nd rfl (Or.inl rfl) (pe_op op_sub (pe_callB call_len_seq (by rfl) B.len_ (by decide +kernel) (pa_cons (pv 0) pa_nil)) (pv 1)))
      (pss_cons (ps_for PassesOwn.never rfl (pi_range1 (by rfl) B.range_ (pa_cons (pv 3) pa_nil)) (pg_name (i := 4) sc_law_filled.nd rfl (Or.inl rfl))
        (pss_cons (ps_set (i := 5) sc_law_filled.nd rfl (Or.inl rfl) (pe_op op_mod (pe_op op_add (pv 4) (pe_k0 K_law_draw (hr.mono (by first | decide | omega)) (by rfl) (pa_cons (pv 2) (pa_cons (pv 1) (pa_cons (pv 3) pa_nil))))) (pv 3)))
        (pss_one (ps_if (PW.pt (pw_and (pt_cmpR op_eq (pe_ix ix_list (pv 0) (pv 5) (fun _ _ => rfl)) pe_int (nomark _)) (pw_and1 (pt_cmpR op_eq (pe_ix ix_list (pv 0) (pe_op op_add (pv 5) (pv 1)) (fun _ _ => rfl)) pe_int (nomark _)))))
          (pss_cons (ps_set (i := 6) sc_law_filled.nd rfl (Or.inl rfl) (pe_callTy call_list_of (by rfl) B.list_ (by decide +kernel) (pa_cons (pv 0) pa_nil)))
          (pss_cons (ps_asg (pv 1) (pg_sub (pv 6) (pv 5) set_list))
          (pss_cons (ps_asg (pv 1) (pg_sub (pv 6) (pe_op op_add (pv 5) (pv 1)) set_list))
          (pss_cons (ps_set (i := 7) sc_law_filled.nd rfl (Or.inl rfl) (pe_k0 K_law_filled (hr.mono (by first | decide | omega)) (by rfl) (pa_cons (pv 6) (pa_cons (pe_op op_sub (pv 1) pe_int) (pa_cons (pv 2) pa_nil)))))
          (pss_one (ps_if (pt_cmpR op_notN (pv 7) pe_non (nomark _))
            (pss_one (ps_ret (pv 7)))
            pss_nil))))))
          pss_nil))))
      (pss_one (ps_ret pe_non))))), ?_⟩
  refine ⟨_, rfl, rfl, _, rfl, ite2 (fun c => ?_) (fun c => ?_)⟩
  · have c1 : (m : Int) = 0 := V.int.inj (of_decide_eq_true c)
    have c2 : m = 0 := by omega
    subst c2
    exact ⟨_, rfl, qs row rfl H a (Same.refl _) eA⟩
  have c1 : ¬ (m : Int) = 0 := fun z => c (decide_eq_true (congrArg V.int z))
  obtain ⟨m, rfl⟩ : ∃ m', m = m' + 1 := ⟨m - 1, by omega⟩
  have hL := ints_len row
  obtain ⟨spare, hsp, hspl⟩ : ∃ spare : Nat, (((row.map V.int).length : Nat) : Int) - ((m + 1 : Nat) : Int) = (spare : Int) ∧ spare = row.length - (m + 1) := ⟨row.length - (m + 1), by rw [hL]; omega, rfl⟩
  refine ⟨_, rfl, a, _, rfl, .inl (SqL.of eA), _, rfl, _, _, rfl, rfl, ?_⟩
  simp only [hsp]
  refine ⟨_, rfl, (spare : Int), rfl, by omega, by omega, ?_⟩
  -- the search
  have e0 : lawFilled cell (m + 1) row = firstFrom (fun i =>
      let p := placeOf cell (m + 1) spare i
      if row[p]? = some 0 ∧ row[p + (m + 1)]? = some 0 then lawFilled cell m (put2 row p (m + 1)) else none) 0 spare := by
    rw [hspl]
    rfl
  generalize hg : (fun i =>
      let p := placeOf cell (m + 1) spare i
      if row[p]? = some 0 ∧ row[p + (m + 1)]? = some 0 then lawFilled cell m (put2 row p (m + 1)) else none) = g at e0
  refine for_range (lo := 0) (n := ((spare : Nat) : Int).toNat) (fun i σ H' => ∃ y4 y5 y6 y7, σ = [some (.ref a), some (.int ((m + 1 : Nat) : Int)), some (.int cell), some (.int (spare : Int)), y4, y5, y6, y7] ∧ Same H H' ∧ i ≤ spare ∧ lawFilled cell (m + 1) row = firstFrom g i (spare - i)) ⟨none, none, none, none, rfl, Same.refl _, Nat.zero_le _, e0⟩ ?_ ?_
  · rintro i σ H1 hi ⟨y4, y5, y6, y7, rfl, s1, hi2, eF⟩
    have hi3 : i < spare := by omega
    obtain ⟨k, hk⟩ : ∃ k, spare - i = k + 1 := ⟨spare - i - 1, by omega⟩
    have hk2 : spare - (i + 1) = k := by omega
    rw [hk] at eF
    obtain ⟨p, hp, hp2⟩ : ∃ p : Nat, (0 + (i : Int) + lawDraw cell ((m + 1 : Nat) : Int) (spare : Int)) % (spare : Int) = (p : Int) ∧ placeOf cell (m + 1) spare i = p := by
      refine ⟨_, ?_, rfl⟩
      unfold placeOf
      rw [Int.zero_add, Int.toNat_of_nonneg (Int.emod_nonneg _ (by omega))]
    have hp3 : p < spare := hp2 ▸ placeOf_lt (by omega)
    have hgi : g i = if row[p]? = some 0 ∧ row[p + (m + 1)]? = some 0 then lawFilled cell m (put2 row p (m + 1)) else none := by
      rw [← hg, ← hp2]
    refine ⟨_, rfl, _, rfl, _, rfl, _, rfl, cell, ((m + 1 : Nat) : Int), (spare : Int), rfl, by omega, _, _, rfl, rfl, _, rfl, _, _, rfl, rfl, (by omega : (0 : Int) < (spare : Int)), ?_⟩
    simp only [hp]
    have eA1 := s1 _ _ eA
    obtain ⟨x, hx⟩ : ∃ x, row[p]? = some x := ⟨row[p]'(by omega), List.getElem?_eq_getElem (by omega)⟩
    obtain ⟨y, hy⟩ : ∃ y, row[p + (m + 1)]? = some y := ⟨row[p + (m + 1)]'(by omega), List.getElem?_eq_getElem (by omega)⟩
    refine ⟨_, rfl, _, rfl, a, _, (p : Int), V.int x, rfl, rfl, SqL.of eA1, at_ints (by omega) (by rw [Int.toNat_natCast]; exact hx), rfl, _, rfl, ite2 (fun d => ?_) (fun d => ?_)⟩
    · have d1 : x = 0 := V.int.inj (of_decide_eq_true d)
      have ea : (p : Int) + ((m + 1 : Nat) : Int) = ((p + (m + 1) : Nat) : Int) := by omega
      refine ⟨_, rfl, _, rfl, _, rfl, _, _, rfl, rfl, a, _, _, V.int y, rfl, rfl, SqL.of eA1, at_ints (by omega) (by rw [ea, Int.toNat_natCast]; exact hy), rfl, _, rfl, ite2 (fun d2 => ?_) (fun d2 => ?_)⟩
      · have d3 : y = 0 := V.int.inj (of_decide_eq_true d2)
        rw [d1] at hx
        rw [d3] at hy
        rw [if_pos ⟨hx, hy⟩] at hgi
        -- more
        refine ⟨_, rfl, a, _, rfl, .inl (SqL.of eA1), fun l nl => ?_⟩
        have nlH : H l = none := s1.free nl
        refine ⟨_, rfl, _, rfl, _, rfl, l, _, _, _, rfl, rfl, upd_same, ixN_at (by omega) (by rw [hL]; omega), ?_⟩
        rw [upd_upd, set_ints, Int.toNat_natCast]
        refine ⟨_, rfl, _, rfl, _, rfl, _, rfl, _, _, rfl, rfl, l, _, _, _, rfl, rfl, upd_same, ixN_at (by omega) (by rw [ints_len, List.length_set]; omega), ?_⟩
        rw [upd_upd, set_ints]
        rw [show ((row.set p ((m + 1 : Nat) : Int)).set ((p : Int) + ((m + 1 : Nat) : Int)).toNat ((m + 1 : Nat) : Int)) = put2 row p (m + 1) by rw [ea, Int.toNat_natCast]; rfl]
        have s2 : Same H (upd H1 l (.lst ((put2 row p (m + 1)).map V.int))) := s1.new nl
        refine ⟨_, rfl, _, rfl, _, _, rfl, rfl, _, rfl, l, put2 row p (m + 1), m, ((m + 1 : Nat) : Int) - 1, cell, rfl, by omega, upd_same, by omega, by rw [put2_length]; omega, by rw [put2_length]; omega, fun hN H3 s3 => ?_, fun r hS H3 p3 s3 e3 => ?_⟩
        · -- nothing is found there
          refine ⟨_, rfl, rfl, _, rfl, iteFa rfl ?_⟩
          refine ⟨_, _, _, _, rfl, s2.trans s3, by omega, ?_⟩
          rw [hN] at hgi
          rw [eF, firstFrom_miss hgi, hk2]
        · refine ⟨_, rfl, rfl, _, rfl, iteTr rfl ?_⟩
          rw [hS] at hgi
          rw [firstFrom_hit hgi] at eF
          exact ⟨_, rfl, qs r eF H3 p3 (s2.trans s3) e3⟩
      · have d3 : ¬ y = 0 := fun z => d2 (decide_eq_true (congrArg V.int z))
        have hN : g i = none := by
          rw [hgi, if_neg]
          rintro ⟨_, z⟩
          rw [hy] at z
          exact d3 (Option.some.inj z)
        refine ⟨_, _, _, _, rfl, s1, by omega, ?_⟩
        rw [eF, firstFrom_miss hN, hk2]
    · have d1 : ¬ x = 0 := fun z => d (decide_eq_true (congrArg V.int z))
      have hN : g i = none := by
        rw [hgi, if_neg]
        rintro ⟨z, _⟩
        rw [hx] at z
        exact d1 (Option.some.inj z)
      refine iteF ?_
      refine ⟨_, _, _, _, rfl, s1, by omega, ?_⟩
      rw [eF, firstFrom_miss hN, hk2]
  · rintro σ H1 ⟨y4, y5, y6, y7, rfl, s1, _, eF⟩
    rw [Int.toNat_natCast, Nat.sub_self] at eF
    exact qn eF H1 s1
theorem kn_law_filled (D : Df K mg "_law_filled" st_law_filled ["row", "number", "cell"]) (B : Bl mg) (K_law_draw : Kn P w K mg base CX0 1 "_law_draw" ["cell", "k", "bound"] spDraw) : ∀ n : Nat, Kn P w K mg base CX0 (n + 1) "_law_filled" ["row", "number", "cell"] (spLawFilled n)
  | 0 => D.neverL fun vs H Q E h => by
    obtain ⟨_, _, m, _, _, _, _, _, hm, _⟩ := h
    omega
  | n + 1 => kn_law_filled1 D B K_law_draw (kn_law_filled D B K_law_draw n)
end

/-! ### _law_small_row -/
abbrev N_law_small_row : List Str := ["script", "first", "size", "k"]
theorem sc_law_small_row : FnScope N_law_small_row ["script", "first"] (defScope st_law_small_row) := ⟨rfl, rfl, rfl, by decide +kernel, rfl, by decide +kernel, by decide +kernel⟩
/-- one of the five sizes -/
def smallSize (c : Int) : Nat := [1, 4, 5, 8, 9, 4, 5].getD (c % 7).toNat 1
theorem smallSize_is (c : Int) : smallSize c = 1 ∨ smallSize c = 4 ∨ smallSize c = 5 ∨ smallSize c = 8 ∨ smallSize c = 9 := by
  unfold smallSize
  have h : (c % 7).toNat = 0 ∨ (c % 7).toNat = 1 ∨ (c % 7).toNat = 2 ∨ (c % 7).toNat = 3 ∨ (c % 7).toNat = 4 ∨ (c % 7).toNat = 5 ∨ (c % 7).toNat = 6 := by omega
  rcases h with h | h | h | h | h | h | h <;> rw [h] <;> decide
def spSmallRow (K : PySem.W.Frag) : Sp := fun vs H Q _ => ∃ (a : Addr) (ns : List Int) (first : Int), vs = [.ref a, .int first] ∧ SqL K H a (ns.map V.int) ∧ 0 ≤ first ∧
  ∀ r, isRow r = true → r.length ≤ 18 → ∀ H' p, Same H H' → H' p = some (.lst (r.map V.int)) → Q (.ref p) H'
section
variable {P : Program} {w : World} {K : PySem.W.Frag} {mg : Str → Option Value} {base : Heap}
theorem kn_law_small_row (D : Df K mg "_law_small_row" st_law_small_row ["script", "first"]) (B : Bl mg) (K_law_cell_at : Kn P w K mg base CX0 1 "_law_cell_at" ["script", "k"] (spCellAt K)) (K_law_filled : Kn P w K mg base CX0 11 "_law_filled" ["row", "number", "cell"] (spLawFilled 10)) :
    Kn P w K mg base CX0 12 "_law_small_row" ["script", "first"] (spSmallRow K) := by
  refine D.kn sc_law_small_row (fun vs H Q E h => ?_) (fun f cdv A outer s H vs Q E hr h => ?_)
  · obtain ⟨a, ns, k, rfl, _⟩ := h
    rfl
  obtain ⟨a, ns, first, rfl, hS, h0, q⟩ := h
  refine ⟨_, (pss_cons (ps_set (i := 2) sc_law_small_row.nd rfl (Or.inl rfl) (pe_ix ix_list (pe_lst (pa_cons pe_int (pa_cons pe_int (pa_cons pe_int (pa_cons pe_int (pa_cons pe_int (pa_cons pe_int (pa_cons pe_int pa_nil)))))))) (pe_op op_mod (pe_k0 K_law_cell_at (hr.mono (by first | decide | omega)) (by rfl) (pa_cons (pv 0) (pa_cons (pv 1) pa_nil))) pe_int) (fun _ _ => rfl)))
      (pss_one (ps_ret (pe_k0 K_law_filled (hr.mono (by first | decide | omega)) (by rfl) (pa_cons (pe_lc (own := [("k", 3)]) (g := gName 3) (tt := tYes) rfl sc_law_small_row.nd (pi_range1 (by rfl) B.range_ (pa_cons (pe_op op_mul pe_int (pv 2)) pa_nil)) (blkOk_by (own := [("k", 3)]) (N := N_law_small_row) (sc := defScope st_law_small_row) (by decide +kernel)) (fun _ _ _ _ _ => pg_name (i := 3) sc_law_small_row.nd rfl (Or.inl rfl)) (fun _ _ _ _ _ => pts_nil) (fun _ _ _ _ _ => pe_int)) (pa_cons (pv 2) (pa_cons (pe_k0 K_law_cell_at (hr.mono (by first | decide | omega)) (by rfl) (pa_cons (pv 0) (pa_cons (pe_op op_add (pv 1) pe_int) pa_nil))) pa_nil))))))), ?_⟩
  refine ⟨small (show 7 ≤ 16777216 by decide), fun l nl => ?_⟩
  generalize hHl : upd H l (.lst [V.int 1, V.int 4, V.int 5, V.int 8, V.int 9, V.int 4, V.int 5]) = H1
  have s1 : Same H H1 := hHl ▸ same_upd nl
  have e1 : H1 l = some (.lst ((([1, 4, 5, 8, 9, 4, 5] : List Int)).map V.int)) := hHl ▸ upd_same
  clear hHl
  generalize hc : cellAt ns first = c
  have hsz : (([1, 4, 5, 8, 9, 4, 5] : List Int))[(c % 7).toNat]? = some ((smallSize c : Nat) : Int) := by
    unfold smallSize
    have h : (c % 7).toNat = 0 ∨ (c % 7).toNat = 1 ∨ (c % 7).toNat = 2 ∨ (c % 7).toNat = 3 ∨ (c % 7).toNat = 4 ∨ (c % 7).toNat = 5 ∨ (c % 7).toNat = 6 := by omega
    rcases h with h | h | h | h | h | h | h <;> rw [h] <;> rfl
  refine ⟨_, rfl, _, rfl, a, ns, first, rfl, s1.seq hS, h0, _, _, rfl, rfl, (by decide : (0 : Int) < 7), l, _, _, V.int ((smallSize c : Nat) : Int), rfl, rfl, SqL.of e1, ?_, ?_⟩
  · show atI _ (cellAt ns first % 7) = _
    rw [hc]
    exact at_ints (Int.emod_nonneg _ (by decide)) hsz
  have h5 := smallSize_is c
  generalize smallSize c = size at h5
  have z1 : 1 ≤ size := by omega
  have z2 : size ≤ 9 := by omega
  have z3 : size % 4 < 2 := by omega
  refine ⟨_, rfl, _, _, rfl, rfl, .inl ⟨by decide, by decide⟩, 2 * (size : Int), rfl, by omega, by omega, fun D nD => ?_⟩
  refine lc_noughts (n := (2 * (size : Int)).toNat) (by omega) ?_
  have e2n : (2 * (size : Int)).toNat = 2 * size := by omega
  rw [e2n]
  refine ⟨_, rfl, _, rfl, _, rfl, _, _, rfl, rfl, a, ns, first + 1, rfl, (s1.new nD).seq hS, by omega, ?_⟩
  obtain ⟨r, hr1, hr2, hr3⟩ := lawFilled_row (cellAt ns (first + 1)) z1 (by omega) z3
  have hl : (List.replicate (2 * size) (0 : Int)).length = 2 * size := List.length_replicate
  refine ⟨D, _, size, _, _, rfl, rfl, upd_same, by omega, by omega, by omega, fun hN => ?_, fun r' hr' H' p s2 e2 => ?_⟩
  · rw [hr1] at hN
    cases hN
  · rw [hr1] at hr'
    cases hr'
    exact q r hr2 (by omega) H' p ((s1.new nD).trans s2) e2
end

-- IMPORT HandS.Rev
/-! ### list(reversed(a list)) -/
end Sa
namespace RT
open PySem PySem.Spec PyProof.Rows
section
variable {prog : Program} {w : World} {A : Around} {E : Value → Shared → Prop} {s : Shared}
theorem extend_rev {R : Result → Shared → Prop} {it l : Addr} {items : Array Value} (hh : A.handled = none) (hit : s.heap.IsRevIter it l ((items.size : Int) - 1)) (hl : s.heap.IsList l items) (hne : l ≠ it) (hn : items.size ≤ sizeLine) (S : Addr) (res : Value) (c₀ : Nat)
    (hS : s.heap.get? S = some { cls := .type "list", data := .seq #[] c₀ }) (hSl : S ≠ l) (hSi : S ≠ it)
    (hR : ∀ h' tk acc' c', (∀ b o, b ≠ S → b ≠ it → s.heap.get? b = some o → h'.get? b = some o) → h'.get? S = some { cls := .type "list", dict := none, data := .seq acc' c', slots := #[] } →
      ItemsOf (fun i v => items[items.size - 1 - i]? = some v) acc' items.size → R (.ok (.ret res)) { s with heap := h', toks := tk }) :
    wpAny (model prog w) A.in1 (Builtin.List.listExtendWith (.ref S) (.ref it) res)
      (fun fin s' => match fin with | .done f => R (.ok f) s' | .again c' => c'.quiet = true ∧ codeAny (model prog w) A c' R s') (fun e s' => R (.error e) s') s := by
  have W := (Walks.listRev (prog := prog) (w := w) (A := A.in1) hh it l hne items).toS
  have hSf : S ∉ [it, l] := by simp only [List.mem_cons, List.not_mem_nil, or_false, not_or]; exact ⟨hSi, hSl⟩
  have hT : s.TypeIs (.ref it) "list_reverseiterator" := Heap.IsRevIter.typeIs hit
  have h1 : Builtin.List.listSameRef (.ref S) (.ref it) = false := by simp [Builtin.List.listSameRef, hSi]
  unfold Builtin.List.listExtendWith
  refine wpAny_bind (wpAny_typeOf hT ?_)
  rw [if_neg (by rw [h1]; decide)]
  refine wpAny_bind (wpAny_pyIter_revIter hit ?_)
  refine wpAny_bind (wpAny_holding ?_)
  unfold Builtin.List.listLengthHint
  refine wpAny_bind (wpAny_specialOf hT nolen_lri ?_)
  show wpAny _ A.in1 (specialOf (Value.ref it) (Str.ofString "__length_hint__") >>= _) _ _ _
  refine wpAny_bind (wpAny_specialOf hT hint_lri ?_)
  generalize hid : ("list_reverseiterator.__length_hint__" : String) = id0
  wp_delta
  rw [show splitId id0 = some ("list_reverseiterator", "__length_hint__") from by subst hid; decide +kernel]
  subst hid
  refine wpAny_bind (wpAny_isInstance (b := true) hT (by rw [isSubtype_type]; kernel_rfl) ?_)
  refine wpAny_pure ?_
  rw [if_neg (by decide)]
  have e0 : ((items.size : Nat) : Int) - 1 - ((0 : Nat) : Int) = (items.size : Int) - 1 := by omega
  refine wpAny_pure ⟨plainId_quiet F.plain_extend_loop _, codeAny_extend_loopS W hn _ hSf _ items.size 0 _ _ _ rfl (Nat.zero_le _) ⟨Nat.zero_le _, by rw [e0]; exact hit, hl⟩ hS (ItemsOf.nil _) fun s' acc' c' hm hS' hacc => ?_⟩
  rw [Moved.eq_with hm]
  refine hR s'.heap s'.toks acc' c' (fun b o hb hb2 e => hm.heap b o (fun hmem => ?_) e) hS' hacc
  rcases List.mem_cons.mp hmem with e' | hmem
  · exact hb e'
  · exact hb2 (List.mem_singleton.mp hmem)
theorem list_init_rev {R : Result → Shared → Prop} {it l : Addr} {items : Array Value} (hh : A.handled = none) (hit : s.heap.IsRevIter it l ((items.size : Int) - 1)) (hl : s.heap.IsList l items) (hne : l ≠ it) (hn : items.size ≤ sizeLine) (S : Addr)
    (hS : s.heap.get? S = some { cls := .type "list", data := .seq #[] }) (hSl : S ≠ l) (hSi : S ≠ it)
    (hR : ∀ h' tk acc' c', (∀ b o, b ≠ S → b ≠ it → s.heap.get? b = some o → h'.get? b = some o) → h'.get? S = some { cls := .type "list", dict := none, data := .seq acc' c', slots := #[] } →
      ItemsOf (fun i v => items[items.size - 1 - i]? = some v) acc' items.size → R (.ok (.ret .none)) { s with heap := h', toks := tk }) :
    wpAny (model prog w) A.in1 (Builtin.«list.__init__» ⟨[.ref S, .ref it], []⟩)
      (fun fin s' => match fin with | .done f => R (.ok f) s' | .again c' => c'.quiet = true ∧ codeAny (model prog w) A c' R s') (fun e s' => R (.error e) s') s := by
  show wpAny _ _ (do let old ← Builtin.List.listItems (.ref S); Builtin.List.listUpdate (.ref S) (fun _ => #[]); letGo old.toList.reverse; Builtin.List.listExtendWith (.ref S) (.ref it) .none) _ _ s
  refine wpAny_bind ?_
  unfold Builtin.List.listItems
  refine wpAny_bind (wpAny_seqItems hS rfl (wpAny_pure ?_))
  show wpAny _ _ (updateSeq S (fun _ => #[]) >>= fun _ => letGo (#[] : Array Value).toList.reverse >>= fun _ => Builtin.List.listExtendWith (.ref S) (.ref it) .none) _ _ s
  refine wpAny_bind (wpAny_updateSeq hS rfl ?_)
  have hS₂ := Heap.get?_update_self (Obj.mapSeq (fun _ => (#[] : Array Value))) hS rfl
  have oth : ∀ b o, b ≠ S → s.heap.get? b = some o → (s.heap.update S (Obj.mapSeq (fun _ => (#[] : Array Value)))).get? b = some o :=
    fun b o hb e => (Heap.get?_update_other _ _ (Ne.symm hb)).trans e
  refine wpAny_bind (wpAny_letGo ?_)
  have hl2 : (s.heap.update S (Obj.mapSeq (fun _ => (#[] : Array Value)))).IsList l items := by
    obtain ⟨o, ho, r⟩ := hl
    exact ⟨o, oth l o (Ne.symm hSl) ho, r⟩
  refine extend_rev (s := { s with heap := s.heap.update S (Obj.mapSeq (fun _ => (#[] : Array Value))) }) hh (hit.at fun o e => oth it o (Ne.symm hSi) e) hl2 hne hn S .none _ hS₂ hSl hSi fun h' tk acc' c' hk hS' hacc => ?_
  exact hR h' tk acc' c' (fun b o hb hb2 e => hk b o hb hb2 (oth b o hb e)) hS' hacc
theorem call_list_rev {Q : Value → Shared → Prop} {it l : Addr} {items : Array Value} (hh : A.handled = none) (hit : s.heap.IsRevIter it l ((items.size : Int) - 1)) (hl : s.heap.IsList l items) (hne : l ≠ it) (hn : items.size ≤ sizeLine)
    (hQ : ∀ h' tk acc' c', (∀ b o, b ≠ it → s.heap.get? b = some o → h'.get? b = some o) →
      h'.get? s.heap.objs.size = some { cls := .type "list", dict := none, data := .seq acc' c', slots := #[] } → ItemsOf (fun i v => items[items.size - 1 - i]? = some v) acc' items.size → Q (.ref s.heap.objs.size) { s with heap := h', toks := tk }) :
    wpAny (model prog w) A (call (.type "list") [.ref it]) Q E s := by
  obtain ⟨oi, hoi, _⟩ := id hit
  obtain ⟨ol, hol, _⟩ := id hl
  refine callType_codes (Q₁ := fun obj s₁ => obj = .ref s.heap.objs.size ∧ s₁ = { s with heap := s.heap.push { cls := .type "list", data := .seq #[] } }) F.called_list (F.typeCall_list_1 _) F.entry_list_init
    (code_list_new _ ⟨rfl, rfl⟩) fun obj s₁ h₁ => ?_
  obtain ⟨rfl, rfl⟩ := h₁
  have hS : (s.heap.push { cls := .type "list", data := .seq #[] }).get? s.heap.objs.size = some { cls := .type "list", data := .seq #[] } := Heap.get?_push_size _ rfl
  refine ⟨⟨_, hS, rfl⟩, F.args_list_init_2 _ _, list_init_rev (A := A.in1) (s := { s with heap := s.heap.push { cls := .type "list", data := .seq #[] } }) hh (hit.at fun o e => Heap.get?_push_of_some _ e) (hl.push _) hne hn _ hS (Nat.ne_of_gt (Heap.lt_size hol)) (Nat.ne_of_gt (Heap.lt_size hoi)) fun h' tk acc' c' hk hS' hacc => ?_⟩
  exact ⟨rfl, hQ h' tk acc' c' (fun b o hb e => hk b o (Nat.ne_of_lt (Heap.lt_size e)) hb (Heap.get?_push_of_some _ e)) hS' hacc⟩
end
end RT
namespace Sa
open PySem PySem.Spec PyProof.Rows L2 RT
def tListRev (K : PySem.W.Frag) (te : TE) : TE := fun σ H Q => te σ H fun v H1 => ∃ (a : Addr) (xs : List V), v = .ref a ∧ SqL K H1 a xs ∧ ∀ q, H1 q = none → Q (.ref q) (upd H1 q (.lst xs.reverse))
section
variable {X : Cx}
theorem pe_listRev {e : Expr} {te : TE} {p p2 pos pos2 : Pos} (hc : X.calm = true) (hg : Gl X "list") (hm : X.mg "list" = none) (hg2 : Gl X "reversed") (hm2 : X.mg "reversed" = none) (he : PE X e te)
    (hs : starEach [e] X.env = (false, eval e X.env) :: starEach [] X.env := by rfl)
    (hs2 : starEach [.Call (.Name "reversed" p2) [e] [] pos2] X.env = (false, eval (.Call (.Name "reversed" p2) [e] [] pos2) X.env) :: starEach [] X.env := by rfl) :
    PE X (.Call (.Name "list" p) [.Call (.Name "reversed" p2) [e] [] pos2] [] pos) (tListRev X.K te) := by
  refine ⟨fun pins s σ H Q I h => ?_⟩
  refine Call_ (ld_blt I hg hm boot_list (PyProof.Rows.callWith_type1 (args_cons (Call_ (ld_blt I hg2 hm2 PyProof.Rows.boot_reversed (PyProof.Rows.callWith_type1 (args_cons (thn (he.run pins s σ H _ I h) fun u s1 ⟨v, H1, I1, r1, q1⟩ => args_nil ?_) hs) hs rfl))) hs2) hs2 rfl))
  obtain ⟨a, xs, ev, hq, q⟩ := q1
  subst ev
  obtain rfl : u = Value.ref a := r1
  obtain ⟨its, rv, p', hz⟩ := I1.list hq
  refine call_reversed_list p'.isList (args_nil ?_)
  have k0 : ∀ b o, s1.heap.get? b = some o → (s1.heap.push (revObj a ((its.toArray.size : Int) - 1))).get? b = some o := fun b o e => Heap.get?_push_of_some _ e
  have I2 : Inv X pins σ H1 { s1 with heap := s1.heap.push (revObj a ((its.toArray.size : Int) - 1)) } := I1.kept (t' := s1.toks) k0
  obtain ⟨f0, f1, f2, f3, f4, f5⟩ := I1.fpOk (H' := H1) (b := s1.heap.objs.size) (Nat.le_refl _) (I1.hok.fresh (Nat.le_refl _))
  have hl := p'.isList
  obtain ⟨ol, hol, _⟩ := id hl
  have hne : a ≠ s1.heap.objs.size := Nat.ne_of_lt (Heap.lt_size hol)
  have hn : its.toArray.size ≤ sizeLine := by rw [List.size_toArray, ← rv.length]; exact hz
  refine call_list_rev (s := { s1 with heap := s1.heap.push (revObj a ((its.toArray.size : Int) - 1)) }) (I1.ok.hd hc) ⟨_, Heap.get?_push_size _ rfl, rfl, rfl⟩ (hl.push _) hne hn fun h' tk acc c hk hS hi => ?_
  have hfr : s1.heap.objs.size ≤ (s1.heap.push (revObj a ((its.toArray.size : Int) - 1))).objs.size := by
    show _ ≤ (Array.push _ _).size
    rw [Array.size_push]
    exact Nat.le_succ _
  refine ⟨.ref _, upd H1 _ (.lst xs.reverse), ?_, rfl, q _ (I1.hok.fresh hfr)⟩
  exact I1.laid (t' := tk) (fun b o e => hk b o (Nat.ne_of_lt (Heap.lt_size e)) (Heap.get?_push_of_some _ e)) hfr (show ObjOk X.prog X.w _ _ _ (.lst xs.reverse) from ⟨by rw [List.length_reverse]; exact hz, acc.toList, c, vals_rev rv hi, by rw [Array.toArray_toList]; exact hS⟩)
end

/-! ### texts of numbers -/
open TL (tl numL)
/-- str(n) -/
abbrev numS (n : Int) : Str := Str.ofString (toString n)
theorem tl_numS (m : Nat) : tl (numS (m : Int)) = numL m := TL.tl_num m
def words (ns : List Int) : List Str := ns.map numS
/-- the text of a row -/
def txt (ns : List Int) : Str := Txt.join " " (words ns)
theorem tl_blank : tl (" " : Str) = [32] := by decide +kernel
theorem joinL_snoc (S p : List Nat) : ∀ ps : List (List Nat), ps ≠ [] → TL.joinL S (ps ++ [p]) = TL.joinL S ps ++ (S ++ p)
  | [], h => absurd rfl h
  | [q], _ => rfl
  | q :: r :: t, _ => by
    have ih := joinL_snoc S p (r :: t) (by simp)
    show q ++ (S ++ TL.joinL S ((r :: t) ++ [p])) = (q ++ (S ++ TL.joinL S (r :: t))) ++ (S ++ p)
    rw [ih, List.append_assoc, List.append_assoc]
theorem tl_txt (ns : List Int) : tl (txt ns) = TL.joinL [32] ((words ns).map tl) := by
  unfold txt
  rw [TL.join_eq, TL.tl_join, tl_blank]
theorem txt_one (n : Int) : txt [n] = numS n := TL.ext_tl (by rw [tl_txt]; rfl)
theorem txt_snoc {ns : List Int} (n : Int) (h : ns ≠ []) : txt (ns ++ [n]) = txt ns ++ " " ++ numS n := by
  refine TL.ext_tl ?_
  rw [tl_txt, TL.tl_append, TL.tl_append, tl_txt, tl_blank]
  unfold words
  rw [List.map_append, List.map_append]
  show TL.joinL [32] (List.map tl (List.map numS ns) ++ [tl (numS n)]) = _
  rw [joinL_snoc _ _ _ (by simpa using h), List.append_assoc]
theorem joinL_len (k : Nat) : ∀ ps : List (List Nat), (∀ p ∈ ps, p.length ≤ k) → (TL.joinL [32] ps).length ≤ (k + 1) * ps.length
  | [], _ => Nat.zero_le _
  | [q], h => by
    have := h q (by simp)
    show q.length ≤ _
    simp
    omega
  | q :: r :: t, h => by
    have ih := joinL_len k (r :: t) fun p hp => h p (List.mem_cons_of_mem _ hp)
    have := h q (by simp)
    show (q ++ ([32] ++ TL.joinL [32] (r :: t))).length ≤ _
    rw [List.length_append, List.length_append, List.length_cons (as := r :: t), Nat.mul_succ]
    show q.length + (1 + _) ≤ _
    omega
/-- numbers of at most three figures -/
theorem numS_len {n : Int} (h1 : 0 ≤ n) (h2 : n < 1000) : (numS n).length ≤ 3 := by
  obtain ⟨m, rfl⟩ : ∃ m : Nat, n = m := ⟨n.toNat, by omega⟩
  rw [TL.len_tl, tl_numS]
  exact TL.numL_len (k := 3) (by decide) (by omega)
theorem words_len {ns : List Int} (h : ∀ n ∈ ns, 0 ≤ n ∧ n < 1000) : ∀ p ∈ (words ns).map tl, p.length ≤ 3 := by
  intro p hp
  obtain ⟨w, hw, rfl⟩ := List.mem_map.mp hp
  obtain ⟨n, hn, rfl⟩ := List.mem_map.mp hw
  rw [← TL.len_tl]
  exact numS_len (h n hn).1 (h n hn).2
theorem txt_len {ns : List Int} (h : ∀ n ∈ ns, 0 ≤ n ∧ n < 1000) : (txt ns).length ≤ 4 * ns.length := by
  rw [TL.len_tl, tl_txt]
  have := joinL_len 3 _ (words_len h)
  unfold words at this ⊢
  simpa using this
theorem sum_le {k : Nat} : ∀ {l : List Nat}, (∀ x ∈ l, x ≤ k) → l.sum ≤ k * l.length
  | [], _ => Nat.zero_le _
  | x :: l, h => by
    have ih := sum_le fun y hy => h y (List.mem_cons_of_mem x hy)
    have := h x (by simp)
    rw [List.sum_cons, List.length_cons, Nat.mul_succ]
    omega
theorem words_sum {ns : List Int} (h : ∀ n ∈ ns, 0 ≤ n ∧ n < 1000) : ((words ns).map (·.length)).sum + (words ns).length * (" " : Str).length ≤ 4 * ns.length := by
  have h1 : ((words ns).map (·.length)).sum ≤ 3 * ((words ns).map (·.length)).length := sum_le fun x hx => by
    obtain ⟨w, hw, rfl⟩ := List.mem_map.mp hx
    obtain ⟨n, hn, rfl⟩ := List.mem_map.mp hw
    exact numS_len (h n hn).1 (h n hn).2
  have h2 : (" " : Str).length = 1 := by decide +kernel
  rw [List.length_map] at h1
  have h3 : (words ns).length = ns.length := by unfold words; rw [List.length_map]
  rw [h3] at h1 ⊢
  rw [h2]
  omega
theorem row_num {ns : List Int} (h : isRow ns = true) : ∀ n ∈ ns, 0 ≤ n ∧ n < 1000 := fun n hn => by
  have := isRow_bound h n hn
  have := nOf_pos h
  unfold nOf at this
  omega
/-- what is written is split again -/
theorem split_txt {ns : List Int} (hne : ns ≠ []) (h : ∀ n ∈ ns, 0 ≤ n) : Txt.split (txt ns) " " = words ns := by
  refine TL.split_join tl_blank (by decide +kernel) (by unfold words; simpa using hne) fun p hp => ?_
  obtain ⟨n, hn, rfl⟩ := List.mem_map.mp hp
  obtain ⟨m, rfl⟩ : ∃ m : Nat, n = m := ⟨n.toNat, by have := h n hn; omega⟩
  rw [tl_numS]
  exact TL.numL_free (by omega)
/-! ### words that write a number -/
def figs (l : List Nat) : Bool := l.all fun c => decide (48 ≤ c) && decide (c ≤ 57)
def wordOk (l : List Nat) : Bool := decide (1 ≤ l.length) && decide (l.length ≤ 3) && decide (l[0]? ≠ some 48) && figs l
def wordVal (l : List Nat) : Int := ((NumText.digitsVal l : Nat) : Int)
theorem figs_iff {l : List Nat} : figs l = true ↔ NumText.AllDigits l := by
  unfold figs
  rw [List.all_eq_true]
  constructor
  · intro h c hc
    have := h c hc
    simp at this
    exact this
  · intro h c hc
    have := h c hc
    simp
    exact this
theorem numL_head {n : Nat} (h : 0 < n) : (numL n)[0]? ≠ some 48 := by
  induction n using Nat.strongRecOn with
  | _ n ih =>
    by_cases c : n < 10
    · rw [TL.numL_lt c]
      simp
      omega
    · rw [TL.numL_step (by omega)]
      have hne := TL.numL_ne (n / 10)
      rw [List.getElem?_append_left (List.length_pos_iff.mpr hne)]
      exact ih (n / 10) (by omega) (by omega)
theorem numS_ok {m : Nat} (h1 : 1 ≤ m) (h2 : m < 1000) : wordOk (tl (numS (m : Int))) = true ∧ wordVal (tl (numS (m : Int))) = (m : Int) := by
  rw [tl_numS]
  have l1 := TL.numL_len (n := m) (k := 3) (by decide) (by omega)
  have l0 : 1 ≤ (numL m).length := List.length_pos_iff.mpr (TL.numL_ne m)
  unfold wordOk wordVal
  rw [decide_eq_true l0, decide_eq_true l1, decide_eq_true (numL_head (by omega)), figs_iff.mpr (TL.numL_digits m), TL.numL_val]
  exact ⟨rfl, rfl⟩

/-! ### number_of -/
open TL (tl numL)
abbrev N_number_of : List Str := ["word", "sign"]
theorem sc_number_of : FnScope N_number_of ["word"] (defScope st_number_of) := ⟨rfl, rfl, rfl, by decide +kernel, rfl, by decide +kernel, by decide +kernel⟩
def spNumberOf (CN : Addr) : Sp := fun vs H Q E => ∃ word : Str, vs = [.str word] ∧ word.length ≤ 100000 ∧ (wordOk (tl word) = false → E (.ref CN) none H) ∧ (wordOk (tl word) = true → Q (.int (wordVal (tl word))) H)
theorem wordOk_iff {l : List Nat} : wordOk l = true ↔ 1 ≤ l.length ∧ l.length ≤ 3 ∧ l[0]? ≠ some 48 ∧ ∀ c ∈ l, 48 ≤ c ∧ c ≤ 57 := by
  unfold wordOk
  rw [Bool.and_eq_true, Bool.and_eq_true, Bool.and_eq_true, decide_eq_true_iff, decide_eq_true_iff, decide_eq_true_iff, figs_iff]
  constructor
  · rintro ⟨⟨⟨a, b⟩, c⟩, d⟩
    exact ⟨a, b, c, d⟩
  · rintro ⟨a, b, c, d⟩
    exact ⟨⟨⟨a, b⟩, c⟩, d⟩
theorem figures_mem (c : Nat) : c ∈ ("0123456789" : Str).cps.toList ↔ 48 ≤ c ∧ c ≤ 57 := by
  have e : ("0123456789" : Str).cps.toList = [48, 49, 50, 51, 52, 53, 54, 55, 56, 57] := by decide +kernel
  rw [e]
  simp
  omega
theorem sign_is {c d : Nat} : (⟨#[c]⟩ : Str) = ⟨#[d]⟩ ↔ c = d := by
  constructor
  · intro h
    have := congrArg (fun s : Str => s.cps.toList) h
    simpa using this
  · intro h
    rw [h]
section
variable {P : Program} {w : World} {K : PySem.W.Frag} {mg : Str → Option Value} {base : Heap}
theorem kn_number_of {CN : Addr} {tk : Tok} (D : Df K mg "number_of" st_number_of ["word"]) (B : Bl mg) (X_NoNote : Ec K mg "NoNote" CN) (C_FIGURES : mg "FIGURES" = some (.str "0123456789" tk)) : Kn P w K mg base (L2.CX P w) 1 "number_of" ["word"] (spNumberOf CN) := by
  refine D.knX sc_number_of (fun vs H Q E h => ?_) (fun f cdv A outer s H vs Q E hr h => ?_)
  · obtain ⟨_, rfl, _⟩ := h
    rfl
  obtain ⟨word, rfl, hl, h1, h2⟩ := h
  refine ⟨_, (pss_cons (ps_if (PW.pt (pw_or (pt_not (pt_chain op_le op_le pe_int (pe_callB call_len_str (by rfl) B.len_ (by decide +kernel) (pa_cons (pv 0) pa_nil)) pe_int)) (pw_or1 (pt_cmpR op_eq (pe_ix ix_str (pv 0) pe_int (fun _ _ => rfl)) pe_str (nomark _)))))
        (pss_one (ps_raise rfl (takes_of rfl rfl rfl rfl) (pmk_own PySem.F.excBase_ValueError X_NoNote.x X_NoNote.g X_NoNote.k (raises_own X_NoNote.b X_NoNote.t) rfl)))
        pss_nil)
      (pss_cons (ps_for (passes_of rfl) rfl (pi_str (pv 0)) (pg_name (i := 1) sc_number_of.nd rfl (Or.inl rfl))
        (pss_one (ps_if (pt_cmpR op_notIn_sign (pv 1) (pe_globS (by rfl) C_FIGURES) rfl)
          (pss_one (ps_raise rfl (takes_of rfl rfl rfl rfl) (pmk_own PySem.F.excBase_ValueError X_NoNote.x X_NoNote.g X_NoNote.k (raises_own X_NoNote.b X_NoNote.t) rfl)))
          pss_nil)))
      (pss_one (ps_ret (pe_callTy call_int_str (by rfl) B.int_ (by decide +kernel) (pa_cons (pv 0) pa_nil)))))), ?_⟩
  have hlen := TL.len_tl word
  have bad : ¬ (1 ≤ (tl word).length ∧ (tl word).length ≤ 3 ∧ (tl word)[0]? ≠ some 48 ∧ ∀ c ∈ tl word, 48 ≤ c ∧ c ≤ 57) → wordOk (tl word) = false := fun n => Bool.eq_false_iff.mpr fun z => n (wordOk_iff.mp z)
  refine ⟨_, rfl, word, rfl, small (by omega), _, _, rfl, rfl, _, rfl, ite2 (fun c => ?_) (fun c => ?_)⟩
  · have c1 : (1 : Int) ≤ (word.length : Int) := of_decide_eq_true c
    refine ⟨_, _, rfl, rfl, _, rfl, ite2 (fun c => ?_) (fun c => ?_)⟩
    · have c2 : ¬ (word.length : Int) ≤ 3 := by
        have q : (!decide ((word.length : Int) ≤ 3)) = true := c
        rw [Bool.not_eq_true', decide_eq_false_iff_not] at q
        exact q
      exact iteT (h1 (bad fun z => by omega))
    · have c2 : (word.length : Int) ≤ 3 := by
        have q : ¬ (!decide ((word.length : Int) ≤ 3)) = true := c
        rw [Bool.not_eq_true', decide_eq_false_iff_not, Decidable.not_not] at q
        exact q
      obtain ⟨d, hd⟩ : ∃ d, (tl word)[0]? = some d := ⟨_, List.getElem?_eq_getElem (by omega)⟩
      refine ⟨_, rfl, word, 0, d, rfl, rfl, small (by omega), atI_nat (j := 0) hd, rfl, _, rfl, ite2 (fun c => ?_) (fun c => ?_)⟩
      · have c3 : d = 48 := by
          have q := V.str.inj (of_decide_eq_true c)
          exact sign_is.mp q
        exact h1 (bad fun z => z.2.2.1 (by rw [hd, c3]))
      · have c3 : ¬ d = 48 := fun z => c (decide_eq_true (by rw [z]; rfl))
        have hpre : 1 ≤ (tl word).length ∧ (tl word).length ≤ 3 ∧ (tl word)[0]? ≠ some 48 := ⟨by omega, by omega, fun e => c3 (by rw [hd] at e; exact Option.some.inj e)⟩
        refine ⟨_, rfl, word, rfl, for_it (walk_str (z := word)) (fun i σ H' => ∃ y1, σ = [some (.str word), y1] ∧ H' = H ∧ ∀ c ∈ (tl word).take i, 48 ≤ c ∧ c ≤ 57) ⟨none, rfl, rfl, fun c hc => by simp at hc⟩ (fun _ _ _ _ _ => trivial) ?_ ?_⟩
        · rintro i x σ H2 H3 hi ⟨y1, rfl, rfl, hp⟩ ⟨rfl, e, he, rfl⟩
          have het : (tl word)[i]? = some e := by
            show word.cps.toList[i]? = some e
            rw [Array.getElem?_toList]
            exact he
          refine ⟨_, rfl, e, _, rfl, rfl, _, rfl, ite2 (fun c => ?_) (fun c => ?_)⟩
          · have c4 : ¬ (48 ≤ e ∧ e ≤ 57) := fun z => by
              have q : (!decide (e ∈ ("0123456789" : Str).cps.toList)) = true := c
              rw [decide_eq_true ((figures_mem e).mpr z)] at q
              cases q
            exact h1 (bad fun z => c4 (z.2.2.2 e (List.mem_of_getElem? het)))
          · have c4 : 48 ≤ e ∧ e ≤ 57 := by
              have q : ¬ (!decide (e ∈ ("0123456789" : Str).cps.toList)) = true := c
              rw [Bool.not_eq_true', decide_eq_false_iff_not, Decidable.not_not] at q
              exact (figures_mem e).mp q
            refine ⟨_, rfl, rfl, fun c' hc' => ?_⟩
            rw [take_snoc het, List.mem_append, List.mem_singleton] at hc'
            rcases hc' with hc' | rfl
            · exact hp c' hc'
            · exact c4
        · rintro σ H2 ⟨y1, rfl, rfl, hp⟩
          have hsz : word.cps.size = (tl word).length := by rw [← hlen]; rfl
          rw [hsz, List.take_length] at hp
          have ok : wordOk (tl word) = true := wordOk_iff.mpr ⟨hpre.1, hpre.2.1, hpre.2.2, hp⟩
          have hne : tl word ≠ [] := fun e => by rw [e] at hpre; have := hpre.1; simp at this
          refine ⟨_, rfl, word, _, rfl, PySem.intText_digits (x := word) hp hne (by omega), by omega, h2 ok⟩
  · have c1 : ¬ (1 : Int) ≤ (word.length : Int) := of_decide_eq_false (Bool.eq_false_iff.mpr c)
    exact ⟨false, rfl, iteT (h1 (bad fun z => by omega))⟩
end

-- IMPORT HandS.ExcIs
-- IMPORT HandS.HotCalls
/-! ### list.count of flat items -/
section
variable {X : Cx}
def rCntF (K : PySem.W.Frag) : V → List V → Hp → VK → Prop := fun x xs H Q => ∃ (a : Addr) (ys : List V) (y : V), x = V.ref a ∧ xs = [y] ∧ SqL K H a ys ∧ flatV y = true ∧ ys.all flatV = true ∧ Q (.int (ys.countP (fun z => eqV z y) : Nat)) H
theorem mt_countF : MtR X "list.count" (rCntF X.K) := by
  intro pins s σ H x xs v us Q I rx rxs h
  obtain ⟨a, ys, y, rfl, rfl, hs, fy, fys, q⟩ := h
  cases rx
  cases rxs with
  | cons ry rt =>
    rename_i uy ut
    cases rt
    obtain ⟨its, rv, ⟨⟨cls, dd, data, sl⟩, n, ho, hc, hdn, hd⟩, hlen⟩ := I.list hs
    simp only at hc hd
    subst hc hd
    refine call_meets PySem.F.slot_list_count ⟨_, ho, rfl⟩ PySem.F.entry_list_count (PySem.F.args_list_count_2 _ _)
      (SeqAt.list_countAt a its.toArray n dd sl uy (eqU y)) ⟨ho, fun u' hu' => mem_eqAt ry fy rv fys u' (by simpa using hu'), ?_⟩
    have ec : ∀ {ys : List V} {us : List Value}, Vals ys us → ys.all flatV = true → us.countP (eqU y) = ys.countP (fun z => eqV z y) := by
      intro ys
      induction ys with
      | nil => intro us r _; cases r; rfl
      | cons z ys ih =>
        intro us r f
        cases r with
        | cons rz rt =>
          have f' : flatV z = true ∧ ys.all flatV = true := by simpa using f
          rw [List.countP_cons, List.countP_cons, ih rt f'.2, eqU_of rz f'.1]
    refine ⟨.int (ys.countP (fun z => eqV z y) : Nat), H, I.tok _, ⟨s.toks, ?_⟩, q⟩
    show Value.int ((its.toArray.toList.countP (eqU y) : Nat) : Int) s.toks = _
    rw [show its.toArray.toList = its by simp, ec rv fys]
end
section
variable {X : Cx} {x : Str} {pos : Pos}
theorem pe_globC {C : Addr} (hg : Gl X x) (hm : X.mg x = some (.ref C)) (hd : (x == ("__debug__" : Str)) = false := by decide) : PE X (.Name x pos) (tC (.ref C)) := pe_glob hg hm rfl hd
end
/-! ### a def called in an except suite with the error that is handled -/
structure FnW (P : Program) (w : World) (K : PySem.W.Frag) (mg : Str → Option Value) (base : Heap) (k : Nat) (f : Addr) (fd : FuncData) (ps : List Str) (sp : Addr × Obj → Sp) : Prop where
  len : ∀ p vs H Q E, sp p vs H Q E → vs.length = ps.length
  run : ∀ (A : Around) (outer : List Env) (s : Shared) (H : Hp) (args : Args) (us : List Value) (vs : List V) (Q : VK) (E : XK) (p : Addr × Obj), L2H.RoomH k A → L2H.PinOk outer H s p → Env0 P w K mg base A outer s H → BindsTo s fd args (ps.zip us) → Vals vs us → sp p vs H Q E →
    codeAny (model P w) A (.call (.ref f) args) (CR CX0 outer P w H s Q E) s
theorem fn_ofW {P : Program} {w : World} {K : PySem.W.Frag} {mg : Str → Option Value} {base : Heap} {k : Nat} {f : Addr} {name qual : Str} {params : Arguments} {body : List Stmt} {scope : Scope} {dV kV doc pm cdv ct oc : Value} {an od : Option Addr}
    {osl : Array (Option Value)} {N ps : List Str} {sp : Addr × Obj → Sp} (lk : K.lookup f = some ⟨oc, od, .func (PySem.W.fnOf name qual params body scope dV kV doc pm an cdv ct), osl⟩) (hcd : PySem.W.codeIn K cdv qual = true) (S : FnScope N ps scope)
    (len : ∀ p vs H Q E, sp p vs H Q E → vs.length = ps.length)
    (hbody : ∀ (A : Around) (outer : List Env) (s : Shared) (H : Hp) (vs : List V) (Q : VK) (E : XK) (p : Addr × Obj), L2H.RoomH k (A.deeper (envOfC qual scope s.heap.objs.size f cdv)) → sp p vs H Q E →
      ∃ t, PSs (L2H.cxH CX0 P w K mg base N qual scope f cdv A outer s H E p) body t ∧ t { nx := fun _ H' => Q .non H', rt := Q } (L2.start N vs) H) :
    FnW P w K mg base (k + 1) f (PySem.W.fnOf name qual params body scope dV kV doc pm an cdv ct) ps sp := by
  refine ⟨len, fun A outer s H args us vs Q E p hr hpin e0 hb r hsp => ?_⟩
  have hl := len _ _ _ _ _ hsp
  have KX : K.In s.heap := e0.mod.kin.keeps fun b o e => (e0.bs b o e).1
  have lim : s.heap.NoLimit := e0.mod.nolimit.keeps fun b o e => (e0.bs b o e).1
  have hkind : ∀ y ∈ ps.zip us, scope.names.lookup y.1 = some .local ∨ (scope.names.lookup y.1 = some .cell ∧ ((PySem.cellsFrom (s.heap.objs.size + 1) scope.names []).lookup y.1).isSome = true) := fun ⟨n, v⟩ hy => by
    rcases S.par n (List.of_mem_zip hy).1 with q | q
    · exact .inl q
    · exact .inr ⟨q, PySem.W.cellsFrom_some _ _ _ (.inl q)⟩
  refine codeAny_call_function hr.depth (KX _ _ lk) rfl S.co S.gen rfl (PySem.W.codeRec_of KX hcd) (hb _ _ _ _ ?_)
  refine wpAny_newFunctionEnv_cells S.kind hkind fun env he s1 x => ?_
  subst he
  refine ⟨lim.keeps x.toInCall.keep, codeAny_func ?_⟩
  obtain ⟨t, ht, hq⟩ := hbody A outer s H vs Q E p (hr.deeper _) hsp
  have I : Inv (L2H.cxH CX0 P w K mg base N qual scope f cdv A outer s H E p) [] (L2.start N vs) H s1 := L2H.inv_startH S hpin e0 hl r x
  refine wpAny_mono (ht.run [] s1 (L2.start N vs) H _ I hq) (fun fl s' hs => ?_) fun e s' hs => hs
  have fin : ∀ {σ' : L2.St} {H' : Hp} {v : V} {u : Value}, Inv (L2H.cxH CX0 P w K mg base N qual scope f cdv A outer s H E p) [] σ' H' s' → RelV v u → Q v H' → CE outer P w H s Q u s' :=
    fun {σ' H' v u} J rv q => ⟨v, H', J.os, J.bare, J.base, J.hok, rv, q⟩
  cases fl with
  | ret u =>
    obtain ⟨v, σ', H', J, rv, q⟩ := hs
    exact fin J rv q
  | next =>
    obtain ⟨σ', H', J, q⟩ := hs
    exact fin (v := V.non) (u := Value.none) J rfl q
  | brk =>
    obtain ⟨_, _, _, q⟩ := hs
    exact False.elim q
  | cont =>
    obtain ⟨_, _, _, q⟩ := hs
    exact False.elim q
/-- a def of the text with such a promise -/
structure KnW (P : Program) (w : World) (K : PySem.W.Frag) (mg : Str → Option Value) (base : Heap) (k : Nat) (x : Str) (ps : List Str) (sp : Addr × Obj → Sp) : Prop where
  ex : ∃ (f : Addr) (fd : FuncData), FnW P w K mg base k f fd ps sp ∧ PySem.W.keepIn K (.ref f) = true ∧ Binds K fd ps [] ∧ mg x = some (.ref f)
theorem Df.knW {P : Program} {w : World} {K : PySem.W.Frag} {mg : Str → Option Value} {base : Heap} {x : Str} {st : Stmt} {ps N : List Str} {k : Nat} {sp : Addr × Obj → Sp} (D : Df K mg x st ps) (S : FnScope N ps (defScope st)) (len : ∀ p vs H Q E, sp p vs H Q E → vs.length = ps.length)
    (hbody : ∀ (f : Addr) (cdv : Value) (A : Around) (outer : List Env) (s : Shared) (H : Hp) (vs : List V) (Q : VK) (E : XK) (p : Addr × Obj), L2H.RoomH k (A.deeper (envOfC x (defScope st) s.heap.objs.size f cdv)) → sp p vs H Q E →
      ∃ t, PSs (L2H.cxH CX0 P w K mg base N x (defScope st) f cdv A outer s H E p) (defBody st) t ∧ t { nx := fun _ H' => Q .non H', rt := Q } (L2.start N vs) H) : KnW P w K mg base (k + 1) x ps sp := by
  obtain ⟨f, fd, F, b, g⟩ := D.ex
  obtain ⟨oc, od, kV, doc, pm, an, cdv, ct, osl, efd, lk, hcd⟩ := F.ex
  subst efd
  exact ⟨f, _, fn_ofW lk hcd S len (hbody f cdv), F.kp, b, g⟩
section
variable {X : Cx} {k : Nat} {x : Str} {ps : List Str} {sp : Addr × Obj → Sp} {p pos : Pos} {e : Expr} {es : List Expr} {t : TA}
theorem pe_kW {a : Addr} {oe : Obj} {pn : List (Addr × Obj)} (N : KnW X.prog X.w X.K X.mg X.base k x ps sp) (hr : L2H.RoomH k (X.suite a ((a, oe) :: pn)).A) (hg : Gl (X.suite a ((a, oe) :: pn)) x) (ha : PA (X.suite a ((a, oe) :: pn)) (e :: es) t) (hdb : (x == ("__debug__" : Str)) = false := by decide)
    (he : starEach (e :: es) X.env = (false, eval e X.env) :: starEach es X.env := by rfl) (hpl : (backTo pos (starEach es X.env)).any (·.1) = false := by rfl) :
    PE (X.suite a ((a, oe) :: pn)) (.Call (.Name x p) (e :: es) [] pos) (fun σ H Q => t σ H fun vs H1 => sp (a, oe) vs H1 Q E0) := by
  obtain ⟨f, fd, F, hk, hb, hm⟩ := N.ex
  refine ⟨fun pins s σ H Q I h => ?_⟩
  refine wpAny_Call_Name_kw (ld_glob I hg hm ?_ hdb)
  refine PySem.W.callWith_K (h₀ := X.base) I.ok.mod.kin hk (thn (ha.run pos pins s σ H _ I h) fun us s1 ⟨vs, H1, I1, r, q⟩ => ⟨I1.kIn, ?_⟩) he hpl
  have hl : us.length = ps.length := by rw [← r.length]; exact F.len _ _ _ _ _ q
  have b := hb s1 us I1.kIn (by rw [List.append_nil]; exact hl)
  rw [List.append_nil] at b
  have P1 := I1.pin (a, oe) (List.mem_append.mpr (.inl List.mem_cons_self))
  have hpin : L2H.PinOk (X.suite a ((a, oe) :: pn)).stack H1 s1 (a, oe) := ⟨P1.1, P1.2.1, fun hm => (List.mem_cons.mp (I1.stkSub a hm)).elim P1.2.2.1 P1.2.2.2.1, P1.2.2.2.2⟩
  refine wpAny_call (codeAny_mono (F.run _ _ s1 H1 ⟨us, []⟩ us vs Q E0 (a, oe) hr hpin I1.env0 b r q) fun r s' hq => ?_)
  cases r with
  | error e => exact (show False from hq).elim
  | ok fl =>
    cases fl with
    | ret u => exact I1.after hq
    | next => exact False.elim hq
    | brk => exact False.elim hq
    | cont => exact False.elim hq
/-- isinstance of that error in such a def -/
theorem call_isW {p : Addr × Obj} {D : Addr} (hp : p ∈ X.pn) (C : ExcC X.K D) (hz : Zc (.ref D) none p.2) (hf : ∃ vs, p.2.data = .fields vs) : CallR X (.builtin "isinstance") (rIsE X.K D p.1) := by
  intro pins s σ H xs us Q I r h
  obtain ⟨c, cv, b, rfl, hcv, e, q⟩ := h
  obtain ⟨a, oe⟩ := p
  cases r with
  | cons rx rr =>
    cases rr with
    | cons rt rr =>
      cases rr
      cases rx
      have ec := hcv _ rt
      subst ec
      obtain ⟨hget, _⟩ := I.pin (a, oe) (List.mem_append.mpr (.inl hp))
      obtain ⟨vs, hv⟩ := hf
      have J : PySem.W.InstAt s.heap a oe D none := by
        obtain ⟨oc, od, oda, osl⟩ := oe
        obtain ⟨h1, h2⟩ := hz
        dsimp only at h1 h2 hv
        subst h1 h2 hv
        exact ⟨hget, rfl, rfl, trivial⟩
      exact PySem.W.kia_one (PySem.W.handS_kitx_exc C.hg C.hk C.hs C.hd C.ha C.hn C.ht C.hm) I.kIn J e (fun z => nomatch z) fun tk => ⟨.bl b, H, I.kept (t' := tk) fun _ _ z => z, rfl, q⟩
/-- a call in a try -/
theorem pe_kT {W : WX} {sp : Sp} (N : Kn X.prog X.w X.K X.mg X.base (L2.CX X.prog X.w) k x ps sp) (tk : Takes X W) (hr : Room k X.A) (hg : Gl X x) (ha : PA X (e :: es) t) (hdb : (x == ("__debug__" : Str)) = false := by decide)
    (he : starEach (e :: es) X.env = (false, eval e X.env) :: starEach es X.env := by rfl) (hpl : (backTo pos (starEach es X.env)).any (·.1) = false := by rfl) : PE X (.Call (.Name x p) (e :: es) [] pos) (tCallS sp (WE W) t) := by
  obtain ⟨f, fd, F, kp, b, g⟩ := N.ex
  exact pe_callS F hr hg g kp b (fun σ => passAt tk σ) ha hdb he hpl
end

/-! ### _law_word_of -/
abbrev N_law_word_of : List Str := ["e", "kinds"]
theorem sc_law_word_of : FnScope N_law_word_of ["e"] (defScope st_law_word_of) := ⟨rfl, rfl, rfl, by decide +kernel, rfl, by decide +kernel, by decide +kernel⟩
/-- the error is of the j-th of the five classes -/
structure OfClass (K : PySem.W.Frag) (C0 C1 C2 C3 C4 D : Addr) (j : Nat) : Prop where
  x : ExcC K D
  k0 : PySem.W.kitOne K (.ref D) (.ref C0) = some (decide (j = 0))
  k1 : PySem.W.kitOne K (.ref D) (.ref C1) = some (decide (j = 1))
  k2 : PySem.W.kitOne K (.ref D) (.ref C2) = some (decide (j = 2))
  k3 : PySem.W.kitOne K (.ref D) (.ref C3) = some (decide (j = 3))
  k4 : PySem.W.kitOne K (.ref D) (.ref C4) = some (decide (j = 4))
  v : PySem.W.kitOne K (.ref D) (.type "ValueError") = some true
def classWords : List Str := ["size", "such", "row", "person", "note"]
def spWordOf (K : PySem.W.Frag) (C0 C1 C2 C3 C4 : Addr) (p : Addr × Obj) : Sp := fun vs H Q _ => ∃ (D : Addr) (j : Nat) (wd : Str), vs = [.ref p.1] ∧ Zc (.ref D) none p.2 ∧ (∃ vs, p.2.data = .fields vs) ∧ OfClass K C0 C1 C2 C3 C4 D j ∧ classWords[j]? = some wd ∧ ∀ H', Same H H' → Q (.str wd) H'
theorem one_count {j : Nat} (h : j < 5) : ([V.bl (decide (j = 0)), V.bl (decide (j = 1)), V.bl (decide (j = 2)), V.bl (decide (j = 3)), V.bl (decide (j = 4))] : List V).countP (fun z => eqV z (.bl true)) = 1 := by
  have : j = 0 ∨ j = 1 ∨ j = 2 ∨ j = 3 ∨ j = 4 := by omega
  rcases this with rfl | rfl | rfl | rfl | rfl <;> decide +kernel
theorem one_at {j : Nat} (h : j < 5) : ([V.bl (decide (j = 0)), V.bl (decide (j = 1)), V.bl (decide (j = 2)), V.bl (decide (j = 3)), V.bl (decide (j = 4))] : List V)[j]? = some (V.bl true) ∧
    ∀ (m : Nat) (z : V), m < j → ([V.bl (decide (j = 0)), V.bl (decide (j = 1)), V.bl (decide (j = 2)), V.bl (decide (j = 3)), V.bl (decide (j = 4))] : List V)[m]? = some z → eqV z (.bl true) = false := by
  have : j = 0 ∨ j = 1 ∨ j = 2 ∨ j = 3 ∨ j = 4 := by omega
  rcases this with rfl | rfl | rfl | rfl | rfl <;> refine ⟨by rfl, fun m z hm hz => ?_⟩
  · omega
  · have : m = 0 := by omega
    subst this
    cases hz
    rfl
  · have : m = 0 ∨ m = 1 := by omega
    rcases this with rfl | rfl <;> cases hz <;> rfl
  · have : m = 0 ∨ m = 1 ∨ m = 2 := by omega
    rcases this with rfl | rfl | rfl <;> cases hz <;> rfl
  · have : m = 0 ∨ m = 1 ∨ m = 2 ∨ m = 3 := by omega
    rcases this with rfl | rfl | rfl | rfl <;> cases hz <;> rfl
section
variable {P : Program} {w : World} {K : PySem.W.Frag} {mg : Str → Option Value} {base : Heap}
theorem kn_law_word_of {C0 C1 C2 C3 C4 : Addr} (D : Df K mg "_law_word_of" st_law_word_of ["e"]) (B : Bl mg) (X_NoSize : Ec K mg "NoSize" C0) (X_NoSuch : Ec K mg "NoSuch" C1) (X_NoRow : Ec K mg "NoRow" C2) (X_NoPerson : Ec K mg "NoPerson" C3) (X_NoNote : Ec K mg "NoNote" C4) :
    KnW P w K mg base 1 "_law_word_of" ["e"] (spWordOf K C0 C1 C2 C3 C4) := by
  refine D.knW sc_law_word_of (fun p vs H Q E h => ?_) (fun f cdv A outer s H vs Q E p hr h => ?_)
  · obtain ⟨_, _, _, rfl, _⟩ := h
    rfl
  obtain ⟨D, j, wd, rfl, hz, hf, O, hw, q⟩ := h
  have hj : j < 5 := (List.getElem?_eq_some_iff.mp hw).1
  have cW : CallR (L2H.cxH CX0 P w K mg base N_law_word_of "_law_word_of" (defScope st_law_word_of) f cdv A outer s H E p) (.builtin "isinstance") (rIsE K D p.1) := call_isW (p := p) (List.mem_singleton.mpr rfl) O.x hz hf
  refine ⟨_, (pss_cons (ps_set (i := 1) sc_law_word_of.nd rfl (Or.inl rfl) (pe_lst (pa_cons (pe_callB cW (by rfl) B.isinstance_ (by decide +kernel) (pa_cons (pv 0) (pa_cons (pe_globC (by rfl) X_NoSize.g) pa_nil))) (pa_cons (pe_callB cW (by rfl) B.isinstance_ (by decide +kernel) (pa_cons (pv 0) (pa_cons (pe_globC (by rfl) X_NoSuch.g) pa_nil))) (pa_cons (pe_callB cW (by rfl) B.isinstance_ (by decide +kernel) (pa_cons (pv 0) (pa_cons (pe_globC (by rfl) X_NoRow.g) pa_nil))) pa_nil)))))
      (pss_cons (ps_set (i := 1) sc_law_word_of.nd rfl (Or.inl rfl) (pe_op op_cat (pv 1) (pe_lst (pa_cons (pe_callB cW (by rfl) B.isinstance_ (by decide +kernel) (pa_cons (pv 0) (pa_cons (pe_globC (by rfl) X_NoPerson.g) pa_nil))) (pa_cons (pe_callB cW (by rfl) B.isinstance_ (by decide +kernel) (pa_cons (pv 0) (pa_cons (pe_globC (by rfl) X_NoNote.g) pa_nil))) pa_nil)))))
      (pss_cons (ps_if (PW.pt (pw_or (pt_cmpR op_ne (pe_bm PySem.F.plainAttrs_list PySem.F.slot_list_count PySem.F.type_list_count mt_countF (pv 1) (pa_cons pe_bl pa_nil)) pe_int (nomark _)) (pw_or1 (pt_not (pt_val (pe_callB cW (by rfl) B.isinstance_ (by decide +kernel) (pa_cons (pv 0) (pa_cons (pe_bltn (v := .ty "ValueError") (by rfl) B.ValueError_ (by decide +kernel) rfl) pa_nil))))))))
        (pss_one (ps_ret pe_str))
        pss_nil)
      (pss_one (ps_ret (pe_ix ix_list (pe_lst (pa_cons pe_str (pa_cons pe_str (pa_cons pe_str (pa_cons pe_str (pa_cons pe_str pa_nil)))))) (pe_bm PySem.F.plainAttrs_list PySem.F.slot_list_index PySem.F.type_list_index mt_index (pv 1) (pa_cons pe_bl pa_nil)) (fun _ _ => rfl))))))), ?_⟩
  have rc : ∀ C : Addr, ∀ u, RelV (V.ref C) u → u = Value.ref C := fun C u r => r
  refine ⟨_, rfl, _, _, _, rfl, rc C0, O.k0, _, rfl, _, _, _, rfl, rc C1, O.k1, _, rfl, _, _, _, rfl, rc C2, O.k2, small (show 3 ≤ 16777216 by decide), fun a na => ?_⟩
  generalize hH1 : upd H a (.lst [V.bl (decide (j = 0)), V.bl (decide (j = 1)), V.bl (decide (j = 2))]) = H1
  have s1 : Same H H1 := hH1 ▸ same_upd na
  have e1 : H1 a = some (.lst [V.bl (decide (j = 0)), V.bl (decide (j = 1)), V.bl (decide (j = 2))]) := hH1 ▸ upd_same
  clear hH1
  refine ⟨_, rfl, _, rfl, _, _, _, rfl, rc C3, O.k3, _, rfl, _, _, _, rfl, rc C4, O.k4, small (show 2 ≤ 16777216 by decide), fun b nb => ?_⟩
  generalize hH2 : upd H1 b (.lst [V.bl (decide (j = 3)), V.bl (decide (j = 4))]) = H2
  have s2 : Same H1 H2 := hH2 ▸ same_upd nb
  have e2 : H2 b = some (.lst [V.bl (decide (j = 3)), V.bl (decide (j = 4))]) := hH2 ▸ upd_same
  clear hH2
  refine ⟨a, b, _, _, rfl, rfl, s2 _ _ e1, e2, small (show 5 ≤ 16777216 by decide), fun c nc => ?_⟩
  generalize hH3 : upd H2 c _ = H3
  have s3 : Same H2 H3 := hH3 ▸ same_upd nc
  have e3 : H3 c = some (.lst [V.bl (decide (j = 0)), V.bl (decide (j = 1)), V.bl (decide (j = 2)), V.bl (decide (j = 3)), V.bl (decide (j = 4))]) := hH3 ▸ upd_same
  clear hH3
  refine ⟨_, rfl, .inl ⟨rfl, _, .inl (.inl e3)⟩, c, _, _, rfl, rfl, SqL.of e3, rfl, rfl, ?_⟩
  rw [one_count hj]
  refine ⟨rfl, _, rfl, iteFa rfl ?_⟩
  refine ⟨_, rfl, _, _, _, rfl, (fun u r => r), O.v, true, rfl, iteF ?_⟩
  refine ⟨small (show 5 ≤ 16777216 by decide), fun l nl => ?_⟩
  have s4 := same_upd nl (o := .lst (classWords.map V.str))
  obtain ⟨h1, h2⟩ := one_at hj
  refine ⟨_, rfl, .inl ⟨rfl, _, .inl (.inl (s4 _ _ e3))⟩, c, _, _, j, _, rfl, rfl, SqL.of (s4 _ _ e3), rfl, rfl, h1, rfl, h2, ?_⟩
  refine ⟨l, classWords.map V.str, _, V.str wd, rfl, rfl, SqL.of upd_same, atI_nat ?_, q _ (((s1.trans s2).trans s3).trans s4)⟩
  rw [List.getElem?_map, hw]
  rfl
end

/-! ### return _law_word_of(e) in an except suite -/
def tWordT (K : PySem.W.Frag) (C0 C1 C2 C3 C4 : Addr) (i : Nat) (a : Addr) (cls : Value) (d : Option Addr) : TE := fun σ H Q => tCons (tVar i) tNil σ H fun vs H1 => ∃ (D : Addr) (j : Nat) (wd : Str), vs = [.ref a] ∧ cls = .ref D ∧ d = none ∧ OfClass K C0 C1 C2 C3 C4 D j ∧ classWords[j]? = some wd ∧ ∀ H', Same H1 H' → Q (.str wd) H'
section
variable {X : Cx} {k i : Nat} {x n : Str} {ps : List Str} {p pos : Pos} {e : Expr}
theorem pe_word {C0 C1 C2 C3 C4 : Addr} {a : Addr} {oe : Obj} {cls : Value} {d : Option Addr} {pn : List (Addr × Obj)} (N : KnW X.prog X.w X.K X.mg X.base k x ps (spWordOf X.K C0 C1 C2 C3 C4)) (hr : L2H.RoomH k X.A) (hg : Gl (X.suite a ((a, oe) :: pn)) x)
    (he : PE (X.suite a ((a, oe) :: pn)) e (tVar i)) (hz : Zc cls d oe) (hf : ∃ vs, oe.data = .fields vs) (hdb : (x == ("__debug__" : Str)) = false := by decide)
    (hs : starEach [e] X.env = (false, eval e X.env) :: starEach [] X.env := by rfl) : PE (X.suite a ((a, oe) :: pn)) (.Call (.Name x p) [e] [] pos) (tWordT X.K C0 C1 C2 C3 C4 i a cls d) := by
  refine ⟨fun pins s σ H Q I h => ?_⟩
  have hr' : L2H.RoomH k (X.suite a ((a, oe) :: pn)).A := ⟨hr.dp, hr.un⟩
  refine (pe_kW (pos := pos) (p := p) N hr' hg (pa_cons he pa_nil hs) hdb hs rfl).run pins s σ H Q I ?_
  obtain ⟨v, hv, D, j, wd, h1, h2, h3, O, hw, q⟩ := h
  subst h2 h3
  exact ⟨v, hv, D, j, wd, h1, hz, hf, O, hw, q⟩
end
theorem kit_own {K : PySem.W.Frag} {D C : Addr} {b : Bool} (hdct : PySem.W.hasDictIn K C = true) (ht : PySem.W.typeIn K (.ref C) = some (.type "type")) (hs : PySem.W.subIn K (.ref D) (.ref C) = some b) (hd : PySem.W.subIn K (.ref D) (.ref D) = some true) : PySem.W.kitOne K (.ref D) (.ref C) = some b := by
  obtain ⟨cd, hc, _⟩ := PySem.W.any_some hdct
  unfold PySem.W.kitOne
  by_cases e : (Value.ref D == Value.ref C) = true
  · rw [if_pos e]
    have e2 : D = C := Value.ref.inj (beq_iff_eq.mp e)
    subst e2
    rw [hd] at hs
    exact hs
  · rw [if_neg e]
    unfold PySem.W.kitCls
    have e3 : ((PySem.W.clsIn K C).isSome && PySem.W.typeIn K (.ref C) == some (.type "type")) = true := by rw [hc, ht] <;> rfl
    show (if ((PySem.W.clsIn K C).isSome && PySem.W.typeIn K (.ref C) == some (.type "type")) = true then PySem.W.subIn K (.ref D) (.ref C) else none) = some b
    rw [if_pos e3]
    exact hs
theorem kit_value {K : PySem.W.Frag} {D : Addr} (h : PySem.W.subIn K (.ref D) (.type "ValueError") = some true) : PySem.W.kitOne K (.ref D) (.type "ValueError") = some true := by
  unfold PySem.W.kitOne
  rw [if_neg (by simp)]
  show (if PySem.W.kitMeta "ValueError" = true then PySem.W.subIn K (.ref D) (.type "ValueError") else none) = some true
  rw [if_pos (by decide +kernel)]
  exact h

/-! ### a list comprehension whose item is a call that may let an error out (of the def too) -/
section
theorem frameOf_of {e1 e2 : Env} (h : e1.frame = e2.frame) : PySem.frameOf e1 = PySem.frameOf e2 := by
  unfold PySem.frameOf
  rw [h]
theorem noteFrame_of {x : Value} {e1 e2 : Env} (h : e1.frame = e2.frame) : noteFrame x e1 = noteFrame x e2 := by
  unfold noteFrame
  rw [h, frameOf_of h]
/-- the frames stand as they stood, over a smaller ground -/
theorem frames_over {B B2 h h2 : Heap} : ∀ {l : List Env}, h.FunFrames B l → (∀ b o, B2.get? b = some o → B.get? b = some o) → (∀ L ∈ frs l, ∀ o, h.get? L = some o → h2.get? L = some o) → h2.FunFrames B2 l
  | [], _, _, _ => trivial
  | v :: l, ff, hB, hh => by
    obtain ⟨k, ⟨L, o, fr, hn, e, d⟩, r⟩ := ff
    have mem : L ∈ frs (v :: l) := List.mem_filterMap.mpr ⟨v, List.mem_cons_self, fr⟩
    have none2 : B2.get? L = none := by
      cases q : B2.get? L with
      | none => rfl
      | some o2 => rw [hB L o2 q] at hn; cases hn
    refine ⟨k, ⟨L, o, fr, none2, hh L mem o e, d⟩, frames_over r hB fun L' hm => hh L' ?_⟩
    obtain ⟨y, hy, q⟩ := List.mem_filterMap.mp hm
    exact List.mem_filterMap.mpr ⟨y, List.mem_cons_of_mem _ hy, q⟩
/-- an error held at a frame stays held where one other object that is no record changed -/
theorem held_but {B h h2 : Heap} {l : List Env} {a C L : Addr} {Z : Obj → Prop} {oC : Obj} (hh : HandSPX.HeldZ B l a Z L h) (eC : h.get? C = some oC) (dC : ∀ vs, oC.data ≠ .fields vs) (nf : C ∉ frs l) (sb : ∀ b o, b ≠ C → h.get? b = some o → h2.get? b = some o) :
    HandSPX.HeldZ (PySem.W.hideAll B [C]) l a Z L h2 := by
  obtain ⟨st, na, ff, oe, vs, T, oT, ts, ea, z, da, h1, nT, neT, eT, dT, h3⟩ := hh
  have ne : ∀ {b : Addr} {o : Obj} {us : Array Value}, h.get? b = some o → o.data = .fields us → b ≠ C := fun {b o us} e d q => by
    rw [q, eC] at e
    cases e
    exact dC us d
  have of : ∀ b o, (PySem.W.hideAll B [C]).get? b = some o → B.get? b = some o := fun b o e => PySem.W.of_hideAll _ e
  have nn : ∀ b, B.get? b = none → (PySem.W.hideAll B [C]).get? b = none := fun b e => by
    cases q : (PySem.W.hideAll B [C]).get? b with
    | none => rfl
    | some o => rw [of b o q] at e; cases e
  refine ⟨fun b o e => ?_, nn a na, frames_over ff of fun M hM o e => sb M o (fun q => nf (q ▸ hM)) e, oe, vs, T, oT, ts, sb a oe (ne ea da) ea, z, da, h1, nn T nT, neT, sb T oT (ne eT dT) eT, dT, h3⟩
  have hbC : b ≠ C := fun q => by
    rw [q, PySem.W.hideAll_none [C] (by simp)] at e
    cases e
  exact sb b o hbC (st b o (of b o e))
end
section
variable {X : Cx} {pins : List (Addr × Obj)} {σ : L2.St} {H : Hp} {s s' : Shared} {E : XK} {u : Value}
/-- noted by the def's frame -/
theorem sky_note {M : Model} {A : Around} {E₁ : Value → Shared → Prop} {env : Env} {outer : List Env} {L a : Addr} {Z : Obj → Prop} {B : Heap} {Q : Unit → Shared → Prop} (hZ : HandSPX.Steady Z) (hfr : A.frames = some (env :: outer)) (hf : env.frame = some L)
    (x : Sky B (env :: outer) a Z L s.heap) (hQ : ∀ h', HandSPX.HeldZ B (env :: outer) a Z L h' → s.heap.UpToSlots h' → Q () { s with heap := h' }) : wpAny M A (noteFrame (.ref a) env) Q E₁ s := by
  rcases x with ⟨hB, hn, hl, oe, vs, he, hz, hd, h1⟩ | fl | hh
  · exact HandSPX.look_newZ hZ hfr hl hf he hB hn hd h1 hz hQ
  · exact HandSPX.looks_onZ hZ hfr hf fl hQ
  · exact HandSPX.againZ hf hh.2.2.2 (hQ s.heap hh (Heap.UpToSlots.refl _))
/-- what the block's end does with an error: its names are let go, then it flies on from the def's frame -/
def errEnd (X : Cx) (cenv : Env) (x : Value) (s' : Shared) : Prop :=
  ∃ m, s'.heap.Ns cenv.locals m ∧ ∀ h', Heap.SameBut cenv.locals s'.heap h' → wpAny (model X.prog X.w) X.A (PySem.passOn "comprehension.variables-let-go" x cenv : Sem Value) (fun _ _ => False) X.xe { s' with heap := h' }
theorem err_end (hs : X.stack = X.env :: X.outer) (hf : X.env.frame = some X.env.locals) (tk : Takes X (fun cls d _ H => E cls d H)) {cenv : Env} (hcf : cenv.frame = X.env.frame) (I : Inv X pins σ H s) (fC : FpOk X pins H cenv.locals) {m : Str → Option Value} (hn : s.heap.Ns cenv.locals m)
    (c : L2.CX X.prog X.w X.stack H s E u s') : notedBy (model X.prog X.w) X.A cenv (errEnd X cenv) u s' := by
  obtain ⟨f0, f1, f2, f3, f4, f5⟩ := fC
  have nfr : cenv.locals ∉ frs X.stack := fun hm => by
    rcases List.mem_cons.mp (I.stkSub _ hm) with z | z
    · exact f1 z
    · exact f2 z
  obtain ⟨oC, es, ep, eC, dC, nC⟩ := hn
  -- the block's names behind the call
  have c2 : L2.CX X.prog X.w X.stack H s (fun cls d H' => E cls d H' ∧ H' cenv.locals = none) u s' ∧ s'.heap.get? cenv.locals = some oC := by
    obtain ⟨a, B, H', cls, d, e, fl, hok, ub, na, os, ag, w⟩ := c
    exact ⟨⟨a, B, H', cls, d, e, fl, hok, ub, na, os, ag, w, ub.free _ _ eC f0⟩, fl.1 _ _ (ub.keep _ _ eC f0 nfr)⟩
  obtain ⟨c2, eC'⟩ := c2
  have x : XE X (fun cls d _ H' => E cls d H' ∧ H' cenv.locals = none) u s' := XE.of_call I (fun _ _ _ h => h) c2
  obtain ⟨a, B, sI, pins1, σ1, H1, cls, d, rfl, I1, nb, up, sky, na, os, ag, w, n1⟩ := x
  unfold notedBy
  rw [noteFrame_of hcf]
  rw [hs] at sky
  refine sky_note Zc.steady (by rw [I1.ok.frames, hs]) hf sky fun h1 hh1 up1 => ?_
  rw [← hs] at hh1
  have ndC : ∀ vs, oC.data ≠ .fields vs := fun vs q => by rw [dC] at q; cases q
  obtain ⟨sl, e1⟩ := up1 _ _ eC' ndC
  refine ⟨m, ⟨_, es, ep, e1, dC, nC⟩, fun h2 sb => ?_⟩
  have sb' : ∀ b o, b ≠ cenv.locals → h1.get? b = some o → h2.get? b = some o := fun b o hb e => (sb.2 b hb).trans e
  have hh2 := held_but hh1 e1 (fun vs q => ndC vs q) nfr sb'
  obtain ⟨oe, vs, T, oT, ts, ea, z, da, hv, r⟩ := hh2.2.2.2
  unfold PySem.passOn
  refine wpAny_bind (wpAny_field ea da hv ?_)
  rw [if_neg (show ¬ ((Value.ref T == Value.none) = true) from by simp)]
  rw [hcf, hf]
  refine wpAny_bind (HandSPX.setFlight_onZ hh2 fun h3 hh3 up3 => wpAny_throw (tk _ _ ?_))
  have I1' : Inv X [] σ1 H1 sI := I1.unpinned (pins := [])
  have J := I1'.turned (h' := PySem.W.hideAll sI.heap [cenv.locals]) (t' := sI.toks) (it := cenv.locals) (fun b o hb e => PySem.W.hideAll_get _ e (by simpa using hb)) n1 f1 f3 f4 (fun p hp => f5 p (List.mem_append.mpr (.inl (by simpa using hp))))
  refine ⟨a, PySem.W.hideAll B [cenv.locals], _, [], σ1, H1, cls, d, rfl, J, fun b o e hb => ?_, fun b o e hnr => ?_, .inr (.inr hh3), na, os, ag, w⟩
  · have hbC : b ≠ cenv.locals := fun q => by
      rw [q, PySem.W.hideAll_none [cenv.locals] (by simp)] at e
      cases e
    exact PySem.W.hideAll_get _ (nb b o (PySem.W.of_hideAll _ e) hb) (by simpa using hbC)
  · have hbC : b ≠ cenv.locals := fun q => by
      rw [q, PySem.W.hideAll_none [cenv.locals] (by simp)] at e
      cases e
    obtain ⟨l1, q1⟩ := up b o (PySem.W.of_hideAll _ e) hnr
    obtain ⟨l2, q2⟩ := up1 b _ q1 hnr
    obtain ⟨l3, q3⟩ := up3 b _ (sb' b _ hbC q2) hnr
    exact ⟨l3, q3⟩
end
/-! the comprehension, its block's environment told to the end -/
section
variable {M : Model} {A : Around} {E : Value → Shared → Prop} {s : Shared} {env : Env}
def endTold (M : Model) (A : Around) (E : Value → Shared → Prop) (use : Option (Value → Sem Unit)) (Q : Value → Shared → Prop) (acc : Value) (cenv : Env) : Result → Shared → Prop
  | .ok f, t => compPost M A E use Q acc cenv.locals (.ok f) t
  | .error x, t => ∃ m, t.heap.Ns cenv.locals m ∧ ∀ g, Heap.SameBut cenv.locals t.heap g → wpAny M A (PySem.passOn "comprehension.variables-let-go" x cenv : Sem Value) (fun _ _ => False) E { t with heap := g }
theorem comp_told {e : Expr} {scope : Scope} {pos : Pos} {mk first : Sem Value} {g : Comprehension} {gs : List Comprehension} {cl : List (Str × Addr)} {use : Option (Value → Sem Unit)} {Q : Value → Shared → Prop}
    (hg : clausesOf e = g :: gs) (hs : ∀ x, foldedSetIterable g.iter env x = pure x) (hc : closureFor scope env = pure cl) (hk : scope.kind = .function) (hn : ∀ y ∈ scope.names, y.2 = .local → scope.names.lookup y.1 = some .local)
    (h : wpAny M A first (fun x t1 => wpAny M A (pyIter x) (fun it t2 => wpAny M A mk (fun acc t3 => wpAny M A (newFunctionEnv scope env.globals cl [] env.qual none .none (some env)) (fun cenv t4 =>
      codeAny M A (.compStart e 0 it acc { cenv with scope := relabel scope env }) (endTold M A E use Q acc { cenv with scope := relabel scope env }) t4) E t3) E t2) E t1) E s) :
    wpAny M A (comprehension e scope env pos mk false first use) Q E s := by
  have up : ∀ {α : Type} {m : Sem α} {P P' : α → Shared → Prop} {t : Shared}, wpAny M A m P E t → (∀ a t, P a t → P' a t) → wpAny M A m P' E t := fun hm hp => wpAny_mono hm hp fun _ _ z => z
  unfold comprehension
  rw [hc, hg]
  refine wpAny_bind (up h fun x t1 h1 => wpAny_bind (wpAny_standAt (wpAny_bind (wpAny_of_eq (hs x) (wpAny_bind (wpAny_holding (up h1 fun it t2 h2 => wpAny_standIf (wpAny_bind (up h2 fun acc t3 h3 => wpAny_bind (wpAny_pure (wpAny_bind (up h3 fun cenv t4 h4 => ?_))))))))))))
  dsimp only
  have loc : ∀ y ∈ (scope.names.filter fun y => (y.2 == .local || y.2 == .cell) && y.1 != (".0" : Str)).reverse, y.2 = .local → Env.kindOf { cenv with scope := relabel scope env } y.1 = some .local := fun y hy hl =>
    lookup_relabel_local (hn y (List.mem_filter.mp (List.mem_reverse.mp hy)).1 hl)
  have loc2 : ∀ y ∈ (scope.names.filter fun y => (y.2 == .local || y.2 == .cell) && y.1 != (".0" : Str)).reverse.drop 1 ++ (scope.names.filter fun y => (y.2 == .local || y.2 == .cell) && y.1 != (".0" : Str)).reverse.take 1,
      y.2 = .local → Env.kindOf { cenv with scope := relabel scope env } y.1 = some .local := fun y hy hl => loc y ((List.mem_append.mp hy).elim List.mem_of_mem_drop List.mem_of_mem_take) hl
  refine wpAny_holding (wpAny_bind (wpAny_attempt (wpAny_holding (wpAny_run (codeAny_mono h4 fun r t hr => ?_)))))
  cases r with
  | error x =>
    have hr' : endTold M A E use Q acc { cenv with scope := relabel scope env } (.error x) t := hr
    obtain ⟨m, nm, hr2⟩ := hr'
    refine wpAny_bind (wpAny_holding (wpAny_comp_letGo (cenv := { cenv with scope := relabel scope env }) hk _ t m loc nm fun g _ _ sb => ?_))
    exact wpAny_mono (hr2 g sb) (fun _ _ f => f.elim) fun _ _ y => y
  | ok f =>
    have hr' : compPost M A E use Q acc cenv.locals (.ok f) t := hr
    cases use with
    | none =>
      obtain ⟨m, nm, hr2⟩ := hr'
      exact wpAny_bind (wpAny_holding (wpAny_comp_letGo (cenv := { cenv with scope := relabel scope env }) hk _ t m loc nm fun g _ _ sb => wpAny_pure (hr2 g sb)))
    | some u =>
      refine wpAny_bind (wpAny_rule (wpAny_bind (wpAny_holding (up hr' fun _ t2 hr2 => ?_))))
      obtain ⟨m, nm, hr3⟩ := hr2
      exact wpAny_bind (wpAny_comp_letGo (cenv := { cenv with scope := relabel scope env }) hk _ t2 m loc2 nm fun g _ _ sb => wpAny_pure (hr3 g sb))
end
/-! the block -/
/-- what the block asks of an error: it came out of a call in it -/
def callOut (X : Cx) (E : XK) (u : Value) (t : Shared) : Prop := ∃ (pins : List (Addr × Obj)) (σ : L2.St) (H : Hp) (s : Shared), Inv X pins σ H s ∧ L2.CX X.prog X.w X.stack H s E u t
section
variable {X : Cx}
theorem lcE_core {pins : List (Addr × Obj)} {s : Shared} {σ : L2.St} {H : Hp} {Q : VK} {E : XK} {elt tg iter : Expr} {scope : Scope} {own : List (Str × Nat)} {pos pos' : Pos} {wi : TI} {g : TG} {te : TE} {use : Option (Value → Sem Unit)} {Qf : Value → Shared → Prop}
    (hs : X.stack = X.env :: X.outer) (hf : X.env.frame = some X.env.locals) (tk : Takes X (fun cls d _ H => E cls d H)) (hc : X.calm = true) (hN : X.N.Nodup) (I : Inv X pins σ H s) (hi : PI X tg iter wi) (ok : BlkOk X.N X.env.scope scope own)
    (hg : ∀ (s : Shared) (H : Hp) (C : Addr) (cl : List (Str × Addr)) (fp : List Addr), PG (X.blk s H scope (compEnvC scope cl C X.env) fp) tg g)
    (he : ∀ (s : Shared) (H : Hp) (C : Addr) (cl : List (Str × Addr)) (fp : List Addr), PE ((X.blk s H scope (compEnvC scope cl C X.env) fp).wish (callOut (X.blk s H scope (compEnvC scope cl C X.env) fp) E)) elt te)
    (hfo : ∀ x, foldedSetIterable iter X.env x = pure x) (h : tLc wi g tYes te (own.map (·.2)) σ H Q)
    (hQ : ∀ D C t m H', Inv X pins σ H' t → Q (.ref D) H' → t.heap.Ns C m → FpOk X pins H' C → compPost (model X.prog X.w) X.A X.xe use Qf (.ref D) C (.ok .next) t) :
    wpAny (model X.prog X.w) X.A (comprehension (.ListComp elt [⟨tg, iter, [], 0⟩] scope pos) scope X.env pos' (newList []) false (eval iter X.env) use) Qf X.xe s := by
  have cells : ∀ y ∈ scope.names, y.2 = .free → ∃ c, X.env.cells.lookup y.1 = some c := fun y hy e => I.ok.has _ ((ok.free y hy e).imp id id)
  refine comp_told (use := use) rfl hfo (closure_ok cells) ok.kind (fun y hy e => by rw [ok.uniq y hy, e]) (thn (hi.run pins s σ H _ I h) fun _ _ hx => thn hx fun itv s2 h2 => ?_)
  obtain ⟨it, fp, tn, J, H2, rfl, I2, T, st2, f2, q⟩ := h2
  refine wpAny_newObj_type (newEnv_comp ?_) (Nat.zero_le _)
  generalize hD : s2.heap.objs.size = D
  obtain ⟨W, ⟨m0, w0⟩, turn⟩ := q D (I2.hok.fresh (Nat.le_of_eq hD))
  generalize hs3 : ({ s2 with heap := s2.heap.push { cls := .type "list", data := .seq ([] : List Value).toArray } } : Shared) = s3
  have h3 : s3.heap = s2.heap.push { cls := .type "list", data := .seq ([] : List Value).toArray } := by rw [← hs3]
  have I3 : Inv X pins σ (upd H2 D (.lst [])) s3 := by
    rw [← hs3]
    exact I2.laid (t' := s2.toks) (fun b o e => Heap.get?_push_of_some _ e) (Nat.le_of_eq hD) ⟨Nat.zero_le _, [], 0, .nil, by rw [← hD]; exact Heap.get?_push_size _ rfl⟩
  have kp3 : ∀ b o, s2.heap.get? b = some o → s3.heap.get? b = some o := fun b o e => by rw [h3]; exact Heap.get?_push_of_some _ e
  have f3 : ∀ b ∈ fp, FpOk X pins (upd H2 D (.lst [])) b ∧ b < s3.heap.objs.size := fun b hb => by
    obtain ⟨o, e, _⟩ := T.obj _ _ st2 b hb
    have lt := Heap.lt_size e
    refine ⟨⟨?_, (f2 b hb).2⟩, Heap.lt_size (kp3 b o e)⟩
    rw [upd_ne (fun z => by rw [z, ← hD] at lt; exact Nat.lt_irrefl _ lt)]
    exact (f2 b hb).1
  have st3 : tn 0 s3.heap := T.keep _ _ _ st2 fun b _ o e => kp3 b o e
  have I4 := block_start I3 ok hN f3
  have pg := hg s3 (upd H2 D (.lst [])) s3.heap.objs.size (cellsFrom (s3.heap.objs.size + 1) scope.names (cloFrom X.env.cells scope.names [])) fp
  have pe := he s3 (upd H2 D (.lst [])) s3.heap.objs.size (cellsFrom (s3.heap.objs.size + 1) scope.names (cloFrom X.env.cells scope.names [])) fp
  show codeAny _ _ (.compStart _ 0 (.ref it) (.ref D) (compEnvC scope (cellsFrom (s3.heap.objs.size + 1) scope.names (cloFrom X.env.cells scope.names [])) s3.heap.objs.size X.env)) (endTold (model X.prog X.w) X.A X.xe use Qf (.ref D) (compEnvC scope (cellsFrom (s3.heap.objs.size + 1) scope.names (cloFrom X.env.cells scope.names [])) s3.heap.objs.size X.env)) { s3 with heap := pushCells (s3.heap.push { cls := .type "dict", data := .dict #[] }) scope.names }
  generalize hce : compEnvC scope (cellsFrom (s3.heap.objs.size + 1) scope.names (cloFrom X.env.cells scope.names [])) s3.heap.objs.size X.env = ce at I4 pg pe ⊢
  have cL : ce.locals = s3.heap.objs.size := by subst hce; rfl
  have cF : ce.frame = X.env.frame := by subst hce; rfl
  generalize upd H2 D (.lst []) = H3 at I3 I4 pg pe w0 f3
  generalize hs4 : ({ s3 with heap := pushCells (s3.heap.push { cls := .type "dict", data := .dict #[] }) scope.names } : Shared) = s4 at I4 ⊢
  have st4 : tn 0 s4.heap := T.keep _ _ _ st3 fun b _ o e => by rw [← hs4]; exact pushCells_keeps _ _ _ _ (Heap.get?_push_of_some _ e)
  generalize hB : X.blk s3 H3 scope ce fp = B at I4 pg pe
  have fpo : ∀ {σ' : L2.St} {H' : Hp} {t : Shared}, Inv B [] σ' H' t → (∀ b ∈ fp, H' b = none) → ∀ b ∈ fp, FpOk B [] H' b := fun {σ' H' t} K hn b hb => by
    subst hB
    exact ⟨hn b hb, (K.ok.exf b hb).1, K.ok.exfs b hb, .inl hb, fun x c e => (K.ok.exf b hb).2 x c e, fun p hp => absurd hp (List.not_mem_nil)⟩
  -- back in the def
  have back : ∀ {pins' : List (Addr × Obj)} {σ' : L2.St} {H' : Hp} {t : Shared}, Inv B pins' σ' H' t → Inv X pins σ H' t ∧ FpOk X pins H' ce.locals ∧ ∃ m, t.heap.Ns ce.locals m := fun {pins' σ' H' t} K => by
    subst hB
    have nC : H' ce.locals = none := K.free
    obtain ⟨m, hn, _⟩ := K.loc
    refine ⟨I3.call' (ch := fp) K.os K.base K.hok K.bare fun b hb => ⟨(f3 b hb).1.2.2.2.1, (f3 b hb).1.2.1, (f3 b hb).1.2.2.2.2.1, (f3 b hb).1.2.2.2.2.2⟩, ?_, m, hn⟩
    rw [cL] at nC ⊢
    exact I3.fpOk (Nat.le_refl _) nC
  -- an error goes on
  have err : ∀ u t, callOut B E u t → notedBy (model X.prog X.w) X.A ce (fun e t' => endTold (model X.prog X.w) X.A X.xe use Qf (.ref D) ce (.error e) t') u t := fun u t ⟨pins', σ', H', t0, K, c⟩ => by
    obtain ⟨K', fC, m, hn⟩ := back K
    subst hB
    exact err_end hs hf tk cF K' fC hn c
  have no : ∀ {α : Type} {t : Sem α} {P P' : α → Shared → Prop} {F : Value → Shared → Prop} {s : Shared}, wpAny (model X.prog X.w) X.A t P (fun _ _ => False) s → (∀ a s, P a s → P' a s) → wpAny (model X.prog X.w) X.A t P' F s := fun hm hp => wpAny_mono hm hp fun _ _ z => z.elim
  have loop : codeAny (model X.prog X.w) X.A (.compLoop (.ListComp elt [⟨tg, iter, [], 0⟩] scope pos) 0 (.ref it) (.ref D) ce) (endTold (model X.prog X.w) X.A X.xe use Qf (.ref D) ce) s4 := by
    refine compLoop_any (fun n t => ∃ i H', Inv B [] (wipe σ (own.map (·.2))) H' t ∧ tn i t.heap ∧ (∀ b ∈ fp, H' b = none) ∧ W i n H') ?_ m0 ⟨0, H3, I4, st4, fun b hb => (f3 b hb).1.1, w0⟩
    rintro n s5 ⟨i, H5, I5, st5, n5, w5⟩
    have hBA : B.A = X.A := by rw [← hB]
    rcases turn i n H5 w5 with ⟨stop, qq⟩ | ⟨go, Nx, hNx, step⟩
    · have td := T.done B (by rw [← hB]) (by rw [← hB]) (by rw [← hB]) (by rw [← hB]; exact hc) i [] s5 _ H5 (fun _ _ => False) I5 (fpo I5 n5) st5 stop
      rw [hBA] at td
      refine no td fun r s6 ⟨hr, I6⟩ => ?_
      subst hr
      obtain ⟨I7, fC, m, hn⟩ := back I6
      exact hQ D ce.locals s6 m H5 I7 qq hn fC
    · have ti := T.item B (by rw [← hB]) (by rw [← hB]) (by rw [← hB]) (by rw [← hB]; exact hc) i [] s5 _ H5 (fun _ _ => False) I5 (fpo I5 n5) st5 go
      rw [hBA] at ti
      refine no ti fun r s6 ⟨u, hr, h6⟩ => ?_
      subst hr
      refine no h6 fun _ s7 ⟨x, H7, I7, r7, y7, st7, n7⟩ => ?_
      have I7' := I7.pinned (fpo I7 n7) (T.obj _ _ st7)
      have pgr := pg.run _ s7 _ H7 x u _ I7' r7 (step x H7 y7)
      subst hB
      refine no pgr fun _ s8 ⟨σ8, H8, I8, hw8, q8⟩ => ?_
      refine wpAny_tests_nil ?_
      rw [if_pos rfl]
      have q8' : te σ8 H8 fun y H4 => ∃ acc, H4 D = some (.lst acc) ∧ acc.length < sizeLine ∧ Nx (upd H4 D (.lst (acc ++ [y]))) := by
        have z : (if true = true then te σ8 H8 fun y H4 => ∃ acc, H4 D = some (.lst acc) ∧ acc.length < sizeLine ∧ Nx (upd H4 D (.lst (acc ++ [y]))) else Nx H8) := q8
        rwa [if_pos rfl] at z
      refine wpAny_mono (pe.run _ s8 σ8 H8 _ (I8.wish _) q8') (fun z s10 ⟨yv, H10, I10, r10, acc, hD10, hz10, nx⟩ => ?_) (fun u t c => err u t c)
      refine app_ok (X := X.blk s3 H3 scope ce fp) I10.unwish hD10 hz10 r10 fun s11 I11 => ?_
      obtain ⟨m', hm, w'⟩ := hNx _ nx
      have pin' : ∀ b ∈ fp, ∀ o, s7.heap.get? b = some o → s11.heap.get? b = some o ∧ (upd H10 D (.lst (acc ++ [yv]))) b = none := fun b hb o e => by
        obtain ⟨z1, z2, _⟩ := I11.pin (b, o) (List.mem_append_right _ (List.mem_append_right _ (mem_pinsAt hb e)))
        exact ⟨z1, z2⟩
      have hl : (wipe σ (own.map (·.2))).length = σ8.length := by rw [← hw8, wipe_length]
      refine ⟨m', hm, i + 1, _, (I11.unpinned (pins := [])).weak hl (fun j v e => ?_), T.keep _ _ _ st7 fun b hb o e => (pin' b hb o e).1, fun b hb => ?_, w'⟩
      · rw [← hw8] at e
        exact (wipe_some e).1
      · obtain ⟨o, e, _⟩ := T.obj _ _ st7 b hb
        exact (pin' b hb o e).2
  exact codeAny_compStart_list loop (T.self X.A 0 _ _ _ st4 loop)
end
section
variable {X : Cx}
/-- name = [.. for .. in ..] on one line, the name a local; the item may let an error out of the def -/
theorem ps_setLcE {E : XK} {i : Nat} {y : Str} {py : Pos} {elt tg iter : Expr} {scope : Scope} {own : List (Str × Nat)} {pos spos : Pos} {wi : TI} {g : TG} {te : TE} (hs : X.stack = X.env :: X.outer) (hf : X.env.frame = some X.env.locals) (tk : Takes X (fun cls d _ H => E cls d H))
    (hc : X.calm = true) (hN : X.N.Nodup) (hy : X.N[i]? = some y) (hyl : X.env.scope.names.lookup y = some .local) (hsw : swapsWith (.ListComp elt [⟨tg, iter, [], 0⟩] scope pos) (some (.Name y py)) spos.line X.env = pure true) (hi : PI X tg iter wi) (ok : BlkOk X.N X.env.scope scope own)
    (hg : ∀ (s : Shared) (H : Hp) (C : Addr) (cl : List (Str × Addr)) (fp : List Addr), PG (X.blk s H scope (compEnvC scope cl C X.env) fp) tg g)
    (he : ∀ (s : Shared) (H : Hp) (C : Addr) (cl : List (Str × Addr)) (fp : List Addr), PE ((X.blk s H scope (compEnvC scope cl C X.env) fp).wish (callOut (X.blk s H scope (compEnvC scope cl C X.env) fp) E)) elt te)
    (hfo : ∀ x, foldedSetIterable iter X.env x = pure x := by intro _; rfl) : PS X (.Assign [.Name y py] (.ListComp elt [⟨tg, iter, [], 0⟩] scope pos) spos) (tAsg (tLc wi g tYes te (own.map (·.2))) (gName i)) := by
  refine ⟨fun pins s σ H D I h => ?_⟩
  rw [exec_Assign_Name_used _ _ _ _ hsw]
  refine wpAny_bind (wpAny_standAt (wpAny_bind ?_))
  show wpAny _ X.A (do let _ ← comprehension (.ListComp elt [⟨tg, iter, [], 0⟩] scope pos) scope X.env (firstIterPos [⟨tg, iter, [], 0⟩] pos) (newList []) false (eval iter X.env) (some (assign (.Name y py) X.env))) _ _ s
  refine wpAny_bind (thn (lcE_core (Q := fun x H1 => gName i x σ H1 D.nx) (Qf := fun _ t => SP X pins D .next t) hs hf tk hc hN I hi ok hg he hfo h fun L C t m H' K q hn fC => ?_) fun _ t hq => wpAny_pure (wpAny_pure hq))
  show wpAny _ _ (assign (.Name y py) X.env (.ref L)) _ _ _
  refine wpAny_assign_Name (store_ok2 (v := V.ref L) K hN hy (.inl hyl) rfl (fun s2 K2 ⟨a, sb, ha⟩ => ?_) (.inr hyl))
  obtain ⟨f0, f1, f2, f3, f4, f5⟩ := fC
  have neC : C ≠ a := fun e => ha.elim (fun z => f1 (e.trans z)) (fun z => f4 y a z e.symm)
  exact ⟨m, hn.sameBut sb neC, fun h4 sb4 => ⟨_, H', K2.turned (t' := s2.toks) (fun b o hb e => (sb4.2 b hb).trans e) f0 f1 f3 f4 f5, q⟩⟩
end
section
variable {X : Cx} {k : Nat} {x : Str} {ps : List Str} {sp : Sp} {p pos : Pos} {e : Expr} {es : List Expr} {t : TA}
/-- .. its item such a call -/
theorem pe_kC {E : XK} (N : Kn X.prog X.w X.K X.mg X.base (L2.CX X.prog X.w) k x ps sp) (hr : Room k X.A) (hg : Gl X x) (ha : PA (X.wish (callOut X E)) (e :: es) t) (hdb : (x == ("__debug__" : Str)) = false := by decide)
    (he : starEach (e :: es) X.env = (false, eval e X.env) :: starEach es X.env := by rfl) (hpl : (backTo pos (starEach es X.env)).any (·.1) = false := by rfl) : PE (X.wish (callOut X E)) (.Call (.Name x p) (e :: es) [] pos) (tCall sp [] E t) := by
  obtain ⟨f, fd, F, kp, b, g⟩ := N.ex
  exact pe_call (X := X.wish (callOut X E)) F hr hg g kp b .nil (fun pins σ H s u s' I c => ⟨pins, σ, H, s, I.unwish, c⟩) ha hdb he hpl
end

/-! ### the words of any text -/
open TL (tl numL)
theorem spl_count (S : List Nat) : ∀ (L : List Nat) (k : Nat) (acc : List Nat), (TL.spl S k acc L).length ≤ L.length + 1
  | [], k, acc => by rw [TL.spl_nil]; exact Nat.le_refl _
  | c :: r, 0, acc => by
    cases h : TL.pre S (c :: r) with
    | true =>
      have := spl_count S r (S.length - 1) []
      rw [TL.spl_hit h, List.length_cons, List.length_cons]
      omega
    | false =>
      have := spl_count S r 0 (acc ++ [c])
      rw [TL.spl_miss h, List.length_cons]
      omega
  | c :: r, k + 1, acc => by
    have := spl_count S r k acc
    show (TL.spl S k acc r).length ≤ _
    rw [List.length_cons]
    omega
theorem spl_each (S : List Nat) : ∀ (L : List Nat) (k : Nat) (acc : List Nat), ∀ p ∈ TL.spl S k acc L, p.length ≤ acc.length + L.length
  | [], k, acc, p, hp => by
    rw [TL.spl_nil, List.mem_singleton] at hp
    rw [hp]
    exact Nat.le_refl _
  | c :: r, 0, acc, p, hp => by
    rw [List.length_cons]
    cases h : TL.pre S (c :: r) with
    | true =>
      rw [TL.spl_hit h] at hp
      rcases List.mem_cons.mp hp with rfl | hp
      · omega
      · have := spl_each S r (S.length - 1) [] p hp
        rw [List.length_nil] at this
        omega
    | false =>
      rw [TL.spl_miss h] at hp
      have := spl_each S r 0 (acc ++ [c]) p hp
      rw [List.length_append, List.length_singleton] at this
      omega
  | c :: r, k + 1, acc, p, hp => by
    have := spl_each S r k acc p hp
    rw [List.length_cons]
    omega
abbrev wordsOf (t : Str) : List Str := Txt.split t " "
theorem words_spl (t : Str) : (wordsOf t).map tl = TL.spl [32] 0 [] (tl t) := by
  have := TL.split_spl t " " (by rw [tl_blank]; simp) (TL.kind_ok (by decide +kernel))
  rw [tl_blank] at this
  exact this
theorem words_count (t : Str) : (wordsOf t).length ≤ t.length + 1 := by
  have := spl_count [32] (tl t) 0 []
  rw [← words_spl, List.length_map] at this
  rw [TL.len_tl t]
  exact this
theorem words_each {t w : Str} (h : w ∈ wordsOf t) : w.length ≤ t.length := by
  have := spl_each [32] (tl t) 0 [] (tl w) (by rw [← words_spl]; exact List.mem_map_of_mem h)
  rw [TL.len_tl w, TL.len_tl t]
  simpa using this
/-- what read answers -/
def valsOf (t : Str) : List Int := (wordsOf t).map fun w => wordVal (tl w)
def readOf (t : Str) : Option (List Int) := if ((wordsOf t).all fun w => wordOk (tl w)) = true ∧ isRow (valsOf t) = true then some (valsOf t) else none

/-! ### read -/
open TL (tl numL)
abbrev N_read : List Str := ["text", "row", "word"]
theorem sc_read : FnScope N_read ["text"] (defScope st_read) := ⟨rfl, rfl, rfl, by decide +kernel, rfl, by decide +kernel, by decide +kernel⟩
def spRead (CN : Addr) : Sp := fun vs H Q E => ∃ t : Str, vs = [.str t] ∧ t.length ≤ 20000 ∧ (readOf t = none → ∀ H', Same H H' → E (.ref CN) none H') ∧ (∀ r, readOf t = some r → ∀ H' p, Same H H' → H p = none → H' p = some (.lst (r.map V.int)) → Q (.ref p) H')
section
variable {P : Program} {w : World} {K : PySem.W.Frag} {mg : Str → Option Value} {base : Heap}
theorem kn_read {CN : Addr} (D : Df K mg "read" st_read ["text"]) (X_NoNote : Ec K mg "NoNote" CN) (K_number_of : Kn P w K mg base (L2.CX P w) 1 "number_of" ["word"] (spNumberOf CN)) (K_is_row : Kn P w K mg base CX0 2 "is_row" ["row"] (spIsRow K)) : Kn P w K mg base (L2.CX P w) 3 "read" ["text"] (spRead CN) := by
  refine D.knX sc_read (fun vs H Q E h => ?_) (fun f cdv A outer s H vs Q E hr h => ?_)
  · obtain ⟨_, rfl, _⟩ := h
    rfl
  obtain ⟨t, rfl, hl, bad, q⟩ := h
  refine ⟨_, (pss_cons (ps_setLcE (i := 1) (own := [("word", 2)]) (g := gName 2) rfl rfl (takes_of rfl rfl rfl rfl) rfl sc_read.nd rfl rfl (sw_true rfl rfl rfl (by decide +kernel)) (pi_list (pe_split (pv 0) pe_str)) (blkOk_by (own := [("word", 2)]) (N := N_read) (sc := defScope st_read) (by decide +kernel)) (fun _ _ _ _ _ => pg_name (i := 2) sc_read.nd rfl (Or.inl rfl)) (fun _ _ _ _ _ => pe_kC K_number_of (hr.mono (by first | decide | omega)) (by rfl) (pa_cons (pv 2) pa_nil)))
  (pss_cons (ps_if (pt_not (pt_val (pe_k0 K_is_row (hr.mono (by first | decide | omega)) (by rfl) (pa_cons (pv 1) pa_nil))))
    (pss_one (ps_raise rfl (takes_of rfl rfl rfl rfl) (pmk_own PySem.F.excBase_ValueError X_NoNote.x X_NoNote.g X_NoNote.k (raises_own X_NoNote.b X_NoNote.t) rfl)))
    pss_nil)
  (pss_one (ps_ret (pv 1))))), ?_⟩
  have hc := words_count t
  refine ⟨_, rfl, ⟨_, rfl⟩, t, " ", rfl, rfl, by decide +kernel, small (by omega), fun l nl => ?_⟩
  generalize hH1 : upd H l (.lst ((wordsOf t).map V.str)) = H1
  have s1 : Same H H1 := hH1 ▸ same_upd nl
  have e1 : H1 l = some (.lst ((wordsOf t).map V.str)) := hH1 ▸ upd_same
  clear hH1
  refine ⟨l, rfl, ⟨_, SqL.of e1⟩, fun D nD => ?_⟩
  refine lc_list (K := K) (a := l) (xs := (wordsOf t).map V.str) (fun i H' => Same H1 H' ∧ H' D = some (.lst (((valsOf t).take i).map V.int)) ∧ ∀ w ∈ (wordsOf t).take i, wordOk (tl w) = true) ⟨same_upd nD, upd_same, fun w hw => by simp at hw⟩ (fun i H _ h => SqL.of (h.1 _ _ e1)) ?_ ?_
  · rintro i x H2 hx ⟨s2, e2, ok⟩
    rw [List.getElem?_map] at hx
    obtain ⟨wd, hwi⟩ : ∃ wd, (wordsOf t)[i]? = some wd := by
      cases e : (wordsOf t)[i]? with
      | none => rw [e] at hx; cases hx
      | some n => exact ⟨n, rfl⟩
    rw [hwi] at hx
    cases hx
    have hm := List.mem_of_getElem? hwi
    have hv : (valsOf t)[i]? = some (wordVal (tl wd)) := by
      unfold valsOf
      rw [List.getElem?_map, hwi]
      rfl
    have hil := (List.getElem?_eq_some_iff.mp hwi).1
    refine ⟨rfl, iteT (B := Same H1 H2 ∧ H2 D = some (.lst (((valsOf t).take (i + 1)).map V.int)) ∧ ∀ w ∈ (wordsOf t).take (i + 1), wordOk (tl w) = true) ?_⟩
    refine ⟨_, rfl, wd, rfl, by have := words_each hm; omega, (fun z => ?_), fun z => ?_⟩
    · refine bad ?_ H2 (s1.trans s2)
      unfold readOf
      refine if_neg fun h => ?_
      rw [List.all_eq_true.mp h.1 wd hm] at z
      cases z
    · refine ⟨_, e2, by rw [List.length_map, List.length_take]; exact smaller (by omega), s2.own nD, ?_, fun w hw => ?_⟩
      · rw [upd_same, take_snoc hv, List.map_append]
        rfl
      · rw [take_snoc hwi, List.mem_append, List.mem_singleton] at hw
        rcases hw with hw | rfl
        · exact ok w hw
        · exact z
  · rintro H2 ⟨s2, e2, ok⟩
    have hvl : (valsOf t).length = (wordsOf t).length := by unfold valsOf; rw [List.length_map]
    rw [List.length_map] at e2 ok
    rw [← hvl, List.take_length] at e2
    rw [List.take_length] at ok
    have all : ((wordsOf t).all fun w => wordOk (tl w)) = true := List.all_eq_true.mpr ok
    refine ⟨_, rfl, D, valsOf t, rfl, SqL.of e2, by omega, fun H3 s3 => ?_⟩
    rcases hR : isRow (valsOf t) with _ | _
    · refine ⟨false, rfl, iteT (bad ?_ H3 ((s1.trans s2).trans s3))⟩
      unfold readOf
      refine if_neg fun h => ?_
      rw [hR] at h
      exact nomatch h.2
    · refine ⟨true, rfl, iteF ?_⟩
      refine ⟨_, rfl, q (valsOf t) ?_ H3 D ((s1.trans s2).trans s3) (s1.free nD) (s3 _ _ e2)⟩
      unfold readOf
      exact if_pos ⟨all, hR⟩
end

/-! ### _law_is_row -/
abbrev N_law_is_row : List Str := ["row", "size", "first", "both", "place", "number"]
theorem sc_law_is_row : FnScope N_law_is_row ["row"] (defScope st_law_is_row) := ⟨rfl, rfl, rfl, by decide +kernel, rfl, by decide +kernel, by decide +kernel⟩
section
variable {P : Program} {w : World} {K : PySem.W.Frag} {mg : Str → Option Value} {base : Heap}
/-- the two dicts behind a start of a list -/
structure FB (H : Hp) (d b : Addr) (pre : List Int) : Prop where
  ne : d ≠ b
  first : ∃ kvs : List (Key × V), H d = some (.dK kvs) ∧ kvs.length ≤ pre.length ∧ ∀ k : Int, (spots pre k = [] ∧ valV kvs (.inl k) = none) ∨ ∃ x r, spots pre k = x :: r ∧ valV kvs (.inl k) = some (.int x)
  both : ∃ (kvs : List (Key × V)) (l : List Int), H b = some (.dK kvs) ∧ kvs.length ≤ pre.length ∧ kvs.map (·.1) = l.map Sum.inl ∧ l.Nodup ∧ (∀ k : Int, k ∈ l ↔ (spots pre k).length = 2) ∧ ∀ k : Int, (valV kvs (.inl k)).isSome = decide (k ∈ l)
theorem kn_law_is_row (D : Df K mg "_law_is_row" st_law_is_row ["row"]) (B : Bl mg) : Kn P w K mg base CX0 1 "_law_is_row" ["row"] (spIsRow K) := by
  refine D.kn sc_law_is_row (fun vs H Q E h => ?_) (fun f cdv A outer s H vs Q E hr h => ?_)
  · obtain ⟨a, ns, rfl, _⟩ := h
    rfl
  obtain ⟨a, ns, rfl, hS, hlen, q⟩ := h
  refine ⟨_, (pss_cons (ps_set (i := 1) sc_law_is_row.nd rfl (Or.inl rfl) (pe_op op_fdiv (pe_callB call_len_seq (by rfl) B.len_ (by decide +kernel) (pa_cons (pv 0) pa_nil)) pe_int))
      (pss_cons (ps_if (PW.pt (pw_or (pt_cmpR op_eq (pe_op op_mod (pe_callB call_len_seq (by rfl) B.len_ (by decide +kernel) (pa_cons (pv 0) pa_nil)) pe_int) pe_int (nomark _)) (pw_or (pt_cmpR op_lt (pv 1) pe_int (nomark _)) (pw_or1 (pt_cmpR op_gt (pv 1) pe_int (nomark _))))))
        (pss_one (ps_ret pe_bl))
        pss_nil)
      (pss_cons (ps_set (i := 2) sc_law_is_row.nd rfl (Or.inl rfl) pe_dnewK)
      (pss_cons (ps_set (i := 3) sc_law_is_row.nd rfl (Or.inl rfl) pe_dnewK)
      (pss_cons (ps_for PassesOwn.never rfl (pi_range1 (by rfl) B.range_ (pa_cons (pe_callB call_len_seq (by rfl) B.len_ (by decide +kernel) (pa_cons (pv 0) pa_nil)) pa_nil)) (pg_name (i := 4) sc_law_is_row.nd rfl (Or.inl rfl))
        (pss_cons (ps_set (i := 5) sc_law_is_row.nd rfl (Or.inl rfl) (pe_ix ix_list (pv 0) (pv 4) (fun _ _ => rfl)))
        (pss_cons (ps_if (PW.pt (pw_or (pt_cmpR op_lt (pv 5) pe_int (nomark _)) (pw_or (pt_cmpR op_gt (pv 5) (pv 1) (nomark _)) (pw_or1 (pt_cmp (pc_din (hu_of hr) (pv 5) (pv 3)))))))
          (pss_one (ps_ret pe_bl))
          pss_nil)
        (pss_one (ps_if (pt_cmp (pc_dnotin (hu_of hr) (pv 5) (pv 2)))
          (pss_one (ps_dput (hu_of hr) (pv 2) (pv 5) (pv 4) rfl))
          (pss_one (ps_if (pt_cmpR op_ne (pe_op op_sub (pv 4) (pe_dget (hu_of hr) (pv 2) (pv 5) (fun _ _ => rfl))) (pv 5) (nomark _))
            (pss_one (ps_ret pe_bl))
            (pss_one (ps_dput (hu_of hr) (pv 3) (pv 5) pe_bl rfl)))))))))
      (pss_one (ps_ret (pe_cmpR op_eq (pe_callB call_lenD (by rfl) B.len_ (by decide +kernel) (pa_cons (pv 3) pa_nil)) (pv 1) (nomark _))))))))), ?_⟩
  refine ⟨_, rfl, a, _, rfl, .inl hS, _, _, rfl, rfl, ⟨by decide, by decide⟩, ?_⟩
  have hL := ints_len ns
  have hsz : (((ns.map V.int).length : Nat) : Int) / 2 = ((ns.length / 2 : Nat) : Int) := by
    rw [hL]
    omega
  simp only [hsz]
  have no : ∀ H', Same H H' → (isRow ns = true → False) → Q (.bl false) H' := fun H' s h => by
    have := q H' s
    rw [isRow_no h] at this
    exact this
  -- len(row) % 2 == 1 or size < 1 or size > 400
  refine ⟨_, rfl, a, _, rfl, .inl hS, _, _, rfl, rfl, (by decide : (0 : Int) < 2), rfl, _, rfl, ite2 (fun c => ?_) (fun c => ?_)⟩
  · have c' : (((ns.map V.int).length : Nat) : Int) % 2 = 1 := V.int.inj (of_decide_eq_true c)
    rw [hL] at c'
    exact iteT (no H (Same.refl _) fun z => by have := ((isRow_iff ns).mp z).1; omega)
  have c0 : ns.length = 2 * (ns.length / 2) := by
    have c' : ¬ (((ns.map V.int).length : Nat) : Int) % 2 = 1 := fun z => c (decide_eq_true (congrArg V.int z))
    rw [hL] at c'
    omega
  refine ⟨_, rfl, _, _, rfl, rfl, _, rfl, ite2 (fun c => ?_) (fun c => ?_)⟩
  · have c1 : ((ns.length / 2 : Nat) : Int) < 1 := of_decide_eq_true c
    exact iteT (no H (Same.refl _) fun z => by have := ((isRow_iff ns).mp z).2.1; omega)
  have c1 : ¬ ((ns.length / 2 : Nat) : Int) < 1 := of_decide_eq_false (Bool.eq_false_iff.mpr c)
  refine ⟨_, rfl, _, _, rfl, rfl, _, rfl, ite2 (fun c => ?_) (fun c => ?_)⟩
  · have c2 : (400 : Int) < ((ns.length / 2 : Nat) : Int) := of_decide_eq_true c
    exact no H (Same.refl _) fun z => by have := ((isRow_iff ns).mp z).2.2.1; omega
  have c2 : ¬ (400 : Int) < ((ns.length / 2 : Nat) : Int) := of_decide_eq_false (Bool.eq_false_iff.mpr c)
  -- the two dicts
  intro d nd b nb
  have ndb : d ≠ b := fun e => by
    rw [← e, upd_same] at nb
    cases nb
  have nbH : H b = none := by rw [upd_ne ndb.symm] at nb; exact nb
  have s1 : Same H (upd (upd H d (.dK [])) b (.dK [])) := (same_upd nd).new nb
  refine ⟨_, rfl, a, _, rfl, .inl (s1.seq hS), (((ns.map V.int).length : Nat) : Int), rfl, by omega, by rw [hL]; omega, ?_⟩
  refine for_range (lo := 0) (n := ((((ns.map V.int).length : Nat) : Int)).toNat) (fun i σ H' => ∃ y4 y5, σ = [some (.ref a), some (.int ((ns.length / 2 : Nat) : Int)), some (.ref d), some (.ref b), y4, y5] ∧ Same H H' ∧ okPre (ns.length / 2) (ns.take i) ∧ FB H' d b (ns.take i)) ⟨none, none, rfl, s1, okPre_nil _, ndb, ⟨[], by rw [upd_ne ndb, upd_same], Nat.le_refl _, fun k => .inl ⟨rfl, rfl⟩⟩, ⟨[], [], upd_same, Nat.le_refl _, rfl, List.nodup_nil, fun k => by simp [spots, spotsFrom], fun k => rfl⟩⟩ ?_ ?_
  · rintro i σ H1 hi ⟨y4, y5, rfl, s2, ok, fb⟩
    have hi2 : i < ns.length := by omega
    obtain ⟨n, hn⟩ : ∃ n, ns[i]? = some n := ⟨ns[i], List.getElem?_eq_getElem hi2⟩
    have htl : (ns.take i).length = i := by rw [List.length_take]; omega
    obtain ⟨kf, f1, f2, f3⟩ := fb.first
    obtain ⟨kb, l, b1, b2, b3, b4, b5, b6⟩ := fb.both
    refine ⟨_, rfl, _, rfl, a, _, _, V.int n, rfl, rfl, s2.seq hS, at_ints (by omega) (by rw [Int.zero_add, Int.toNat_natCast]; exact hn), ?_⟩
    have hN : isRow ns = true → okPre (ns.length / 2) (ns.take i ++ [n]) := fun z => by
      rw [← take_snoc hn]
      exact isRow_okPre z (i + 1)
    have sp := spots_snoc (ns.take i) n n
    rw [if_pos rfl, htl] at sp
    -- number < 1 or number > size or number in both
    refine ⟨_, rfl, _, _, rfl, rfl, _, rfl, ite2 (fun c => ?_) (fun c => ?_)⟩
    · have c3 : n < 1 := of_decide_eq_true c
      exact iteT (no H1 s2 fun z => by have := (hN z).1 n (by simp); omega)
    have c3 : ¬ n < 1 := of_decide_eq_false (Bool.eq_false_iff.mpr c)
    refine ⟨_, rfl, _, rfl, _, _, rfl, rfl, _, rfl, ite2 (fun c => ?_) (fun c => ?_)⟩
    · have c4 : ((ns.length / 2 : Nat) : Int) < n := of_decide_eq_true c
      exact iteT (no H1 s2 fun z => by have := (hN z).1 n (by simp); omega)
    have c4 : ¬ ((ns.length / 2 : Nat) : Int) < n := of_decide_eq_false (Bool.eq_false_iff.mpr c)
    refine ⟨_, rfl, _, rfl, b, _, rfl, DGet.k (k := Sum.inl n) b1, _, rfl, ite2 (fun c => ?_) (fun c => ?_)⟩
    · rw [b6 n] at c
      have c5 : (spots (ns.take i) n).length = 2 := (b5 n).mp (of_decide_eq_true c)
      exact no H1 s2 fun z => by
        have h2 := (hN z).2 n
        have h3 : (spots (ns.take i ++ [n]) n).length = 3 := by rw [sp, List.length_append, c5]; rfl
        rcases h2 with e | ⟨x, e⟩ | ⟨x, y, e, _⟩ <;> rw [e] at h3 <;> simp at h3
    have c5 : ¬ n ∈ l := by
      rw [b6 n] at c
      exact fun z => c (decide_eq_true z)
    have c6 : ¬ (spots (ns.take i) n).length = 2 := fun z => c5 ((b5 n).mpr z)
    -- number not in first
    refine ⟨_, rfl, _, rfl, d, _, rfl, DGet.k (k := Sum.inl n) f1, _, rfl, ite2 (fun c => ?_) (fun c => ?_)⟩
    · have c7 : spots (ns.take i) n = [] := by
        rcases f3 n with ⟨e, _⟩ | ⟨x, r, _, e⟩
        · exact e
        · rw [e] at c
          cases c
      have ok2 : okPre (ns.length / 2) (ns.take i ++ [n]) := okPre_snoc ok (by omega) (by omega) (.inl c7)
      have hv : valV kf (Sum.inl n) = none := by
        rcases f3 n with ⟨_, e⟩ | ⟨x, r, e, _⟩
        · exact e
        · rw [c7] at e
          cases e
      refine ⟨_, rfl, _, rfl, _, rfl, d, _, rfl, DPut.k (k := Sum.inl n) f1 (smaller (by omega)), _, _, rfl, s2.own nd, by rw [take_snoc hn]; exact ok2, ?_⟩
      rw [take_snoc hn]
      refine ⟨fb.ne, ⟨_, upd_same, ?_, fun k => ?_⟩, ⟨kb, l, by rw [upd_ne fb.ne.symm]; exact b1, by rw [List.length_append]; omega, b3, b4, fun k => ?_, b6⟩⟩
      · have := length_putK kf (Sum.inl n : Key) (V.int (0 + (i : Int)))
        rw [List.length_append, List.length_singleton]
        omega
      · rw [valV_put, spots_snoc]
        by_cases hk : n = k
        · subst hk
          rw [if_pos rfl, if_pos rfl, c7, htl]
          exact .inr ⟨(i : Int), [], rfl, by rw [Int.zero_add]⟩
        · have hk' : ¬ (Sum.inl k : Key) = Sum.inl n := fun z => hk (Sum.inl.inj z).symm
          rw [if_neg hk', if_neg hk, List.append_nil]
          exact f3 k
      · rw [spots_snoc]
        by_cases hk : n = k
        · subst hk
          rw [if_pos rfl, c7]
          constructor
          · intro z
            exact absurd z c5
          · intro z
            simp at z
        · rw [if_neg hk, List.append_nil]
          exact b5 k
    · have c7 : (spots (ns.take i) n) ≠ [] := fun z => by
        rcases f3 n with ⟨_, e⟩ | ⟨x, r, e, _⟩
        · rw [e] at c
          exact c rfl
        · rw [z] at e
          cases e
      obtain ⟨x, hx, hv⟩ : ∃ x, spots (ns.take i) n = [x] ∧ valV kf (Sum.inl n) = some (.int x) := by
        rcases f3 n with ⟨e, _⟩ | ⟨x, r, e, e2⟩
        · exact absurd e c7
        · rcases ok.2 n with e3 | ⟨y, e3⟩ | ⟨y, z, e3, _⟩
          · exact absurd e3 c7
          · rw [e] at e3
            cases e3
            exact ⟨x, e, e2⟩
          · rw [e3] at c6
            exact absurd rfl c6
      have hget : DGet H1 d (.int n) (some (.int x)) := hv ▸ DGet.k (k := Sum.inl n) f1
      refine ⟨_, rfl, _, rfl, _, rfl, d, _, rfl, hget, _, _, rfl, rfl, _, rfl, rfl, _, rfl, ite2 (fun c => ?_) (fun c => ?_)⟩
      · have c8 : ¬ (0 : Int) + (i : Int) - x = n := fun z => by
          have e : decide (V.int ((0 : Int) + (i : Int) - x) = V.int n) = true := decide_eq_true (congrArg V.int z)
          have c2 : (!decide (V.int ((0 : Int) + (i : Int) - x) = V.int n)) = true := c
          rw [e] at c2
          cases c2
        exact no H1 s2 fun z => by
          have h2 := (hN z).2 n
          rw [sp, hx] at h2
          rcases h2 with e | ⟨y, e⟩ | ⟨y, z, e, e2⟩
          · cases e
          · cases e
          · cases e
            exact c8 (by omega)
      · have c8 : (0 : Int) + (i : Int) - x = n := by
          have c2 : ¬ (!decide (V.int ((0 : Int) + (i : Int) - x) = V.int n)) = true := c
          rw [Bool.not_eq_true', decide_eq_false_iff_not, Decidable.not_not] at c2
          exact V.int.inj c2
        have ok2 : okPre (ns.length / 2) (ns.take i ++ [n]) := okPre_snoc ok (by omega) (by omega) (.inr ⟨x, hx, by rw [htl]; omega⟩)
        have hvb : valV kb (Sum.inl n) = none := by
          have := b6 n
          cases e : valV kb (Sum.inl n) with
          | none => rfl
          | some v =>
            rw [e] at this
            exact absurd (of_decide_eq_true this.symm) c5
        refine ⟨_, rfl, _, rfl, b, _, rfl, DPut.k (k := Sum.inl n) b1 (smaller (by omega)), _, _, rfl, s2.own nbH, by rw [take_snoc hn]; exact ok2, ?_⟩
        rw [take_snoc hn]
        refine ⟨fb.ne, ⟨kf, by rw [upd_ne fb.ne]; exact f1, by rw [List.length_append]; omega, fun k => ?_⟩, ⟨_, l ++ [n], upd_same, ?_, ?_, nd_snoc b4 c5, fun k => ?_, fun k => ?_⟩⟩
        · rw [spots_snoc]
          by_cases hk : n = k
          · subst hk
            rw [if_pos rfl, hx]
            exact .inr ⟨x, _, rfl, hv⟩
          · rw [if_neg hk, List.append_nil]
            exact f3 k
        · have := length_putK kb (Sum.inl n : Key) (V.bl true)
          rw [List.length_append, List.length_singleton]
          omega
        · rw [putK_new _ hvb, List.map_append, List.map_append, b3]
          rfl
        · rw [spots_snoc, List.mem_append, List.mem_singleton]
          by_cases hk : n = k
          · subst hk
            rw [if_pos rfl, hx]
            simp
          · rw [if_neg hk, List.append_nil, b5 k]
            constructor
            · rintro (z | z)
              · exact z
              · exact absurd z.symm hk
            · exact .inl
        · rw [valV_put]
          by_cases hk : n = k
          · subst hk
            rw [if_pos rfl]
            simp
          · have hk' : ¬ (Sum.inl k : Key) = Sum.inl n := fun z => hk (Sum.inl.inj z).symm
            rw [if_neg hk', b6 k]
            have : (k ∈ l ++ [n]) ↔ k ∈ l := by
              rw [List.mem_append, List.mem_singleton]
              constructor
              · rintro (z | z)
                · exact z
                · exact absurd z.symm hk
              · exact .inl
            rw [decide_eq_decide]
            exact this.symm
  · rintro σ H1 ⟨y4, y5, rfl, s2, ok, fb⟩
    obtain ⟨kb, l, b1, b2, b3, b4, b5, b6⟩ := fb.both
    rw [Int.toNat_natCast, hL, List.take_length] at ok b5
    have hlen2 : kb.length = l.length := by
      have := congrArg List.length b3
      rwa [List.length_map, List.length_map] at this
    refine ⟨_, rfl, b, kb, rfl, b1, _, rfl, rfl, ?_⟩
    have hb : ∀ x ∈ l, 1 ≤ x ∧ x ≤ ((ns.length / 2 : Nat) : Int) := fun x hx => by
      have h2 := (b5 x).mp hx
      cases e : spots ns x with
      | nil =>
        rw [e] at h2
        simp at h2
      | cons y r =>
        obtain ⟨j, hj, _⟩ := (mem_spots ns x y).mp (by rw [e]; simp)
        exact ok.1 x (List.mem_of_getElem? hj)
    have e : decide (V.int ((kb.length : Nat) : Int) = V.int ((ns.length / 2 : Nat) : Int)) = isRow ns := by
      rw [Bool.eq_iff_iff, decide_eq_true_iff]
      constructor
      · intro z
        have z1 := V.int.inj z
        have z2 : l.length = ns.length / 2 := by omega
        exact isRow_of_okPre c0 (by omega) (by omega) ok fun k h1 h2 => (b5 k).mp (all_of_nodup z2 b4 hb k h1 h2)
      · intro z
        have h4 := ((isRow_iff ns).mp z).2.2.2
        have : l.length = ns.length / 2 := length_of_all b4 hb fun k h1 h2 => (b5 k).mpr (by rw [spots_length]; exact good_count (h4 k h1 h2))
        exact congrArg V.int (by omega)
    show Q (V.bl (decide (V.int ((kb.length : Nat) : Int) = V.int ((ns.length / 2 : Nat) : Int)))) _
    rw [e]
    exact q H1 s2
end

/-! ### words that the law reads -/
open TL (tl numL)
def dueOk (l : List Nat) : Bool := decide (1 ≤ l.length) && decide (l.length ≤ 40) && decide (l[0]? ≠ some 48) && figs l
theorem dueOk_iff {l : List Nat} : dueOk l = true ↔ 1 ≤ l.length ∧ l.length ≤ 40 ∧ l[0]? ≠ some 48 ∧ ∀ c ∈ l, 48 ≤ c ∧ c ≤ 57 := by
  unfold dueOk
  rw [Bool.and_eq_true, Bool.and_eq_true, Bool.and_eq_true, decide_eq_true_iff, decide_eq_true_iff, decide_eq_true_iff, figs_iff]
  constructor
  · rintro ⟨⟨⟨a, b⟩, c⟩, d⟩
    exact ⟨a, b, c, d⟩
  · rintro ⟨a, b, c, d⟩
    exact ⟨⟨⟨a, b⟩, c⟩, d⟩
theorem due_of_ok {l : List Nat} (h : wordOk l = true) : dueOk l = true := by
  obtain ⟨a, b, c, d⟩ := wordOk_iff.mp h
  exact dueOk_iff.mpr ⟨a, by omega, c, d⟩
theorem ok_of_due {l : List Nat} (h : dueOk l = true) (hv : wordVal l < 1000) : wordOk l = true := by
  obtain ⟨a, b, c, d⟩ := dueOk_iff.mp h
  refine wordOk_iff.mpr ⟨a, ?_, c, d⟩
  obtain ⟨x, r, e⟩ : ∃ x r, l = x :: r := by
    cases l with
    | nil => simp at a
    | cons x r => exact ⟨x, r, rfl⟩
  have hx : 49 ≤ x := by
    have := d x (by rw [e]; simp)
    have : x ≠ 48 := fun z => c (by rw [e, z]; rfl)
    omega
  have hd := NumText.toDigits_digitsVal (l.length - 1) l (by omega) d (.inr ⟨x, r, e, hx⟩)
  have hl := congrArg List.length hd
  rw [List.length_map] at hl
  have h3 := TL.numL_len (n := NumText.digitsVal l) (k := 3) (by decide) (by unfold wordVal at hv; omega)
  unfold TL.numL at h3
  rw [List.length_map, hl] at h3
  exact h3
theorem read_none {t : Str} {w : Str} (hm : w ∈ wordsOf t) (h : dueOk (tl w) = false) : readOf t = none := by
  unfold readOf
  refine if_neg fun z => ?_
  rw [due_of_ok (List.all_eq_true.mp z.1 w hm)] at h
  cases h
theorem read_row {t : Str} (h : ∀ w ∈ wordsOf t, dueOk (tl w) = true) (hR : isRow (valsOf t) = true) : readOf t = some (valsOf t) := by
  unfold readOf
  refine if_pos ⟨List.all_eq_true.mpr fun w hw => ok_of_due (h w hw) ?_, hR⟩
  exact (row_num hR _ (List.mem_map_of_mem (f := fun w => wordVal (tl w)) hw)).2
theorem read_no {t : Str} (hR : isRow (valsOf t) = false) : readOf t = none := by
  unfold readOf
  refine if_neg fun z => ?_
  rw [hR] at z
  exact nomatch z.2
/-- a sign looked for in the figures -/
theorem find_fig (c : Nat) : Txt.find "0123456789" ⟨#[c]⟩ < 0 ↔ ¬ (48 ≤ c ∧ c ≤ 57) := by
  have hne : tl (⟨#[c]⟩ : Str) ≠ [] := by simp [TL.tl]
  have e : tl ("0123456789" : Str) = [48, 49, 50, 51, 52, 53, 54, 55, 56, 57] := by decide +kernel
  have hat : ∀ i, StrLaws.At "0123456789" (⟨#[c]⟩ : Str) ("0123456789" : Str).length i ↔ (tl ("0123456789" : Str))[i]? = some c := fun i => by
    rw [TL.at_iff hne i]
    show ((((tl ("0123456789" : Str)).drop i).take 1) == [c]) = true ↔ _
    rw [beq_iff_eq]
    constructor
    · intro h
      have := congrArg (fun l => l[0]?) h
      simpa [List.getElem?_take, List.getElem?_drop] using this
    · intro h
      obtain ⟨hi, h2⟩ := List.getElem?_eq_some_iff.mp h
      rw [List.drop_eq_getElem_cons hi, h2]
      rfl
  have hin : (∃ i : Nat, (tl ("0123456789" : Str))[i]? = some c) ↔ 48 ≤ c ∧ c ≤ 57 := by
    rw [← List.mem_iff_getElem?, e]
    simp
    omega
  rcases PyProof.Rows.find_whole "0123456789" (⟨#[c]⟩ : Str) with ⟨h1, h2⟩ | ⟨i, h1, h2, _⟩
  · rw [h1]
    refine ⟨fun _ z => ?_, fun _ => by decide⟩
    obtain ⟨i, hi⟩ := hin.mpr z
    exact h2 i ((hat i).mpr hi)
  · rw [h1]
    refine ⟨fun z => by omega, fun z => absurd (hin.mp ⟨i, (hat i).mp h2⟩) z⟩

/-! ### _law_due -/
open TL (tl numL)
abbrev N_law_due : List Str := ["text", "row", "word", "sign"]
theorem sc_law_due : FnScope N_law_due ["text"] (defScope st_law_due) := ⟨rfl, rfl, rfl, by decide +kernel, rfl, by decide +kernel, by decide +kernel⟩
def spDue : Sp := fun vs H Q _ => ∃ t : Str, vs = [.str t] ∧ t.length ≤ 20000 ∧ (readOf t = none → ∀ H', Same H H' → Q .non H') ∧ (∀ r, readOf t = some r → ∀ H' p, Same H H' → H p = none → H' p = some (.lst (r.map V.int)) → Q (.ref p) H')
section
variable {P : Program} {w : World} {K : PySem.W.Frag} {mg : Str → Option Value} {base : Heap}
theorem kn_law_due (D : Df K mg "_law_due" st_law_due ["text"]) (B : Bl mg) (K_law_is_row : Kn P w K mg base CX0 1 "_law_is_row" ["row"] (spIsRow K)) : Kn P w K mg base CX0 2 "_law_due" ["text"] spDue := by
  refine D.kn sc_law_due (fun vs H Q E h => ?_) (fun f cdv A outer s H vs Q E hr h => ?_)
  · obtain ⟨_, rfl, _⟩ := h
    rfl
  obtain ⟨t, rfl, hl, bad, q⟩ := h
  refine ⟨_, (pss_cons (ps_set (i := 1) sc_law_due.nd rfl (Or.inl rfl) (pe_lst pa_nil))
      (pss_cons (ps_for PassesOwn.never rfl (pi_list (pe_split (pv 0) pe_str)) (pg_name (i := 2) sc_law_due.nd rfl (Or.inl rfl))
        (pss_cons (ps_if (PW.pt (pw_or (pt_cmpR op_eq (pv 2) pe_str (nomark _)) (pw_or (pt_cmpR op_gt (pe_callB call_len_str (by rfl) B.len_ (by decide +kernel) (pa_cons (pv 2) pa_nil)) pe_int (nomark _)) (pw_or1 (pt_cmpR op_eq (pe_ix ix_str (pv 2) pe_int (fun _ _ => rfl)) pe_str (nomark _))))))
          (pss_one (ps_ret pe_non))
          pss_nil)
        (pss_cons (ps_if (pt_cmpR op_gt (pe_callB call_len_seq (by rfl) B.len_ (by decide +kernel) (pa_cons (pe_lc (own := [("sign", 3)]) (g := gName 3) rfl sc_law_due.nd (pi_str (pv 2)) (blkOk_by (own := [("sign", 3)]) (N := N_law_due) (sc := defScope st_law_due) (by decide +kernel)) (fun _ _ _ _ _ => pg_name (i := 3) sc_law_due.nd rfl (Or.inl rfl)) (fun _ _ _ _ _ => pts_one (pt_cmpR op_lt (pe_m1 PySem.F.slot_str_find PySem.F.type_str_find mt_find pe_str (pv 3)) pe_int (nomark _))) (fun _ _ _ _ _ => pv 3)) pa_nil)) pe_int (nomark _))
          (pss_one (ps_ret pe_non))
          pss_nil)
        (pss_one (ps_expr (pe_bm PySem.F.plainAttrs_list PySem.F.slot_list_append PySem.F.type_list_append mt_append (pv 1) (pa_cons (pe_callTy call_int_str (by rfl) B.int_ (by decide +kernel) (pa_cons (pv 2) pa_nil)) pa_nil)))))))
      (pss_cons (ps_if (pt_not (pt_val (pe_k0 K_law_is_row (hr.mono (by first | decide | omega)) (by rfl) (pa_cons (pv 1) pa_nil))))
        (pss_one (ps_ret pe_non))
        pss_nil)
      (pss_one (ps_ret (pv 1)))))), ?_⟩
  have hc := words_count t
  refine ⟨small (show 0 ≤ 16777216 by decide), fun d nd => ?_⟩
  generalize hHd : upd H d (.lst []) = Hd
  have sd : Same H Hd := hHd ▸ same_upd nd
  have ed : Hd d = some (.lst (([] : List Int).map V.int)) := hHd ▸ upd_same
  clear hHd
  refine ⟨_, rfl, ⟨_, rfl⟩, t, " ", rfl, rfl, by decide +kernel, small (by omega), fun l nl => ?_⟩
  have ndl : l ≠ d := fun e => by rw [e, ed] at nl; cases nl
  generalize hH1 : upd Hd l (.lst ((wordsOf t).map V.str)) = H1
  have s1 : Same Hd H1 := hH1 ▸ same_upd nl
  have e1 : H1 l = some (.lst ((wordsOf t).map V.str)) := hH1 ▸ upd_same
  have ed1 := s1 _ _ ed
  clear hH1
  refine ⟨l, rfl, ⟨_, SqL.of e1⟩, for_list (K := K) (a := l) (xs := (wordsOf t).map V.str) (fun i σ H' => ∃ y2, σ = [some (.str t), some (.ref d), y2, none] ∧ Same H H' ∧ H' l = some (.lst ((wordsOf t).map V.str)) ∧ H' d = some (.lst (((valsOf t).take i).map V.int)) ∧ ∀ w ∈ (wordsOf t).take i, dueOk (tl w) = true)
    ⟨none, rfl, sd.trans s1, e1, ed1, fun w hw => by simp at hw⟩ ?_ ?_ ?_⟩
  · rintro i σ H' _ ⟨y2, rfl, s2, e2, _⟩
    exact SqL.of e2
  · rintro i x σ H2 hx ⟨y2, rfl, s2, e2, e2d, ok⟩
    rw [List.getElem?_map] at hx
    obtain ⟨wd, hwi⟩ : ∃ wd, (wordsOf t)[i]? = some wd := by
      cases e : (wordsOf t)[i]? with
      | none => rw [e] at hx; cases hx
      | some n => exact ⟨n, rfl⟩
    rw [hwi] at hx
    cases hx
    have hm := List.mem_of_getElem? hwi
    have hv : (valsOf t)[i]? = some (wordVal (tl wd)) := by
      unfold valsOf
      rw [List.getElem?_map, hwi]
      rfl
    have hil := (List.getElem?_eq_some_iff.mp hwi).1
    have hwl := words_each hm
    have hlen := TL.len_tl wd
    have no : ¬ (1 ≤ (tl wd).length ∧ (tl wd).length ≤ 40 ∧ (tl wd)[0]? ≠ some 48 ∧ ∀ c ∈ tl wd, 48 ≤ c ∧ c ≤ 57) → readOf t = none := fun n => read_none hm (Bool.eq_false_iff.mpr fun z => n (dueOk_iff.mp z))
    refine ⟨_, rfl, rfl, _, rfl, ite2 (fun c => ?_) (fun c => ?_)⟩
    · have c1 : wd = "" := V.str.inj (of_decide_eq_true c)
      refine iteT (bad (no fun z => ?_) _ s2)
      rw [c1] at z
      exact absurd z.1 (by decide +kernel)
    have c1 : 1 ≤ (tl wd).length := by
      have : wd ≠ "" := fun z => c (decide_eq_true (congrArg V.str z))
      rcases Nat.eq_zero_or_pos (tl wd).length with h | h
      · refine absurd (TL.ext_tl ?_) this
        rw [List.length_eq_zero_iff.mp h]
        decide +kernel
      · exact h
    refine ⟨_, rfl, wd, rfl, small (by omega), _, _, rfl, rfl, _, rfl, ite2 (fun c => ?_) (fun c => ?_)⟩
    · have c2 : 40 < (wd.length : Int) := of_decide_eq_true c
      exact iteT (bad (no fun z => by omega) _ s2)
    have c2 : ¬ 40 < (wd.length : Int) := fun z => c (decide_eq_true z)
    obtain ⟨d0, hd0⟩ : ∃ d0, (tl wd)[0]? = some d0 := ⟨_, List.getElem?_eq_getElem (by omega)⟩
    refine ⟨_, rfl, wd, 0, d0, rfl, rfl, small (by omega), atI_nat (j := 0) hd0, rfl, _, rfl, ite2 (fun c => ?_) (fun c => ?_)⟩
    · have c3 : d0 = 48 := sign_is.mp (V.str.inj (of_decide_eq_true c))
      exact bad (no fun z => z.2.2.1 (by rw [hd0, c3])) _ s2
    have c3 : ¬ d0 = 48 := fun z => c (decide_eq_true (by rw [z]; rfl))
    refine ⟨_, rfl, wd, rfl, fun D nD => ?_⟩
    refine lc_it (walk_str (z := wd)) (fun j H' => ∃ fs : List Str, Same H2 H' ∧ H' D = some (.lst (fs.map V.str)) ∧ fs.length ≤ j ∧ (fs.length = 0 ↔ ∀ c ∈ (tl wd).take j, 48 ≤ c ∧ c ≤ 57)) ⟨[], same_upd nD, upd_same, Nat.le_refl _, by simp⟩ (fun _ _ _ _ => trivial) ?_ ?_
    · rintro j x H3 H4 hj ⟨fs, s3, e3, hfl, hff⟩ ⟨rfl, e, he, rfl⟩
      have het : (tl wd)[j]? = some e := by
        show wd.cps.toList[j]? = some e
        rw [Array.getElem?_toList]
        exact he
      have hjl := (List.getElem?_eq_some_iff.mp het).1
      refine ⟨rfl, ⟨_, rfl⟩, _, rfl, _, _, rfl, rfl, _, _, rfl, rfl, _, rfl, ite2 (fun c => ?_) (fun c => ?_)⟩
      · have c4 := (find_fig e).mp (of_decide_eq_true c)
        refine ⟨_, rfl, _, e3, by rw [List.length_map]; exact smaller (by omega), fs ++ [⟨#[e]⟩], s3.own nD, ?_, by rw [List.length_append, List.length_singleton]; omega, ?_⟩
        · rw [upd_same, List.map_append]
          rfl
        · rw [take_snoc het, List.length_append, List.length_singleton]
          refine ⟨fun z => by omega, fun z => absurd (z e (by simp)) c4⟩
      · have c4 : 48 ≤ e ∧ e ≤ 57 := by
          by_cases z : 48 ≤ e ∧ e ≤ 57
          · exact z
          · exact absurd (decide_eq_true ((find_fig e).mpr z)) c
        refine ⟨fs, s3, e3, by omega, hff.trans ?_⟩
        rw [take_snoc het]
        constructor
        · intro z y hy
          rcases List.mem_append.mp hy with hy | hy
          · exact z y hy
          · rw [List.mem_singleton.mp hy]
            exact c4
        · intro z y hy
          exact z y (List.mem_append_left _ hy)
    · rintro H3 ⟨fs, s3, e3, _, hff⟩
      have hsz : wd.cps.size = (tl wd).length := by rw [← hlen]; rfl
      rw [hsz, List.take_length] at hff
      refine ⟨D, _, rfl, .inl (SqL.of e3), _, _, rfl, rfl, _, rfl, ite2 (fun c => ?_) (fun c => ?_)⟩
      · have c4 : 0 < ((fs.map V.str).length : Int) := of_decide_eq_true c
        rw [List.length_map] at c4
        exact bad (no fun z => by have := hff.mpr z.2.2.2; omega) _ (s2.trans s3)
      · have c4 : ¬ 0 < ((fs.map V.str).length : Int) := fun z => c (decide_eq_true z)
        rw [List.length_map] at c4
        have figs := hff.mp (by omega)
        have ok1 : dueOk (tl wd) = true := dueOk_iff.mpr ⟨c1, by omega, fun e => c3 (by rw [hd0] at e; exact Option.some.inj e), figs⟩
        have hne : tl wd ≠ [] := fun e => by rw [e] at c1; simp at c1
        have e3d := s3 _ _ e2d
        refine ⟨_, rfl, .inl ⟨rfl, _, .inl (.inl e3d)⟩, _, rfl, wd, _, rfl, PySem.intText_digits (x := wd) figs hne (by omega), by omega, d, _, _, rfl, rfl, e3d, by rw [List.length_map, List.length_take]; exact smaller (by omega), ?_⟩
        refine ⟨_, rfl, (s2.trans s3).own nd, ?_, ?_, fun w hw => ?_⟩
        · rw [upd_ne ndl]
          exact s3 _ _ e2
        · rw [upd_same, take_snoc hv, List.map_append]
          rfl
        · rw [take_snoc hwi, List.mem_append, List.mem_singleton] at hw
          rcases hw with hw | rfl
          · exact ok w hw
          · exact ok1
  · rintro σ H2 ⟨y2, rfl, s2, e2, e2d, ok⟩
    have hvl : (valsOf t).length = (wordsOf t).length := by unfold valsOf; rw [List.length_map]
    rw [List.length_map] at e2d ok
    rw [← hvl, List.take_length] at e2d
    rw [List.take_length] at ok
    refine ⟨_, rfl, d, valsOf t, rfl, SqL.of e2d, by omega, fun H3 s3 => ?_⟩
    rcases hR : isRow (valsOf t) with _ | _
    · exact ⟨false, rfl, iteT (bad (read_no hR) H3 (s2.trans s3))⟩
    · exact ⟨true, rfl, iteF ⟨_, rfl, q (valsOf t) (read_row ok hR) H3 d (s2.trans s3) nd (s3 _ _ e2d)⟩⟩
end

/-! ### a text times a number -/
section
variable {X : Cx}
def rRepS : R2 := fun x y H Q => ∃ (z : Str) (k : Int), x = .str z ∧ y = .int k ∧ 1 < k ∧ k ≤ 1000 ∧ 0 < z.length ∧ z.length ≤ 1000 ∧ ∀ r : Str, r.length = z.length * k.toNat → Q (.str r) H
theorem fold_size (a : Array Nat) : ∀ (n : Nat) (b : Array Nat), ((List.replicate n a).foldl (· ++ ·) b).size = b.size + n * a.size
  | 0, b => by simp
  | n + 1, b => by
    rw [List.replicate_succ, List.foldl_cons, fold_size a n (b ++ a), Array.size_append, Nat.succ_mul]
    omega
theorem op_rep_s : OpR X (binaryOp .Mult) rRepS := by
  intro pins s σ H x y v u Q I rx ry h
  obtain ⟨z, k, rfl, rfl, k1, k2, z1, z2, q⟩ := h
  obtain ⟨t, rfl⟩ := rx
  obtain ⟨t', rfl⟩ := ry
  have hlen : z.length * k.toNat ≤ 1000000 := Nat.le_trans (Nat.mul_le_mul z2 (show k.toNat ≤ 1000 by omega)) (by decide)
  have hk : ((k : Int) == 1 || z.length == 0) = false := by
    rw [Bool.or_eq_false_iff]
    exact ⟨by simp; omega, by simp; omega⟩
  refine PySem.P.mul_str ?_ (fun _ _ => ?_) (fun _ _ => ?_) ?_
  · rw [decide_eq_false (by omega), decide_eq_false (by omega)]
    rfl
  · have h1 : (9007199254740992 : Int) ≤ (2 ^ 63 - 1) / k := by
      rw [Int.le_ediv_iff_mul_le (by omega)]
      omega
    omega
  · unfold Builtin.Str.tooLong
    rw [decide_eq_false_iff_not, line_eq]
    omega
  · have hs : (⟨(List.replicate k.toNat z.cps).foldl (· ++ ·) #[]⟩ : Str).length = z.length * k.toNat := by
      show Array.size _ = _
      rw [fold_size, Nat.mul_comm]
      simp
      rfl
    rw [if_neg (by omega), if_neg (by rw [hk]; exact Bool.false_ne_true)]
    exact ⟨by rw [hs]; exact small (by omega), .str _, H, I.tok _, ⟨_, rfl⟩, q _ hs⟩
end

-- TOLD (spRead C4)
/-! ### _law_told (of k11) -/
abbrev N_law_told : List Str := ["text", "e"]
theorem sc_law_told : FnScope N_law_told ["text"] (defScope st_law_told) := ⟨rfl, rfl, rfl, by decide +kernel, rfl, by decide +kernel, by decide +kernel⟩
def spTold : Sp := fun vs H Q _ => ∃ t : Str, vs = [.str t] ∧ t.length ≤ 20000 ∧ (readOf t = none → ∀ H', Same H H' → Q (.str "note") H') ∧ (∀ r, readOf t = some r → ∀ H' p, Same H H' → H p = none → H' p = some (.lst (r.map V.int)) → Q (.ref p) H')
section
variable {P : Program} {w : World} {K : PySem.W.Frag} {mg : Str → Option Value} {base : Heap}
theorem kn_law_told {C0 C1 C2 C3 C4 CA : Addr} (D : Df K mg "_law_told" st_law_told ["text"]) (X_ApartError : Ec K mg "ApartError" CA) (K_law_word_of : KnW P w K mg base 1 "_law_word_of" ["e"] (spWordOf K C0 C1 C2 C3 C4)) (K_read : Kn P w K mg base (L2.CX P w) 3 "read" ["text"] (spRead C4))
    (O4 : OfClass K C0 C1 C2 C3 C4 C4 4) (M4 : PySem.W.exmOne K (.ref C4) (.ref CA) = some true) : Kn P w K mg base CX0 4 "_law_told" ["text"] spTold := by
  refine D.kn sc_law_told (fun vs H Q E h => ?_) (fun f cdv A outer s H vs Q E hr h => ?_)
  · obtain ⟨_, rfl, _⟩ := h
    rfl
  obtain ⟨t, rfl, hl, bad, q⟩ := h
  refine ⟨_, (pss_one (ps_try_as (i := 1) (tb := fun W => tRet (tCallS (spRead C4) (WE W) (tCons (tVar 0) tNil))) (ts := fun a cls d => tRet (tWordT K C0 C1 C2 C3 C4 1 a cls d)) (Wout := fun _ _ _ _ => False) rfl rfl sc_law_told.nd rfl rfl ⟨rfl, by decide, Or.inl X_ApartError.g⟩ takes0 (fun W pn xe tk _ => (pss_one (ps_ret (pe_kT K_read tk (hr.mono (by first | decide | omega)) (by rfl) (pa_cons (pv 0) pa_nil))))) (fun a oe cls d pn hz hf => (pss_one (ps_ret (pe_word K_law_word_of (L2H.roomH_of (hr.mono (by first | decide | omega))) (by rfl) (pv 1) hz hf)))))), ?_⟩
  refine ⟨_, rfl, t, rfl, hl, (fun z H1 s1 => ?_), fun r hr H' p s1 np e => q r hr H' p s1 np e⟩
  exact ⟨true, M4, (fun _ b hb => ⟨_, rfl, C4, 4, "note", rfl, rfl, rfl, O4, rfl, fun H' s' => bad z H' (s1.trans s')⟩), fun q => nomatch q⟩
end

/-! ### _law_spoilt (of k11) -/
abbrev N_law_spoilt : List Str := ["script", "text", "some", "sign", "at", "way", "words", "one", "other", "odd"]
theorem sc_law_spoilt : FnScope N_law_spoilt ["script", "text"] (defScope st_law_spoilt) := ⟨rfl, rfl, rfl, by decide +kernel, rfl, by decide +kernel, by decide +kernel⟩
def spSpoilt11 (K : PySem.W.Frag) : Sp := fun vs H Q _ => ∃ (a : Addr) (ns : List Int) (t : Str), vs = [.ref a, .str t] ∧ SqL K H a (ns.map V.int) ∧ t.length ≤ 100 ∧ ∀ (t' : Str) H', t'.length ≤ 20000 → Same H H' → Q (.str t') H'
def someSigns : List Str := [" ", "0", "1", "2", "9", "-", "+", "_", ".", "\t", "\n", "a", ",", "4", "3", "8"]
theorem len_app (a b : Str) : (a ++ b).length = a.length + b.length := by rw [TL.len_tl, TL.tl_append, List.length_append, ← TL.len_tl, ← TL.len_tl]
theorem len_join {k : Nat} {ws : List Str} (h : ∀ w ∈ ws, w.length ≤ k) : (Txt.join " " ws).length ≤ (k + 1) * ws.length := by
  rw [TL.len_tl, TL.join_eq, TL.tl_join, tl_blank]
  have := joinL_len k (ws.map TL.tl) fun p hp => by
    obtain ⟨w, hw, rfl⟩ := List.mem_map.mp hp
    rw [← TL.len_tl]
    exact h w hw
  rwa [List.length_map] at this
theorem spl_pos (S : List Nat) : ∀ (L : List Nat) (k : Nat) (acc : List Nat), 1 ≤ (TL.spl S k acc L).length
  | [], k, acc => by rw [TL.spl_nil]; exact Nat.le_refl _
  | c :: r, 0, acc => by
    cases h : TL.pre S (c :: r) with
    | true => rw [TL.spl_hit h, List.length_cons]; omega
    | false => rw [TL.spl_miss h]; exact spl_pos S r 0 _
  | c :: r, k + 1, acc => spl_pos S r k acc
theorem words_pos (t : Str) : 1 ≤ (wordsOf t).length := by
  have := spl_pos [32] (TL.tl t) 0 []
  rwa [← words_spl, List.length_map] at this
section
variable {P : Program} {w : World} {K : PySem.W.Frag} {mg : Str → Option Value} {base : Heap}
theorem kn_law_spoilt11 (D : Df K mg "_law_spoilt" st_law_spoilt ["script", "text"]) (B : Bl mg) (K_law_cell_at : Kn P w K mg base CX0 1 "_law_cell_at" ["script", "k"] (spCellAt K)) : Kn P w K mg base CX0 2 "_law_spoilt" ["script", "text"] (spSpoilt11 K) := by
  refine D.kn sc_law_spoilt (fun vs H Q E h => ?_) (fun f cdv A outer s H vs Q E hr h => ?_)
  · obtain ⟨_, _, _, rfl, _⟩ := h
    rfl
  obtain ⟨a, ns, t, rfl, hS, ht, q⟩ := h
  refine ⟨_, (pss_cons (ps_set (i := 2) sc_law_spoilt.nd rfl (Or.inl rfl) (pe_lst (pa_cons pe_str (pa_cons pe_str (pa_cons pe_str (pa_cons pe_str (pa_cons pe_str (pa_cons pe_str (pa_cons pe_str (pa_cons pe_str (pa_cons pe_str (pa_cons pe_str (pa_cons pe_str (pa_cons pe_str (pa_cons pe_str (pa_cons pe_str (pa_cons pe_str (pa_cons pe_str pa_nil))))))))))))))))))
      (pss_cons (ps_set (i := 3) sc_law_spoilt.nd rfl (Or.inl rfl) (pe_ix ix_list (pv 2) (pe_op op_mod (pe_k0 K_law_cell_at (hr.mono (by first | decide | omega)) (by rfl) (pa_cons (pv 0) (pa_cons pe_int pa_nil))) pe_int) (fun _ _ => rfl)))
      (pss_cons (ps_set (i := 4) sc_law_spoilt.nd rfl (Or.inl rfl) (pe_op op_mod (pe_k0 K_law_cell_at (hr.mono (by first | decide | omega)) (by rfl) (pa_cons (pv 0) (pa_cons pe_int pa_nil))) (pe_op op_add (pe_callB call_len_str (by rfl) B.len_ (by decide +kernel) (pa_cons (pv 1) pa_nil)) pe_int)))
      (pss_cons (ps_set (i := 5) sc_law_spoilt.nd rfl (Or.inl rfl) (pe_op op_mod (pe_k0 K_law_cell_at (hr.mono (by first | decide | omega)) (by rfl) (pa_cons (pv 0) (pa_cons pe_int pa_nil))) pe_int))
      (pss_cons (ps_if (pt_cmpR op_eq (pv 5) pe_int (nomark _))
        (pss_one (ps_ret (pe_op op_add_str (pe_op op_add_str (pe_slice sl_str (pv 1) po_none (po_some (pv 4))) (pv 3)) (pe_slice sl_str (pv 1) (po_some (pv 4)) po_none))))
        pss_nil)
      (pss_cons (ps_if (pt_cmpR op_eq (pv 5) pe_int (nomark _))
        (pss_one (ps_ret (pe_op op_add_str (pe_slice sl_str (pv 1) po_none (po_some (pv 4))) (pe_slice sl_str (pv 1) (po_some (pe_op op_add (pv 4) pe_int)) po_none))))
        pss_nil)
      (pss_cons (ps_if (pt_cmpR op_eq (pv 5) pe_int (nomark _))
        (pss_one (ps_ret (pe_op op_add_str (pe_op op_add_str (pe_slice sl_str (pv 1) po_none (po_some (pv 4))) (pv 3)) (pe_slice sl_str (pv 1) (po_some (pe_op op_add (pv 4) pe_int)) po_none))))
        pss_nil)
      (pss_cons (ps_if (pt_cmpR op_eq (pv 5) pe_int (nomark _))
        (pss_cons (ps_set (i := 6) sc_law_spoilt.nd rfl (Or.inl rfl) (pe_split (pv 1) pe_str))
        (pss_cons (ps_set (i := 7) sc_law_spoilt.nd rfl (Or.inl rfl) (pe_op op_mod (pe_k0 K_law_cell_at (hr.mono (by first | decide | omega)) (by rfl) (pa_cons (pv 0) (pa_cons pe_int pa_nil))) (pe_callB call_len_seq (by rfl) B.len_ (by decide +kernel) (pa_cons (pv 6) pa_nil))))
        (pss_cons (ps_set (i := 8) sc_law_spoilt.nd rfl (Or.inl rfl) (pe_op op_mod (pe_k0 K_law_cell_at (hr.mono (by first | decide | omega)) (by rfl) (pa_cons (pv 0) (pa_cons pe_int pa_nil))) (pe_callB call_len_seq (by rfl) B.len_ (by decide +kernel) (pa_cons (pv 6) pa_nil))))
        (pss_cons (ps_asg (pe_tup (pa_cons (pe_ix ix_list (pv 6) (pv 8) (fun _ _ => rfl)) (pa_cons (pe_ix ix_list (pv 6) (pv 7) (fun _ _ => rfl)) pa_nil))) (pg_tup rfl (pgs_cons (pg_sub (pv 6) (pv 7) set_list) (pgs_cons (pg_sub (pv 6) (pv 8) set_list) pgs_nil))))
        (pss_one (ps_ret (pe_join pe_str (pv 6))))))))
        pss_nil)
      (pss_cons (ps_set (i := 9) sc_law_spoilt.nd rfl (Or.inl rfl) (pe_lst (pa_cons pe_str (pa_cons pe_str (pa_cons pe_str (pa_cons pe_str (pa_cons pe_str (pa_cons pe_str (pa_cons pe_str (pa_cons pe_str pa_nil))))))))))
      (pss_cons (ps_set (i := 9) sc_law_spoilt.nd rfl (Or.inl rfl) (pe_op op_cat (pv 9) (pe_lst (pa_cons pe_str (pa_cons pe_str (pa_cons pe_str (pa_cons pe_str (pa_cons pe_str (pa_cons (pe_op op_add_str (pe_op op_rep_s pe_str pe_int) pe_str) pa_nil)))))))))
      (pss_one (ps_ret (pe_ix ix_list (pv 9) (pe_op op_mod (pe_k0 K_law_cell_at (hr.mono (by first | decide | omega)) (by rfl) (pa_cons (pv 0) (pa_cons pe_int pa_nil))) pe_int) (fun _ _ => rfl)))))))))))))), ?_⟩
  refine ⟨small (show 16 ≤ 16777216 by decide), fun l nl => ?_⟩
  generalize hHl : upd H l _ = H1
  have s1 : Same H H1 := hHl ▸ same_upd nl
  have e1 : H1 l = some (.lst (someSigns.map V.str)) := hHl ▸ upd_same
  clear hHl
  have hk0 := Int.emod_nonneg (cellAt ns 4) (show (16 : Int) ≠ 0 by decide)
  have hk1 := Int.emod_lt_of_pos (cellAt ns 4) (show (0 : Int) < 16 by decide)
  obtain ⟨sg, hsg, hsl⟩ : ∃ sg, someSigns[(cellAt ns 4 % 16).toNat]? = some sg ∧ sg.length = 1 := by
    have hm : ∀ x ∈ someSigns, x.length = 1 := by decide +kernel
    have hlt : (cellAt ns 4 % 16).toNat < someSigns.length := by show _ < 16; omega
    exact ⟨_, List.getElem?_eq_getElem hlt, hm _ (List.getElem_mem hlt)⟩
  have hsv : (someSigns.map V.str)[(cellAt ns 4 % 16).toNat]? = some (V.str sg) := by
    rw [List.getElem?_map, hsg]
    rfl
  refine ⟨_, rfl, _, rfl, a, ns, 4, rfl, s1.seq hS, by decide, _, _, rfl, rfl, (by decide : (0 : Int) < 16), l, _, _, V.str sg, rfl, rfl, SqL.of e1, at_vals hk0 hsv, ?_⟩
  refine ⟨_, rfl, a, ns, 5, rfl, s1.seq hS, by decide, _, rfl, t, rfl, small (by omega), _, _, rfl, rfl, _, _, rfl, rfl, (show (0 : Int) < (t.length : Int) + 1 by omega), ?_⟩
  obtain ⟨at_, hat⟩ : ∃ at_ : Int, cellAt ns 5 % ((t.length : Int) + 1) = at_ := ⟨_, rfl⟩
  simp only [hat]
  refine ⟨_, rfl, a, ns, 6, rfl, s1.seq hS, by decide, _, _, rfl, rfl, (by decide : (0 : Int) < 5), ?_⟩
  have cl := cutS_length t
  have fin : ∀ (t' : Str) (H' : Hp), t'.length ≤ 20000 → Same H1 H' → Q (.str t') H' := fun t' H' h s' => q t' H' h (s1.trans s')
  clear hsv hsg hk0 hk1
  -- way 0
  refine ⟨_, rfl, rfl, _, rfl, ite2 (fun c => ?_) (fun c => ?_)⟩
  · have l1 := cl none (some at_)
    have l2 := cl (some at_) none
    refine ⟨_, rfl, _, rfl, _, rfl, t, rfl, small (by omega), _, rfl, _, _, rfl, rfl, small (by omega), _, rfl, _, rfl, _, rfl, t, rfl, small (by omega), _, _, rfl, rfl, ?_, fin _ _ ?_ (Same.refl _)⟩
    · rw [len_app]
      exact small (by omega)
    · rw [len_app, len_app]
      omega
  clear c
  -- way 1
  refine ⟨_, rfl, rfl, _, rfl, ite2 (fun c => ?_) (fun c => ?_)⟩
  · have l1 := cl none (some at_)
    have l2 := cl (some (at_ + 1)) none
    refine ⟨_, rfl, _, rfl, _, rfl, t, rfl, small (by omega), _, rfl, _, rfl, _, _, rfl, rfl, _, rfl, t, rfl, small (by omega), _, _, rfl, rfl, small (by omega), fin _ _ ?_ (Same.refl _)⟩
    rw [len_app]
    omega
  clear c
  -- way 2
  refine ⟨_, rfl, rfl, _, rfl, ite2 (fun c => ?_) (fun c => ?_)⟩
  · have l1 := cl none (some at_)
    have l2 := cl (some (at_ + 1)) none
    refine ⟨_, rfl, _, rfl, _, rfl, t, rfl, small (by omega), _, rfl, _, _, rfl, rfl, small (by omega), _, rfl, _, rfl, _, _, rfl, rfl, _, rfl, t, rfl, small (by omega), _, _, rfl, rfl, ?_, fin _ _ ?_ (Same.refl _)⟩
    · rw [len_app]
      exact small (by omega)
    · rw [len_app, len_app]
      omega
  clear c
  -- way 3
  refine ⟨_, rfl, rfl, _, rfl, ite2 (fun c => ?_) (fun c => ?_)⟩
  · have hw1 := words_pos t
    have hw2 := words_count t
    have hlw : (((wordsOf t).map V.str).length : Int) = ((wordsOf t).length : Int) := by rw [List.length_map]
    refine ⟨_, rfl, ⟨_, rfl⟩, t, " ", rfl, rfl, by decide +kernel, small (by omega), fun m nm => ?_⟩
    generalize hHm : upd H1 m _ = H2
    have s2 : Same H1 H2 := hHm ▸ same_upd nm
    have e2 : H2 m = some (.lst ((wordsOf t).map V.str)) := hHm ▸ upd_same
    clear hHm
    have hpos : (0 : Int) < (((wordsOf t).map V.str).length : Int) := by rw [hlw]; omega
    refine ⟨_, rfl, a, ns, 7, rfl, (s1.trans s2).seq hS, by decide, _, rfl, m, _, rfl, .inl (SqL.of e2), _, _, rfl, rfl, hpos, ?_⟩
    refine ⟨_, rfl, a, ns, 8, rfl, (s1.trans s2).seq hS, by decide, _, rfl, m, _, rfl, .inl (SqL.of e2), _, _, rfl, rfl, hpos, ?_⟩
    obtain ⟨i, hi, i0, i1⟩ : ∃ i : Int, cellAt ns 7 % (((wordsOf t).map V.str).length : Int) = i ∧ 0 ≤ i ∧ i < ((wordsOf t).length : Int) := ⟨_, rfl, Int.emod_nonneg _ (by omega), by rw [← hlw]; exact Int.emod_lt_of_pos _ hpos⟩
    obtain ⟨j, hj, j0, j1⟩ : ∃ j : Int, cellAt ns 8 % (((wordsOf t).map V.str).length : Int) = j ∧ 0 ≤ j ∧ j < ((wordsOf t).length : Int) := ⟨_, rfl, Int.emod_nonneg _ (by omega), by rw [← hlw]; exact Int.emod_lt_of_pos _ hpos⟩
    simp only [hi, hj]
    obtain ⟨wi, hwi⟩ : ∃ wi, (wordsOf t)[i.toNat]? = some wi := ⟨_, List.getElem?_eq_getElem (by omega)⟩
    obtain ⟨wj, hwj⟩ : ∃ wj, (wordsOf t)[j.toNat]? = some wj := ⟨_, List.getElem?_eq_getElem (by omega)⟩
    have hvi : ((wordsOf t).map V.str)[i.toNat]? = some (V.str wi) := by rw [List.getElem?_map, hwi]; rfl
    have hvj : ((wordsOf t).map V.str)[j.toNat]? = some (V.str wj) := by rw [List.getElem?_map, hwj]; rfl
    refine ⟨_, rfl, _, rfl, m, _, _, V.str wj, rfl, rfl, SqL.of e2, at_vals j0 hvj, _, rfl, _, rfl, m, _, _, V.str wi, rfl, rfl, SqL.of e2, at_vals i0 hvi, small (show 2 ≤ 16777216 by decide), fun p np => ?_⟩
    have each : ∀ w ∈ ((wordsOf t).set i.toNat wj).set j.toNat wi, w.length ≤ 100 := fun w hw => by
      rcases List.mem_or_eq_of_mem_set hw with hw | rfl
      · rcases List.mem_or_eq_of_mem_set hw with hw | rfl
        · exact Nat.le_trans (words_each hw) ht
        · exact Nat.le_trans (words_each (List.mem_of_getElem? hwj)) ht
      · exact Nat.le_trans (words_each (List.mem_of_getElem? hwi)) ht
    have hl' : (((wordsOf t).set i.toNat wj).set j.toNat wi).length = (wordsOf t).length := by rw [List.length_set, List.length_set]
    refine ⟨p, _, rfl, SqT.of upd_same, rfl, _, _, rfl, _, rfl, _, rfl, m, _, _, _, rfl, rfl, same_upd np _ _ e2, ixN_at i0 (by rw [hlw]; exact i1), _, _, rfl, _, rfl, _, rfl, m, _, _, _, rfl, rfl, upd_same, ixN_at j0 (by rw [List.length_set, hlw]; exact j1), rfl, ?_⟩
    rw [upd_upd, ← List.map_set, ← List.map_set]
    refine ⟨⟨_, rfl⟩, _, rfl, " ", m, _, rfl, rfl, .inl (SqL.of upd_same), ?_, fin _ _ ?_ ?_⟩
    · have hs := sum_le (l := (((wordsOf t).set i.toNat wj).set j.toNat wi).map (·.length)) (k := 100) fun x hx => by
        obtain ⟨w, hw, rfl⟩ := List.mem_map.mp hx
        exact each w hw
      rw [List.length_map, hl'] at hs
      have h2 : (" " : Str).length = 1 := by decide +kernel
      rw [hl', h2]
      omega
    · have := len_join each
      rw [hl'] at this
      omega
    · exact (s2.new np).own nm
  clear c
  refine ⟨small (show 8 ≤ 16777216 by decide), fun m nm => ?_⟩
  generalize hHm : upd H1 m _ = H2
  have s2 : Same H1 H2 := hHm ▸ same_upd nm
  have e2 : H2 m = some (.lst ((["", " ", "1", "1 1", "01 1", "1 1 ", " 1 1", "1  1"] : List Str).map V.str)) := hHm ▸ upd_same
  clear hHm
  refine ⟨_, rfl, "9", 40, rfl, rfl, by decide, by decide, by decide +kernel, by decide +kernel, fun r hr => ?_⟩
  have hr40 : r.length = 40 := by
    rw [hr]
    decide +kernel
  refine ⟨_, _, rfl, rfl, ?_, ?_⟩
  · rw [hr40]
    exact small (by decide +kernel)
  have hr42 : (r ++ (" 1" : Str)).length = 42 := by
    rw [len_app, hr40]
    decide +kernel
  generalize r ++ (" 1" : Str) = r2 at hr42
  refine ⟨small (show 6 ≤ 16777216 by decide), fun m2 nm2 => ⟨m, m2, _, _, rfl, rfl, same_upd nm2 _ _ e2, upd_same, small (show 14 ≤ 16777216 by decide), fun p np => ?_⟩⟩
  obtain ⟨L, hL, hl14, hlen⟩ : ∃ L : List Str, ((["", " ", "1", "1 1", "01 1", "1 1 ", " 1 1", "1  1"] : List Str).map V.str ++ ([V.str "1_1", V.str "+1 1", V.str "1 1\n", V.str "2 2", V.str "1 1 1 1", V.str r2] : List V)) = L.map V.str ∧ L.length = 14 ∧ ∀ w ∈ L, w.length ≤ 100 := by
    refine ⟨["", " ", "1", "1 1", "01 1", "1 1 ", " 1 1", "1  1", "1_1", "+1 1", "1 1\n", "2 2", "1 1 1 1", r2], rfl, rfl, fun w hw => ?_⟩
    have h13 : ∀ x ∈ (["", " ", "1", "1 1", "01 1", "1 1 ", " 1 1", "1  1", "1_1", "+1 1", "1 1\n", "2 2", "1 1 1 1"] : List Str), x.length ≤ 100 := by decide +kernel
    rcases List.mem_append.mp (show w ∈ (["", " ", "1", "1 1", "01 1", "1 1 ", " 1 1", "1  1", "1_1", "+1 1", "1 1\n", "2 2", "1 1 1 1"] : List Str) ++ [r2] from hw) with h | h
    · exact h13 w h
    · rw [List.mem_singleton.mp h, hr42]
      decide
  have eP : ∀ K2 : Hp, (upd K2 p (.lst ((["", " ", "1", "1 1", "01 1", "1 1 ", " 1 1", "1  1"] : List Str).map V.str ++ ([V.str "1_1", V.str "+1 1", V.str "1 1\n", V.str "2 2", V.str "1 1 1 1", V.str r2] : List V)))) p = some (.lst (L.map V.str)) := fun K2 => by
    rw [hL]
    exact upd_same
  have s4 := (s2.new nm2 (o := .lst ([V.str "1_1", V.str "+1 1", V.str "1 1\n", V.str "2 2", V.str "1 1 1 1", V.str r2] : List V))).new np (o := .lst ((["", " ", "1", "1 1", "01 1", "1 1 ", " 1 1", "1  1"] : List Str).map V.str ++ ([V.str "1_1", V.str "+1 1", V.str "1 1\n", V.str "2 2", V.str "1 1 1 1", V.str r2] : List V)))
  have hk0 := Int.emod_nonneg (cellAt ns 7) (show (14 : Int) ≠ 0 by decide)
  have hk1 := Int.emod_lt_of_pos (cellAt ns 7) (show (0 : Int) < 14 by decide)
  obtain ⟨od, hod⟩ : ∃ od, L[(cellAt ns 7 % 14).toNat]? = some od := ⟨_, List.getElem?_eq_getElem (by rw [hl14]; omega)⟩
  have hov : (L.map V.str)[(cellAt ns 7 % 14).toNat]? = some (V.str od) := by
    rw [List.getElem?_map, hod]
    rfl
  exact ⟨_, rfl, _, rfl, a, ns, 7, rfl, (s1.trans s4).seq hS, by decide, _, _, rfl, rfl, (by decide : (0 : Int) < 14), p, _, _, V.str od, rfl, rfl, SqL.of (eP _), at_vals hk0 hov, fin od _ (Nat.le_trans (hlen od (List.mem_of_getElem? hod)) (by decide)) s4⟩
end

/-! ### the texts of a row's numbers -/
open TL (tl numL)
/-- the texts of a row's numbers, in a comprehension -/
theorem lc_words {K : PySem.W.Frag} {a : Addr} {xs : List Int} {j : Nat} {te : TE} {σ : L2.St} {H1 : Hp} {D : Addr} {Qd : Hp → Prop} (hS : SqL K H1 a (xs.map V.int)) (nD : H1 D = none) (hl : xs.length < 16777216)
    (hs : ∀ (n : Int) (H : Hp) (Q : VK), n ∈ xs → Q (.str (numS n)) H → te ((σ.set j none).set j (some (.int n))) H Q) (hd : ∀ H', Same H1 H' → H' D = some (.lst ((words xs).map V.str)) → Qd H') :
    ∃ W : Nat → Nat → Hp → Prop, (∃ m, W 0 m (upd H1 D (.lst []))) ∧ ∀ i m H, W i m H →
      ((Itl K a).stop i H ∧ Qd H) ∨ ((Itl K a).go i H ∧ ∃ Nx : Hp → Prop, (∀ H', Nx H' → ∃ m', m' < m ∧ W (i + 1) m' H') ∧ ∀ x H', (Itl K a).yld i H x H' → gName j x (wipe σ [j]) H' fun σ2 H2 => wipe σ2 [j] = wipe σ [j] ∧ tYes σ2 H2 fun b H3 =>
        if b = true then te σ2 H3 fun y H4 => ∃ acc, H4 D = some (.lst acc) ∧ acc.length < sizeLine ∧ Nx (upd H4 D (.lst (acc ++ [y]))) else Nx H3) := by
  refine lc_list (K := K) (a := a) (xs := xs.map V.int) (fun i H' => Same H1 H' ∧ H' D = some (.lst ((words (xs.take i)).map V.str))) ⟨same_upd nD, upd_same⟩ (fun i H _ h => h.1.seq hS) ?_ ?_
  · rintro i x H hx ⟨s, e⟩
    obtain ⟨n, hn, rfl⟩ := of_ints_get hx
    refine ⟨?_, ?_⟩
    · show ((σ.set j none).set j (some (V.int n))).set j none = σ.set j none
      rw [List.set_set, List.set_set]
    refine iteT (B := Same H1 H ∧ H D = some (.lst ((words (xs.take (i + 1))).map V.str))) ?_
    refine hs n H _ (List.mem_of_getElem? hn) ⟨_, e, ?_, s.own nD, ?_⟩
    · unfold words
      rw [List.length_map, List.length_map, List.length_take]
      exact smaller (by omega)
    · rw [upd_same, take_snoc hn]
      unfold words
      rw [List.map_append, List.map_append]
      rfl
  · rintro H ⟨s, e⟩
    rw [List.length_map, List.take_length] at e
    exact hd H s e
theorem num_log {n : Int} (h1 : 0 ≤ n) (h2 : n < 1000) : n.natAbs.log2 < 1920 := by
  have h : n.natAbs < 2 ^ 10 := by omega
  have : n.natAbs.log2 ≤ n.natAbs := Nat.log2_le_self _
  omega

-- LAWTYPES script=l row=l text=s number=i due=l found=l
/-! ### the law -/
open TL (tl numL)
abbrev lawLevel : Nat := 13
abbrev N_law : List Str := ["script", "row", "text", "number", "due", "found"]
theorem sc_law : FnScope N_law ["script"] (defScope st_law) := ⟨rfl, rfl, rfl, by decide +kernel, rfl, by decide +kernel, by decide +kernel⟩
def spLaw (K : PySem.W.Frag) : Sp := fun vs H Q _ => ∃ (a : Addr) (ns : List Int), vs = [.ref a] ∧ SqL K H a (ns.map V.int) ∧ ns.length ≤ 63 ∧ ∀ H', Q (.bl true) H'
section
variable {P : Program} {w : World} {K : PySem.W.Frag} {mg : Str → Option Value} {base : Heap}
theorem ok_law {f : Addr} {fd : FuncData} (F : Fun K "law" "law" st_law f fd) (B : Bl mg) (K_law_cell_at : Kn P w K mg base CX0 1 "_law_cell_at" ["script", "k"] (spCellAt K)) (K_law_small_row : Kn P w K mg base CX0 12 "_law_small_row" ["script", "first"] (spSmallRow K))
    (K_law_spoilt : Kn P w K mg base CX0 2 "_law_spoilt" ["script", "text"] (spSpoilt11 K)) (K_law_due : Kn P w K mg base CX0 2 "_law_due" ["text"] spDue) (K_law_told : Kn P w K mg base CX0 4 "_law_told" ["text"] spTold) : FnOk P w K mg base CX0 13 f fd ["script"] (spLaw K) := by
  refine F.ok sc_law (fun vs H Q E h => ?_) (fun cdv A outer s H vs Q E hr h => ?_)
  · obtain ⟨a, ns, rfl, _⟩ := h
    rfl
  obtain ⟨a, ns, rfl, hS, hlen, q⟩ := h
  refine ⟨_, (pss_cons (ps_set (i := 1) sc_law.nd rfl (Or.inl rfl) (pe_k0 K_law_small_row (hr.mono (by first | decide | omega)) (by rfl) (pa_cons (pv 0) (pa_cons pe_int pa_nil))))
      (pss_cons (ps_set (i := 2) sc_law.nd rfl (Or.inl rfl) (pe_join pe_str (pe_lc (own := [("number", 3)]) (g := gName 3) (tt := tYes) rfl sc_law.nd (pi_list (pv 1)) (blkOk_by (own := [("number", 3)]) (N := N_law) (sc := defScope st_law) (by decide +kernel)) (fun _ _ _ _ _ => pg_name (i := 3) sc_law.nd rfl (Or.inl rfl)) (fun _ _ _ _ _ => pts_nil) (fun _ _ _ _ _ => pe_callTy call_str_int (by rfl) B.str_ (by decide +kernel) (pa_cons (pv 3) pa_nil)))))
      (C8.pss_cut (ps_if (pt_cmpR op_gt (pe_op op_mod (pe_k0 K_law_cell_at (hr.mono (by first | decide | omega)) (by rfl) (pa_cons (pv 0) (pa_cons pe_int pa_nil))) pe_int) pe_int (nomark _))
        (pss_one (ps_set (i := 2) sc_law.nd rfl (Or.inl rfl) (pe_k0 K_law_spoilt (hr.mono (by first | decide | omega)) (by rfl) (pa_cons (pv 0) (pa_cons (pv 2) pa_nil)))))
        pss_nil)
      (pss_cons (ps_set (i := 4) sc_law.nd rfl (Or.inl rfl) (pe_k0 K_law_due (hr.mono (by first | decide | omega)) (by rfl) (pa_cons (pv 2) pa_nil)))
      (pss_cons (ps_set (i := 5) sc_law.nd rfl (Or.inl rfl) (pe_k0 K_law_told (hr.mono (by first | decide | omega)) (by rfl) (pa_cons (pv 2) pa_nil)))
      (pss_cons (ps_if (pt_cmpR op_isN (pv 4) pe_non (nomark _))
        (pss_one (ps_ret (pe_cmpR op_eq (pv 5) pe_str (nomark _))))
        pss_nil)
      (pss_one (ps_ret (pe_and (pe_callB call_isi (by rfl) B.isinstance_ (by decide +kernel) (pa_cons (pv 5) (pa_cons (pe_bltn (v := .ty "list") (by rfl) B.list_ (by decide +kernel) rfl) pa_nil))) (pe_one (pe_cmpR (op_eqD hr.units) (pv 5) (pv 4) (nomark _)))))))))))), ?_⟩
  refine ⟨_, rfl, a, ns, 0, rfl, hS, by decide, fun r hR h18 H1 p s1 e1 => ?_⟩
  have hnum := row_num hR
  have tl18 := txt_len hnum
  refine ⟨⟨_, rfl⟩, _, rfl, p, rfl, ⟨_, SqL.of e1⟩, fun D nD => ?_⟩
  refine lc_words (K := K) (xs := r) (SqL.of e1) nD (by omega) (fun n H Q hn q => ⟨_, rfl, n, rfl, num_log (hnum n hn).1 (hnum n hn).2, q⟩) fun H2 s2 e2 => ?_
  refine ⟨_, D, words r, rfl, rfl, .inl (SqL.of e2), ?_, ?_⟩
  · have := words_sum hnum
    omega
  have s12 := s1.trans s2
  refine ⟨fun σ H' => ∃ t : Str, σ = [some (.ref a), some (.ref p), some (.str t), none, none, none] ∧ Same H H' ∧ t.length ≤ 20000, ?_, ?_⟩
  · refine ⟨_, rfl, a, ns, 3, rfl, s12.seq hS, by decide, _, _, rfl, rfl, (by decide : (0 : Int) < 4), _, _, rfl, rfl, _, rfl, ite2 (fun c => ?_) (fun c => ?_)⟩
    · exact ⟨_, rfl, _, rfl, a, ns, txt r, rfl, s12.seq hS, by omega, fun t' H' ht s' => ⟨t', rfl, s12.trans s', ht⟩⟩
    · exact ⟨txt r, rfl, s12, by omega⟩
  rintro σ H3 ⟨t, rfl, s3, ht⟩
  rcases hread : readOf t with _ | v
  · refine ⟨_, rfl, t, rfl, ht, (fun _ H4 s4 => ?_), fun z hz => by rw [hread] at hz; cases hz⟩
    refine ⟨_, rfl, t, rfl, ht, (fun _ H5 s5 => ?_), fun z hz => by rw [hread] at hz; cases hz⟩
    refine ⟨_, rfl, rfl, _, rfl, iteTr (decide_eq_true rfl) ?_⟩
    refine ⟨_, rfl, rfl, ?_⟩
    rw [decide_eq_true rfl]
    exact q _
  · refine ⟨_, rfl, t, rfl, ht, (fun z => by rw [hread] at z; cases z), fun v1 hv1 H4 d s4 nd ed => ?_⟩
    rw [hread] at hv1
    cases hv1
    refine ⟨_, rfl, t, rfl, ht, (fun z => by rw [hread] at z; cases z), fun v1 hv1 H5 g s5 ng eg => ?_⟩
    rw [hread] at hv1
    cases hv1
    refine ⟨_, rfl, rfl, _, rfl, iteFa (decide_eq_false (fun z => nomatch z)) ?_⟩
    refine ⟨_, rfl, _, _, _, _, true, rfl, .ty _, .base (.lst eg), kit_ty (by decide +kernel), _, rfl, iteTr rfl ?_⟩
    refine ⟨_, rfl, _, rfl, eqD_lists (SqL.of eg) (SqL.of (s5 _ _ ed)) ?_⟩
    rw [decide_eq_true rfl]
    exact q _
end
-- CLOSED
/-! ### what the top has written -/
theorem all_mk {l : PySem.W.OpenLaw} {w : World} {K : PySem.W.Frag} {h : Heap} {mg : Str → Option Value} {fa : Addr} (X : K.In h) (G : h.Ns mainGlobals mg) (hfa : mg "law" = some (.ref fa))
    {f0 : Addr} {od0 an0 : Option Addr} {sl0 : Array (Option Value)} {oc0 kV0 dc0 pm0 cd0 ct0 : Value}
    {f1 : Addr} {od1 an1 : Option Addr} {sl1 : Array (Option Value)} {oc1 kV1 dc1 pm1 cd1 ct1 : Value}
    {f2 : Addr} {od2 an2 : Option Addr} {sl2 : Array (Option Value)} {oc2 kV2 dc2 pm2 cd2 ct2 : Value}
    {f3 : Addr} {od3 an3 : Option Addr} {sl3 : Array (Option Value)} {oc3 kV3 dc3 pm3 cd3 ct3 : Value}
    {f4 : Addr} {od4 an4 : Option Addr} {sl4 : Array (Option Value)} {oc4 kV4 dc4 pm4 cd4 ct4 : Value}
    {f5 : Addr} {od5 an5 : Option Addr} {sl5 : Array (Option Value)} {oc5 kV5 dc5 pm5 cd5 ct5 : Value}
    {f6 : Addr} {od6 an6 : Option Addr} {sl6 : Array (Option Value)} {oc6 kV6 dc6 pm6 cd6 ct6 : Value}
    {f7 : Addr} {od7 an7 : Option Addr} {sl7 : Array (Option Value)} {oc7 kV7 dc7 pm7 cd7 ct7 : Value}
    {f8 : Addr} {od8 an8 : Option Addr} {sl8 : Array (Option Value)} {oc8 kV8 dc8 pm8 cd8 ct8 : Value}
    {f9 : Addr} {od9 an9 : Option Addr} {sl9 : Array (Option Value)} {oc9 kV9 dc9 pm9 cd9 ct9 : Value}
    {f10 : Addr} {od10 an10 : Option Addr} {sl10 : Array (Option Value)} {oc10 kV10 dc10 pm10 cd10 ct10 : Value}
    {f11 : Addr} {od11 an11 : Option Addr} {sl11 : Array (Option Value)} {oc11 kV11 dc11 pm11 cd11 ct11 : Value}
    {f12 : Addr} {od12 an12 : Option Addr} {sl12 : Array (Option Value)} {oc12 kV12 dc12 pm12 cd12 ct12 : Value}
    {f13 : Addr} {od13 an13 : Option Addr} {sl13 : Array (Option Value)} {oc13 kV13 dc13 pm13 cd13 ct13 : Value}
    {tk0 : Tok}
    {tk1 : Tok}
    {C0 : Addr}
    {C1 : Addr}
    {C2 : Addr}
    {C3 : Addr}
    {C4 : Addr}
    {C5 : Addr}
    (a0 : PySem.W.nsIn K mainGlobals "found_places" = some (some (.ref f0))) (l0 : K.lookup f0 = some ⟨oc0, od0, .func (PySem.W.fnOf "found_places" "found_places" (defArgs st_found_places) (defBody st_found_places) (defScope st_found_places) .none kV0 dc0 pm0 an0 cd0 ct0), sl0⟩) (c0 : PySem.W.codeIn K cd0 "found_places" = true) (k0 : PySem.W.keepIn K (.ref f0) = true)
    (a1 : PySem.W.nsIn K mainGlobals "is_row" = some (some (.ref f1))) (l1 : K.lookup f1 = some ⟨oc1, od1, .func (PySem.W.fnOf "is_row" "is_row" (defArgs st_is_row) (defBody st_is_row) (defScope st_is_row) .none kV1 dc1 pm1 an1 cd1 ct1), sl1⟩) (c1 : PySem.W.codeIn K cd1 "is_row" = true) (k1 : PySem.W.keepIn K (.ref f1) = true)
    (a2 : PySem.W.nsIn K mainGlobals "number_of" = some (some (.ref f2))) (l2 : K.lookup f2 = some ⟨oc2, od2, .func (PySem.W.fnOf "number_of" "number_of" (defArgs st_number_of) (defBody st_number_of) (defScope st_number_of) .none kV2 dc2 pm2 an2 cd2 ct2), sl2⟩) (c2 : PySem.W.codeIn K cd2 "number_of" = true) (k2 : PySem.W.keepIn K (.ref f2) = true)
    (a3 : PySem.W.nsIn K mainGlobals "read" = some (some (.ref f3))) (l3 : K.lookup f3 = some ⟨oc3, od3, .func (PySem.W.fnOf "read" "read" (defArgs st_read) (defBody st_read) (defScope st_read) .none kV3 dc3 pm3 an3 cd3 ct3), sl3⟩) (c3 : PySem.W.codeIn K cd3 "read" = true) (k3 : PySem.W.keepIn K (.ref f3) = true)
    (a4 : PySem.W.nsIn K mainGlobals "_law_cell_at" = some (some (.ref f4))) (l4 : K.lookup f4 = some ⟨oc4, od4, .func (PySem.W.fnOf "_law_cell_at" "_law_cell_at" (defArgs st_law_cell_at) (defBody st_law_cell_at) (defScope st_law_cell_at) .none kV4 dc4 pm4 an4 cd4 ct4), sl4⟩) (c4 : PySem.W.codeIn K cd4 "_law_cell_at" = true) (k4 : PySem.W.keepIn K (.ref f4) = true)
    (a5 : PySem.W.nsIn K mainGlobals "_law_draw" = some (some (.ref f5))) (l5 : K.lookup f5 = some ⟨oc5, od5, .func (PySem.W.fnOf "_law_draw" "_law_draw" (defArgs st_law_draw) (defBody st_law_draw) (defScope st_law_draw) .none kV5 dc5 pm5 an5 cd5 ct5), sl5⟩) (c5 : PySem.W.codeIn K cd5 "_law_draw" = true) (k5 : PySem.W.keepIn K (.ref f5) = true)
    (a6 : PySem.W.nsIn K mainGlobals "_law_is_row" = some (some (.ref f6))) (l6 : K.lookup f6 = some ⟨oc6, od6, .func (PySem.W.fnOf "_law_is_row" "_law_is_row" (defArgs st_law_is_row) (defBody st_law_is_row) (defScope st_law_is_row) .none kV6 dc6 pm6 an6 cd6 ct6), sl6⟩) (c6 : PySem.W.codeIn K cd6 "_law_is_row" = true) (k6 : PySem.W.keepIn K (.ref f6) = true)
    (a7 : PySem.W.nsIn K mainGlobals "_law_filled" = some (some (.ref f7))) (l7 : K.lookup f7 = some ⟨oc7, od7, .func (PySem.W.fnOf "_law_filled" "_law_filled" (defArgs st_law_filled) (defBody st_law_filled) (defScope st_law_filled) .none kV7 dc7 pm7 an7 cd7 ct7), sl7⟩) (c7 : PySem.W.codeIn K cd7 "_law_filled" = true) (k7 : PySem.W.keepIn K (.ref f7) = true)
    (a8 : PySem.W.nsIn K mainGlobals "_law_small_row" = some (some (.ref f8))) (l8 : K.lookup f8 = some ⟨oc8, od8, .func (PySem.W.fnOf "_law_small_row" "_law_small_row" (defArgs st_law_small_row) (defBody st_law_small_row) (defScope st_law_small_row) .none kV8 dc8 pm8 an8 cd8 ct8), sl8⟩) (c8 : PySem.W.codeIn K cd8 "_law_small_row" = true) (k8 : PySem.W.keepIn K (.ref f8) = true)
    (a9 : PySem.W.nsIn K mainGlobals "_law_word_of" = some (some (.ref f9))) (l9 : K.lookup f9 = some ⟨oc9, od9, .func (PySem.W.fnOf "_law_word_of" "_law_word_of" (defArgs st_law_word_of) (defBody st_law_word_of) (defScope st_law_word_of) .none kV9 dc9 pm9 an9 cd9 ct9), sl9⟩) (c9 : PySem.W.codeIn K cd9 "_law_word_of" = true) (k9 : PySem.W.keepIn K (.ref f9) = true)
    (a10 : PySem.W.nsIn K mainGlobals "_law_due" = some (some (.ref f10))) (l10 : K.lookup f10 = some ⟨oc10, od10, .func (PySem.W.fnOf "_law_due" "_law_due" (defArgs st_law_due) (defBody st_law_due) (defScope st_law_due) .none kV10 dc10 pm10 an10 cd10 ct10), sl10⟩) (c10 : PySem.W.codeIn K cd10 "_law_due" = true) (k10 : PySem.W.keepIn K (.ref f10) = true)
    (a11 : PySem.W.nsIn K mainGlobals "_law_told" = some (some (.ref f11))) (l11 : K.lookup f11 = some ⟨oc11, od11, .func (PySem.W.fnOf "_law_told" "_law_told" (defArgs st_law_told) (defBody st_law_told) (defScope st_law_told) .none kV11 dc11 pm11 an11 cd11 ct11), sl11⟩) (c11 : PySem.W.codeIn K cd11 "_law_told" = true) (k11 : PySem.W.keepIn K (.ref f11) = true)
    (a12 : PySem.W.nsIn K mainGlobals "_law_spoilt" = some (some (.ref f12))) (l12 : K.lookup f12 = some ⟨oc12, od12, .func (PySem.W.fnOf "_law_spoilt" "_law_spoilt" (defArgs st_law_spoilt) (defBody st_law_spoilt) (defScope st_law_spoilt) .none kV12 dc12 pm12 an12 cd12 ct12), sl12⟩) (c12 : PySem.W.codeIn K cd12 "_law_spoilt" = true) (k12 : PySem.W.keepIn K (.ref f12) = true)
    (a13 : PySem.W.nsIn K mainGlobals "law" = some (some (.ref f13))) (l13 : K.lookup f13 = some ⟨oc13, od13, .func (PySem.W.fnOf "law" "law" (defArgs st_law) (defBody st_law) (defScope st_law) .none kV13 dc13 pm13 an13 cd13 ct13), sl13⟩) (c13 : PySem.W.codeIn K cd13 "law" = true) (k13 : PySem.W.keepIn K (.ref f13) = true)
    (z0 : PySem.W.nsIn K mainGlobals "len" = some none)
    (z1 : PySem.W.nsIn K mainGlobals "range" = some none)
    (z2 : PySem.W.nsIn K mainGlobals "enumerate" = some none)
    (z3 : PySem.W.nsIn K mainGlobals "list" = some none)
    (z4 : PySem.W.nsIn K mainGlobals "reversed" = some none)
    (z5 : PySem.W.nsIn K mainGlobals "sorted" = some none)
    (z6 : PySem.W.nsIn K mainGlobals "tuple" = some none)
    (z7 : PySem.W.nsIn K mainGlobals "min" = some none)
    (z8 : PySem.W.nsIn K mainGlobals "max" = some none)
    (z9 : PySem.W.nsIn K mainGlobals "isinstance" = some none)
    (z10 : PySem.W.nsIn K mainGlobals "int" = some none)
    (z11 : PySem.W.nsIn K mainGlobals "str" = some none)
    (z12 : PySem.W.nsIn K mainGlobals "bool" = some none)
    (z13 : PySem.W.nsIn K mainGlobals "all" = some none)
    (z14 : PySem.W.nsIn K mainGlobals "ValueError" = some none)
    (q0 : PySem.W.nsIn K mainGlobals "MOST" = some (some (.int 400 tk0)))
    (q1 : PySem.W.nsIn K mainGlobals "FIGURES" = some (some (.str "0123456789" tk1)))
    (eg0 : PySem.W.nsIn K mainGlobals "NoSize" = some (some (.ref C0))) (ex0 : PySem.W.excIn K C0 [.type "ValueError", .type "Exception", .type "BaseException", .type "object"] "ValueError.__new__" = true) (ee0 : PySem.W.keepIn K (.ref C0) = true) (eb0 : PySem.W.subIn K (.ref C0) (.type "BaseException") = some true) (et0 : PySem.W.typeIn K (.ref C0) = some (.type "type"))
    (eg1 : PySem.W.nsIn K mainGlobals "NoSuch" = some (some (.ref C1))) (ex1 : PySem.W.excIn K C1 [.type "ValueError", .type "Exception", .type "BaseException", .type "object"] "ValueError.__new__" = true) (ee1 : PySem.W.keepIn K (.ref C1) = true) (eb1 : PySem.W.subIn K (.ref C1) (.type "BaseException") = some true) (et1 : PySem.W.typeIn K (.ref C1) = some (.type "type"))
    (eg2 : PySem.W.nsIn K mainGlobals "NoRow" = some (some (.ref C2))) (ex2 : PySem.W.excIn K C2 [.type "ValueError", .type "Exception", .type "BaseException", .type "object"] "ValueError.__new__" = true) (ee2 : PySem.W.keepIn K (.ref C2) = true) (eb2 : PySem.W.subIn K (.ref C2) (.type "BaseException") = some true) (et2 : PySem.W.typeIn K (.ref C2) = some (.type "type"))
    (eg3 : PySem.W.nsIn K mainGlobals "NoPerson" = some (some (.ref C3))) (ex3 : PySem.W.excIn K C3 [.type "ValueError", .type "Exception", .type "BaseException", .type "object"] "ValueError.__new__" = true) (ee3 : PySem.W.keepIn K (.ref C3) = true) (eb3 : PySem.W.subIn K (.ref C3) (.type "BaseException") = some true) (et3 : PySem.W.typeIn K (.ref C3) = some (.type "type"))
    (eg4 : PySem.W.nsIn K mainGlobals "NoNote" = some (some (.ref C4))) (ex4 : PySem.W.excIn K C4 [.type "ValueError", .type "Exception", .type "BaseException", .type "object"] "ValueError.__new__" = true) (ee4 : PySem.W.keepIn K (.ref C4) = true) (eb4 : PySem.W.subIn K (.ref C4) (.type "BaseException") = some true) (et4 : PySem.W.typeIn K (.ref C4) = some (.type "type"))
    (eg5 : PySem.W.nsIn K mainGlobals "ApartError" = some (some (.ref C5))) (ex5 : PySem.W.excIn K C5 [.type "ValueError", .type "Exception", .type "BaseException", .type "object"] "ValueError.__new__" = true) (ee5 : PySem.W.keepIn K (.ref C5) = true) (eb5 : PySem.W.subIn K (.ref C5) (.type "BaseException") = some true) (et5 : PySem.W.typeIn K (.ref C5) = some (.type "type"))
    (o4_0 : PySem.W.findIn K (.ref C4) "__getattribute__" = some (some (.builtin "BaseException.__getattribute__")))
    (o4_1 : PySem.W.findIn K (.ref C4) "__getattr__" = some none)
    (o4_2 : PySem.W.subIn K (.ref C4) (.type "BaseException") = some true)
    (o4_3 : PySem.W.hasDictIn K C4 = true)
    (o4_4 : PySem.W.findIn K (.ref C4) "__class__" = some (some (.builtin "object.__class__")))
    (o4_5 : PySem.W.specialIn K (.builtin "object.__class__") "__get__" = some (some (.builtin "getset_descriptor.__get__")))
    (o4_6 : PySem.W.takesIn K (.builtin "object.__class__") = some true)
    (o4_7 : PySem.W.mroIn K C4 (.type "object") = some true)
    (o4_8 : PySem.W.subIn K (.ref C4) (.ref C0) = some false)
    (o4_9 : PySem.W.subIn K (.ref C4) (.ref C1) = some false)
    (o4_10 : PySem.W.subIn K (.ref C4) (.ref C2) = some false)
    (o4_11 : PySem.W.subIn K (.ref C4) (.ref C3) = some false)
    (o4_12 : PySem.W.subIn K (.ref C4) (.ref C4) = some true)
    (o4_13 : PySem.W.subIn K (.ref C4) (.type "ValueError") = some true)
    (o4_14 : PySem.W.subIn K (.ref C4) (.ref C5) = some true)
    (hd0 : PySem.W.hasDictIn K C0 = true)
    (hd1 : PySem.W.hasDictIn K C1 = true)
    (hd2 : PySem.W.hasDictIn K C2 = true)
    (hd3 : PySem.W.hasDictIn K C3 = true)
    (hd4 : PySem.W.hasDictIn K C4 = true)
    (hd5 : PySem.W.hasDictIn K C5 = true)
    : ∃ fd : FuncData, (∀ (s : Shared) (v : Value), BindsTo s fd ⟨[v], []⟩ [("script", v)]) ∧ ∀ base : Heap, K.In base → base.Ns mainGlobals mg → FnOk l.prog w K mg base CX0 lawLevel fa fd ["script"] (spLaw K) := by
  have e := hfa.symm.trans (PySem.W.mg_of X G a13)
  cases e
  have B : Bl mg := ⟨PySem.W.mg_none_of X G z0, PySem.W.mg_none_of X G z1, PySem.W.mg_none_of X G z2, PySem.W.mg_none_of X G z3, PySem.W.mg_none_of X G z4, PySem.W.mg_none_of X G z5, PySem.W.mg_none_of X G z6, PySem.W.mg_none_of X G z7, PySem.W.mg_none_of X G z8, PySem.W.mg_none_of X G z9, PySem.W.mg_none_of X G z10, PySem.W.mg_none_of X G z11, PySem.W.mg_none_of X G z12, PySem.W.mg_none_of X G z13, PySem.W.mg_none_of X G z14⟩
  have D_found_places : Df K mg "found_places" st_found_places ["row"] := ⟨f0, _, fun_mk (st := st_found_places) l0 c0 k0, (fun_mk (st := st_found_places) l0 c0 k0).binds (ps := ["row"]) (fun _ _ _ _ _ _ us hl => match us, hl with | [_], _ => rfl), PySem.W.mg_of X G a0⟩
  have D_is_row : Df K mg "is_row" st_is_row ["row"] := ⟨f1, _, fun_mk (st := st_is_row) l1 c1 k1, (fun_mk (st := st_is_row) l1 c1 k1).binds (ps := ["row"]) (fun _ _ _ _ _ _ us hl => match us, hl with | [_], _ => rfl), PySem.W.mg_of X G a1⟩
  have D_number_of : Df K mg "number_of" st_number_of ["word"] := ⟨f2, _, fun_mk (st := st_number_of) l2 c2 k2, (fun_mk (st := st_number_of) l2 c2 k2).binds (ps := ["word"]) (fun _ _ _ _ _ _ us hl => match us, hl with | [_], _ => rfl), PySem.W.mg_of X G a2⟩
  have D_read : Df K mg "read" st_read ["text"] := ⟨f3, _, fun_mk (st := st_read) l3 c3 k3, (fun_mk (st := st_read) l3 c3 k3).binds (ps := ["text"]) (fun _ _ _ _ _ _ us hl => match us, hl with | [_], _ => rfl), PySem.W.mg_of X G a3⟩
  have D_law_cell_at : Df K mg "_law_cell_at" st_law_cell_at ["script", "k"] := ⟨f4, _, fun_mk (st := st_law_cell_at) l4 c4 k4, (fun_mk (st := st_law_cell_at) l4 c4 k4).binds (ps := ["script", "k"]) (fun _ _ _ _ _ _ us hl => match us, hl with | [_, _], _ => rfl), PySem.W.mg_of X G a4⟩
  have D_law_draw : Df K mg "_law_draw" st_law_draw ["cell", "k", "bound"] := ⟨f5, _, fun_mk (st := st_law_draw) l5 c5 k5, (fun_mk (st := st_law_draw) l5 c5 k5).binds (ps := ["cell", "k", "bound"]) (fun _ _ _ _ _ _ us hl => match us, hl with | [_, _, _], _ => rfl), PySem.W.mg_of X G a5⟩
  have D_law_is_row : Df K mg "_law_is_row" st_law_is_row ["row"] := ⟨f6, _, fun_mk (st := st_law_is_row) l6 c6 k6, (fun_mk (st := st_law_is_row) l6 c6 k6).binds (ps := ["row"]) (fun _ _ _ _ _ _ us hl => match us, hl with | [_], _ => rfl), PySem.W.mg_of X G a6⟩
  have D_law_filled : Df K mg "_law_filled" st_law_filled ["row", "number", "cell"] := ⟨f7, _, fun_mk (st := st_law_filled) l7 c7 k7, (fun_mk (st := st_law_filled) l7 c7 k7).binds (ps := ["row", "number", "cell"]) (fun _ _ _ _ _ _ us hl => match us, hl with | [_, _, _], _ => rfl), PySem.W.mg_of X G a7⟩
  have D_law_small_row : Df K mg "_law_small_row" st_law_small_row ["script", "first"] := ⟨f8, _, fun_mk (st := st_law_small_row) l8 c8 k8, (fun_mk (st := st_law_small_row) l8 c8 k8).binds (ps := ["script", "first"]) (fun _ _ _ _ _ _ us hl => match us, hl with | [_, _], _ => rfl), PySem.W.mg_of X G a8⟩
  have D_law_word_of : Df K mg "_law_word_of" st_law_word_of ["e"] := ⟨f9, _, fun_mk (st := st_law_word_of) l9 c9 k9, (fun_mk (st := st_law_word_of) l9 c9 k9).binds (ps := ["e"]) (fun _ _ _ _ _ _ us hl => match us, hl with | [_], _ => rfl), PySem.W.mg_of X G a9⟩
  have D_law_due : Df K mg "_law_due" st_law_due ["text"] := ⟨f10, _, fun_mk (st := st_law_due) l10 c10 k10, (fun_mk (st := st_law_due) l10 c10 k10).binds (ps := ["text"]) (fun _ _ _ _ _ _ us hl => match us, hl with | [_], _ => rfl), PySem.W.mg_of X G a10⟩
  have D_law_told : Df K mg "_law_told" st_law_told ["text"] := ⟨f11, _, fun_mk (st := st_law_told) l11 c11 k11, (fun_mk (st := st_law_told) l11 c11 k11).binds (ps := ["text"]) (fun _ _ _ _ _ _ us hl => match us, hl with | [_], _ => rfl), PySem.W.mg_of X G a11⟩
  have D_law_spoilt : Df K mg "_law_spoilt" st_law_spoilt ["script", "text"] := ⟨f12, _, fun_mk (st := st_law_spoilt) l12 c12 k12, (fun_mk (st := st_law_spoilt) l12 c12 k12).binds (ps := ["script", "text"]) (fun _ _ _ _ _ _ us hl => match us, hl with | [_, _], _ => rfl), PySem.W.mg_of X G a12⟩
  have C_MOST := PySem.W.mg_of X G q0
  have C_FIGURES := PySem.W.mg_of X G q1
  have X_NoSize : Ec K mg "NoSize" C0 := ⟨PySem.W.mg_of X G eg0, ex0, ee0, eb0, et0⟩
  have X_NoSuch : Ec K mg "NoSuch" C1 := ⟨PySem.W.mg_of X G eg1, ex1, ee1, eb1, et1⟩
  have X_NoRow : Ec K mg "NoRow" C2 := ⟨PySem.W.mg_of X G eg2, ex2, ee2, eb2, et2⟩
  have X_NoPerson : Ec K mg "NoPerson" C3 := ⟨PySem.W.mg_of X G eg3, ex3, ee3, eb3, et3⟩
  have X_NoNote : Ec K mg "NoNote" C4 := ⟨PySem.W.mg_of X G eg4, ex4, ee4, eb4, et4⟩
  have X_ApartError : Ec K mg "ApartError" C5 := ⟨PySem.W.mg_of X G eg5, ex5, ee5, eb5, et5⟩
  have O_NoNote : OfClass K C0 C1 C2 C3 C4 C4 4 := ⟨⟨o4_0, o4_1, o4_2, o4_3, o4_4, o4_5, o4_6, o4_7⟩, kit_own hd0 et0 o4_8 o4_12, kit_own hd1 et1 o4_9 o4_12, kit_own hd2 et2 o4_10 o4_12, kit_own hd3 et3 o4_11 o4_12, kit_own hd4 et4 o4_12 o4_12, kit_value o4_13⟩
  have M_NoNote : PySem.W.exmOne K (.ref C4) (.ref C5) = some true := PySem.W.exm_ref eb5 hd5 et5 o4_14
  refine ⟨PySem.W.fnOf "law" "law" (defArgs st_law) (defBody st_law) (defScope st_law) .none kV13 dc13 pm13 an13 cd13 ct13, fun s v => .of_eq rfl, fun base _ _ => ?_⟩
  have F := fun_mk (st := st_law) l13 c13 k13
  have K_cell := kn_law_cell_at (P := l.prog) (w := w) (base := base) D_law_cell_at B
  have K_draw := kn_law_draw (P := l.prog) (w := w) (base := base) D_law_draw
  have K_lfilled := kn_law_filled (P := l.prog) (w := w) (base := base) D_law_filled B K_draw 10
  have K_small := kn_law_small_row D_law_small_row B K_cell K_lfilled
  have K_is := kn_is_row D_is_row B C_MOST (kn_found_places (P := l.prog) (w := w) (base := base) D_found_places B)
  have K_read := kn_read D_read X_NoNote (kn_number_of D_number_of B X_NoNote C_FIGURES) K_is
  have K_word := kn_law_word_of (P := l.prog) (w := w) (base := base) D_law_word_of B X_NoSize X_NoSuch X_NoRow X_NoPerson X_NoNote
  exact ok_law F B K_cell K_small (kn_law_spoilt11 D_law_spoilt B K_cell) (kn_law_due D_law_due B (kn_law_is_row D_law_is_row B)) (kn_law_told D_law_told X_ApartError K_word K_read O_NoNote M_NoNote)
end Sa
open PySem PySem.W PyProof.Rows
set_option maxHeartbeats 0 in
theorem PySem.Challenge.cw_sameapart_k11_read_or_refused_holds : PySem.Challenge.rw_sameapart_k11_read_or_refused.Holds := by
  w_on; o_law; k_head; (case hw => w_witness2)
  k_fill
  refine L2.walk_of (l := PySem.Challenge.rw_sameapart_k11_read_or_refused) (n := 63) (k := Sa.lawLevel) (x := "script") (CX := fun _ => L2.CX0) (sp := fun w => Sa.spLaw _) rfl (by decide) rfl ⟨rfl, by decide, by decide⟩ (fun w h Y => PySem.W.kIn_of Y) ?F (fun _ H a ns hl hO hS => ⟨a, ns, rfl, hS, hl, fun _ => rfl⟩) (fun _ _ _ _ _ h => h)
  case F =>
    intro w mg fa h KX G hmg
    refine' Sa.all_mk KX G hmg ?a0 ?l0 ?c0 ?k0 ?a1 ?l1 ?c1 ?k1 ?a2 ?l2 ?c2 ?k2 ?a3 ?l3 ?c3 ?k3 ?a4 ?l4 ?c4 ?k4 ?a5 ?l5 ?c5 ?k5 ?a6 ?l6 ?c6 ?k6 ?a7 ?l7 ?c7 ?k7 ?a8 ?l8 ?c8 ?k8 ?a9 ?l9 ?c9 ?k9 ?a10 ?l10 ?c10 ?k10 ?a11 ?l11 ?c11 ?k11 ?a12 ?l12 ?c12 ?k12 ?a13 ?l13 ?c13 ?k13 ?z0 ?z1 ?z2 ?z3 ?z4 ?z5 ?z6 ?z7 ?z8 ?z9 ?z10 ?z11 ?z12 ?z13 ?z14 ?q0 ?q1 ?eg0 ?ex0 ?ee0 ?eb0 ?et0 ?eg1 ?ex1 ?ee1 ?eb1 ?et1 ?eg2 ?ex2 ?ee2 ?eb2 ?et2 ?eg3 ?ex3 ?ee3 ?eb3 ?et3 ?eg4 ?ex4 ?ee4 ?eb4 ?et4 ?eg5 ?ex5 ?ee5 ?eb5 ?et5 ?o4_0 ?o4_1 ?o4_2 ?o4_3 ?o4_4 ?o4_5 ?o4_6 ?o4_7 ?o4_8 ?o4_9 ?o4_10 ?o4_11 ?o4_12 ?o4_13 ?o4_14 ?hd0 ?hd1 ?hd2 ?hd3 ?hd4 ?hd5
    (case a0 => k_is)
    (case l0 => k_is)
    (case c0 => k_is)
    (case k0 => k_is)
    (case a1 => k_is)
    (case l1 => k_is)
    (case c1 => k_is)
    (case k1 => k_is)
    (case a2 => k_is)
    (case l2 => k_is)
    (case c2 => k_is)
    (case k2 => k_is)
    (case a3 => k_is)
    (case l3 => k_is)
    (case c3 => k_is)
    (case k3 => k_is)
    (case a4 => k_is)
    (case l4 => k_is)
    (case c4 => k_is)
    (case k4 => k_is)
    (case a5 => k_is)
    (case l5 => k_is)
    (case c5 => k_is)
    (case k5 => k_is)
    (case a6 => k_is)
    (case l6 => k_is)
    (case c6 => k_is)
    (case k6 => k_is)
    (case a7 => k_is)
    (case l7 => k_is)
    (case c7 => k_is)
    (case k7 => k_is)
    (case a8 => k_is)
    (case l8 => k_is)
    (case c8 => k_is)
    (case k8 => k_is)
    (case a9 => k_is)
    (case l9 => k_is)
    (case c9 => k_is)
    (case k9 => k_is)
    (case a10 => k_is)
    (case l10 => k_is)
    (case c10 => k_is)
    (case k10 => k_is)
    (case a11 => k_is)
    (case l11 => k_is)
    (case c11 => k_is)
    (case k11 => k_is)
    (case a12 => k_is)
    (case l12 => k_is)
    (case c12 => k_is)
    (case k12 => k_is)
    (case a13 => k_is)
    (case l13 => k_is)
    (case c13 => k_is)
    (case k13 => k_is)
    (case z0 => k_is)
    (case z1 => k_is)
    (case z2 => k_is)
    (case z3 => k_is)
    (case z4 => k_is)
    (case z5 => k_is)
    (case z6 => k_is)
    (case z7 => k_is)
    (case z8 => k_is)
    (case z9 => k_is)
    (case z10 => k_is)
    (case z11 => k_is)
    (case z12 => k_is)
    (case z13 => k_is)
    (case z14 => k_is)
    (case q0 => k_is)
    (case q1 => k_is)
    (case eg0 => k_is)
    (case ex0 => k_exc)
    (case ee0 => k_is)
    (case eb0 => k_is)
    (case et0 => k_is)
    (case eg1 => k_is)
    (case ex1 => k_exc)
    (case ee1 => k_is)
    (case eb1 => k_is)
    (case et1 => k_is)
    (case eg2 => k_is)
    (case ex2 => k_exc)
    (case ee2 => k_is)
    (case eb2 => k_is)
    (case et2 => k_is)
    (case eg3 => k_is)
    (case ex3 => k_exc)
    (case ee3 => k_is)
    (case eb3 => k_is)
    (case et3 => k_is)
    (case eg4 => k_is)
    (case ex4 => k_exc)
    (case ee4 => k_is)
    (case eb4 => k_is)
    (case et4 => k_is)
    (case eg5 => k_is)
    (case ex5 => k_exc)
    (case ee5 => k_is)
    (case eb5 => k_is)
    (case et5 => k_is)
    (case o4_0 => k_is)
    (case o4_1 => k_is)
    (case o4_2 => k_is)
    (case o4_3 => k_is)
    (case o4_4 => k_is)
    (case o4_5 => k_is)
    (case o4_6 => k_is)
    (case o4_7 => k_is)
    (case o4_8 => k_is)
    (case o4_9 => k_is)
    (case o4_10 => k_is)
    (case o4_11 => k_is)
    (case o4_12 => k_is)
    (case o4_13 => k_is)
    (case o4_14 => k_is)
    (case hd0 => k_is)
    (case hd1 => k_is)
    (case hd2 => k_is)
    (case hd3 => k_is)
    (case hd4 => k_is)
    (case hd5 => k_is)

