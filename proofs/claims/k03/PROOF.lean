import PyProof.Rows.All
import Wide.All
import OpenK.AllK
import Wide.FinOn
import HandS.ForMost
import HandS.Exc
import HandS.ExcOwn
import HandS.WordsExc
import HandS.TryOnly
import HandS.IsInst
import HandS.Style
import HandS.Conv
import PySem.Challenge.RW_sameapart_k03_which_sizes
set_option Elab.async false
set_option linter.all false
set_option maxRecDepth 100000
set_option maxHeartbeats 4000000
namespace Sa
end Sa
namespace Sa
open PySem PySem.Spec PyProof.Rows L2
def topS (i : Nat) : Stmt := PySem.Challenge.pw_sameapart_k03_which_sizes.main.body.getD i (.Pass ⟨0, 0, 0, 0⟩)
abbrev st_asked_size : Stmt := topS 5
abbrev st_can_be : Stmt := topS 6
abbrev st_reckoned : Stmt := topS 7
abbrev st_law_cell_at : Stmt := topS 9
abbrev st_law_whole : Stmt := topS 10
abbrev st_law : Stmt := topS 11
/-! ### words for a def of the text, for the built-in names, for an error class -/
section
/-- a def of the text as it stands behind the top, under its name -/
structure Df (K : PySem.W.Frag) (mg : Str → Option Value) (x : Str) (st : Stmt) (ps : List Str) : Prop where
  ex : ∃ (f : Addr) (fd : FuncData), Fun K x x st f fd ∧ Binds K fd ps [] ∧ mg x = some (.ref f)
/-- a def whose promise is known -/
structure Kn (P : Program) (w : World) (K : PySem.W.Frag) (mg : Str → Option Value) (base : Heap) (CX : CXT) (k : Nat) (x : Str) (ps : List Str) (sp : Sp) : Prop where
  ex : ∃ (f : Addr) (fd : FuncData), FnOk P w K mg base CX k f fd ps sp ∧ PySem.W.keepIn K (.ref f) = true ∧ Binds K fd ps [] ∧ mg x = some (.ref f)
/-- the built-in names are not bound by the module -/
structure Bl (mg : Str → Option Value) : Prop where
  len_ : mg "len" = none
  range_ : mg "range" = none
  enumerate_ : mg "enumerate" = none
  list_ : mg "list" = none
  reversed_ : mg "reversed" = none
  sorted_ : mg "sorted" = none
  tuple_ : mg "tuple" = none
  min_ : mg "min" = none
  max_ : mg "max" = none
  isinstance_ : mg "isinstance" = none
  int_ : mg "int" = none
  str_ : mg "str" = none
  bool_ : mg "bool" = none
  all_ : mg "all" = none
  ValueError_ : mg "ValueError" = none
/-- an error class of the text -/
structure Ec (K : PySem.W.Frag) (mg : Str → Option Value) (x : Str) (C : Addr) : Prop where
  g : mg x = some (.ref C)
  x : PySem.W.excIn K C [.type "ValueError", .type "Exception", .type "BaseException", .type "object"] "ValueError.__new__" = true
  k : PySem.W.keepIn K (.ref C) = true
  b : PySem.W.subIn K (.ref C) (.type "BaseException") = some true
  t : PySem.W.typeIn K (.ref C) = some (.type "type")
variable {P : Program} {w : World} {K : PySem.W.Frag} {mg : Str → Option Value} {base : Heap}
theorem Df.kn {x : Str} {st : Stmt} {ps N : List Str} {k : Nat} {sp : Sp} (D : Df K mg x st ps) (S : FnScope N ps (defScope st)) (len : ∀ vs H Q E, sp vs H Q E → vs.length = ps.length)
    (hbody : ∀ (f : Addr) (cdv : Value) (A : Around) (outer : List Env) (s : Shared) (H : Hp) (vs : List V) (Q : VK) (E : XK), Room k (A.deeper (envOfC x (defScope st) s.heap.objs.size f cdv)) → sp vs H Q E →
      ∃ t, PSs (cxOf CX0 P w K mg base N x (defScope st) f cdv A outer s H E).nox (defBody st) t ∧ t { nx := fun _ H' => Q .non H', rt := Q } (start N vs) H) : Kn P w K mg base CX0 (k + 1) x ps sp := by
  obtain ⟨f, fd, F, b, g⟩ := D.ex
  exact ⟨f, fd, F.ok S len (hbody f), F.kp, b, g⟩
theorem Df.knX {x : Str} {st : Stmt} {ps N : List Str} {k : Nat} {sp : Sp} (D : Df K mg x st ps) (S : FnScope N ps (defScope st)) (len : ∀ vs H Q E, sp vs H Q E → vs.length = ps.length)
    (hbody : ∀ (f : Addr) (cdv : Value) (A : Around) (outer : List Env) (s : Shared) (H : Hp) (vs : List V) (Q : VK) (E : XK), Room k (A.deeper (envOfC x (defScope st) s.heap.objs.size f cdv)) → sp vs H Q E →
      ∃ t, PSs (cxOf (L2.CX P w) P w K mg base N x (defScope st) f cdv A outer s H E) (defBody st) t ∧ t { nx := fun _ H' => Q .non H', rt := Q } (start N vs) H) : Kn P w K mg base (L2.CX P w) (k + 1) x ps sp := by
  obtain ⟨f, fd, F, b, g⟩ := D.ex
  exact ⟨f, fd, F.okX S len (hbody f), F.kp, b, g⟩
theorem Kn.imp {CX : CXT} {k : Nat} {x : Str} {ps : List Str} {sp sp' : Sp} (N : Kn P w K mg base CX k x ps sp) (h : ∀ vs H Q E, sp' vs H Q E → sp vs H Q E) : Kn P w K mg base CX k x ps sp' := by
  obtain ⟨f, fd, F, r⟩ := N.ex
  exact ⟨f, fd, F.imp h, r⟩
theorem Kn.mono {CX : CXT} {j k : Nat} {x : Str} {ps : List Str} {sp : Sp} (N : Kn P w K mg base CX j x ps sp) (h : j ≤ k) : Kn P w K mg base CX k x ps sp := by
  obtain ⟨f, fd, F, r⟩ := N.ex
  exact ⟨f, fd, F.mono h, r⟩
end
section
variable {X : Cx} {CX : CXT} {k : Nat} {x : Str} {ps : List Str} {sp : Sp} {p pos : Pos} {e : Expr} {es : List Expr} {t : TA}
/-- a call of a def that lets no error out -/
theorem pe_k0 (N : Kn X.prog X.w X.K X.mg X.base CX0 k x ps sp) (hr : Room k X.A) (hg : Gl X x) (ha : PA X (e :: es) t) (hdb : (x == ("__debug__" : Str)) = false := by decide)
    (he : starEach (e :: es) X.env = (false, eval e X.env) :: starEach es X.env := by rfl) (hpl : (backTo pos (starEach es X.env)).any (·.1) = false := by rfl) : PE X (.Call (.Name x p) (e :: es) [] pos) (tCall sp [] E0 t) := by
  obtain ⟨f, fd, F, kp, b, g⟩ := N.ex
  exact pe_call F hr hg g kp b .nil pass0 ha hdb he hpl
/-- a call of a def that may let one out but here does not -/
theorem pe_kL (N : Kn X.prog X.w X.K X.mg X.base (L2.CX X.prog X.w) k x ps sp) (hr : Room k X.A) (hg : Gl X x) (ha : PA X (e :: es) t) (hdb : (x == ("__debug__" : Str)) = false := by decide)
    (he : starEach (e :: es) X.env = (false, eval e X.env) :: starEach es X.env := by rfl) (hpl : (backTo pos (starEach es X.env)).any (·.1) = false := by rfl) : PE X (.Call (.Name x p) (e :: es) [] pos) (tCall sp [] E0 t) := by
  obtain ⟨f, fd, F, kp, b, g⟩ := N.ex
  exact pe_call F hr hg g kp b .nil passL ha hdb he hpl
/-- .. whose error goes on out of the def at hand -/
theorem pe_kE {E : XK} (N : Kn X.prog X.w X.K X.mg X.base (L2.CX X.prog X.w) k x ps sp) (tk : Takes X (fun cls d _ H => E cls d H)) (hr : Room k X.A) (hg : Gl X x) (ha : PA X (e :: es) t) (hdb : (x == ("__debug__" : Str)) = false := by decide)
    (he : starEach (e :: es) X.env = (false, eval e X.env) :: starEach es X.env := by rfl) (hpl : (backTo pos (starEach es X.env)).any (·.1) = false := by rfl) : PE X (.Call (.Name x p) (e :: es) [] pos) (tCall sp [] E t) := by
  obtain ⟨f, fd, F, kp, b, g⟩ := N.ex
  exact pe_call F hr hg g kp b .nil (passes_call tk (fun _ _ _ _ h => h)) ha hdb he hpl
end
section
variable {X : Cx} {x : Str} {pos : Pos}
theorem pe_globI {n : Int} {tk : Tok} (hg : Gl X x) (hm : X.mg x = some (.int n tk)) (hd : (x == ("__debug__" : Str)) = false := by decide) : PE X (.Name x pos) (tC (.int n)) := pe_glob hg hm ⟨_, rfl⟩ hd
theorem pe_globS {n : Str} {tk : Tok} (hg : Gl X x) (hm : X.mg x = some (.str n tk)) (hd : (x == ("__debug__" : Str)) = false := by decide) : PE X (.Name x pos) (tC (.str n)) := pe_glob hg hm ⟨_, rfl⟩ hd
end
/-! ### heaps, lists of ints -/
theorem same_upd {H : Hp} {p : Addr} {o : HO} (h : H p = none) : Same H (upd H p o) := fun b x e => by
  rw [upd_ne (ne_of_none e h)]
  exact e
theorem _root_.L2.Same.new {H H' : Hp} {p : Addr} {o : HO} (s : Same H H') (h : H' p = none) : Same H (upd H' p o) := s.trans (same_upd h)
/-- what was made behind H may be changed -/
theorem _root_.L2.Same.own {H H' : Hp} {p : Addr} {o : HO} (s : Same H H') (h : H p = none) : Same H (upd H' p o) := fun b x e => by
  rw [upd_ne (ne_of_none e h)]
  exact s b x e
theorem line_eq : (sizeLine : Nat) = 16777216 := sizeLine_eq
theorem small {n : Nat} (h : n ≤ 16777216) : n ≤ sizeLine := by rw [line_eq]; exact h
theorem smaller {n : Nat} (h : n < 16777216) : n < sizeLine := by rw [line_eq]; exact h
theorem ints_get {ns : List Int} {i : Nat} {n : Int} (h : ns[i]? = some n) : (ns.map V.int)[i]? = some (.int n) := by
  rw [List.getElem?_map, h]
  rfl
theorem of_ints_get {ns : List Int} {i : Nat} {y : V} (h : (ns.map V.int)[i]? = some y) : ∃ z, ns[i]? = some z ∧ y = V.int z := by
  rw [List.getElem?_map] at h
  cases e : ns[i]? with
  | none =>
    rw [e] at h
    cases h
  | some z =>
    rw [e] at h
    exact ⟨z, rfl, (Option.some.inj h).symm⟩
theorem ints_len (ns : List Int) : (ns.map V.int).length = ns.length := List.length_map _
/-- an item at a place that is not below nought -/
theorem at_ints {ns : List Int} {i : Int} {n : Int} (h0 : 0 ≤ i) (h : ns[i.toNat]? = some n) : atI (ns.map V.int) i = some (.int n) := by
  have q : atI (ns.map V.int) ((i.toNat : Nat) : Int) = some (.int n) := atI_nat (ints_get h)
  rwa [Int.toNat_of_nonneg h0] at q
theorem at_vals {α : Type} {xs : List α} {i : Int} {v : α} (h0 : 0 ≤ i) (h : xs[i.toNat]? = some v) : atI xs i = some v := by
  have q : atI xs ((i.toNat : Nat) : Int) = some v := atI_nat h
  rwa [Int.toNat_of_nonneg h0] at q
theorem take_snoc {α : Type} {l : List α} {i : Nat} {x : α} (h : l[i]? = some x) : l.take (i + 1) = l.take i ++ [x] := by
  rw [List.take_add_one, h]
  rfl

/-! ### == of data made of ints -/
section
variable {K : PySem.W.Frag} {H : Hp}
theorem dpAll_ints : ∀ ns : List Int, DpAll K H (ns.map V.int) (ns.map PyData.int)
  | [] => .nil
  | n :: r => .cons (.int n) (dpAll_ints r)
theorem dp_list {a : Addr} {ns : List Int} (h : SqL K H a (ns.map V.int)) : Dp K H (.ref a) (.list (ns.map PyData.int)) := .lst h (dpAll_ints ns)
theorem dp_tup {a : Addr} {ns : List Int} (h : SqT K H a (ns.map V.int)) : Dp K H (.ref a) (.tuple (ns.map PyData.int)) := .tup h (dpAll_ints ns)
end
theorem lay_ints : ∀ ns : List Int, PyData.canLayAll0 (ns.map PyData.int) = true
  | [] => by simp [PyData.canLayAll0]
  | n :: r => by simp [PyData.canLayAll0, PyData.canLay0, lay_ints r]
theorem depth_ints : ∀ ns : List Int, PyData.depthAll (ns.map PyData.int) = 0
  | [] => by simp [PyData.depthAll]
  | n :: r => by simp [PyData.depthAll, PyData.depth, depth_ints r]
theorem shaped_list (ns : List Int) : SeqAt.shaped (.list (ns.map PyData.int)) = true := by
  show (PyData.canLay0 (.list (ns.map PyData.int)) && decide (PyData.depth (.list (ns.map PyData.int)) ≤ 64)) = true
  simp [PyData.canLay0, PyData.depth, lay_ints, depth_ints]
theorem shaped_tup (ns : List Int) : SeqAt.shaped (.tuple (ns.map PyData.int)) = true := by
  show (PyData.canLay0 (.tuple (ns.map PyData.int)) && decide (PyData.depth (.tuple (ns.map PyData.int)) ≤ 64)) = true
  simp [PyData.canLay0, PyData.depth, lay_ints, depth_ints]
theorem eqvAll_ints : ∀ xs ys : List Int, PyData.eqvAll (xs.map PyData.int) (ys.map PyData.int) = decide (xs = ys)
  | [], [] => by simp [PyData.eqvAll]
  | [], _ :: _ => by simp [PyData.eqvAll]
  | _ :: _, [] => by simp [PyData.eqvAll]
  | x :: xs, y :: ys => by
    have ih := eqvAll_ints xs ys
    simp only [List.map_cons, PyData.eqvAll, PyData.eqv, ih, List.cons.injEq]
    by_cases h : x = y <;> simp [h]
theorem eqv_lists (xs ys : List Int) : PyData.eqv (.list (xs.map PyData.int)) (.list (ys.map PyData.int)) = decide (xs = ys) := by
  simp only [PyData.eqv, eqvAll_ints]
theorem eqv_tups (xs ys : List Int) : PyData.eqv (.tuple (xs.map PyData.int)) (.tuple (ys.map PyData.int)) = decide (xs = ys) := by
  simp only [PyData.eqv, eqvAll_ints]
/-- .. the answers of == and != of two lists, two tuples of ints -/
theorem eqD_lists {K : PySem.W.Frag} {H : Hp} {Q : VK} {a b : Addr} {xs ys : List Int} (ha : SqL K H a (xs.map V.int)) (hb : SqL K H b (ys.map V.int)) (q : Q (.bl (decide (xs = ys))) H) : rEqD K (.ref a) (.ref b) H Q :=
  ⟨_, _, dp_list ha, dp_list hb, shaped_list _, shaped_list _, by rw [eqv_lists]; exact q⟩
theorem neD_lists {K : PySem.W.Frag} {H : Hp} {Q : VK} {a b : Addr} {xs ys : List Int} (ha : SqL K H a (xs.map V.int)) (hb : SqL K H b (ys.map V.int)) (q : Q (.bl (!decide (xs = ys))) H) : rNeD K (.ref a) (.ref b) H Q :=
  ⟨_, _, dp_list ha, dp_list hb, shaped_list _, shaped_list _, by rw [eqv_lists]; exact q⟩
theorem eqD_tups {K : PySem.W.Frag} {H : Hp} {Q : VK} {a b : Addr} {xs ys : List Int} (ha : SqT K H a (xs.map V.int)) (hb : SqT K H b (ys.map V.int)) (q : Q (.bl (decide (xs = ys))) H) : rEqD K (.ref a) (.ref b) H Q :=
  ⟨_, _, dp_tup ha, dp_tup hb, shaped_tup _, shaped_tup _, by rw [eqv_tups]; exact q⟩
theorem neD_tups {K : PySem.W.Frag} {H : Hp} {Q : VK} {a b : Addr} {xs ys : List Int} (ha : SqT K H a (xs.map V.int)) (hb : SqT K H b (ys.map V.int)) (q : Q (.bl (!decide (xs = ys))) H) : rNeD K (.ref a) (.ref b) H Q :=
  ⟨_, _, dp_tup ha, dp_tup hb, shaped_tup _, shaped_tup _, by rw [eqv_tups]; exact q⟩
/-- a test whose answer is known -/
theorem iteTr {c : Bool} {A B : Prop} (hc : c = true) (h : A) : if c = true then A else B := by
  rw [if_pos hc]
  exact h
theorem iteFa {c : Bool} {A B : Prop} (hc : c = false) (h : B) : if c = true then A else B := by
  rw [hc]
  exact iteF h

/-! ### asked_size -/
abbrev N_asked_size : List Str := ["size", "most"]
theorem sc_asked_size : FnScope N_asked_size ["size", "most"] (defScope st_asked_size) := ⟨rfl, rfl, rfl, by decide +kernel, rfl, by decide +kernel, by decide +kernel⟩
/-- refuses a size below one or above most: E of the class at C -/
def spAskedSize (C : Addr) : Sp := fun vs H Q E => ∃ size most : Int, vs = [.int size, .int most] ∧ (¬ (1 ≤ size ∧ size ≤ most) → E (.ref C) none H) ∧ (1 ≤ size ∧ size ≤ most → Q .non H)
section
variable {P : Program} {w : World} {K : PySem.W.Frag} {mg : Str → Option Value} {base : Heap}
theorem kn_asked_size {C : Addr} (D : Df K mg "asked_size" st_asked_size ["size", "most"]) (X_NoSize : Ec K mg "NoSize" C) : Kn P w K mg base (L2.CX P w) 1 "asked_size" ["size", "most"] (spAskedSize C) := by
  refine D.knX sc_asked_size (fun vs H Q E h => ?_) (fun f cdv A outer s H vs Q E hr h => ?_)
  · obtain ⟨a, b, rfl, _⟩ := h
    rfl
  obtain ⟨size, most, rfl, h1, h2⟩ := h
  refine ⟨_, (pss_one (ps_if (PW.pt (pw_or (pt_cmpR op_lt (pv 0) pe_int (nomark _)) (pw_or1 (pt_cmpR op_gt (pv 0) (pv 1) (nomark _)))))
        (pss_one (ps_raise rfl (takes_of rfl rfl rfl rfl) (pmk_own PySem.F.excBase_ValueError X_NoSize.x X_NoSize.g X_NoSize.k (raises_own X_NoSize.b X_NoSize.t) rfl)))
        pss_nil)), ?_⟩
  refine ⟨_, rfl, _, _, rfl, rfl, _, rfl, ite2 (fun c => ?_) (fun c => ?_)⟩
  · have c' := of_decide_eq_true c
    exact iteT (h1 (by omega))
  · have c' : ¬ size < 1 := of_decide_eq_false (Bool.eq_false_iff.mpr c)
    refine ⟨_, rfl, _, rfl, _, _, rfl, rfl, _, rfl, ite2 (fun d => ?_) (fun d => ?_)⟩
    · have d' : most < size := of_decide_eq_true d
      exact h1 (by omega)
    · have d' : ¬ most < size := of_decide_eq_false (Bool.eq_false_iff.mpr d)
      exact h2 (by omega)
end

/-! ### can_be -/
abbrev N_can_be : List Str := ["size"]
theorem sc_can_be : FnScope N_can_be ["size"] (defScope st_can_be) := ⟨rfl, rfl, rfl, by decide +kernel, rfl, by decide +kernel, by decide +kernel⟩
def spCanBe (C : Addr) : Sp := fun vs H Q E => ∃ size : Int, vs = [.int size] ∧ (¬ (1 ≤ size ∧ size ≤ 400) → E (.ref C) none H) ∧ (1 ≤ size ∧ size ≤ 400 → Q (.bl (decide (size % 4 < 2))) H)
section
variable {P : Program} {w : World} {K : PySem.W.Frag} {mg : Str → Option Value} {base : Heap}
theorem kn_can_be {C : Addr} {tk : Tok} (D : Df K mg "can_be" st_can_be ["size"]) (K_asked_size : Kn P w K mg base (L2.CX P w) 1 "asked_size" ["size", "most"] (spAskedSize C)) (C_MOST : mg "MOST" = some (.int 400 tk)) :
    Kn P w K mg base (L2.CX P w) 2 "can_be" ["size"] (spCanBe C) := by
  refine D.knX sc_can_be (fun vs H Q E h => ?_) (fun f cdv A outer s H vs Q E hr h => ?_)
  · obtain ⟨a, rfl, _⟩ := h
    rfl
  obtain ⟨size, rfl, h1, h2⟩ := h
  refine ⟨_, (pss_cons (ps_expr (pe_kE K_asked_size (takes_of rfl rfl rfl rfl) (hr.mono (by decide)) (by rfl) (pa_cons (pv 0) (pa_cons (pe_globI (by rfl) C_MOST) pa_nil))))
      (pss_one (ps_ret (pe_cmpR op_lt (pe_op op_mod (pv 0) pe_int) pe_int (nomark _))))), ?_⟩
  exact ⟨_, rfl, size, 400, rfl, h1, fun c => ⟨_, rfl, _, _, rfl, rfl, (by decide : (0 : Int) < 4), _, _, rfl, rfl, h2 c⟩⟩
end

/-! ### reckoned -/
abbrev N_reckoned : List Str := ["size", "odd"]
theorem sc_reckoned : FnScope N_reckoned ["size"] (defScope st_reckoned) := ⟨rfl, rfl, rfl, by decide +kernel, rfl, by decide +kernel, by decide +kernel⟩
def spReckoned (C : Addr) : Sp := fun vs H Q E => ∃ size : Int, vs = [.int size] ∧ (¬ (1 ≤ size ∧ size ≤ 400) → E (.ref C) none H) ∧
  (1 ≤ size ∧ size ≤ 400 → ∀ p, H p = none → Q (.ref p) (upd H p (.tup [.int ((size + 1) / 2), .int (size - (size + 1) / 2)])))
section
variable {P : Program} {w : World} {K : PySem.W.Frag} {mg : Str → Option Value} {base : Heap}
theorem kn_reckoned {C : Addr} {tk : Tok} (D : Df K mg "reckoned" st_reckoned ["size"]) (K_asked_size : Kn P w K mg base (L2.CX P w) 1 "asked_size" ["size", "most"] (spAskedSize C)) (C_MOST : mg "MOST" = some (.int 400 tk)) :
    Kn P w K mg base (L2.CX P w) 2 "reckoned" ["size"] (spReckoned C) := by
  refine D.knX sc_reckoned (fun vs H Q E h => ?_) (fun f cdv A outer s H vs Q E hr h => ?_)
  · obtain ⟨a, rfl, _⟩ := h
    rfl
  obtain ⟨size, rfl, h1, h2⟩ := h
  refine ⟨_, (pss_cons (ps_expr (pe_kE K_asked_size (takes_of rfl rfl rfl rfl) (hr.mono (by decide)) (by rfl) (pa_cons (pv 0) (pa_cons (pe_globI (by rfl) C_MOST) pa_nil))))
      (pss_cons (ps_set (i := 1) sc_reckoned.nd rfl (Or.inl rfl) (pe_op op_fdiv (pe_op op_add (pv 0) pe_int) pe_int))
      (pss_one (ps_ret (pe_tup (pa_cons (pv 1) (pa_cons (pe_op op_sub (pv 0) (pv 1)) pa_nil))))))), ?_⟩
  exact ⟨_, rfl, size, 400, rfl, h1, fun c => ⟨_, rfl, _, _, rfl, rfl, _, _, rfl, rfl, ⟨by decide, by decide⟩, _, rfl, _, rfl, _, rfl, _, _, rfl, rfl, small (show 2 ≤ 16777216 by decide), fun p hp => h2 c p hp⟩⟩
end

/-! ### _law_cell_at -/
abbrev N_law_cell_at : List Str := ["script", "k"]
theorem sc_law_cell_at : FnScope N_law_cell_at ["script", "k"] (defScope st_law_cell_at) := ⟨rfl, rfl, rfl, by decide +kernel, rfl, by decide +kernel, by decide +kernel⟩
/-- a cell of the script, nought beyond -/
def cellAt (ns : List Int) (k : Int) : Int := if k < (ns.length : Int) then ns.getD k.toNat 0 else 0
def spCellAt (K : PySem.W.Frag) : Sp := fun vs H Q _ => ∃ (a : Addr) (ns : List Int) (k : Int), vs = [.ref a, .int k] ∧ SqL K H a (ns.map V.int) ∧ 0 ≤ k ∧ Q (.int (cellAt ns k)) H
section
variable {P : Program} {w : World} {K : PySem.W.Frag} {mg : Str → Option Value} {base : Heap}
theorem kn_law_cell_at (D : Df K mg "_law_cell_at" st_law_cell_at ["script", "k"]) (B : Bl mg) : Kn P w K mg base CX0 1 "_law_cell_at" ["script", "k"] (spCellAt K) := by
  refine D.kn sc_law_cell_at (fun vs H Q E h => ?_) (fun f cdv A outer s H vs Q E hr h => ?_)
  · obtain ⟨a, ns, k, rfl, _⟩ := h
    rfl
  obtain ⟨a, ns, k, rfl, hS, h0, q⟩ := h
  refine ⟨_, (pss_cons (ps_if (pt_cmpR op_lt (pv 1) (pe_callB call_len_seq (by rfl) B.len_ (by decide +kernel) (pa_cons (pv 0) pa_nil)) (nomark _))
        (pss_one (ps_ret (pe_ix ix_list (pv 0) (pv 1) (fun _ _ => rfl))))
        pss_nil)
      (pss_one (ps_ret pe_int))), ?_⟩
  refine ⟨_, rfl, _, rfl, a, _, rfl, .inl hS, _, _, rfl, rfl, _, rfl, ite2 (fun c => ?_) (fun c => ?_)⟩
  · have c' : k < ((ns.map V.int).length : Int) := of_decide_eq_true c
    rw [ints_len] at c'
    have hk : k.toNat < ns.length := by omega
    refine ⟨_, rfl, _, rfl, a, _, k, _, rfl, rfl, hS, at_ints h0 (List.getElem?_eq_getElem hk), ?_⟩
    have e : cellAt ns k = ns[k.toNat] := by
      unfold cellAt
      rw [if_pos c', List.getD_eq_getElem?_getD, List.getElem?_eq_getElem hk]
      rfl
    rw [← e]
    exact q
  · have c' : ¬ k < ((ns.map V.int).length : Int) := of_decide_eq_false (Bool.eq_false_iff.mpr c)
    rw [ints_len] at c'
    have e : cellAt ns k = 0 := if_neg c'
    rw [e] at q
    exact q
end

/-! ### _law_whole -/
abbrev N_law_whole : List Str := ["found"]
theorem sc_law_whole : FnScope N_law_whole ["found"] (defScope st_law_whole) := ⟨rfl, rfl, rfl, by decide +kernel, rfl, by decide +kernel, by decide +kernel⟩
def spWhole : Sp := fun vs H Q _ => ∃ n : Int, vs = [.int n] ∧ Q (.bl true) H
section
variable {P : Program} {w : World} {K : PySem.W.Frag} {mg : Str → Option Value} {base : Heap}
theorem kn_law_whole (D : Df K mg "_law_whole" st_law_whole ["found"]) (B : Bl mg) : Kn P w K mg base CX0 1 "_law_whole" ["found"] spWhole := by
  refine D.kn sc_law_whole (fun vs H Q E h => ?_) (fun f cdv A outer s H vs Q E hr h => ?_)
  · obtain ⟨a, rfl, _⟩ := h
    rfl
  obtain ⟨n, rfl, q⟩ := h
  refine ⟨_, (pss_one (ps_ret (pe_and (pe_callB call_isi (by rfl) B.isinstance_ (by decide +kernel) (pa_cons (pv 0) (pa_cons (pe_bltn (v := .ty "int") (by rfl) B.int_ (by decide +kernel) rfl) pa_nil))) (pe_one (pe_not (pe_callB call_isi (by rfl) B.isinstance_ (by decide +kernel) (pa_cons (pv 0) (pa_cons (pe_bltn (v := .ty "bool") (by rfl) B.bool_ (by decide +kernel) rfl) pa_nil)))))))), ?_⟩
  refine ⟨_, rfl, _, _, _, _, true, rfl, .ty _, .base (.int _), kit_ty (by decide +kernel), true, rfl, iteT ?_⟩
  exact ⟨_, rfl, _, _, _, _, false, rfl, .ty _, .base (.int _), kit_ty (by decide +kernel), false, rfl, q⟩
end

-- LAWTYPES script=l size=i found=b told=t odd=i number=i left=i place=i
/-! ### the law -/
abbrev lawLevel : Nat := 4
abbrev N_law : List Str := ["script", "size", "found", "told", "odd", "number", "left", "place"]
theorem sc_law : FnScope N_law ["script"] (defScope st_law) := ⟨rfl, rfl, rfl, by decide +kernel, rfl, by decide +kernel, by decide +kernel⟩
def spLaw (K : PySem.W.Frag) : Sp := fun vs H Q _ => ∃ (a : Addr) (ns : List Int), vs = [.ref a] ∧ SqL K H a (ns.map V.int) ∧ ns.length ≤ 63 ∧ ∀ H', Q (.bl true) H'
/-- the odd ones of the first n numbers from lo on -/
def odds (lo : Int) : Nat → List Int
  | 0 => []
  | n + 1 => if (lo + (n : Int)) % 2 = 1 then odds lo n ++ [lo + (n : Int)] else odds lo n
theorem odds_le (lo : Int) : ∀ n : Nat, (odds lo n).length ≤ n
  | 0 => Nat.le_refl _
  | n + 1 => by
    have ih := odds_le lo n
    unfold odds
    split
    · rw [List.length_append, List.length_singleton]
      omega
    · omega
theorem odds_one : ∀ n : Nat, (odds 1 n).length = (n + 1) / 2
  | 0 => rfl
  | n + 1 => by
    have ih := odds_one n
    unfold odds
    split
    · rw [List.length_append, List.length_singleton]
      omega
    · omega
theorem odds_nought : ∀ n : Nat, (odds 0 n).length = n / 2
  | 0 => rfl
  | n + 1 => by
    have ih := odds_nought n
    unfold odds
    split
    · rw [List.length_append, List.length_singleton]
      omega
    · omega
section
variable {P : Program} {w : World} {K : PySem.W.Frag} {mg : Str → Option Value} {base : Heap}
theorem ok_law {C f : Addr} {fd : FuncData} (F : Fun K "law" "law" st_law f fd) (B : Bl mg) (K_law_cell_at : Kn P w K mg base CX0 1 "_law_cell_at" ["script", "k"] (spCellAt K)) (K_law_whole : Kn P w K mg base CX0 1 "_law_whole" ["found"] spWhole)
    (K_can_be : Kn P w K mg base (L2.CX P w) 2 "can_be" ["size"] (spCanBe C)) (K_reckoned : Kn P w K mg base (L2.CX P w) 2 "reckoned" ["size"] (spReckoned C)) : FnOk P w K mg base CX0 4 f fd ["script"] (spLaw K) := by
  refine F.ok sc_law (fun vs H Q E h => ?_) (fun cdv A outer s H vs Q E hr h => ?_)
  · obtain ⟨a, ns, rfl, _⟩ := h
    rfl
  obtain ⟨a, ns, rfl, hS, hlen, q⟩ := h
  refine ⟨_, (pss_cons (ps_set (i := 1) sc_law.nd rfl (Or.inl rfl) (pe_op op_add pe_int (pe_op op_mod (pe_k0 K_law_cell_at (hr.mono (by decide)) (by rfl) (pa_cons (pv 0) (pa_cons pe_int pa_nil))) pe_int)))
      (pss_cons (ps_set (i := 2) sc_law.nd rfl (Or.inl rfl) (pe_kL K_can_be (hr.mono (by decide)) (by rfl) (pa_cons (pv 1) pa_nil)))
      (pss_cons (ps_set (i := 3) sc_law.nd rfl (Or.inl rfl) (pe_kL K_reckoned (hr.mono (by decide)) (by rfl) (pa_cons (pv 1) pa_nil)))
      (pss_cons (ps_if (PW.pt (pw_or (pt_not (pt_val (pe_callB call_isi (by rfl) B.isinstance_ (by decide +kernel) (pa_cons (pv 2) (pa_cons (pe_bltn (v := .ty "bool") (by rfl) B.bool_ (by decide +kernel) rfl) pa_nil))))) (pw_or1 (pt_cmpR op_ne (pv 2) (pe_cmpR op_in_seq (pe_op op_mod (pv 1) pe_int) (pe_lst (pa_cons pe_int (pa_cons pe_int pa_nil))) rfl) (nomark _)))))
        (pss_one (ps_ret pe_bl))
        pss_nil)
      (pss_cons (ps_if (PW.pt (pw_or (pt_not (pt_val (pe_callB call_isi (by rfl) B.isinstance_ (by decide +kernel) (pa_cons (pv 3) (pa_cons (pe_bltn (v := .ty "tuple") (by rfl) B.tuple_ (by decide +kernel) rfl) pa_nil))))) (pw_or (pt_cmpR op_ne (pe_callB call_len_seq (by rfl) B.len_ (by decide +kernel) (pa_cons (pv 3) pa_nil)) pe_int (nomark _)) (pw_or (pt_not (pt_val (pe_k0 K_law_whole (hr.mono (by decide)) (by rfl) (pa_cons (pe_ix ix_tup (pv 3) pe_int (fun _ _ => rfl)) pa_nil)))) (pw_or1 (pt_not (pt_val (pe_k0 K_law_whole (hr.mono (by decide)) (by rfl) (pa_cons (pe_ix ix_tup (pv 3) pe_int (fun _ _ => rfl)) pa_nil)))))))))
        (pss_one (ps_ret pe_bl))
        pss_nil)
      (pss_cons (ps_set (i := 4) sc_law.nd rfl (Or.inl rfl) (pe_callB call_len_seq (by rfl) B.len_ (by decide +kernel) (pa_cons (pe_lc (own := [("number", 5)]) (g := gName 5) rfl sc_law.nd (pi_range2 (by rfl) B.range_ (pa_cons pe_int (pa_cons (pe_op op_add (pv 1) pe_int) pa_nil))) (blkOk_by (own := [("number", 5)]) (N := N_law) (sc := defScope st_law) (by decide +kernel)) (fun _ _ _ _ _ => pg_name (i := 5) sc_law.nd rfl (Or.inl rfl)) (fun _ _ _ _ _ => pts_one (pt_cmpR op_eq (pe_op op_mod (pv 5) pe_int) pe_int (nomark _))) (fun _ _ _ _ _ => pv 5)) pa_nil)))
      (pss_cons (ps_set (i := 6) sc_law.nd rfl (Or.inl rfl) (pe_op op_sub (pe_callB call_len_seq (by rfl) B.len_ (by decide +kernel) (pa_cons (pe_lc (own := [("place", 7)]) (g := gName 7) rfl sc_law.nd (pi_range1 (by rfl) B.range_ (pa_cons (pe_op op_mul pe_int (pv 1)) pa_nil)) (blkOk_by (own := [("place", 7)]) (N := N_law) (sc := defScope st_law) (by decide +kernel)) (fun _ _ _ _ _ => pg_name (i := 7) sc_law.nd rfl (Or.inl rfl)) (fun _ _ _ _ _ => pts_one (pt_cmpR op_eq (pe_op op_mod (pv 7) pe_int) pe_int (nomark _))) (fun _ _ _ _ _ => pv 7)) pa_nil)) (pv 4)))
      (pss_one (ps_ret (pe_and (pe_cmpR (op_eqD hr.units) (pv 3) (pe_tup (pa_cons (pv 4) (pa_cons (pv 6) pa_nil))) (nomark _)) (pe_one (pe_cmpR op_eq (pv 2) (pe_cmpR op_eq (pe_op op_mod (pe_ix ix_tup (pv 3) pe_int (fun _ _ => rfl)) pe_int) pe_int (nomark _)) (nomark _))))))))))))), ?_⟩
  refine ⟨_, rfl, a, ns, 0, rfl, hS, Int.le_refl 0, _, _, rfl, rfl, (by decide : (0 : Int) < 400), _, _, rfl, rfl, ?_⟩
  obtain ⟨size, hz, z1⟩ : ∃ size : Int, (1 : Int) + cellAt ns 0 % 400 = size ∧ 1 ≤ size ∧ size ≤ 400 := ⟨_, rfl, by omega, by omega⟩
  simp only [hz]
  -- found, told
  refine ⟨_, rfl, size, rfl, fun c => absurd z1 c, fun _ => ?_⟩
  refine ⟨_, rfl, size, rfl, fun c => absurd z1 c, fun _ p np => ?_⟩
  generalize hHp : upd H p (.tup [V.int ((size + 1) / 2), V.int (size - (size + 1) / 2)]) = H1
  have s1 : Same H H1 := hHp ▸ same_upd np
  have e1 : H1 p = some (.tup ([(size + 1) / 2, size - (size + 1) / 2].map V.int)) := hHp ▸ upd_same
  clear hHp
  -- isinstance(found, bool), found != (size % 4 in [0, 1])
  refine ⟨_, rfl, _, _, _, _, true, rfl, .ty _, .base (.bl _), kit_ty (by decide +kernel), true, rfl, iteF ?_⟩
  refine ⟨_, rfl, _, rfl, _, _, rfl, rfl, (by decide : (0 : Int) < 4), small (show 2 ≤ 16777216 by decide), fun l nl => ⟨_, _, rfl, .inl (SqL.of upd_same), rfl, rfl, rfl, _, rfl, iteFa ?_ ?_⟩⟩
  · have e : inV (V.int (size % 4)) [V.int 0, V.int 1] = decide (size % 4 < 2) := by
      have h : size % 4 = 0 ∨ size % 4 = 1 ∨ size % 4 = 2 ∨ size % 4 = 3 := by omega
      rcases h with h | h | h | h <;> rw [h] <;> rfl
    rw [Bool.not_eq_false']
    exact decide_eq_true (congrArg V.bl e.symm)
  generalize hHl : upd H1 l (.lst [V.int 0, V.int 1]) = H2
  have s2 : Same H1 H2 := hHl ▸ same_upd nl
  have e2 := s2 _ _ e1
  clear hHl
  -- isinstance(told, tuple), len(told), the two numbers
  refine ⟨_, rfl, _, _, _, _, true, rfl, .ty _, .base (.tup e2), kit_ty (by decide +kernel), true, rfl, iteF ?_⟩
  refine ⟨_, rfl, p, _, rfl, .inr (SqT.of e2), rfl, _, rfl, iteF ?_⟩
  refine ⟨_, rfl, p, _, _, _, rfl, rfl, SqT.of e2, atI_nat (j := 0) rfl, _, rfl, true, rfl, iteF ?_⟩
  refine ⟨_, rfl, p, _, _, _, rfl, rfl, SqT.of e2, atI_nat (j := 1) rfl, _, rfl, true, rfl, iteF ?_⟩
  -- odd
  refine ⟨_, rfl, _, _, rfl, rfl, 1, size + 1, rfl, ⟨by omega, by omega, by omega, by omega⟩, fun D nD => ?_⟩
  have ho : ∀ lo : Int, ∀ i : Nat, i ≤ 800 → ((odds lo i).map V.int).length < sizeLine := fun lo i hi => by
    have := odds_le lo i
    rw [List.length_map]
    exact smaller (by omega)
  refine lc_range (lo := 1) (n := (size + 1 - 1).toNat) (fun i H' => Same H2 H' ∧ H' D = some (.lst ((odds 1 i).map V.int))) ⟨same_upd nD, upd_same⟩ ?_ ?_
  · rintro i H3 hi ⟨s3, e3⟩
    refine ⟨rfl, _, rfl, _, _, rfl, rfl, (by decide : (0 : Int) < 2), rfl, _, rfl, ite2 (fun c => ?_) (fun c => ?_)⟩
    · have c' : ((1 : Int) + (i : Int)) % 2 = 1 := V.int.inj (of_decide_eq_true c)
      refine ⟨_, rfl, _, e3, ho 1 i (by omega), s3.own nD, ?_⟩
      rw [upd_same]
      show _ = some (HO.lst (List.map V.int (if (1 + (i : Int)) % 2 = 1 then odds 1 i ++ [1 + (i : Int)] else odds 1 i)))
      rw [if_pos c', List.map_append]
      rfl
    · have c' : ¬ ((1 : Int) + (i : Int)) % 2 = 1 := fun z => c (decide_eq_true (congrArg V.int z))
      refine ⟨s3, ?_⟩
      show _ = some (HO.lst (List.map V.int (if (1 + (i : Int)) % 2 = 1 then odds 1 i ++ [1 + (i : Int)] else odds 1 i)))
      rw [if_neg c']
      exact e3
  rintro H3 ⟨s3, e3⟩
  have hl3 : ((odds 1 (size + 1 - 1).toNat).map V.int).length = ((size + 1) / 2).toNat := by
    rw [List.length_map, odds_one]
    omega
  refine ⟨D, _, rfl, .inl (SqL.of e3), ?_⟩
  rw [hl3]
  -- left
  refine ⟨_, rfl, _, _, rfl, rfl, .inl ⟨by decide, by decide⟩, 2 * size, rfl, by omega, by omega, fun D2 nD2 => ?_⟩
  refine lc_range (lo := 0) (n := (2 * size).toNat) (fun i H' => Same H3 H' ∧ H' D2 = some (.lst ((odds 0 i).map V.int))) ⟨same_upd nD2, upd_same⟩ ?_ ?_
  · rintro i H4 hi ⟨s4, e4⟩
    refine ⟨rfl, _, rfl, _, _, rfl, rfl, (by decide : (0 : Int) < 2), rfl, _, rfl, ite2 (fun c => ?_) (fun c => ?_)⟩
    · have c' : ((0 : Int) + (i : Int)) % 2 = 1 := V.int.inj (of_decide_eq_true c)
      refine ⟨_, rfl, _, e4, ho 0 i (by omega), s4.own nD2, ?_⟩
      rw [upd_same]
      show _ = some (HO.lst (List.map V.int (if (0 + (i : Int)) % 2 = 1 then odds 0 i ++ [0 + (i : Int)] else odds 0 i)))
      rw [if_pos c', List.map_append]
      rfl
    · have c' : ¬ ((0 : Int) + (i : Int)) % 2 = 1 := fun z => c (decide_eq_true (congrArg V.int z))
      refine ⟨s4, ?_⟩
      show _ = some (HO.lst (List.map V.int (if (0 + (i : Int)) % 2 = 1 then odds 0 i ++ [0 + (i : Int)] else odds 0 i)))
      rw [if_neg c']
      exact e4
  rintro H4 ⟨s4, e4⟩
  have hl4 : ((odds 0 (2 * size).toNat).map V.int).length = size.toNat := by
    rw [List.length_map, odds_nought]
    omega
  refine ⟨D2, _, rfl, .inl (SqL.of e4), ?_⟩
  rw [hl4]
  refine ⟨_, rfl, _, _, rfl, rfl, ?_⟩
  -- the last test
  have x1 : (((size + 1) / 2).toNat : Int) = (size + 1) / 2 := by omega
  have x2 : (size.toNat : Int) = size := by omega
  rw [x1, x2]
  have e5 : H4 p = some (.tup ([(size + 1) / 2, size - (size + 1) / 2].map V.int)) := s4 _ _ (s3 _ _ e2)
  refine ⟨_, rfl, _, rfl, _, rfl, small (show 2 ≤ 16777216 by decide), fun t nt => ?_⟩
  refine eqD_tups (xs := [(size + 1) / 2, size - (size + 1) / 2]) (ys := [(size + 1) / 2, size - (size + 1) / 2]) (SqT.of ((same_upd nt) _ _ e5)) (SqT.of upd_same) ⟨_, rfl, iteTr (decide_eq_true rfl) ?_⟩
  refine ⟨_, rfl, _, rfl, p, _, _, _, rfl, rfl, SqT.of ((same_upd nt) _ _ e5), atI_nat (j := 1) rfl, _, _, rfl, rfl, (by decide : (0 : Int) < 2), rfl, rfl, ?_⟩
  have x3 : decide (V.bl (decide (size % 4 < 2)) = V.bl (decide (V.int ((size - (size + 1) / 2) % 2) = V.int 0))) = true := by
    refine decide_eq_true (congrArg V.bl ?_)
    rw [decide_eq_decide]
    constructor
    · intro z
      exact congrArg V.int (by omega)
    · intro z
      have := V.int.inj z
      omega
  show Q (V.bl (decide (V.bl (decide (size % 4 < 2)) = V.bl (decide (V.int ((size - (size + 1) / 2) % 2) = V.int 0))))) _
  rw [x3]
  exact q _
end
-- CLOSED
/-! ### what the top has written -/
theorem all_mk {l : PySem.W.OpenLaw} {w : World} {K : PySem.W.Frag} {h : Heap} {mg : Str → Option Value} {fa : Addr} (X : K.In h) (G : h.Ns mainGlobals mg) (hfa : mg "law" = some (.ref fa))
    {f0 : Addr} {od0 an0 : Option Addr} {sl0 : Array (Option Value)} {oc0 kV0 dc0 pm0 cd0 ct0 : Value}
    {f1 : Addr} {od1 an1 : Option Addr} {sl1 : Array (Option Value)} {oc1 kV1 dc1 pm1 cd1 ct1 : Value}
    {f2 : Addr} {od2 an2 : Option Addr} {sl2 : Array (Option Value)} {oc2 kV2 dc2 pm2 cd2 ct2 : Value}
    {f3 : Addr} {od3 an3 : Option Addr} {sl3 : Array (Option Value)} {oc3 kV3 dc3 pm3 cd3 ct3 : Value}
    {f4 : Addr} {od4 an4 : Option Addr} {sl4 : Array (Option Value)} {oc4 kV4 dc4 pm4 cd4 ct4 : Value}
    {f5 : Addr} {od5 an5 : Option Addr} {sl5 : Array (Option Value)} {oc5 kV5 dc5 pm5 cd5 ct5 : Value}
    {tk0 : Tok}
    {C0 : Addr}
    (a0 : PySem.W.nsIn K mainGlobals "asked_size" = some (some (.ref f0))) (l0 : K.lookup f0 = some ⟨oc0, od0, .func (PySem.W.fnOf "asked_size" "asked_size" (defArgs st_asked_size) (defBody st_asked_size) (defScope st_asked_size) .none kV0 dc0 pm0 an0 cd0 ct0), sl0⟩) (c0 : PySem.W.codeIn K cd0 "asked_size" = true) (k0 : PySem.W.keepIn K (.ref f0) = true)
    (a1 : PySem.W.nsIn K mainGlobals "can_be" = some (some (.ref f1))) (l1 : K.lookup f1 = some ⟨oc1, od1, .func (PySem.W.fnOf "can_be" "can_be" (defArgs st_can_be) (defBody st_can_be) (defScope st_can_be) .none kV1 dc1 pm1 an1 cd1 ct1), sl1⟩) (c1 : PySem.W.codeIn K cd1 "can_be" = true) (k1 : PySem.W.keepIn K (.ref f1) = true)
    (a2 : PySem.W.nsIn K mainGlobals "reckoned" = some (some (.ref f2))) (l2 : K.lookup f2 = some ⟨oc2, od2, .func (PySem.W.fnOf "reckoned" "reckoned" (defArgs st_reckoned) (defBody st_reckoned) (defScope st_reckoned) .none kV2 dc2 pm2 an2 cd2 ct2), sl2⟩) (c2 : PySem.W.codeIn K cd2 "reckoned" = true) (k2 : PySem.W.keepIn K (.ref f2) = true)
    (a3 : PySem.W.nsIn K mainGlobals "_law_cell_at" = some (some (.ref f3))) (l3 : K.lookup f3 = some ⟨oc3, od3, .func (PySem.W.fnOf "_law_cell_at" "_law_cell_at" (defArgs st_law_cell_at) (defBody st_law_cell_at) (defScope st_law_cell_at) .none kV3 dc3 pm3 an3 cd3 ct3), sl3⟩) (c3 : PySem.W.codeIn K cd3 "_law_cell_at" = true) (k3 : PySem.W.keepIn K (.ref f3) = true)
    (a4 : PySem.W.nsIn K mainGlobals "_law_whole" = some (some (.ref f4))) (l4 : K.lookup f4 = some ⟨oc4, od4, .func (PySem.W.fnOf "_law_whole" "_law_whole" (defArgs st_law_whole) (defBody st_law_whole) (defScope st_law_whole) .none kV4 dc4 pm4 an4 cd4 ct4), sl4⟩) (c4 : PySem.W.codeIn K cd4 "_law_whole" = true) (k4 : PySem.W.keepIn K (.ref f4) = true)
    (a5 : PySem.W.nsIn K mainGlobals "law" = some (some (.ref f5))) (l5 : K.lookup f5 = some ⟨oc5, od5, .func (PySem.W.fnOf "law" "law" (defArgs st_law) (defBody st_law) (defScope st_law) .none kV5 dc5 pm5 an5 cd5 ct5), sl5⟩) (c5 : PySem.W.codeIn K cd5 "law" = true) (k5 : PySem.W.keepIn K (.ref f5) = true)
    (z0 : PySem.W.nsIn K mainGlobals "len" = some none)
    (z1 : PySem.W.nsIn K mainGlobals "range" = some none)
    (z2 : PySem.W.nsIn K mainGlobals "enumerate" = some none)
    (z3 : PySem.W.nsIn K mainGlobals "list" = some none)
    (z4 : PySem.W.nsIn K mainGlobals "reversed" = some none)
    (z5 : PySem.W.nsIn K mainGlobals "sorted" = some none)
    (z6 : PySem.W.nsIn K mainGlobals "tuple" = some none)
    (z7 : PySem.W.nsIn K mainGlobals "min" = some none)
    (z8 : PySem.W.nsIn K mainGlobals "max" = some none)
    (z9 : PySem.W.nsIn K mainGlobals "isinstance" = some none)
    (z10 : PySem.W.nsIn K mainGlobals "int" = some none)
    (z11 : PySem.W.nsIn K mainGlobals "str" = some none)
    (z12 : PySem.W.nsIn K mainGlobals "bool" = some none)
    (z13 : PySem.W.nsIn K mainGlobals "all" = some none)
    (z14 : PySem.W.nsIn K mainGlobals "ValueError" = some none)
    (q0 : PySem.W.nsIn K mainGlobals "MOST" = some (some (.int 400 tk0)))
    (eg0 : PySem.W.nsIn K mainGlobals "NoSize" = some (some (.ref C0))) (ex0 : PySem.W.excIn K C0 [.type "ValueError", .type "Exception", .type "BaseException", .type "object"] "ValueError.__new__" = true) (ee0 : PySem.W.keepIn K (.ref C0) = true) (eb0 : PySem.W.subIn K (.ref C0) (.type "BaseException") = some true) (et0 : PySem.W.typeIn K (.ref C0) = some (.type "type"))
    : ∃ fd : FuncData, (∀ (s : Shared) (v : Value), BindsTo s fd ⟨[v], []⟩ [("script", v)]) ∧ ∀ base : Heap, K.In base → base.Ns mainGlobals mg → FnOk l.prog w K mg base CX0 lawLevel fa fd ["script"] (spLaw K) := by
  have e := hfa.symm.trans (PySem.W.mg_of X G a5)
  cases e
  have B : Bl mg := ⟨PySem.W.mg_none_of X G z0, PySem.W.mg_none_of X G z1, PySem.W.mg_none_of X G z2, PySem.W.mg_none_of X G z3, PySem.W.mg_none_of X G z4, PySem.W.mg_none_of X G z5, PySem.W.mg_none_of X G z6, PySem.W.mg_none_of X G z7, PySem.W.mg_none_of X G z8, PySem.W.mg_none_of X G z9, PySem.W.mg_none_of X G z10, PySem.W.mg_none_of X G z11, PySem.W.mg_none_of X G z12, PySem.W.mg_none_of X G z13, PySem.W.mg_none_of X G z14⟩
  have D_asked_size : Df K mg "asked_size" st_asked_size ["size", "most"] := ⟨f0, _, fun_mk (st := st_asked_size) l0 c0 k0, (fun_mk (st := st_asked_size) l0 c0 k0).binds (ps := ["size", "most"]) (fun _ _ _ _ _ _ us hl => match us, hl with | [_, _], _ => rfl), PySem.W.mg_of X G a0⟩
  have D_can_be : Df K mg "can_be" st_can_be ["size"] := ⟨f1, _, fun_mk (st := st_can_be) l1 c1 k1, (fun_mk (st := st_can_be) l1 c1 k1).binds (ps := ["size"]) (fun _ _ _ _ _ _ us hl => match us, hl with | [_], _ => rfl), PySem.W.mg_of X G a1⟩
  have D_reckoned : Df K mg "reckoned" st_reckoned ["size"] := ⟨f2, _, fun_mk (st := st_reckoned) l2 c2 k2, (fun_mk (st := st_reckoned) l2 c2 k2).binds (ps := ["size"]) (fun _ _ _ _ _ _ us hl => match us, hl with | [_], _ => rfl), PySem.W.mg_of X G a2⟩
  have D_law_cell_at : Df K mg "_law_cell_at" st_law_cell_at ["script", "k"] := ⟨f3, _, fun_mk (st := st_law_cell_at) l3 c3 k3, (fun_mk (st := st_law_cell_at) l3 c3 k3).binds (ps := ["script", "k"]) (fun _ _ _ _ _ _ us hl => match us, hl with | [_, _], _ => rfl), PySem.W.mg_of X G a3⟩
  have D_law_whole : Df K mg "_law_whole" st_law_whole ["found"] := ⟨f4, _, fun_mk (st := st_law_whole) l4 c4 k4, (fun_mk (st := st_law_whole) l4 c4 k4).binds (ps := ["found"]) (fun _ _ _ _ _ _ us hl => match us, hl with | [_], _ => rfl), PySem.W.mg_of X G a4⟩
  have C_MOST := PySem.W.mg_of X G q0
  have X_NoSize : Ec K mg "NoSize" C0 := ⟨PySem.W.mg_of X G eg0, ex0, ee0, eb0, et0⟩
  refine ⟨PySem.W.fnOf "law" "law" (defArgs st_law) (defBody st_law) (defScope st_law) .none kV5 dc5 pm5 an5 cd5 ct5, fun s v => .of_eq rfl, fun base _ _ => ?_⟩
  have F := fun_mk (st := st_law) l5 c5 k5
  have K_asked_size := kn_asked_size (P := l.prog) (w := w) (base := base) D_asked_size X_NoSize
  exact ok_law F B (kn_law_cell_at D_law_cell_at B) (kn_law_whole D_law_whole B) (kn_can_be D_can_be K_asked_size C_MOST) (kn_reckoned D_reckoned K_asked_size C_MOST)
end Sa
open PySem PySem.W PyProof.Rows
set_option maxHeartbeats 0 in
theorem PySem.Challenge.cw_sameapart_k03_which_sizes_holds : PySem.Challenge.rw_sameapart_k03_which_sizes.Holds := by
  w_on; o_law; k_head; (case hw => w_witness2)
  k_fill
  refine L2.walk_of (l := PySem.Challenge.rw_sameapart_k03_which_sizes) (n := 63) (k := Sa.lawLevel) (x := "script") (CX := fun _ => L2.CX0) (sp := fun w => Sa.spLaw _) rfl (by decide) rfl ⟨rfl, by decide, by decide⟩ (fun w h Y => PySem.W.kIn_of Y) ?F (fun _ H a ns hl hO hS => ⟨a, ns, rfl, hS, hl, fun _ => rfl⟩) (fun _ _ _ _ _ h => h)
  case F =>
    intro w mg fa h KX G hmg
    refine' Sa.all_mk KX G hmg ?a0 ?l0 ?c0 ?k0 ?a1 ?l1 ?c1 ?k1 ?a2 ?l2 ?c2 ?k2 ?a3 ?l3 ?c3 ?k3 ?a4 ?l4 ?c4 ?k4 ?a5 ?l5 ?c5 ?k5 ?z0 ?z1 ?z2 ?z3 ?z4 ?z5 ?z6 ?z7 ?z8 ?z9 ?z10 ?z11 ?z12 ?z13 ?z14 ?q0 ?eg0 ?ex0 ?ee0 ?eb0 ?et0
    (case a0 => k_is)
    (case l0 => k_is)
    (case c0 => k_is)
    (case k0 => k_is)
    (case a1 => k_is)
    (case l1 => k_is)
    (case c1 => k_is)
    (case k1 => k_is)
    (case a2 => k_is)
    (case l2 => k_is)
    (case c2 => k_is)
    (case k2 => k_is)
    (case a3 => k_is)
    (case l3 => k_is)
    (case c3 => k_is)
    (case k3 => k_is)
    (case a4 => k_is)
    (case l4 => k_is)
    (case c4 => k_is)
    (case k4 => k_is)
    (case a5 => k_is)
    (case l5 => k_is)
    (case c5 => k_is)
    (case k5 => k_is)
    (case z0 => k_is)
    (case z1 => k_is)
    (case z2 => k_is)
    (case z3 => k_is)
    (case z4 => k_is)
    (case z5 => k_is)
    (case z6 => k_is)
    (case z7 => k_is)
    (case z8 => k_is)
    (case z9 => k_is)
    (case z10 => k_is)
    (case z11 => k_is)
    (case z12 => k_is)
    (case z13 => k_is)
    (case z14 => k_is)
    (case q0 => k_is)
    (case eg0 => k_is)
    (case ex0 => k_exc)
    (case ee0 => k_is)
    (case eb0 => k_is)
    (case et0 => k_is)

