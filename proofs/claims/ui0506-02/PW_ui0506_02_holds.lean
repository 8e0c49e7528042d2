import PyProof.Rows.All
import Wide.All
import OpenK.AllK
import Wide.FinOn
import KE.BitLaws
import KE.KEqSeq
import PyProof.ExcBaseAll.ValueError
import Lean
import PySem.Challenge.RW_ui0506_02
open PySem PySem.W PyProof.Rows PySem.Calls PySem.Spec
set_option Elab.async false
set_option linter.unusedVariables false
set_option maxRecDepth 100000
set_option maxHeartbeats 8000000
set_option genSizeOf false
set_option genInjectivity false
namespace Mine
noncomputable def runQ (p : Program) (w : World) (n₀ : Nat) (ann : Option Value) : Nat → SharedT → Thread → Option SharedT
  | 0, _, _ => none
  | n + 1, s, t => match through t with
    | true => some s
    | false => match Fast.tw6613529449190102663 n₀ ann t with
      | false => none
      | true => match Fast.tw10156331382660048174 (Fast.tw11892475500146522536 Fast.tw14364793385576792824) p w s t with
        | some (s', t') => runQ p w n₀ ann n s' t'
        | none => none
theorem q_den : denote treeTable = Fast.tw11892475500146522536 Fast.tw14364793385576792824 := by
  rw [← Fast.te11892475500146522536, ← Fast.te14364793385576792824]
theorem runQ_of {p : Program} {w : World} {n₀ : Nat} {ann : Option Value} : ∀ {n : Nat} {s s' : SharedT} {t : Thread}, runQ p w n₀ ann n s t = some s' → topRun treeTable p w n₀ ann n s.abs t = some s'.abs
  | 0, _, _, _, h => by cases h
  | n + 1, s, s', t, h => by
    unfold runQ at h
    unfold topRun
    rw [← q_den, ← Fast.te6613529449190102663, ← Fast.te10156331382660048174] at h
    cases ht : through t with
    | true => rw [ht] at h; cases h; rfl
    | false =>
      rw [ht] at h
      cases hk : stepOk n₀ ann t with
      | false => rw [hk] at h; cases h
      | true =>
        rw [hk] at h
        cases hs : stepT (denote treeTable) p w s t with
        | none => rw [hs] at h; cases h
        | some r => obtain ⟨s₂, t₂⟩ := r; rw [hs] at h; rw [stepT_spec hs]; exact runQ_of h
noncomputable def build : List Obj → Nat → BT → Option BT
  | [], _, t => some t
  | o :: r, n, t => match ((t.ins n o).get n).isSome with
    | true => build r (n + 1) (t.ins n o)
    | false => none
theorem build_abs {life : Life} : ∀ {l pre : List Obj} {n : Nat} {t t' : BT}, build l n t = some t' → absHeap t n life = ⟨pre.toArray, life⟩ → absHeap t' (n + l.length) life = ⟨(pre ++ l).toArray, life⟩
  | [], pre, n, t, t', h, e => by cases h; simpa using e
  | o :: r, pre, n, t, t', h, e => by
    unfold build at h
    cases hk : ((t.ins n o).get n).isSome with
    | false => rw [hk] at h; cases h
    | true =>
      rw [hk] at h
      have h1 := absHeap_ins (life := life) hk
      rw [e] at h1
      have h2 := build_abs (pre := pre ++ [o]) h (h1.trans (by simp [Heap.push]))
      have e1 : n + 1 + r.length = n + (o :: r).length := by simp; omega
      rw [e1] at h2
      rw [h2]
      simp
theorem build_heap {h : Heap} {t : BT} (e : build h.objs.toList 0 .nil = some t) : absHeap t h.objs.size h.life = h := by
  have := build_abs (life := h.life) (pre := []) e (by simp [absHeap, BT.list])
  simpa using this
theorem left_quick {p q : Program} {loose : List Str} {Xt : Shared → Bool} {α : Type} {Yf : Shared → α} {Ya : World → α} {N : Nat} {g0 : Bool}
    (h : ∀ w : World, ((Fast.tw10274390034422433532 Fast.tw14364793385576792824 (opening p) w N (Fast.tw1435165496053646825 (opening p)).1 (Fast.tw1435165496053646825 (opening p)).2).bind (Fast.tw14289696077712309145 p)).bind (fun s₀ =>
      match s₀.heap.isNs mainGlobals && s₀.gens.size == 0 with
      | true => (build s₀.heap.objs.toList 0 .nil).bind fun T => (runQ p w s₀.heap.objs.size (Fast.tw8920871248978507458 s₀.heap mainGlobals "__annotations__") N ⟨T, s₀.heap.objs.size, s₀.heap.life, s₀.gens, s₀.drawn, s₀.toks, s₀.os⟩ (topStub p)).bind fun S₁ =>
        match staticsOk (Fast.tw5923862056798008813 p.main.body) s₀.heap S₁.abs.heap && namesBound p S₁.abs.heap && gensDone S₁.abs && laidKept s₀.heap S₁.abs.heap with
        | true => some (Fast.tw4187177175401517315 q loose (Fast.tw5923862056798008813 p.main.body) Xt g0 S₁.abs, Yf S₁.abs)
        | false => none
      | false => none) = some (openGood q loose, Ya w)) : LeftO p q loose Xt Yf Ya N g0 := by
  intro w
  have h := h w
  rw [← Fast.te10274390034422433532, ← Fast.te14364793385576792824, ← Fast.te1435165496053646825, ← Fast.te14289696077712309145, ← Fast.te8920871248978507458, ← Fast.te5923862056798008813, ← Fast.te4187177175401517315] at h
  obtain ⟨s₀, h0, h⟩ := Option.bind_eq_some_iff.mp h
  unfold openEnds fencedOpening
  rw [h0]
  show Option.map _ (topFrom treeTable p w N s₀) = _
  unfold topFrom
  cases hg : s₀.heap.isNs mainGlobals && s₀.gens.size == 0 with
  | false => rw [hg] at h; cases h
  | true =>
    rw [hg] at h
    obtain ⟨T, hT, h⟩ := Option.bind_eq_some_iff.mp h
    obtain ⟨S₁, hS, h⟩ := Option.bind_eq_some_iff.mp h
    have e := runQ_of hS
    have ea : (SharedT.mk T s₀.heap.objs.size s₀.heap.life s₀.gens s₀.drawn s₀.toks s₀.os).abs = s₀ := by
      unfold SharedT.abs
      rw [build_heap hT]
    rw [ea] at e
    rw [e]
    show Option.map _ (match staticsOk (importedModules p.main.body) s₀.heap S₁.abs.heap && namesBound p S₁.abs.heap && gensDone S₁.abs && laidKept s₀.heap S₁.abs.heap with | true => some S₁.abs | false => none) = _
    cases hk : staticsOk (importedModules p.main.body) s₀.heap S₁.abs.heap && namesBound p S₁.abs.heap && gensDone S₁.abs && laidKept s₀.heap S₁.abs.heap with
    | false => rw [hk] at h; cases h
    | true => rw [hk] at h; exact h
noncomputable def qv : Program := view PySem.Challenge.pw_ui0506_02 [1, 2, 3, 4, 5, 7, 8, 9, 10, 11, 12, 13, 15]
noncomputable def qlo : List PySem.Str := []
noncomputable def qlv : List (PySem.Str × WData) := []
set_option hygiene false in
local macro_rules | `(tactic| o_head $H) => `(tactic| (
  refine PySem.W.holds_open (q := Mine.qv) (loose := Mine.qlo) (Xt := fun s => xlAt Mine.qv Mine.qlv s && recOk [] s) (XP := XL Mine.qv Mine.qlv) (Yf := Hook.obs $H) (Ya := Hook.val $H) (YP := Hook.says $H) (N := 1096) ?hl (Hook.of $H) (Hook.keeps $H) (fun s e => xl_of s (Bool.and_eq_true_iff.mp e).1) XL.keeps (by rfl) (by rfl) (by rfl) (fun s e => recFacts_of (Bool.and_eq_true_iff.mp e).2) (by rfl) (by first | assumption | decide +kernel) (by decide +kernel) ⟨rfl, rfl, rfl, rfl, rfl, by decide +kernel⟩ ?hw ?hc
  (case hl => (refine Mine.left_quick ?_; intro w; kernel_rfl))))
open_top hd for PySem.Challenge.rw_ui0506_02
inductive MV where
  | none
  | bool (b : Bool)
  | int (i : Int)
  | str (x : Str)
  | ref (a : Nat)
  | glob (a : Addr)
inductive MO where
  | list (xs : List MV)
  | tup (xs : List MV)
  | inst (c : Addr) (d : Nat)
  | ns (fs : List (Str × MV))
  | dI (es : List (Int × MV))
  | dS (es : List (Str × MV))
  | exc (c : Addr) (t : Nat)
  | setN (n : Nat)
  | junk
abbrev MH := List MO
abbrev ML := List (Option MV)
noncomputable def VR (ρ : List Addr) : MV → Value → Prop
  | .none, v => v = .none
  | .bool b, v => v = .bool b
  | .int i, v => ∃ t, v = .int i t
  | .str x, v => ∃ t, v = .str x t
  | .ref a, v => ∃ x, ρ[a]? = some x ∧ v = .ref x
  | .glob a, v => v = .ref a
noncomputable def VRs (ρ : List Addr) : List MV → List Value → Prop
  | [], vs => vs = []
  | m :: ms, vs => ∃ v r, vs = v :: r ∧ VR ρ m v ∧ VRs ρ ms r
noncomputable def NR (P : Params) (ρ : List Addr) : List (Str × MV) → List DictEntry → Prop
  | [], es => es = []
  | (x, m) :: fs, es => ∃ t v r, es = ⟨PyData.keyHash P x, .str x t, v⟩ :: r ∧ VR ρ m v ∧ NR P ρ fs r
noncomputable def PR {K : Type} (ρ : List Addr) : List (K × MV) → List (K × Value) → Prop
  | [], es => es = []
  | (k, m) :: fs, es => ∃ v r, es = (k, v) :: r ∧ VR ρ m v ∧ PR ρ fs r
noncomputable def OR (prog : Program) (w : World) (ρ : List Addr) : MO → Obj → Prop
  | .list xs, o => ∃ vs n, VRs ρ xs vs ∧ o = listOf vs.toArray n
  | .tup xs, o => ∃ vs n, VRs ρ xs vs ∧ o = { cls := .type "tuple", data := .seq vs.toArray n }
  | .inst c d, o => ∃ x, ρ[d]? = some x ∧ o = instObj c x
  | .ns fs, o => ∃ es n, NR w.params ρ fs es ∧ o = dictOf es n
  | .dI fs, o => ∃ kvs, PR ρ fs kvs ∧ o.IsDictOf (intKind prog w) kvs
  | .dS fs, o => ∃ kvs, PR ρ fs kvs ∧ o.IsDictOf (strKind prog w) kvs
  | .exc c d, o => ∃ x vs, ρ[d]? = some x ∧ o.cls = .ref c ∧ o.data = .fields vs ∧ vs[0]? = some (.ref x)
  | .setN n, o => ∃ S, o.SetObjOf (intKind prog w) S n
  | .junk, _ => True
theorem get_mono {ρ t : List Addr} {a : Nat} {x : Addr} (h : ρ[a]? = some x) : (ρ ++ t)[a]? = some x := by
  rw [List.getElem?_append_left (List.getElem?_eq_some_iff.mp h).1]; exact h
theorem VR.mono {ρ t : List Addr} {m : MV} {v : Value} (h : VR ρ m v) : VR (ρ ++ t) m v := by
  cases m <;> try exact h
  obtain ⟨x, hx, e⟩ := h
  exact ⟨x, get_mono hx, e⟩
theorem VRs.mono {ρ t : List Addr} : ∀ {ms : List MV} {vs : List Value}, VRs ρ ms vs → VRs (ρ ++ t) ms vs
  | [], _, h => h
  | _ :: _, _, ⟨v, r, e, h1, h2⟩ => ⟨v, r, e, h1.mono, h2.mono⟩
theorem NR.mono {P : Params} {ρ t : List Addr} : ∀ {fs : List (Str × MV)} {es : List DictEntry}, NR P ρ fs es → NR P (ρ ++ t) fs es
  | [], _, h => h
  | (_, _) :: _, _, ⟨k, v, r, e, h1, h2⟩ => ⟨k, v, r, e, h1.mono, h2.mono⟩
theorem PR.mono {K : Type} {ρ t : List Addr} : ∀ {fs : List (K × MV)} {es : List (K × Value)}, PR ρ fs es → PR (ρ ++ t) fs es
  | [], _, h => h
  | (_, _) :: _, _, ⟨v, r, e, h1, h2⟩ => ⟨v, r, e, h1.mono, h2.mono⟩
theorem OR.mono {prog : Program} {w : World} {ρ t : List Addr} {m : MO} {o : Obj} (h : OR prog w ρ m o) : OR prog w (ρ ++ t) m o := by
  cases m with
  | list xs => obtain ⟨vs, n, h, e⟩ := h; exact ⟨vs, n, h.mono, e⟩
  | tup xs => obtain ⟨vs, n, h, e⟩ := h; exact ⟨vs, n, h.mono, e⟩
  | inst c d => obtain ⟨x, hx, e⟩ := h; exact ⟨x, get_mono hx, e⟩
  | ns fs => obtain ⟨es, n, h, e⟩ := h; exact ⟨es, n, h.mono, e⟩
  | dI fs => obtain ⟨es, h, e⟩ := h; exact ⟨es, h.mono, e⟩
  | dS fs => obtain ⟨es, h, e⟩ := h; exact ⟨es, h.mono, e⟩
  | exc c d => obtain ⟨x, vs, h, e⟩ := h; exact ⟨x, vs, get_mono h, e⟩
  | setN n => exact h
  | junk => trivial
theorem VRs.length {ρ : List Addr} : ∀ {ms : List MV} {vs : List Value}, VRs ρ ms vs → vs.length = ms.length
  | [], _, h => by rw [h]; rfl
  | _ :: _, _, ⟨v, r, e, _, h2⟩ => by rw [e, List.length_cons, List.length_cons, h2.length]
theorem VRs.get {ρ : List Addr} : ∀ {ms : List MV} {vs : List Value} {i : Nat} {m : MV}, VRs ρ ms vs → ms[i]? = some m → ∃ v, vs[i]? = some v ∧ VR ρ m v
  | [], _, _, _, _, e => by simp at e
  | a :: ms, _, 0, m, ⟨v, r, e, h1, _⟩, hi => by
    subst e
    simp at hi
    subst hi
    exact ⟨v, rfl, h1⟩
  | a :: ms, _, i + 1, m, ⟨v, r, e, _, h2⟩, hi => by
    subst e
    simp at hi
    obtain ⟨u, hu, hr⟩ := h2.get hi
    exact ⟨u, by simpa using hu, hr⟩
theorem VRs.append {ρ : List Addr} : ∀ {ms ms' : List MV} {vs vs' : List Value}, VRs ρ ms vs → VRs ρ ms' vs' → VRs ρ (ms ++ ms') (vs ++ vs')
  | [], _, _, _, h, h' => by rw [h]; exact h'
  | _ :: _, _, _, _, ⟨u, r, e, h1, h2⟩, h' => by subst e; exact ⟨u, r ++ _, rfl, h1, h2.append h'⟩
structure Cx where
  prog : Program
  w : World
  A : Around
  env : Env
  h₀ : Heap
  L : Addr
  /-- in a comprehension: what the frame's names hold, and the cells and names around it -/
  fm : Option ((Str → Option Value) × List (Addr × Obj))
  /-- the frames below: their names' objects, up to slots -/
  fr : List (Addr × Obj)
  /-- further objects that stay -/
  xt : List (Addr × Obj)
  /-- what must hold where an exception leaves -/
  X : Addr → List MV → ML → MH → Prop
  /-- the names, by their places; the scope that says their kinds -/
  nm : List Str
  sc : Scope
noncomputable def Led (h₀ : Heap) (L : Addr) (prog : Program) (w : World) (ml : Str → Option Value) (xs : List (Addr × Obj)) (ρ : List Addr) (H : MH) (h : Heap) : Prop :=
  Fr h₀ L h ml ∧ ∃ os : List Obj, os.length = H.length ∧ ρ.length = H.length ∧
    (∀ (i : Nat) (o : MO), H[i]? = some o → ∃ x, os[i]? = some x ∧ OR prog w ρ o x) ∧
    News h₀ L h (xs ++ ρ.zip os) ∧ (xs.map (·.1) ++ ρ).Nodup
noncomputable def Own (c : Cx) (mr ml : Str → Option Value) (ex : List (Addr × Obj)) : Prop :=
  match c.fm with
  | none => c.env.locals = c.L ∧ (∀ x, c.env.kindOf x = some .local → ml x = mr x) ∧
      ∀ x, c.env.kindOf x = some .cell ∨ c.env.kindOf x = some .free → ∃ a o, c.env.cells.lookup x = some a ∧ (a, o) ∈ ex ∧ o.data = .cell (mr x)
  | some (f, ox) => ml = f ∧ (∃ oC mC, ex = (c.env.locals, oC) :: ox ∧ LCg.NsObj oC mC ∧ ∀ x, c.env.kindOf x = some .local → mC x = mr x) ∧
      ∀ x, c.env.kindOf x = some .cell ∨ c.env.kindOf x = some .free → ∃ a o, c.env.cells.lookup x = some a ∧ (a, o) ∈ ox ∧ o.data = .cell (mr x)
noncomputable def St (c : Cx) (mr : Str → Option Value) (ρ : List Addr) (H : MH) (h : Heap) : Prop :=
  ∃ ml fr ex, Own c mr ml ex ∧ TI.SameUp c.fr fr ∧ Led c.h₀ c.L c.prog c.w ml (fr ++ (c.xt ++ ex)) ρ H h
theorem St.open {c : Cx} {mr : Str → Option Value} {ρ : List Addr} {H : MH} {h : Heap} (S : St c mr ρ H h) :
    ∃ ml xs, Led c.h₀ c.L c.prog c.w ml xs ρ H h ∧ ∀ ρ' H' h', Led c.h₀ c.L c.prog c.w ml xs ρ' H' h' → St c mr ρ' H' h' := by
  obtain ⟨ml, fr, ex, o, u, l⟩ := S
  exact ⟨ml, _, l, fun ρ' H' h' l' => ⟨ml, fr, ex, o, u, l'⟩⟩
theorem St.keep {c : Cx} {mr : Str → Option Value} {ρ : List Addr} {H : MH} {h : Heap} (S : St c mr ρ H h) : ∀ b o, c.h₀.get? b = some o → h.get? b = some o := by
  obtain ⟨ml, xs, l, _⟩ := S.open
  exact l.1.keep
noncomputable def slot : List Str → Str → Option Nat
  | [], _ => none
  | y :: r, x => match slot r x with
    | some i => some (i + 1)
    | none => if y == x then some 0 else none
theorem slot_get : ∀ {nm : List Str} {x : Str} {i : Nat}, slot nm x = some i → nm[i]? = some x
  | [], _, _, h => by cases h
  | y :: r, x, i, h => by
    unfold slot at h
    cases e : slot r x with
    | some j =>
      rw [e] at h
      cases h
      simpa using slot_get e
    | none =>
      rw [e] at h
      simp only at h
      split at h
      · rename_i q
        cases h
        simpa using q
      · cases h
noncomputable def LR (mr : Str → Option Value) (nm : List Str) (ρ : List Addr) (m : ML) : Prop :=
  m.length = nm.length ∧ ∀ i x v, slot nm x = some i → m[i]? = some (some v) → ∃ vr, VR ρ v vr ∧ mr x = some vr
theorem LR.mono {mr : Str → Option Value} {nm : List Str} {ρ t : List Addr} {m : ML} (h : LR mr nm ρ m) : LR mr nm (ρ ++ t) m :=
  ⟨h.1, fun i x v e1 e2 => let ⟨vr, h1, h2⟩ := h.2 i x v e1 e2; ⟨vr, h1.mono, h2⟩⟩
theorem LR.set {mr : Str → Option Value} {nm : List Str} {ρ : List Addr} {m : ML} (h : LR mr nm ρ m) {x : Str} {i : Nat} {v : MV} {vr : Value} (hs : slot nm x = some i) (hv : VR ρ v vr) :
    LR (fun y => if y = x then some vr else mr y) nm ρ (m.set i (some v)) := by
  refine ⟨by rw [List.length_set]; exact h.1, fun j y u e1 e2 => ?_⟩
  by_cases e : y = x
  · subst e
    rw [hs] at e1
    cases e1
    rw [List.getElem?_set_self'] at e2
    cases hm : m[i]? with
    | none => rw [hm] at e2; cases e2
    | some o =>
      rw [hm] at e2
      cases e2
      exact ⟨vr, hv, by simp⟩
  · have hij : i ≠ j := by
      rintro rfl
      have h1 := slot_get hs
      have h2 := slot_get e1
      rw [h1] at h2
      cases h2
      exact e rfl
    rw [List.getElem?_set_ne hij] at e2
    obtain ⟨w, h1, h2⟩ := h.2 j y u e1 e2
    exact ⟨w, h1, by simp [e, h2]⟩
noncomputable def Fly (c : Cx) (mr : Str → Option Value) (ρ : List Addr) (H : MH) (C : Addr) (as : List MV) (e : Addr) (h : Heap) : Prop :=
  ∃ (hB : Heap) (t : Addr) (vs : List Value), St c mr ρ H hB ∧ VRs ρ as vs ∧ hB.get? e = none ∧ hB.get? t = none ∧ h.TupAt t vs ∧ hB.UpToSlots h ∧
    (TI.gone hB (c.L :: c.fr.map (·.1))).StaysIn h ∧
    ((∃ oe ws, h.get? e = some oe ∧ oe.cls = .ref C ∧ oe.data = .fields ws ∧ ws[0]? = some (.ref t) ∧ ws[1]? = some .none) ∨
     ∃ fl, h.TracedAtW (TI.gone hB (c.L :: c.fr.map (·.1))) e (.ref C) (.ref t) fl ∧ (fl = .none ∨ fl = rawInt c.L))
noncomputable def Kx (c : Cx) (ρ : List Addr) (s : Shared) (E : Value → Shared → Prop) : Prop :=
  ∀ t C as e m' mr' H' h' tk, c.X C as m' H' → Fly c mr' (ρ ++ t) H' C as e h' → LR mr' c.nm (ρ ++ t) m' → E (.ref e) { s with heap := h', toks := tk }
theorem Kx.mono {c : Cx} {ρ t : List Addr} {s : Shared} {E : Value → Shared → Prop} {h : Heap} {tk : Nat} (k : Kx c ρ s E) : Kx c (ρ ++ t) { s with heap := h, toks := tk } E := by
  intro t' C as e m' mr' H' h' tk' hX hF hL
  rw [List.append_assoc] at hF hL
  exact k (t ++ t') C as e m' mr' H' h' tk' hX hF hL
noncomputable def EV (c : Cx) (m : ML) (e : PySem.Expr) (H : MH) (post : MV → MH → Prop) : Prop :=
  ∀ (mr : Str → Option Value) (ρ : List Addr) (s : Shared) (Q : Value → Shared → Prop) (E : Value → Shared → Prop), St c mr ρ H s.heap → LR mr c.nm ρ m →
    (∀ t v vr H' h' tk, post v H' → VR (ρ ++ t) v vr → St c mr (ρ ++ t) H' h' → Q vr { s with heap := h', toks := tk }) → Kx c ρ s E →
    wpAny (model c.prog c.w) c.A (eval e c.env) Q E s
theorem EV.mono {c : Cx} {m : ML} {e : PySem.Expr} {H : MH} {p q : MV → MH → Prop} (h : EV c m e H p) (hp : ∀ v H', p v H' → q v H') : EV c m e H q :=
  fun mr ρ s Q E S l k kx => h mr ρ s Q E S l (fun t v vr H' h' tk hv => k t v vr H' h' tk (hp _ _ hv)) kx
theorem nil_of {c : Cx} {mr : Str → Option Value} {ρ : List Addr} {H : MH} {h : Heap} (S : St c mr ρ H h) : St c mr (ρ ++ []) H h := by rw [List.append_nil]; exact S
theorem ns_of {oC : Obj} {mC : Str → Option Value} {h : Heap} {C : Addr} (hC : LCg.NsObj oC mC) (e : h.get? C = some oC) : h.Ns C mC := hC.ns e
noncomputable def kcl : Option NameKind → Nat
  | some .local => 1
  | some .cell => 2
  | some .free => 2
  | some .globalImplicit => 3
  | _ => 0
noncomputable def rdb (sc : Scope) (x : Str) : Bool := (x != ("__debug__" : Str)) && (x != ("__classdict__" : Str)) && (kcl (sc.names.lookup x) == 1 || kcl (sc.names.lookup x) == 2)
noncomputable def glb (sc : Scope) (x : Str) : Bool := (x != ("__debug__" : Str)) && kcl (sc.names.lookup x) == 3
theorem kcl1 {k : Option NameKind} (h : kcl k = 1) : k = some .local := by
  unfold kcl at h
  split at h <;> first | rfl | cases h
theorem kcl2 {k : Option NameKind} (h : kcl k = 2) : k = some .cell ∨ k = some .free := by
  unfold kcl at h
  split at h <;> first | (exact .inl rfl) | (exact .inr rfl) | cases h
theorem kcl3 {k : Option NameKind} (h : kcl k = 3) : k = some .globalImplicit := by
  unfold kcl at h
  split at h <;> first | rfl | cases h
structure Gx where
  K : Frag
  p : Program
  loose : List Str
  mean : ExcName → Option Value
  mg : Str → Option Value
  mb : Str → Option Value
  /-- what else stands in the heap -/
  ex : Heap → Prop
structure Ok (G : Gx) (c : Cx) (d : Nat) : Prop where
  frames : ∃ env₀ outer, c.A.frames = some (env₀ :: outer) ∧ env₀.frame = some c.L ∧ env₀.scope.kind = .function ∧ TI.Frs outer c.fr ∧ (c.fm = none → env₀ = c.env)
  kin : G.K.In c.h₀
  top : Top G.p G.loose G.mean G.mg G.mb c.h₀
  hh : c.A.handled = none
  dep : c.A.depth + d < recursionLimit
  uni : c.A.units + 8 * d + 64 < cLine
  fn : c.env.scope.kind = .function
  gl : c.env.globals = mainGlobals
  bi : c.env.builtins = builtinsNs
  ap : c.fm = none → c.env.cells.Pairwise fun x y => x.2 ≠ y.2
  kd : ∀ x, kcl (c.env.kindOf x) = kcl (c.sc.names.lookup x)
  fs : c.fm = none → c.env.scope = c.sc
  ex : G.ex c.h₀
theorem read {G : Gx} {c : Cx} {d : Nat} (ok : Ok G c d) {mr : Str → Option Value} {ρ : List Addr} {H : MH} {s : Shared} {x : Str} {pos : Pos} {v : Value} {Q E} (S : St c mr ρ H s.heap) (hx : rdb c.sc x = true) (hv : mr x = some v) (h : Q v s) :
    wpAny (model c.prog c.w) c.A (eval (.Name x pos) c.env) Q E s := by
  unfold rdb at hx
  simp only [Bool.and_eq_true, Bool.or_eq_true, beq_iff_eq, bne_iff_ne, ne_eq] at hx
  obtain ⟨⟨hd, hcd⟩, hx⟩ := hx
  rw [← ok.kd] at hx
  have hd' : (x == ("__debug__" : Str)) = false := by simpa using hd
  have hcd' : (x == ("__classdict__" : Str)) = false := by simpa using hcd
  have hk := ok.fn
  refine wpAny_Name ?_ hd'
  obtain ⟨ml, fr, ex, o, u, F, os, a1, a2, a3, N, a5⟩ := S
  unfold Own at o
  have cellRead : ∀ a o, c.env.cells.lookup x = some a → (a, o) ∈ fr ++ (c.xt ++ ex) → o.data = .cell (mr x) → (c.env.kindOf x = some .cell ∨ c.env.kindOf x = some .free) → wpAny (model c.prog c.w) c.A (loadName c.env x) Q E s := by
    intro a o e1 e2 e3 hk'
    rw [hv] at e3
    have hc : s.heap.IsCell a (some v) := ⟨o, (N _ (List.mem_append_left _ e2)).1, e3⟩
    rcases hk' with hk' | hk'
    · exact wpAny_loadName_cell hk hk' e1 hc h
    · exact wpAny_loadName_free hk hk' e1 hc h hcd'
  cases hf : c.fm with
  | none =>
    rw [hf] at o
    obtain ⟨oL, o1, o2⟩ := o
    rcases hx with hx | hx
    · exact wpAny_loadName_local hk (kcl1 hx) (by rw [oL]; exact F.ns) ((o1 x (kcl1 hx)).trans hv) h
    · obtain ⟨a, ob, e1, e2, e3⟩ := o2 x (kcl2 hx)
      exact cellRead a ob e1 (List.mem_append_right _ (List.mem_append_right _ e2)) e3 (kcl2 hx)
  | some f =>
    obtain ⟨f, ox⟩ := f
    rw [hf] at o
    obtain ⟨rfl, ⟨oC, mC, q1, q2, q3⟩, o2⟩ := o
    have hox : ∀ p ∈ ox, p ∈ fr ++ (c.xt ++ ex) := fun p hp => List.mem_append_right _ (List.mem_append_right _ (by rw [q1]; exact .tail _ hp))
    rcases hx with hx | hx
    · exact wpAny_loadName_local hk (kcl1 hx) (ns_of q2 (N _ (List.mem_append_left _ (List.mem_append_right _ (List.mem_append_right _ (by rw [q1]; exact .head _))))).1) ((q3 x (kcl1 hx)).trans hv) h
    · obtain ⟨a, ob, e1, e2, e3⟩ := o2 x (kcl2 hx)
      exact cellRead a ob e1 (hox _ e2) e3 (kcl2 hx)
theorem mem_zip_of {ρ : List Addr} {os : List Obj} {i : Nat} {a : Addr} {x : Obj} (h1 : ρ[i]? = some a) (h2 : os[i]? = some x) : (a, x) ∈ ρ.zip os := by
  have : (ρ.zip os)[i]? = some (a, x) := by
    rw [List.getElem?_zip_eq_some]
    exact ⟨h1, h2⟩
  exact List.mem_of_getElem? this
section
variable {h₀ h h' : Heap} {L : Addr} {prog : Program} {w : World} {ml : Str → Option Value} {xs : List (Addr × Obj)} {ρ : List Addr} {H : MH}
theorem Led.get (S : Led h₀ L prog w ml xs ρ H h) {i : Nat} {o : MO} (hi : H[i]? = some o) : ∃ a x, ρ[i]? = some a ∧ OR prog w ρ o x ∧ News h₀ L h [(a, x)] := by
  obtain ⟨F, os, a1, a2, a3, N, a5⟩ := S
  obtain ⟨x, hx, hr⟩ := a3 i o hi
  have hlt : i < ρ.length := by rw [a2]; exact (List.getElem?_eq_some_iff.mp hi).1
  refine ⟨ρ[i], x, List.getElem?_eq_getElem hlt, hr, fun p hp => ?_⟩
  rw [List.mem_singleton.mp hp]
  exact N _ (List.mem_append_right _ (mem_zip_of (List.getElem?_eq_getElem hlt) hx))
theorem zip_append_one {os : List Obj} {l : Addr} {x : Obj} (h : ρ.length = os.length) : (ρ ++ [l]).zip (os ++ [x]) = ρ.zip os ++ [(l, x)] := by
  rw [List.zip_append h]
  rfl
theorem led_addr {os : List Obj} (a1 : os.length = H.length) (a2 : ρ.length = H.length) {a : Addr} (ha : a ∈ xs.map (·.1) ++ ρ) : ∃ p ∈ xs ++ ρ.zip os, p.1 = a := by
  rcases List.mem_append.mp ha with ha | ha
  · obtain ⟨p, hp, rfl⟩ := List.mem_map.mp ha
    exact ⟨p, List.mem_append_left _ hp, rfl⟩
  · obtain ⟨i, hi, rfl⟩ := List.getElem_of_mem ha
    have hi' : i < os.length := by rw [a1, ← a2]; exact hi
    exact ⟨(ρ[i], os[i]), List.mem_append_right _ (mem_zip_of (List.getElem?_eq_getElem hi) (List.getElem?_eq_getElem hi')), rfl⟩
theorem Led.alloc {os : List Obj} {l : Addr} {x : Obj} {o : MO}
    (a1 : os.length = H.length) (a2 : ρ.length = H.length) (a3 : ∀ (i : Nat) (o : MO), H[i]? = some o → ∃ x, os[i]? = some x ∧ OR prog w ρ o x)
    (a5 : (xs.map (·.1) ++ ρ).Nodup)
    (F : Fr h₀ L h' ml) (N : News h₀ L h' ((l, x) :: (xs ++ ρ.zip os))) (hl : ∀ p ∈ xs ++ ρ.zip os, p.1 ≠ l) (ho : OR prog w (ρ ++ [l]) o x) :
    Led h₀ L prog w ml xs (ρ ++ [l]) (H ++ [o]) h' := by
  refine ⟨F, os ++ [x], by simp [a1], by simp [a2], ?_, ?_, ?_⟩
  · intro i o' hi
    by_cases hlt : i < H.length
    · rw [List.getElem?_append_left hlt] at hi
      obtain ⟨y, hy, hr⟩ := a3 i o' hi
      exact ⟨y, by rw [List.getElem?_append_left (by rw [a1]; exact hlt)]; exact hy, hr.mono⟩
    · rw [List.getElem?_append_right (Nat.le_of_not_lt hlt)] at hi
      have hz : i - H.length = 0 := by
        have := (List.getElem?_eq_some_iff.mp hi).1
        simp at this
        omega
      rw [hz] at hi
      simp at hi
      subst hi
      refine ⟨x, ?_, ho⟩
      rw [List.getElem?_append_right (by rw [a1]; exact Nat.le_of_not_lt hlt), a1, hz]
      rfl
  · intro p hp
    rw [zip_append_one (by rw [a1, a2])] at hp
    refine N p ?_
    rw [← List.append_assoc] at hp
    rcases List.mem_append.mp hp with hp | hp
    · exact .tail _ hp
    · rw [List.mem_singleton.mp hp]; exact .head _
  · rw [← List.append_assoc, List.nodup_append]
    refine ⟨a5, by simp, ?_⟩
    intro a ha b hb e
    rw [List.mem_singleton.mp hb] at e
    obtain ⟨p, hp, e2⟩ := led_addr (os := os) a1 a2 ha
    exact hl p hp (e2.trans e)
theorem Led.upd (S : Led h₀ L prog w ml xs ρ H h) {i : Nat} {o o' : MO} {a : Addr} {x' : Obj} (hi : H[i]? = some o) (ha : ρ[i]? = some a)
    (hs : Heap.SameBut a h h') (hx : h'.get? a = some x') (ho : OR prog w ρ o' x') : Led h₀ L prog w ml xs ρ (H.set i o') h' := by
  obtain ⟨F, os, a1, a2, a3, N, a5⟩ := S
  obtain ⟨x, hx0, _⟩ := a3 i o hi
  have hm : (a, x) ∈ ρ.zip os := mem_zip_of ha hx0
  have na := N _ (List.mem_append_right _ hm)
  have hlt : i < H.length := (List.getElem?_eq_some_iff.mp hi).1
  refine ⟨F.change hs na.2.1 na.2.2, os.set i x', by simp [a1], by simp [a2], ?_, ?_, a5⟩
  · intro j o1 hj
    by_cases e : i = j
    · subst e
      rw [List.getElem?_set_self hlt] at hj
      cases hj
      exact ⟨x', List.getElem?_set_self (by rw [a1]; exact hlt), ho⟩
    · rw [List.getElem?_set_ne e] at hj
      obtain ⟨y, hy, hr⟩ := a3 j o1 hj
      exact ⟨y, by rw [List.getElem?_set_ne e]; exact hy, hr⟩
  · intro p hp
    rw [List.nodup_append] at a5
    rcases List.mem_append.mp hp with hp | hp
    · have P := N p (List.mem_append_left _ hp)
      have hne : p.1 ≠ a := fun e => a5.2.2 p.1 (List.mem_map_of_mem hp) a (List.mem_of_getElem? ha) e
      exact ⟨(hs.2 _ hne).trans P.1, P.2⟩
    · obtain ⟨j, hj, e⟩ := List.getElem_of_mem hp
      obtain ⟨b, y⟩ := p
      have e' : (ρ.zip (os.set i x'))[j]? = some (b, y) := by rw [List.getElem?_eq_getElem hj, e]
      rw [List.getElem?_zip_eq_some] at e'
      by_cases eij : i = j
      · subst eij
        rw [ha, List.getElem?_set_self (by rw [a1]; exact hlt)] at e'
        obtain ⟨e1, e2⟩ := e'
        cases e1; cases e2
        exact ⟨hx, na.2⟩
      · rw [List.getElem?_set_ne eij] at e'
        have P := N _ (List.mem_append_right _ (mem_zip_of e'.1 e'.2))
        have hne : b ≠ a := by
          intro e3
          subst e3
          have l1 := (List.getElem?_eq_some_iff.mp ha).1
          exact eij ((List.getElem?_inj l1 a5.2.1).mp (ha.trans e'.1.symm))
        exact ⟨(hs.2 _ hne).trans P.1, P.2⟩
theorem Led.grow (S : Led h₀ L prog w ml xs ρ H h) (hk : ∀ b o, h.get? b = some o → h'.get? b = some o) : Led h₀ L prog w ml xs ρ H h' := by
  obtain ⟨F, os, a1, a2, a3, N, a5⟩ := S
  exact ⟨F.keeps hk, os, a1, a2, a3, N.grown hk, a5⟩
end
theorem St.get {c : Cx} {mr : Str → Option Value} {ρ : List Addr} {H : MH} {h : Heap} (S : St c mr ρ H h) {i : Nat} {o : MO} (hi : H[i]? = some o) :
    ∃ a x, ρ[i]? = some a ∧ OR c.prog c.w ρ o x ∧ News c.h₀ c.L h [(a, x)] := by
  obtain ⟨ml, xs, l, _⟩ := S.open
  exact l.get hi
theorem St.upd {c : Cx} {mr : Str → Option Value} {ρ : List Addr} {H : MH} {h h' : Heap} (S : St c mr ρ H h) {i : Nat} {o o' : MO} {a : Addr} {x' : Obj} (hi : H[i]? = some o) (ha : ρ[i]? = some a)
    (hs : Heap.SameBut a h h') (hx : h'.get? a = some x') (ho : OR c.prog c.w ρ o' x') : St c mr ρ (H.set i o') h' := by
  obtain ⟨ml, xs, l, back⟩ := S.open
  exact back _ _ _ (l.upd hi ha hs hx ho)
theorem St.grow {c : Cx} {mr : Str → Option Value} {ρ : List Addr} {H : MH} {h h' : Heap} (S : St c mr ρ H h) (hk : ∀ b o, h.get? b = some o → h'.get? b = some o) : St c mr ρ H h' := by
  obtain ⟨ml, xs, l, back⟩ := S.open
  exact back _ _ _ (l.grow hk)
theorem last_get {ρ : List Addr} {H : MH} {l : Addr} (a2 : ρ.length = H.length) : (ρ ++ [l])[H.length]? = some l := by
  rw [List.getElem?_append_right (by rw [a2]; exact Nat.le_refl _), a2, Nat.sub_self]
  rfl
noncomputable def stb (sc : Scope) (x : Str) : Bool := sc.names.lookup x == some .local || sc.names.lookup x == some .cell
theorem store' {c : Cx} (hap : c.fm = none → c.env.cells.Pairwise fun x y => x.2 ≠ y.2) (hk : c.env.scope.kind = .function) (hfs : c.fm = none → c.env.scope = c.sc) {mr : Str → Option Value} {ρ : List Addr} {H : MH} {s : Shared} {x : Str} {v : Value} {Q E} (S : St c mr ρ H s.heap) (hfm : c.fm = none) (hx : stb c.sc x = true)
    (h : ∀ h' tk, St c (fun y => if y = x then some v else mr y) ρ H h' → Q () { s with heap := h', toks := tk }) :
    wpAny (model c.prog c.w) c.A (storeName c.env x v) Q E s := by
  unfold stb at hx
  replace hap := hap hfm
  rw [← hfs hfm] at hx
  simp only [Bool.or_eq_true, beq_iff_eq] at hx
  change c.env.kindOf x = some .local ∨ c.env.kindOf x = some .cell at hx
  obtain ⟨ml, fr, ex, o, u, F, os, a1, a2, a3, N, a5⟩ := S
  unfold Own at o
  rw [hfm] at o
  obtain ⟨oL, o1, o2⟩ := o
  rcases hx with hx | hx
  · refine wpAny_storeName_local hx (by rw [oL]; exact F.ns) (fun h' hn hs => ?_) (by rw [hk]; rfl)
    rw [oL] at hn hs
    refine h h' _ ⟨_, fr, ex, ?_, u, F.set hn hs, os, a1, a2, a3, N.set hs, a5⟩
    unfold Own
    rw [hfm]
    refine ⟨oL, fun y hy => ?_, fun y hy => ?_⟩
    · by_cases e : y = x
      · simp [e]
      · simp [e, o1 y hy]
    · have hne : y ≠ x := by
        rintro rfl
        rw [hx] at hy
        rcases hy with hy | hy <;> cases hy
      simp only [if_neg hne]
      exact o2 y hy
  · obtain ⟨a, ob, e1, e2, e3⟩ := o2 x (.inl hx)
    have hmem : (a, ob) ∈ fr ++ (c.xt ++ ex) := List.mem_append_right _ (List.mem_append_right _ e2)
    have hN := N _ (List.mem_append_left _ hmem)
    refine wpAny_storeName_cell hk hx e1 ⟨ob, hN.1, e3⟩ fun h' hv hs => ?_
    obtain ⟨o', ho', hd'⟩ := hv
    have hF : Fr c.h₀ c.L h' ml := F.change hs hN.2.1 hN.2.2
    let f : Addr × Obj → Addr × Obj := fun p => if p.1 = a then (a, o') else p
    have hfst : ∀ l : List (Addr × Obj), (l.map f).map (·.1) = l.map (·.1) := by
      intro l
      induction l with
      | nil => rfl
      | cons p l ih =>
        simp only [List.map_cons, ih]
        congr 1
        show (if p.1 = a then (a, o') else p).1 = p.1
        split
        · rename_i q; exact q.symm
        · rfl
    have hnd := a5
    rw [List.nodup_append] at hnd
    obtain ⟨nd1, nd2, nd3⟩ := hnd
    have hfix : ∀ p ∈ fr ++ c.xt, f p = p := by
      intro p hp
      show (if p.1 = a then (a, o') else p) = p
      rw [if_neg]
      intro q
      rw [List.map_append, List.map_append, ← List.append_assoc, ← List.map_append, List.nodup_append] at nd1
      exact nd1.2.2 p.1 (List.mem_map_of_mem hp) a (List.mem_map_of_mem (f := (·.1)) e2) q
    have hfix1 : fr.map f = fr := by
      have := List.map_congr_left (l := fr) (f := f) (g := id) (fun p hp => hfix p (List.mem_append_left _ hp))
      rw [this]; simp
    have hfix2 : c.xt.map f = c.xt := by
      have := List.map_congr_left (l := c.xt) (f := f) (g := id) (fun p hp => hfix p (List.mem_append_right _ hp))
      rw [this]; simp
    refine h h' _ ⟨ml, fr, ex.map f, ?_, u, hF, os, a1, a2, a3, ?_, ?_⟩
    · unfold Own
      rw [hfm]
      refine ⟨oL, fun y hy => ?_, fun y hy => ?_⟩
      · have hne : y ≠ x := by
          rintro rfl
          rw [hx] at hy
          cases hy
        simp only [if_neg hne]
        exact o1 y hy
      · by_cases e : y = x
        · subst e
          refine ⟨a, o', e1, ?_, by simp [hd']⟩
          have : f (a, ob) = (a, o') := by show (if a = a then (a, o') else _) = _; rw [if_pos rfl]
          rw [← this]
          exact List.mem_map_of_mem e2
        · obtain ⟨b, oy, y1, y2, y3⟩ := o2 y hy
          have hba : b ≠ a := fun q => e (name_of_addr hap (mem_of_lookup y1) (q ▸ mem_of_lookup e1))
          refine ⟨b, oy, y1, ?_, by simp [e, y3]⟩
          have : f (b, oy) = (b, oy) := by show (if b = a then (a, o') else _) = _; rw [if_neg hba]
          rw [← this]
          exact List.mem_map_of_mem y2
    · intro p hp
      have hsplit : fr ++ (c.xt ++ ex.map f) = (fr ++ (c.xt ++ ex)).map f := by simp only [List.map_append, hfix1, hfix2]
      rw [hsplit] at hp
      rcases List.mem_append.mp hp with hp | hp
      · obtain ⟨q, hq, rfl⟩ := List.mem_map.mp hp
        have P := N q (List.mem_append_left _ hq)
        show h'.get? (f q).1 = some (f q).2 ∧ _
        by_cases e : q.1 = a
        · have : f q = (a, o') := by show (if q.1 = a then (a, o') else q) = _; rw [if_pos e]
          rw [this]
          exact ⟨ho', hN.2⟩
        · have : f q = q := by show (if q.1 = a then (a, o') else q) = _; rw [if_neg e]
          rw [this]
          exact ⟨(hs.2 _ e).trans P.1, P.2⟩
      · have P := N p (List.mem_append_right _ hp)
        refine ⟨(hs.2 _ fun q => ?_).trans P.1, P.2⟩
        exact nd3 a (List.mem_map_of_mem (f := (·.1)) hmem) p.1 (List.of_mem_zip (show (p.1, p.2) ∈ _ from hp)).1 q.symm
    · have hsplit : fr ++ (c.xt ++ ex.map f) = (fr ++ (c.xt ++ ex)).map f := by simp only [List.map_append, hfix1, hfix2]
      rw [hsplit, hfst]
      exact a5
theorem store {G : Gx} {c : Cx} {d : Nat} (ok : Ok G c d) {mr : Str → Option Value} {ρ : List Addr} {H : MH} {s : Shared} {x : Str} {v : Value} {Q E} (S : St c mr ρ H s.heap) (hfm : c.fm = none) (hx : stb c.sc x = true)
    (h : ∀ h' tk, St c (fun y => if y = x then some v else mr y) ρ H h' → Q () { s with heap := h', toks := tk }) :
    wpAny (model c.prog c.w) c.A (storeName c.env x v) Q E s := store' ok.ap ok.fn ok.fs S hfm hx h
theorem su_addrs : ∀ {a b : List (Addr × Obj)}, TI.SameUp a b → b.map (·.1) = a.map (·.1)
  | [], [], _ => rfl
  | [], _ :: _, h => False.elim h
  | _ :: _, [], h => False.elim h
  | _ :: _, _ :: _, ⟨h1, _, h3⟩ => by simp only [List.map_cons, h1, su_addrs h3]
abbrev FA (c : Cx) : List Addr := c.L :: c.fr.map (·.1)
structure FlyB (c : Cx) (mr : Str → Option Value) (ρ : List Addr) (H : MH) (as : List MV) (e : Addr) (h hB : Heap) (t : Addr) (vs : List Value) : Prop where
  st : St c mr ρ H hB
  vr : VRs ρ as vs
  en : hB.get? e = none
  tn : hB.get? t = none
  tup : h.TupAt t vs
  up : hB.UpToSlots h
  stay : (TI.gone hB (FA c)).StaysIn h
noncomputable def FlyH (c : Cx) (mr : Str → Option Value) (ρ : List Addr) (H : MH) (C : Addr) (as : List MV) (e : Addr) (fl : Value) (h : Heap) : Prop :=
  ∃ hB t vs, FlyB c mr ρ H as e h hB t vs ∧ h.TracedAtW (TI.gone hB (FA c)) e (.ref C) (.ref t) fl
section
variable {c : Cx} {mr : Str → Option Value} {ρ : List Addr} {H : MH} {C : Addr} {as : List MV} {e : Addr} {h hB : Heap} {t : Addr} {vs : List Value} {G : Gx} {d : Nat}
theorem Fly.split (f : Fly c mr ρ H C as e h) : ∃ hB t vs, FlyB c mr ρ H as e h hB t vs ∧
    ((∃ oe ws, h.get? e = some oe ∧ oe.cls = .ref C ∧ oe.data = .fields ws ∧ ws[0]? = some (.ref t) ∧ ws[1]? = some .none) ∨
     ∃ fl, h.TracedAtW (TI.gone hB (FA c)) e (.ref C) (.ref t) fl ∧ (fl = .none ∨ fl = rawInt c.L)) := by
  obtain ⟨hB, t, vs, a1, a2, a3, a4, a5, a6, a7, a8⟩ := f
  exact ⟨hB, t, vs, ⟨a1, a2, a3, a4, a5, a6, a7⟩, a8⟩
theorem FlyB.fly (b : FlyB c mr ρ H as e h hB t vs) (x : (∃ oe ws, h.get? e = some oe ∧ oe.cls = .ref C ∧ oe.data = .fields ws ∧ ws[0]? = some (.ref t) ∧ ws[1]? = some .none) ∨
     ∃ fl, h.TracedAtW (TI.gone hB (FA c)) e (.ref C) (.ref t) fl ∧ (fl = .none ∨ fl = rawInt c.L)) : Fly c mr ρ H C as e h :=
  ⟨hB, t, vs, b.st, b.vr, b.en, b.tn, b.tup, b.up, b.stay, x⟩
theorem FlyH.fly {fl : Value} (f : FlyH c mr ρ H C as e fl h) (hfl : fl = .none ∨ fl = rawInt c.L) : Fly c mr ρ H C as e h := by
  obtain ⟨hB, t, vs, b, x⟩ := f
  exact b.fly (.inr ⟨fl, x, hfl⟩)
theorem FlyB.frames (ok : Ok G c d) (b : FlyB c mr ρ H as e h hB t vs) : ∃ env₀ outer, c.A.frames = some (env₀ :: outer) ∧ env₀.frame = some c.L ∧ (c.fm = none → env₀ = c.env) ∧ h.FunFrames (TI.gone hB (FA c)) (env₀ :: outer) := by
  obtain ⟨env₀, outer, hA, hf, hk, Fs, he⟩ := ok.frames
  refine ⟨env₀, outer, hA, hf, he, ?_⟩
  obtain ⟨ml, fr, ex, own, u, F, os, a1, a2, a3, N, a5⟩ := b.st
  have Fs' := Fs.up u
  obtain ⟨fr', u', ht'⟩ := TI.sameUp_of (h' := h) (frs := fr) fun p hp => b.up p.1 p.2 (N p (List.mem_append_left _ (List.mem_append_left _ hp))).1 fun ws q => by
    obtain ⟨es, ep, hd⟩ := Fs'.dict p hp
    rw [hd] at q; cases q
  refine Heap.FunFrames.cons (by rw [hk]; decide) hf (b.up.ns F.ns) (TI.gone_none (.head _)) ((Fs'.up u').fun fun q hq => ⟨ht' q hq, TI.gone_none (.tail _ ?_)⟩)
  rw [← su_addrs u, ← su_addrs u']
  exact List.mem_map_of_mem hq
theorem FlyB.base (b : FlyB c mr ρ H as e h hB t vs) : (TI.gone hB (FA c)).get? e = none := TI.none_of (fun _ _ q => (TI.gone_some q).2) b.en
theorem FlyB.on {h' : Heap} (b : FlyB c mr ρ H as e h hB t vs) (up : h.UpToSlots h') (st : (TI.gone hB (FA c)).StaysIn h') : FlyB c mr ρ H as e h' hB t vs :=
  ⟨b.st, b.vr, b.en, b.tn, b.tup.of_slots up, b.up.trans up, st⟩
end
section
variable {c : Cx} {mr : Str → Option Value} {ρ : List Addr} {H : MH} {C : Addr} {as : List MV} {e : Addr} {G : Gx} {d : Nat} {M : Model} {A : Around} {s : Shared} {Q : Unit → Shared → Prop} {E : Value → Shared → Prop}
theorem setFlightW {base : Heap} {cls a0 fl : Value} (o : Option Addr) (hkb : base.StaysIn s.heap) (ht : s.heap.TracedAtW base e cls a0 fl)
    (h : ∀ h', base.StaysIn h' → h'.TracedAtW base e cls a0 (o.elim .none fun f => rawInt f) → (∀ b x, s.heap.get? b = some x → (∀ vs, x.data ≠ .fields vs) → h'.get? b = some x) → Q () { s with heap := h' }) :
    wpAny M A (setFlight (.ref e) o) Q E s := by
  obtain ⟨oe, vs, T, oT, ts, he, hcls, hd, h1, hnT, hTe, hT, hdT, h3⟩ := ht
  have hsz3 : 3 < ts.size := (Array.getElem?_eq_some_iff.mp h3).1
  have other : ∀ b, b ≠ T → (s.heap.update T (Obj.mapFields (·.setIfInBounds 3 (o.elim Value.none fun f => rawInt f)))).get? b = s.heap.get? b :=
    fun b hb => Heap.get?_update_other _ _ (Ne.symm hb)
  have noRecord : ∀ b o, s.heap.get? b = some o → (∀ vs, o.data ≠ .fields vs) → b ≠ T := fun b o hb hnf q => by
    rw [q, hT] at hb; injection hb with hb; subst hb; exact hnf ts hdT
  unfold setFlight
  refine wpAny_bind (wpAny_field he hd h1 ?_)
  rw [if_pos (show (Value.ref T != Value.none) = true from by simp)]
  refine wpAny_setField hT hdT hsz3 (h _ (fun b o hbo => (other b fun q => by rw [q, hnT] at hbo; cases hbo).trans (hkb b o hbo)) ?_ fun b o hb hnf => (other b (noRecord b o hb hnf)).trans hb)
  exact ⟨oe, vs, T, _, _, (other e (Ne.symm hTe)).trans he, hcls, hd, h1, hnT, hTe, Heap.get?_update_self _ hT (Obj.isFreed_of_fields (Obj.data_mapFields hdT _)), Obj.data_mapFields hdT _, by simp [hsz3]⟩
theorem FlyH.flight {fl : Value} (o : Option Addr) (f : FlyH c mr ρ H C as e fl s.heap) (k : ∀ h', FlyH c mr ρ H C as e (o.elim .none fun f => rawInt f) h' → Q () { s with heap := h' }) : wpAny M A (setFlight (.ref e) o) Q E s := by
  obtain ⟨hB, t, vs, b, x⟩ := f
  exact setFlightW o b.stay x fun h' k1 k2 k3 => k h' ⟨hB, t, vs, b.on (fun a x ha hn => ⟨x.slots, k3 a x ha hn⟩) k1, k2⟩
theorem Fly.note (ok : Ok G c d) (hfm : c.fm = none) (hA : A.frames = c.A.frames) (f : Fly c mr ρ H C as e s.heap) (k : ∀ h', FlyH c mr ρ H C as e (rawInt c.L) h' → Q () { s with heap := h' }) :
    wpAny M A (noteFrame (.ref e) c.env) Q E s := by
  obtain ⟨hB, t, vs, b, x⟩ := f.split
  obtain ⟨env₀, outer, hA0, hf, he0, hFF⟩ := b.frames ok
  have he1 := he0 hfm
  subst he1
  rw [hA0] at hA
  rcases x with ⟨oe, ws, q1, q2, q3, q4, q5⟩ | ⟨fl, x, rfl | rfl⟩
  · unfold noteFrame
    simp only [hf]
    refine wpAny_bind (wpAny_field q1 q3 q5 ?_)
    rw [if_neg (by decide)]
    refine wpAny_entryW (a0 := .ref t) hA hFF hf q1 b.stay b.base q3 (Array.getElem?_eq_some_iff.mp q5).1 q4 fun h' hN => ?_
    obtain ⟨k1, k2, k3, k4⟩ := hN
    rw [q2] at k3
    exact k h' ⟨hB, t, vs, b.on k4 k1, k3⟩
  · refine wpAny_noteFrame_onW hA hFF hf x b.stay b.base fun h' hN => ?_
    obtain ⟨k1, k2, k3, k4⟩ := hN
    exact k h' ⟨hB, t, vs, b.on k4 k1, k3⟩
  · exact wpAny_noteFrame_againW hf x (k s.heap ⟨hB, t, vs, b, x⟩)
theorem Fly.leave (ok : Ok G c d) (hfm : c.fm = none) (hA : A.frames = c.A.frames) (f : Fly c mr ρ H C as e s.heap) (k : ∀ h', FlyH c mr ρ H C as e .none h' → Q () { s with heap := h' }) :
    wpAny M A (leaving c.env (.ref e)) Q E s := by
  unfold leaving
  refine wpAny_bind (f.note ok hfm hA fun h' f' => ?_)
  exact f'.flight none k
theorem Kx.pass (ok : Ok G c d) (hfm : c.fm = none) {A' : Around} (hA : A.frames = c.A.frames) (k : Kx c ρ s E) : Kx c ρ s (notedBy M A c.env (cameBackBy M A' c.env E)) := by
  intro t C as e m' mr' H' h' tk hX hF hL
  obtain ⟨_, _, _, _, _, _, he⟩ := ok.frames
  have hfr : c.env.frame = some c.L := by
    obtain ⟨env₀, outer, _, hf, _, _, he⟩ := ok.frames
    rw [← he hfm]; exact hf
  unfold notedBy
  refine Fly.note (s := { s with heap := h', toks := tk }) ok hfm hA hF fun h2 f2 => ?_
  unfold cameBackBy
  obtain ⟨hB, t', vs, b, x⟩ := id f2
  obtain ⟨oe, ws, T, oT, ts, q1, q2, q3, q4, q5, q6, q7, q8, q9⟩ := id x
  refine wpAny_bind (wpAny_field q1 q3 q4 ?_)
  rw [if_neg (by simp)]
  rw [hfr]
  refine FlyH.flight (s := { s with heap := h2, toks := tk }) (some c.L) f2 fun h3 f3 => ?_
  exact k t C as e m' mr' H' h3 tk hX (f3.fly (.inr rfl)) hL
end
structure Over (c c' : Cx) (mr ml : Str → Option Value) (fr ex : List (Addr × Obj)) (oL : Obj) : Prop where
  prog : c'.prog = c.prog
  w : c'.w = c.w
  h₀ : c'.h₀ = c.h₀
  fr' : c'.fr = (c.L, oL) :: fr
  xt' : c'.xt = c.xt ++ ex
  su : TI.SameUp c.fr fr
  own : Own c mr ml ex
  ns : ∀ (h : Heap) sl, h.get? c.L = some { oL with slots := sl } → h.Ns c.L ml
  above : c.h₀.objs.size ≤ c.L
theorem Over.back {c c' : Cx} {mr ml mr' : Str → Option Value} {fr ex : List (Addr × Obj)} {oL : Obj} {ρ : List Addr} {H : MH} {h h' : Heap} (O : Over c c' mr ml fr ex oL) (S : St c' mr' ρ H h)
    (hk : ∀ b o, b ≠ c'.L → h.get? b = some o → h'.get? b = some o) : St c mr ρ H h' := by
  obtain ⟨ml', fr', ex', own', u', F', os, a1, a2, a3, N', a5⟩ := S
  obtain ⟨ep, ew, e0, ef, ex0, su, own, ns, above⟩ := O
  rw [ef] at u'
  cases fr' with
  | nil => exact False.elim u'
  | cons q fr'' =>
    obtain ⟨u1, ⟨sl, u2⟩, u3⟩ := u'
    obtain ⟨qa, qo⟩ := q
    simp only at u1 u2
    subst u1 u2
    have hmem : ∀ p ∈ (fr'' ++ (c.xt ++ ex)) ++ ρ.zip os, p ∈ ((c.L, { oL with slots := sl }) :: fr'' ++ (c'.xt ++ ex')) ++ ρ.zip os := by
      intro p hp
      rw [ex0]
      simp only [List.mem_append, List.mem_cons, List.cons_append] at hp ⊢
      rcases hp with (hp | hp | hp) | hp <;> simp [hp]
    have hL := N' (c.L, { oL with slots := sl }) (List.mem_append_left _ (.head _))
    have hnd : (c.L :: ((fr'' ++ (c.xt ++ ex)).map (·.1) ++ ρ)).Nodup := by
      refine List.Nodup.sublist ?_ a5
      rw [ex0]
      simp only [List.cons_append, List.map_cons, List.map_append, List.append_assoc]
      refine List.Sublist.cons_cons _ ?_
      refine List.Sublist.append (List.Sublist.refl _) ?_
      refine List.Sublist.append (List.Sublist.refl _) ?_
      refine List.Sublist.append (List.Sublist.refl _) ?_
      exact List.sublist_append_right _ _
    rw [List.nodup_cons] at hnd
    refine ⟨ml, fr'', ex, own, su.trans u3, ⟨ns _ sl (hk _ _ hL.2.1 hL.1), fun b o e => hk b o ?_ (F'.keep b o (by rw [e0]; exact e)), above⟩, os, a1, a2, ?_, ?_, hnd.2⟩
    · rintro rfl
      have := F'.above
      rw [e0] at this
      exact absurd (Heap.lt_size e) (Nat.not_lt.mpr this)
    · rw [← ep, ← ew]; exact a3
    · intro p hp
      have P := N' p (hmem p hp)
      refine ⟨hk _ _ P.2.1 P.1, ?_, by rw [← e0]; exact P.2.2⟩
      intro q
      refine hnd.1 ?_
      rw [← q]
      rcases List.mem_append.mp hp with hp | hp
      · exact List.mem_append_left _ (List.mem_map_of_mem hp)
      · exact List.mem_append_right _ (List.of_mem_zip (show (p.1, p.2) ∈ _ from hp)).1
theorem Over.fly {c c' : Cx} {mr ml mr' : Str → Option Value} {fr ex : List (Addr × Obj)} {oL : Obj} {ρ : List Addr} {H : MH} {C : Addr} {as : List MV} {e : Addr} {h : Heap} (O : Over c c' mr ml fr ex oL)
    (f : FlyH c' mr' ρ H C as e .none h) : Fly c mr ρ H C as e h := by
  obtain ⟨hB, t, vs, b, x⟩ := f
  have hg : ∀ b o, (TI.gone hB [c'.L]).get? b = some o → b ≠ c'.L ∧ hB.get? b = some o := fun b o q => by
    obtain ⟨h1, h2⟩ := TI.gone_some q
    exact ⟨fun e => h1 (by rw [e]; exact .head _), h2⟩
  have hin : ∀ b o, (TI.gone (TI.gone hB [c'.L]) (FA c)).get? b = some o → (TI.gone hB (FA c')).get? b = some o := fun b o q => by
    obtain ⟨h1, h2⟩ := TI.gone_some q
    obtain ⟨h3, h4⟩ := hg b o h2
    refine (TI.gone_get ?_).trans h4
    unfold FA at h1 ⊢
    rw [O.fr', List.map_cons, su_addrs O.su]
    intro hm
    rcases List.mem_cons.mp hm with q | hm
    · exact h3 q
    · exact h1 hm
  refine FlyB.fly (hB := TI.gone hB [c'.L]) (t := t) (vs := vs) ⟨O.back b.st fun b o hb q => (TI.gone_get (by simpa using hb)).trans q, b.vr, TI.none_of (fun b o q => (hg b o q).2) b.en, TI.none_of (fun b o q => (hg b o q).2) b.tn, b.tup,
    fun a o q hn => b.up a o (hg a o q).2 hn, fun a o q => b.stay a o (hin a o q)⟩ (.inr ⟨.none, ?_, .inl rfl⟩)
  obtain ⟨oe, ws, T, oT, ts, q1, q2, q3, q4, q5, q6, q7, q8, q9⟩ := x
  exact ⟨oe, ws, T, oT, ts, q1, q2, q3, q4, TI.none_of hin q5, q6, q7, q8, q9⟩
noncomputable def CL (G : Gx) (prog : Program) (w : World) (d : Nat) (f : Addr) (args : List MV) (H : MH) (post : MV → MH → Prop) (xp : Addr → List MV → MH → Prop) : Prop :=
  ∀ (c : Cx) (mr : Str → Option Value) (ρ : List Addr) (s : Shared) (Q : Value → Shared → Prop) (E : Value → Shared → Prop) (vs : List Value), c.prog = prog → c.w = w → Ok G c d → St c mr ρ H s.heap → VRs ρ args vs →
    (∀ t v vr H' h' tk, post v H' → VR (ρ ++ t) v vr → St c mr (ρ ++ t) H' h' → Q vr { s with heap := h', toks := tk }) →
    (∀ t C as e H' h' tk, xp C as H' → Fly c mr (ρ ++ t) H' C as e h' → E (.ref e) { s with heap := h', toks := tk }) →
    codeAny (model prog w) c.A (.call (.ref f) ⟨vs, []⟩) (fun r s' => match r with | .ok (.ret v) => Q v s' | .ok _ => False | .error e => E e s') s
theorem CL.mono {G : Gx} {prog : Program} {w : World} {d : Nat} {f : Addr} {args : List MV} {H : MH} {p q : MV → MH → Prop} {xp xq : Addr → List MV → MH → Prop} (h : CL G prog w d f args H p xp) (hp : ∀ v H', p v H' → q v H')
    (hx : ∀ C as H', xp C as H' → xq C as H') : CL G prog w d f args H q xq :=
  fun c mr ρ s Q E vs e1 e2 o S l k kx => h c mr ρ s Q E vs e1 e2 o S l (fun t v vr H' h' tk hv => k t v vr H' h' tk (hp _ _ hv)) fun t C as e H' h' tk hv => kx t C as e H' h' tk (hx _ _ _ hv)
inductive Fl where
  | next
  | brk
  | cont
  | ret (v : MV)
noncomputable def FlR (ρ : List Addr) : Fl → Flow → Prop
  | .next, f => f = .next
  | .brk, f => f = .brk
  | .cont, f => f = .cont
  | .ret m, f => ∃ v, f = .ret v ∧ VR ρ m v
noncomputable def retv : Fl → MV
  | .ret v => v
  | _ => .none
noncomputable def EX (c : Cx) (m : ML) (ss : List Stmt) (H : MH) (post : Fl → ML → MH → Prop) : Prop :=
  ∀ (mr : Str → Option Value) (ρ : List Addr) (s : Shared) (Q : Flow → Shared → Prop) (E : Value → Shared → Prop), St c mr ρ H s.heap → LR mr c.nm ρ m →
    (∀ t f fr m' mr' H' h' tk, post f m' H' → FlR (ρ ++ t) f fr → St c mr' (ρ ++ t) H' h' → LR mr' c.nm (ρ ++ t) m' → Q fr { s with heap := h', toks := tk }) → Kx c ρ s E →
    wpAny (model c.prog c.w) c.A (execs ss c.env) Q E s
theorem bindL_off {k : Str → Option NameKind} {x : Str} : ∀ {names : List Str} {vals : List Value} {m₀ : Str → Option Value}, x ∉ names → bindL k (names.zip vals) m₀ x = m₀ x
  | [], _, _, _ => rfl
  | _ :: _, [], _, _ => rfl
  | n :: ns, v :: vs, m₀, h => by
    have hn : x ≠ n := fun e => h (e ▸ .head _)
    rw [List.zip_cons_cons]
    unfold bindL
    rw [bindL_off fun q => h (.tail _ q)]
    split <;> simp [hn]
theorem bindC_off {k : Str → Option NameKind} {x : Str} : ∀ {names : List Str} {vals : List Value} {m₀ : Str → Option Value}, x ∉ names → bindC k (names.zip vals) m₀ x = m₀ x
  | [], _, _, _ => rfl
  | _ :: _, [], _, _ => rfl
  | n :: ns, v :: vs, m₀, h => by
    have hn : x ≠ n := fun e => h (e ▸ .head _)
    rw [List.zip_cons_cons]
    unfold bindC
    rw [bindC_off fun q => h (.tail _ q)]
    split <;> simp [hn]
theorem bindL_at {k : Str → Option NameKind} {x : Str} {v : Value} (hk : k x = some .local) : ∀ {names : List Str} {vals : List Value} {i : Nat} {m₀ : Str → Option Value}, names.Nodup → names[i]? = some x → vals[i]? = some v → bindL k (names.zip vals) m₀ x = some v
  | [], _, _, _, _, e, _ => by simp at e
  | _ :: _, [], _, _, _, _, e => by simp at e
  | n :: ns, u :: us, 0, m₀, hn, e1, e2 => by
    simp at e1 e2
    subst e1 e2
    rw [List.zip_cons_cons]
    unfold bindL
    rw [bindL_off (List.nodup_cons.mp hn).1, if_pos hk]
    simp
  | n :: ns, u :: us, i + 1, m₀, hn, e1, e2 => by
    rw [List.zip_cons_cons]
    unfold bindL
    exact bindL_at hk (List.nodup_cons.mp hn).2 (by simpa using e1) (by simpa using e2)
theorem bindC_at {k : Str → Option NameKind} {x : Str} {v : Value} (hk : k x ≠ some .local) : ∀ {names : List Str} {vals : List Value} {i : Nat} {m₀ : Str → Option Value}, names.Nodup → names[i]? = some x → vals[i]? = some v → bindC k (names.zip vals) m₀ x = some v
  | [], _, _, _, _, e, _ => by simp at e
  | _ :: _, [], _, _, _, _, e => by simp at e
  | n :: ns, u :: us, 0, m₀, hn, e1, e2 => by
    simp at e1 e2
    subst e1 e2
    rw [List.zip_cons_cons]
    unfold bindC
    rw [bindC_off (List.nodup_cons.mp hn).1, if_neg hk]
    simp
  | n :: ns, u :: us, i + 1, m₀, hn, e1, e2 => by
    rw [List.zip_cons_cons]
    unfold bindC
    exact bindC_at hk (List.nodup_cons.mp hn).2 (by simpa using e1) (by simpa using e2)
theorem cells_get {cm : Str → Option Value} {x : Str} {a : Addr} : ∀ {cs : List (Str × Addr)} {cells : List (Addr × Obj)}, CellsAre cm cs cells → cs.lookup x = some a → ∃ o, (a, o) ∈ cells ∧ o.data = .cell (cm x)
  | _, _, .nil, h => by cases h
  | _, _, .cons (n := n) (c := b) (o := o) hd X, h => by
    rw [List.lookup_cons] at h
    by_cases e : x = n
    · subst e
      simp at h
      subst h
      exact ⟨o, .head _, hd⟩
    · have hb : (x == n) = false := by simpa using e
      rw [hb] at h
      obtain ⟨o', h1, h2⟩ := cells_get X h
      exact ⟨o', .tail _ h1, h2⟩
theorem cells_addrs {cm : Str → Option Value} : ∀ {cs : List (Str × Addr)} {cells : List (Addr × Obj)}, CellsAre cm cs cells → cells.map (·.1) = cs.map (·.2)
  | _, _, .nil => rfl
  | _, _, .cons hd X => by simp only [List.map_cons, cells_addrs X]
noncomputable def start (nm : List Str) (args : List MV) : ML := args.map some ++ List.replicate (nm.length - args.length) none
noncomputable def fnb (scope : Scope) (names nm : List Str) : Bool :=
  names == nm.take names.length && decide nm.Nodup && names.all (fun x => stb scope x) && !scope.isCoroutine && !scope.isGenerator && scope.kind == .function &&
    decide (((cellsFrom 0 scope.names []).map (·.1)).Nodup) && scope.names.all (fun p => p.2 != .free)
theorem nofree {x : Str} : ∀ {l : List (Str × NameKind)}, l.all (fun p => p.2 != .free) = true → l.lookup x ≠ some .free
  | [], _, h => by cases h
  | (y, k) :: r, h, e => by
    simp only [List.all_cons, Bool.and_eq_true] at h
    rw [List.lookup_cons] at e
    by_cases q : x = y
    · subst q
      simp at e
      rw [e] at h
      exact absurd h.1 (by decide)
    · have hb : (x == y) = false := by simpa using q
      rw [hb] at e
      exact nofree h.2 e
theorem CL.body {G : Gx} {prog : Program} {w : World} {d : Nat} {f : Addr} {args : List MV} {H : MH} {post : MV → MH → Prop} {xp : Addr → List MV → MH → Prop}
    {name qual : Str} {params : Arguments} {body : List Stmt} {scope : Scope} {dV kV doc pm cdv ct oc : Value} {an od : Option Addr} {osl : Array (Option Value)} {names nm : List Str} {dm : List MV} {dv : List Value}
    (hf : G.K.lookup f = some ⟨oc, od, .func (fnOf name qual params body scope dV kV doc pm an cdv ct), osl⟩) (hcd : codeIn G.K cdv qual = true)
    (hb : ∀ (s : Shared) (vs : List Value), G.K.In s.heap → vs.length = args.length → BindsTo s (fnOf name qual params body scope dV kV doc pm an cdv ct) ⟨vs, []⟩ (names.zip (vs ++ dv)))
    (hdm : VRs [] dm dv) (hl : (args ++ dm).length = names.length) (hfn : fnb scope names nm = true)
    (h : ∀ c : Cx, c.prog = prog → c.w = w → Ok G c d → c.fm = none → c.nm = nm → c.sc = scope → c.X = (fun C as _ H => xp C as H) → EX c (start nm (args ++ dm)) body H (fun fl _ H' => post (retv fl) H')) :
    CL G prog w (d + 1) f args H post xp := by
  intro c mr ρ s Q E vs ep ew ok S hvs k kx
  subst ep ew
  unfold fnb at hfn
  simp only [Bool.and_eq_true, beq_iff_eq, decide_eq_true_eq, Bool.not_eq_true', List.all_eq_true] at hfn
  obtain ⟨⟨⟨⟨⟨⟨⟨hn1, hn2⟩, hn3⟩, hco⟩, hgen⟩, hk⟩, hnd⟩, hnf⟩ := hfn
  have hnf' : scope.names.all (fun p => p.2 != .free) = true := List.all_eq_true.mpr hnf
  obtain ⟨ml, fr, ex, own, u, F, os, a1, a2, a3, N, a5⟩ := id S
  obtain ⟨env₀, outer, hA, hfr, hkf, Fs, _⟩ := ok.frames
  have X := ok.kin.keeps F.keep
  have hnn : names.Nodup := by rw [hn1]; exact (List.take_sublist _ _).nodup hn2
  have hvd : VRs ρ (args ++ dm) (vs ++ dv) := hvs.append (by simpa using hdm.mono (t := ρ))
  have hlen : (vs ++ dv).length = names.length := by rw [hvd.length, hl]
  have hmemn : ∀ x ∈ names.zip (vs ++ dv), scope.names.lookup x.1 = some .local ∨ scope.names.lookup x.1 = some .cell := fun x hx => by
    have := hn3 x.1 (List.of_mem_zip (show (x.1, x.2) ∈ _ from hx)).1
    unfold stb at this
    simpa using this
  refine codeAny_call_function (by have := ok.dep; omega) (X _ _ hf) rfl hco hgen rfl (codeRec_of X hcd) (hb s vs X hvs.length _ _ _ _ ?_)
  refine wpAny_newFunctionEnv_cells hk (fun x hx => (hmemn x hx).imp id fun q => ⟨q, cellsFrom_some _ _ _ (.inl q)⟩) fun env' he s' x => ?_
  subst he
  refine ⟨(ok.top.nolimit.keeps F.keep).keeps x.toInCall.keep, codeAny_func ?_⟩
  obtain ⟨h₁, tk, rfl, hk₁⟩ := x.done
  obtain ⟨cells, NC, Y⟩ := Cl.news (h₀ := s.heap) (Nat.le_refl _) fun n c hm => ⟨x.cell n c (lookup_of_mem_nodup (cellsFrom_names scope.names 0 (s.heap.objs.size + 1) [] [] rfl ▸ hnd) hm), x.above n c hm⟩
  obtain ⟨oL, es, eP, hL, hLd, hLk, hLf⟩ := F.ns
  have hLt := Heap.lt_size hL
  let env' : Env := envOfC qual scope s.heap.objs.size f cdv
  let mr' : Str → Option Value := fun y => if env'.kindOf y = some .local then bindL env'.kindOf (names.zip (vs ++ dv)) (fun _ => none) y else bindC env'.kindOf (names.zip (vs ++ dv)) (fun _ => none) y
  let c' : Cx := { prog := c.prog, w := c.w, A := c.A.deeper env', env := env', h₀ := c.h₀, L := s.heap.objs.size, fm := none, fr := (c.L, oL) :: fr, xt := c.xt ++ ex, X := fun C as _ H => xp C as H, nm := nm, sc := scope }
  have O : Over c c' mr ml fr ex oL := ⟨rfl, rfl, rfl, rfl, rfl, u, own, fun h' sl e => ⟨_, es, eP, e, hLd, hLk, hLf⟩, F.above⟩
  have ok' : Ok G c' d := by
    refine ⟨⟨env', env₀ :: outer, Around.frames_deeper hA, rfl, hk, ⟨by rw [hkf]; decide, hfr, ⟨es, eP, hLd⟩, Fs.up u⟩, fun _ => rfl⟩, ok.kin, ok.top, ok.hh, ?_, ?_, hk, rfl, rfl, fun _ => x.apart, fun _ => rfl, fun _ => rfl, ok.ex⟩
    · have := ok.dep
      show c.A.depth + 1 + d < recursionLimit
      omega
    · have := ok.uni
      show c.A.units + 3 + 8 * d + 64 < cLine
      omega
  have hall : ∀ p ∈ (fr ++ (c.xt ++ ex)) ++ ρ.zip os, h₁.get? p.1 = some p.2 ∧ p.1 ≠ s.heap.objs.size ∧ c.h₀.get? p.1 = none := fun p hp => ⟨hk₁ _ _ (N p hp).1, Nat.ne_of_lt (Heap.lt_size (N p hp).1), (N p hp).2.2⟩
  have S' : St c' mr' ρ H h₁ := by
    refine ⟨bindL env'.kindOf (names.zip (vs ++ dv)) (fun _ => none), (c.L, oL) :: fr, cells, ?_, TI.SameUp.refl _, ⟨x.toInCall.ns, fun b o e => hk₁ b o (F.keep b o e), Nat.le_trans F.above (Nat.le_of_lt hLt)⟩, os, a1, a2, a3, ?_, ?_⟩
    · refine ⟨rfl, fun y hy => ?_, fun y hy => ?_⟩
      · show _ = if env'.kindOf y = some .local then _ else _
        rw [if_pos hy]
      · rcases hy with hy | hy
        · have hs : ((cellsFrom (s.heap.objs.size + 1) scope.names []).lookup y).isSome = true := cellsFrom_some _ _ _ (.inl hy)
          obtain ⟨a, ha⟩ := Option.isSome_iff_exists.mp hs
          obtain ⟨o, h1, h2⟩ := cells_get Y ha
          refine ⟨a, o, ha, h1, h2.trans ?_⟩
          have hnl : ¬ env'.kindOf y = some .local := by
            intro q
            have q' : env'.kindOf y = some .cell := hy
            rw [q] at q'
            cases q'
          show _ = Data.cell (if env'.kindOf y = some .local then _ else _)
          rw [if_neg hnl]
          rfl
        · exact absurd hy (nofree hnf')
    · intro p hp
      replace hp : p ∈ (((c.L, oL) :: fr) ++ ((c.xt ++ ex) ++ cells)) ++ ρ.zip os := hp
      simp only [List.cons_append, List.append_assoc, List.mem_cons, List.mem_append] at hp
      rcases hp with rfl | hp | hp | hp | hp | hp
      · exact ⟨hk₁ _ _ hL, Nat.ne_of_lt hLt, Heap.get?_none_of_le F.above⟩
      · exact hall p (by simp [hp])
      · exact hall p (by simp [hp])
      · exact hall p (by simp [hp])
      · exact ⟨(NC p hp).1, (NC p hp).2.1, TI.none_of F.keep (NC p hp).2.2⟩
      · exact hall p (by simp [hp])
    · have hLn : c.L ∉ (fr ++ (c.xt ++ ex)).map (·.1) ++ ρ := fun q => by
        obtain ⟨p, hp, e⟩ := led_addr (os := os) a1 a2 q
        exact (N p hp).2.1 e
      have hcn : ∀ a ∈ cells.map (·.1), s.heap.get? a = none := fun a ha => by
        obtain ⟨p, hp, rfl⟩ := List.mem_map.mp ha
        exact (NC p hp).2.2
      have hcnd : (cells.map (·.1)).Nodup := by
        rw [cells_addrs Y]
        exact List.pairwise_map.mpr x.apart
      have hp : ((((c.L, oL) :: fr) ++ ((c.xt ++ ex) ++ cells)).map (·.1) ++ ρ).Perm (cells.map (·.1) ++ (c.L :: ((fr ++ (c.xt ++ ex)).map (·.1) ++ ρ))) := by
        simp only [List.map_append, List.map_cons, List.cons_append, List.append_assoc]
        have : ∀ (A B C R : List Addr), (A ++ (B ++ (C ++ R))).Perm (C ++ (A ++ (B ++ R))) := by
          intro A B C R
          have h1 : ((A ++ B) ++ C ++ R).Perm (C ++ (A ++ B) ++ R) := List.perm_append_comm.append_right R
          simpa [List.append_assoc] using h1
        have h2 := this (c.L :: fr.map (·.1)) (c.xt.map (·.1) ++ ex.map (·.1)) (cells.map (·.1)) ρ
        simpa [List.append_assoc] using h2
      rw [hp.nodup_iff, List.nodup_append]
      refine ⟨hcnd, List.nodup_cons.mpr ⟨hLn, a5⟩, fun a ha b hb e => ?_⟩
      subst e
      have h0 := hcn a ha
      rcases List.mem_cons.mp hb with q | q
      · rw [q, hL] at h0; cases h0
      · obtain ⟨p, hp, e⟩ := led_addr (os := os) a1 a2 q
        have := (N p hp).1
        rw [e, h0] at this
        cases this
  have l' : LR mr' nm ρ (start nm (args ++ dm)) := by
    have hle : names.length ≤ nm.length := by
      have := congrArg List.length hn1
      rw [List.length_take] at this
      omega
    refine ⟨by unfold start; rw [List.length_append, List.length_map, List.length_replicate]; omega, fun i y v e1 e2 => ?_⟩
    unfold start at e2
    by_cases hi : i < (args ++ dm).length
    · rw [List.getElem?_append_left (by rw [List.length_map]; exact hi), List.getElem?_map] at e2
      cases q : (args ++ dm)[i]? with
      | none => rw [q] at e2; cases e2
      | some v' =>
        rw [q] at e2
        cases e2
        obtain ⟨vr, g1, g2⟩ := hvd.get q
        have hy : names[i]? = some y := by
          rw [hn1, List.getElem?_take_of_lt (by rw [← hl]; exact hi)]
          exact slot_get e1
        refine ⟨vr, g2, ?_⟩
        show (if env'.kindOf y = some .local then _ else _) = _
        split
        · rename_i q; exact bindL_at q hnn hy g1
        · rename_i q; exact bindC_at q hnn hy g1
    · rw [List.getElem?_append_right (by rw [List.length_map]; omega), List.getElem?_replicate] at e2
      split at e2 <;> cases e2
  refine h c' rfl rfl ok' rfl rfl rfl rfl mr' ρ { s with heap := h₁, toks := tk } _ _ S' l' ?_ ?_
  · intro t fl fr' m' mr'' H' h' tk' hp hfl S2 _
    have S3 : St c mr (ρ ++ t) H' h' := O.back S2 fun b o _ q => q
    cases fl with
    | ret v =>
      obtain ⟨vr, rfl, hv⟩ := hfl
      exact k t v vr H' h' tk' hp hv S3
    | next => subst hfl; exact k t .none .none H' h' tk' hp rfl S3
    | brk => subst hfl; exact k t .none .none H' h' tk' hp rfl S3
    | cont => subst hfl; exact k t .none .none H' h' tk' hp rfl S3
  · intro t C as e m' mr'' H' h' tk' hX hF hL'
    refine Fly.leave (c := c') (s := { s with heap := h', toks := tk' }) ok' rfl rfl hF fun h2 f2 => ?_
    exact kx t C as e H' h2 tk' hX (O.fly f2)
mutual
inductive CE where
  | int (i : Int)
  | str (x : Str)
  | none
  | bool (b : Bool)
  | loc (i : Nat)
  | glob (x : Str)
  | bin (op : Operator) (a b : CE)
  | neg (a : CE)
  | tst (t : CT)
  | ite (t : CT) (a b : CE)
  | call (g : Str) (as : CEs)
  | meth (o : CE) (n : Str) (as : CEs)
  | attr (o : CE) (n : Str)
  | sub (o i : CE)
  | slice (o : CE) (lo hi : CO)
  | list (as : CEs)
  | tup (as : CEs)
  | dict0
  | comp (elt : CE) (tg : List Str) (it : CE) (cs : CTs)
inductive CEs where
  | nil
  | cons (e : CE) (r : CEs)
inductive CO where
  | none
  | some (e : CE)
inductive CT where
  | cmp (op : CmpOp) (a b : CE)
  | cmp2 (a : CE) (o1 : CmpOp) (b : CE) (o2 : CmpOp) (c : CE)
  | not (t : CT)
  | and (ts : CTs)
  | or (ts : CTs)
  | plain (e : CE)
inductive CTs where
  | nil
  | cons (t : CT) (r : CTs)
end
mutual
inductive CS where
  | assign (i : Nat) (e : CE)
  | assignT (is : List Nat) (e : CE)
  | setItem (o i e : CE)
  | setAttr (o : CE) (n : Str) (e : CE)
  | swap (o1 i1 o2 i2 e1 e2 : CE)
  | expr (e : CE)
  | ite (t : CT) (a b : CSs)
  | while (t : CT) (b : CSs)
  | for (tg : List Nat) (it : CE) (b : CSs)
  | ret (e : CE)
  | ret0
  | raise (g : Str) (as : CEs)
  | raiseFrom (g : Str) (as : CEs) (c : CE)
  | try (b : CSs) (h : CHs)
  | brk
  | cont
  | pass
inductive CSs where
  | nil
  | cons (s : CS) (r : CSs)
inductive CHs where
  | nil
  | cons (g : Str) (x : Option Nat) (b : CSs) (r : CHs)
end
noncomputable def kids : PySem.Expr → List PySem.Expr
  | .BinOp l _ r _ => [l, r]
  | .UnaryOp _ x _ => [x]
  | .IfExp a b c _ => [a, b, c]
  | .Compare l _ rs _ => l :: rs
  | .Call f as _ _ => f :: as
  | .Attribute o _ _ => [o]
  | .Subscript o i _ => [o, i]
  | .List es _ => es
  | .Tuple es _ _ => es
  | .BoolOp _ es _ => es
  | .ListComp el [⟨t, i, ifs, _⟩] _ _ => el :: t :: i :: ifs
  | .Slice l h _ _ => l.toList ++ h.toList
  | _ => []
noncomputable def numOf : PySem.Expr → Nat
  | .Constant _ k _ => k
  | .Tuple _ k _ => k
  | _ => 0
noncomputable def scOf : PySem.Expr → Scope
  | .ListComp _ _ s _ => s
  | _ => default
noncomputable def kid (i : Nat) (e : PySem.Expr) : PySem.Expr := (kids e).getD i e
noncomputable def nth (i : Nat) (es : List PySem.Expr) : PySem.Expr := es.getD i (.Name "" default)
noncomputable def reNames (ns : List Str) (es : List PySem.Expr) : List PySem.Expr := match ns with
  | [] => []
  | x :: r => .Name x (nth 0 es).pos :: reNames r es.tail
noncomputable def reTg (ns : List Str) (e : PySem.Expr) : PySem.Expr := match ns with
  | [x] => .Name x e.pos
  | ns => .Tuple (reNames ns (kids e)) (numOf e) e.pos
mutual
noncomputable def reE : CE → List Str → PySem.Expr → PySem.Expr
  | .int i => fun _ e => .Constant (.int i) (numOf e) e.pos
  | .str x => fun _ e => .Constant (.str x) (numOf e) e.pos
  | .none => fun _ e => .Constant .none (numOf e) e.pos
  | .bool b => fun _ e => .Constant (.bool b) (numOf e) e.pos
  | .loc i => fun nm e => .Name (nm.getD i "") e.pos
  | .glob x => fun _ e => .Name x e.pos
  | .bin op a b => fun nm e => .BinOp (reE a nm (kid 0 e)) op (reE b nm (kid 1 e)) e.pos
  | .neg a => fun nm e => .UnaryOp .USub (reE a nm (kid 0 e)) e.pos
  | .tst t => fun nm e => reT t nm e
  | .ite t a b => fun nm e => .IfExp (reT t nm (kid 0 e)) (reE a nm (kid 1 e)) (reE b nm (kid 2 e)) e.pos
  | .call g as => fun nm e => .Call (.Name g (kid 0 e).pos) (reEs as nm (kids e).tail) [] e.pos
  | .meth o n as => fun nm e => .Call (.Attribute (reE o nm (kid 0 (kid 0 e))) n (kid 0 e).pos) (reEs as nm (kids e).tail) [] e.pos
  | .attr o n => fun nm e => .Attribute (reE o nm (kid 0 e)) n e.pos
  | .sub o i => fun nm e => .Subscript (reE o nm (kid 0 e)) (reE i nm (kid 1 e)) e.pos
  | .slice o lo hi => fun nm e => .Subscript (reE o nm (kid 0 e)) (.Slice (reO lo nm (nth 0 (kids (kid 1 e)))) (reO hi nm (nth 0 (kids (kid 1 e)).reverse)) Option.none (kid 1 e).pos) e.pos
  | .list as => fun nm e => .List (reEs as nm (kids e)) e.pos
  | .tup as => fun nm e => .Tuple (reEs as nm (kids e)) (numOf e) e.pos
  | .dict0 => fun _ e => .Dict [] [] e.pos
  | .comp elt tg it cs => fun nm e => .ListComp (reE elt (nm ++ tg) (kid 0 e)) [⟨reTg tg (kid 1 e), reE it nm (kid 2 e), reTs cs (nm ++ tg) ((kids e).drop 3), 0⟩] (scOf e) e.pos
noncomputable def reEs : CEs → List Str → List PySem.Expr → List PySem.Expr
  | .nil => fun _ _ => []
  | .cons a r => fun nm es => reE a nm (nth 0 es) :: reEs r nm es.tail
noncomputable def reO : CO → List Str → PySem.Expr → Option PySem.Expr
  | .none => fun _ _ => Option.none
  | .some a => fun nm e => Option.some (reE a nm e)
noncomputable def reT : CT → List Str → PySem.Expr → PySem.Expr
  | .cmp op a b => fun nm e => .Compare (reE a nm (kid 0 e)) [op] [reE b nm (kid 1 e)] e.pos
  | .cmp2 a o1 b o2 c => fun nm e => .Compare (reE a nm (kid 0 e)) [o1, o2] [reE b nm (kid 1 e), reE c nm (kid 2 e)] e.pos
  | .not t => fun nm e => .UnaryOp .Not (reT t nm (kid 0 e)) e.pos
  | .and ts => fun nm e => .BoolOp .And (reTs ts nm (kids e)) e.pos
  | .or ts => fun nm e => .BoolOp .Or (reTs ts nm (kids e)) e.pos
  | .plain a => fun nm e => reE a nm e
noncomputable def reTs : CTs → List Str → List PySem.Expr → List PySem.Expr
  | .nil => fun _ _ => []
  | .cons t r => fun nm es => reT t nm (nth 0 es) :: reTs r nm es.tail
end
noncomputable def notSup : PySem.Expr → Bool
  | .Call (.Name _ _) [] [] _ => false
  | _ => true
noncomputable def notSlice : PySem.Expr → Bool
  | .Slice .. => false
  | _ => true
noncomputable def notStar : PySem.Expr → Bool
  | .Starred .. => false
  | _ => true
noncomputable def notComp : PySem.Expr → Bool
  | .ListComp .. => false
  | .SetComp .. => false
  | .DictComp .. => false
  | _ => true
noncomputable def plainX : PySem.Expr → Bool
  | .UnaryOp .Not _ _ => false
  | .BoolOp .. => false
  | .IfExp .. => false
  | .Compare .. => false
  | _ => true
noncomputable def nonPlain : CT → Bool
  | .plain _ => false
  | _ => true
noncomputable def plainC : CE → Bool
  | .tst _ => false
  | .ite .. => false
  | _ => true
noncomputable def nsup : CE → Bool
  | .call _ .nil => false
  | _ => true
noncomputable def okNames (p : Str → Bool) : List Str → Bool
  | [] => true
  | x :: r => p x && !r.contains x && okNames p r
noncomputable def compb (sc scope : Scope) (tg : List Str) : Bool :=
  scope.kind == .function && scope.names.all fun p => match p.2 with
    | .local => (p.1 == (".0" : Str) || tg.contains p.1) && scope.names.lookup p.1 == some .local
    | .free => kcl (sc.names.lookup p.1) == 2 && !tg.contains p.1
    | .globalImplicit => true
    | _ => false
noncomputable def lenEs : CEs → Nat
  | .nil => 0
  | .cons _ r => lenEs r + 1
noncomputable def okSlot (nm : List Str) (i : Nat) : Bool := slot nm (nm.getD i "") == some i
mutual
noncomputable def wfE : CE → List Str → Scope → PySem.Expr → Bool
  | .int _ => fun _ _ _ => true
  | .str _ => fun _ _ _ => true
  | .none => fun _ _ _ => true
  | .bool _ => fun _ _ _ => true
  | .loc i => fun nm sc _ => okSlot nm i && rdb sc (nm.getD i "")
  | .glob x => fun _ sc _ => glb sc x
  | .bin _ a b => fun nm sc e => wfE a nm sc (kid 0 e) && wfE b nm sc (kid 1 e)
  | .neg a => fun nm sc e => wfE a nm sc (kid 0 e)
  | .tst t => fun nm sc e => nonPlain t && wfT t nm sc e
  | .ite t a b => fun nm sc e => wfT t nm sc (kid 0 e) && wfE a nm sc (kid 1 e) && wfE b nm sc (kid 2 e)
  | .call g as => fun nm sc e => glb sc g && wfEs as nm sc (kids e).tail
  | .meth o _ as => fun nm sc e => nsup o && (kid 0 e).pos.endLine == e.pos.line && lenEs as < 30 && wfE o nm sc (kid 0 (kid 0 e)) && wfEs as nm sc (kids e).tail
  | .attr o _ => fun nm sc e => nsup o && wfE o nm sc (kid 0 e)
  | .sub o i => fun nm sc e => wfE o nm sc (kid 0 e) && wfE i nm sc (kid 1 e)
  | .slice o lo hi => fun nm sc e => wfE o nm sc (kid 0 e) && wfO lo nm sc (nth 0 (kids (kid 1 e))) && wfO hi nm sc (nth 0 (kids (kid 1 e)).reverse)
  | .list as => fun nm sc e => wfEs as nm sc (kids e)
  | .tup as => fun nm sc e => wfEs as nm sc (kids e)
  | .dict0 => fun _ _ _ => true
  | .comp elt tg it cs => fun nm sc e => !nm.contains (".0" : Str) && !tg.isEmpty && okNames (fun x => (scOf e).names.lookup x == some .local) tg && compb sc (scOf e) tg && wfE it nm sc (kid 2 e) && wfTs cs (nm ++ tg) (scOf e) ((kids e).drop 3) && wfE elt (nm ++ tg) (scOf e) (kid 0 e)
noncomputable def wfEs : CEs → List Str → Scope → List PySem.Expr → Bool
  | .nil => fun _ _ _ => true
  | .cons a r => fun nm sc es => wfE a nm sc (nth 0 es) && wfEs r nm sc es.tail
noncomputable def wfO : CO → List Str → Scope → PySem.Expr → Bool
  | .none => fun _ _ _ => true
  | .some a => fun nm sc e => wfE a nm sc e
noncomputable def wfT : CT → List Str → Scope → PySem.Expr → Bool
  | .cmp _ a b => fun nm sc e => wfE a nm sc (kid 0 e) && wfE b nm sc (kid 1 e)
  | .cmp2 a _ b _ c => fun nm sc e => wfE a nm sc (kid 0 e) && wfE b nm sc (kid 1 e) && wfE c nm sc (kid 2 e)
  | .not t => fun nm sc e => wfT t nm sc (kid 0 e)
  | .and ts => fun nm sc e => wfTs ts nm sc (kids e)
  | .or ts => fun nm sc e => wfTs ts nm sc (kids e)
  | .plain a => fun nm sc e => plainC a && wfE a nm sc e
noncomputable def wfTs : CTs → List Str → Scope → List PySem.Expr → Bool
  | .nil => fun _ _ _ => true
  | .cons t r => fun nm sc es => wfT t nm sc (nth 0 es) && wfTs r nm sc es.tail
end
noncomputable def exps : Stmt → List PySem.Expr
  | .Assign ts v _ => v :: ts
  | .Expr v _ => [v]
  | .If t _ _ _ => [t]
  | .While t _ _ _ => [t]
  | .For t i _ _ _ => [t, i]
  | .Return v _ => v.toList
  | .Raise x c _ => x.toList ++ c.toList
  | _ => []
noncomputable def bl0 : Stmt → List Stmt
  | .If _ b _ _ => b
  | .While _ b _ _ => b
  | .For _ _ b _ _ => b
  | .Try b _ _ _ _ => b
  | _ => []
noncomputable def bl1 : Stmt → List Stmt
  | .If _ _ b _ => b
  | _ => []
noncomputable def hsOf : Stmt → List ExceptHandler
  | .Try _ h _ _ _ => h
  | _ => []
noncomputable def ex (i : Nat) (st : Stmt) : PySem.Expr := nth i (exps st)
noncomputable def hBody : ExceptHandler → List Stmt
  | .ExceptHandler _ _ b _ => b
noncomputable def hPos : ExceptHandler → Pos
  | .ExceptHandler _ _ _ p => p
noncomputable def hTy : ExceptHandler → Pos
  | .ExceptHandler (some t) _ _ _ => t.pos
  | .ExceptHandler none _ _ p => p
noncomputable def nthS (ss : List Stmt) : Stmt := ss.headD (.Pass default)
noncomputable def nthH (hs : List ExceptHandler) : ExceptHandler := hs.headD (.ExceptHandler none none [] default)
noncomputable def atNm (nm : List Str) (is : List Nat) : List Str := is.map fun i => nm.getD i ""
mutual
noncomputable def reS : CS → List Str → Stmt → Stmt
  | .assign i a => fun nm st => .Assign [.Name (nm.getD i "") (ex 1 st).pos] (reE a nm (ex 0 st)) st.pos
  | .assignT is a => fun nm st => .Assign [.Tuple (reNames (atNm nm is) (kids (ex 1 st))) (numOf (ex 1 st)) (ex 1 st).pos] (reE a nm (ex 0 st)) st.pos
  | .setItem o i a => fun nm st => .Assign [.Subscript (reE o nm (kid 0 (ex 1 st))) (reE i nm (kid 1 (ex 1 st))) (ex 1 st).pos] (reE a nm (ex 0 st)) st.pos
  | .setAttr o n a => fun nm st => .Assign [.Attribute (reE o nm (kid 0 (ex 1 st))) n (ex 1 st).pos] (reE a nm (ex 0 st)) st.pos
  | .swap o1 i1 o2 i2 a1 a2 => fun nm st => .Assign [.Tuple [.Subscript (reE o1 nm (kid 0 (kid 0 (ex 1 st)))) (reE i1 nm (kid 1 (kid 0 (ex 1 st)))) (kid 0 (ex 1 st)).pos, .Subscript (reE o2 nm (kid 0 (kid 1 (ex 1 st)))) (reE i2 nm (kid 1 (kid 1 (ex 1 st)))) (kid 1 (ex 1 st)).pos] (numOf (ex 1 st)) (ex 1 st).pos]
      (.Tuple [reE a1 nm (kid 0 (ex 0 st)), reE a2 nm (kid 1 (ex 0 st))] (numOf (ex 0 st)) (ex 0 st).pos) st.pos
  | .expr a => fun nm st => .Expr (reE a nm (ex 0 st)) st.pos
  | .ite t a b => fun nm st => .If (reT t nm (ex 0 st)) (reSs a nm (bl0 st)) (reSs b nm (bl1 st)) st.pos
  | .while t b => fun nm st => .While (reT t nm (ex 0 st)) (reSs b nm (bl0 st)) [] st.pos
  | .for is it b => fun nm st => .For (reTg (atNm nm is) (ex 0 st)) (reE it nm (ex 1 st)) (reSs b nm (bl0 st)) [] st.pos
  | .ret a => fun nm st => .Return (some (reE a nm (ex 0 st))) st.pos
  | .ret0 => fun _ st => .Return none st.pos
  | .raise g as => fun nm st => .Raise (some (.Call (.Name g (kid 0 (ex 0 st)).pos) (reEs as nm (kids (ex 0 st)).tail) [] (ex 0 st).pos)) none st.pos
  | .raiseFrom g as c => fun nm st => .Raise (some (.Call (.Name g (kid 0 (ex 0 st)).pos) (reEs as nm (kids (ex 0 st)).tail) [] (ex 0 st).pos)) (some (reE c nm (ex 1 st))) st.pos
  | .try b h => fun nm st => .Try (reSs b nm (bl0 st)) (reHs h nm (hsOf st)) [] [] st.pos
  | .brk => fun _ st => .Break st.pos
  | .cont => fun _ st => .Continue st.pos
  | .pass => fun _ st => .Pass st.pos
noncomputable def reSs : CSs → List Str → List Stmt → List Stmt
  | .nil => fun _ _ => []
  | .cons a r => fun nm ss => reS a nm (nthS ss) :: reSs r nm ss.tail
noncomputable def reHs : CHs → List Str → List ExceptHandler → List ExceptHandler
  | .nil => fun _ _ => []
  | .cons g x b r => fun nm hs => .ExceptHandler (some (.Name g (hTy (nthH hs)))) (x.map fun i => nm.getD i "") (reSs b nm (hBody (nthH hs))) (hPos (nthH hs)) :: reHs r nm hs.tail
end
noncomputable def isComp : CE → Bool
  | .comp .. => true
  | _ => false
noncomputable def isTup : CE → Bool
  | .tup .. => true
  | _ => false
noncomputable def notNilS : CSs → Bool
  | .nil => false
  | _ => true
mutual
noncomputable def wfS : CS → List Str → Scope → Stmt → Bool
  | .assign i a => fun nm sc st => okSlot nm i && stb sc (nm.getD i "") && wfE a nm sc (ex 0 st)
  | .assignT is a => fun nm sc st => is.all (fun i => okSlot nm i && stb sc (nm.getD i "")) && decide (1 < is.length) && !isTup a && !isComp a && wfE a nm sc (ex 0 st)
  | .setItem o i a => fun nm sc st => wfE o nm sc (kid 0 (ex 1 st)) && wfE i nm sc (kid 1 (ex 1 st)) && wfE a nm sc (ex 0 st)
  | .setAttr o _ a => fun nm sc st => wfE o nm sc (kid 0 (ex 1 st)) && wfE a nm sc (ex 0 st)
  | .swap o1 i1 o2 i2 a1 a2 => fun nm sc st => wfE o1 nm sc (kid 0 (kid 0 (ex 1 st))) && wfE i1 nm sc (kid 1 (kid 0 (ex 1 st))) && wfE o2 nm sc (kid 0 (kid 1 (ex 1 st))) && wfE i2 nm sc (kid 1 (kid 1 (ex 1 st))) && wfE a1 nm sc (kid 0 (ex 0 st)) && wfE a2 nm sc (kid 1 (ex 0 st))
  | .expr a => fun nm sc st => !isComp a && wfE a nm sc (ex 0 st)
  | .ite t a b => fun nm sc st => wfT t nm sc (ex 0 st) && wfSs a nm sc (bl0 st) && wfSs b nm sc (bl1 st)
  | .while t b => fun nm sc st => wfT t nm sc (ex 0 st) && wfSs b nm sc (bl0 st)
  | .for is it b => fun nm sc st => !is.isEmpty && is.all (fun i => okSlot nm i && stb sc (nm.getD i "")) && wfE it nm sc (ex 1 st) && wfSs b nm sc (bl0 st)
  | .ret a => fun nm sc st => wfE a nm sc (ex 0 st)
  | .ret0 => fun _ _ _ => true
  | .raise g as => fun nm sc st => glb sc g && wfEs as nm sc (kids (ex 0 st)).tail
  | .raiseFrom g as c => fun nm sc st => glb sc g && wfEs as nm sc (kids (ex 0 st)).tail && wfE c nm sc (ex 1 st)
  | .try b h => fun nm sc st => wfSs b nm sc (bl0 st) && wfHs h nm sc (hsOf st)
  | .brk => fun _ _ _ => true
  | .cont => fun _ _ _ => true
  | .pass => fun _ _ _ => true
noncomputable def wfSs : CSs → List Str → Scope → List Stmt → Bool
  | .nil => fun _ _ _ => true
  | .cons a r => fun nm sc ss => wfS a nm sc (nthS ss) && wfSs r nm sc ss.tail
noncomputable def wfHs : CHs → List Str → Scope → List ExceptHandler → Bool
  | .nil => fun _ _ _ => true
  | .cons g x b r => fun nm sc hs => glb sc g && notNilS b && (match x with
      | none => true
      | some i => okSlot nm i && sc.names.lookup (nm.getD i "") == some .local) && wfSs b nm sc (hBody (nthH hs)) && wfHs r nm sc hs.tail
end
noncomputable def AR (c : Cx) (m : ML) (es : List PySem.Expr) (pos : Pos) (H : MH) (post : List MV → MH → Prop) : Prop :=
  ∀ (mr : Str → Option Value) (ρ : List Addr) (s : Shared) (Q : List Value → Shared → Prop) (E : Value → Shared → Prop), St c mr ρ H s.heap → LR mr c.nm ρ m →
    (∀ t vs vrs H' h' tk, post vs H' → VRs (ρ ++ t) vs vrs → St c mr (ρ ++ t) H' h' → Q vrs { s with heap := h', toks := tk }) → Kx c ρ s E →
    wpAny (model c.prog c.w) c.A (spliced (backTo pos (starEach es c.env))) Q E s
noncomputable def IT (c : Cx) (m : ML) (e : PySem.Expr) (H : MH) (post : Bool → MH → Prop) : Prop :=
  ∀ (whole : Sem Value) (mr : Str → Option Value) (ρ : List Addr) (s : Shared) (Q : Bool → Shared → Prop) (E : Value → Shared → Prop), (plainX e = true → whole = eval e c.env) → St c mr ρ H s.heap → LR mr c.nm ρ m →
    (∀ t b H' h' tk, post b H' → St c mr (ρ ++ t) H' h' → Q b { s with heap := h', toks := tk }) → Kx c ρ s E →
    wpAny (model c.prog c.w) c.A (isTrue e c.env whole) Q E s
noncomputable def IB (c : Cx) (m : ML) (op : BoolOp) (es : List PySem.Expr) (H : MH) (post : Bool → MH → Prop) : Prop :=
  ∀ (mr : Str → Option Value) (ρ : List Addr) (s : Shared) (Q : Bool → Shared → Prop) (E : Value → Shared → Prop), St c mr ρ H s.heap → LR mr c.nm ρ m →
    (∀ t b H' h' tk, post b H' → St c mr (ρ ++ t) H' h' → Q b { s with heap := h', toks := tk }) → Kx c ρ s E →
    wpAny (model c.prog c.w) c.A (allTrue op es c.env) Q E s
noncomputable def X1 (c : Cx) (m : ML) (st : Stmt) (H : MH) (post : Fl → ML → MH → Prop) : Prop :=
  ∀ (mr : Str → Option Value) (ρ : List Addr) (s : Shared) (Q : Flow → Shared → Prop) (E : Value → Shared → Prop), St c mr ρ H s.heap → LR mr c.nm ρ m →
    (∀ t f fr m' mr' H' h' tk, post f m' H' → FlR (ρ ++ t) f fr → St c mr' (ρ ++ t) H' h' → LR mr' c.nm (ρ ++ t) m' → Q fr { s with heap := h', toks := tk }) → Kx c ρ s E →
    wpAny (model c.prog c.w) c.A (exec st c.env) Q E s
def TE (c : Cx) (m : ML) (a : CE) (H : MH) (post : MV → MH → Prop) : Prop := ∀ e, wfE a c.nm c.sc e = true → EV c m (reE a c.nm e) H post
def TEs (c : Cx) (m : ML) (as : CEs) (H : MH) (post : List MV → MH → Prop) : Prop := ∀ es pos, wfEs as c.nm c.sc es = true → AR c m (reEs as c.nm es) pos H post
def TT (c : Cx) (m : ML) (t : CT) (H : MH) (post : Bool → MH → Prop) : Prop := ∀ e, wfT t c.nm c.sc e = true → IT c m (reT t c.nm e) H post
def TTs (c : Cx) (m : ML) (op : BoolOp) (ts : CTs) (H : MH) (post : Bool → MH → Prop) : Prop := ∀ es, wfTs ts c.nm c.sc es = true → IB c m op (reTs ts c.nm es) H post
def TV (c : Cx) (m : ML) (t : CT) (H : MH) (post : MV → MH → Prop) : Prop := ∀ e, nonPlain t = true → wfT t c.nm c.sc e = true → EV c m (reT t c.nm e) H post
def TS (c : Cx) (m : ML) (a : CS) (H : MH) (post : Fl → ML → MH → Prop) : Prop := ∀ st, wfS a c.nm c.sc st = true → X1 c m (reS a c.nm st) H post
def TB (c : Cx) (m : ML) (b : CSs) (H : MH) (post : Fl → ML → MH → Prop) : Prop := ∀ ss, wfSs b c.nm c.sc ss = true → EX c m (reSs b c.nm ss) H post
section
variable {c : Cx} {m : ML} {H : MH} {G : Gx} {d : Nat}
theorem TE.mono {a : CE} {p q : MV → MH → Prop} (h : TE c m a H p) (hp : ∀ v H', p v H' → q v H') : TE c m a H q := fun e he => (h e he).mono hp
theorem TT.mono {t : CT} {p q : Bool → MH → Prop} (h : TT c m t H p) (hp : ∀ v H', p v H' → q v H') : TT c m t H q :=
  fun e he wh mr ρ s Q E hw S l k kx => h e he wh mr ρ s Q E hw S l (fun t v H' h' tk hv => k t v H' h' tk (hp _ _ hv)) kx
theorem TB.mono {a : CSs} {p q : Fl → ML → MH → Prop} (h : TB c m a H p) (hp : ∀ f m' H', p f m' H' → q f m' H') : TB c m a H q :=
  fun st hs mr ρ s Q E S l k kx => h st hs mr ρ s Q E S l (fun t f fr m' mr' H' h' tk hv => k t f fr m' mr' H' h' tk (hp _ _ _ hv)) kx
theorem and2 {a b : Bool} (h : (a && b) = true) : a = true ∧ b = true := (Bool.and_eq_true a b).mp h
theorem and3 {a b c : Bool} (h : (a && b && c) = true) : a = true ∧ b = true ∧ c = true := ⟨(and2 (and2 h).1).1, (and2 (and2 h).1).2, (and2 h).2⟩
theorem TE.int {i : Int} {post : MV → MH → Prop} (h : post (.int i) H) : TE c m (.int i) H post := by
  intro e he mr ρ s Q E S l k kx
  exact wpAny_Constant_int (k [] (.int i) _ H s.heap _ h ⟨_, rfl⟩ (nil_of S))
theorem TE.str {x : Str} {post : MV → MH → Prop} (h : post (.str x) H) : TE c m (.str x) H post := by
  intro e he mr ρ s Q E S l k kx
  exact wpAny_Constant_str (k [] (.str x) _ H s.heap _ h ⟨_, rfl⟩ (nil_of S))
theorem TE.bool {b : Bool} {post : MV → MH → Prop} (h : post (.bool b) H) : TE c m (.bool b) H post := by
  intro e he mr ρ s Q E S l k kx
  exact wpAny_Constant_bool (k [] (.bool b) _ H s.heap s.toks h rfl (nil_of S))
theorem TE.loc (ok : Ok G c d) {i : Nat} {v : MV} {post : MV → MH → Prop} (hm : m[i]? = some (some v)) (h : post v H) : TE c m (.loc i) H post := by
  intro e he mr ρ s Q E S l k kx
  obtain ⟨h1, h2⟩ := and2 he
  obtain ⟨vr, h3, h4⟩ := l.2 _ _ _ (beq_iff_eq.mp h1) hm
  exact read ok S h2 h4 (k [] v vr H s.heap s.toks h (by rw [List.append_nil]; exact h3) (nil_of S))
theorem nameG (ok : Ok G c d) {mr : Str → Option Value} {ρ : List Addr} {s : Shared} {x : Str} {pos : Pos} {v : Value} {Q E} (S : St c mr ρ H s.heap) (hx : glb c.sc x = true) (hg : nsIn G.K mainGlobals x = some (some v)) (h : Q v s) :
    wpAny (model c.prog c.w) c.A (eval (.Name x pos) c.env) Q E s := by
  unfold glb at hx
  simp only [Bool.and_eq_true, beq_iff_eq, bne_iff_ne, ne_eq] at hx
  have hd' : (x == ("__debug__" : Str)) = false := by simpa using hx.1
  have hk := kcl3 ((ok.kd x).trans hx.2)
  exact Name_function_global ok.fn hk (loadGlobal_global (env := c.env) (by rw [ok.gl]; exact ok.top.g.keeps S.keep) (mg_of ok.kin ok.top.g hg) h) hd'
theorem nameB (ok : Ok G c d) {mr : Str → Option Value} {ρ : List Addr} {s : Shared} {x : Str} {pos : Pos} {v : Value} {Q E} (S : St c mr ρ H s.heap) (hx : glb c.sc x = true) (hg : nsIn G.K mainGlobals x = some Option.none)
    (hb : bootBuiltins x = some v) (hn : x ≠ "__name__") (h : Q v s) : wpAny (model c.prog c.w) c.A (eval (.Name x pos) c.env) Q E s := by
  unfold glb at hx
  simp only [Bool.and_eq_true, beq_iff_eq, bne_iff_ne, ne_eq] at hx
  have hd' : (x == ("__debug__" : Str)) = false := by simpa using hx.1
  have hk := kcl3 ((ok.kd x).trans hx.2)
  have T := topRead_of ok.top
  exact Name_function_global ok.fn hk (loadGlobal_builtin (env := c.env) (by rw [ok.gl]; exact T.g.keeps S.keep) (mg_none_of ok.kin T.g hg) (by rw [ok.bi]; exact T.b.keeps S.keep) ((T.builtins x hn).trans hb) h) hd'
theorem TE.glob (ok : Ok G c d) {x : Str} {v : MV} {vr : Value} {post : MV → MH → Prop} (hg : nsIn G.K mainGlobals x = some (some vr)) (hv : VR [] v vr) (h : post v H) : TE c m (.glob x) H post := by
  intro e he mr ρ s Q E S l k kx
  exact nameG ok S he hg (k [] v vr H s.heap s.toks h (by rw [List.append_nil]; have := hv.mono (t := ρ); rwa [List.nil_append] at this) (nil_of S))
theorem fm {a p : Int} (h : 0 < p) : a.fmod p = a % p := Int.fmod_eq_emod_of_nonneg _ (by omega)
inductive BinI : Operator → MV → MV → MV → Prop where
  | add {x y : Int} : BinI .Add (.int x) (.int y) (.int (x + y))
  | sub {x y : Int} : BinI .Sub (.int x) (.int y) (.int (x - y))
  | mul {x y : Int} (h : IntMulOk x y) : BinI .Mult (.int x) (.int y) (.int (x * y))
  | mod {x y : Int} (h : y ≠ 0) : BinI .Mod (.int x) (.int y) (.int (x.fmod y))
  | modP {x y : Int} (h : 0 < y) : BinI .Mod (.int x) (.int y) (.int (x % y))
  | div {x y : Int} (h : y ≠ 0) (h2 : y.natAbs < 1073741824) : BinI .FloorDiv (.int x) (.int y) (.int (x.fdiv y))
  | band {x y : Int} : BinI .BitAnd (.int x) (.int y) (.int (Builtin.bitAnd x y))
  | shr {x y : Int} (h : 0 ≤ y) : BinI .RShift (.int x) (.int y) (.int (x.fdiv (2 ^ y.toNat)))
  | pow {x y : Int} (h0 : 0 ≤ y) (h1 : y ≤ 1000000) (h2 : x.natAbs < 2 ^ 64) : BinI .Pow (.int x) (.int y) (.int (x ^ y.toNat))
  | shl {x y : Int} (h0 : 0 ≤ y) (h1 : y ≤ 1000000) (h2 : x.natAbs < 2 ^ 64) : BinI .LShift (.int x) (.int y) (.int (x * 2 ^ y.toNat))
  | cat {x y : Str} (h : x.length + y.length ≤ 1000000) : BinI .Add (.str x) (.str y) (.str (x ++ y))
theorem bin_ok {op : Operator} {a b v : MV} {x y : Value} {ρ : List Addr} {s : Shared} {Q E} (hh : c.A.handled = Option.none) (hb : BinI op a b v) (ha : VR ρ a x) (hy : VR ρ b y) (k : ∀ z tk, VR ρ v z → Q z { s with toks := tk }) :
    wpAny (model c.prog c.w) c.A (binaryOp op x y) Q E s := by
  cases hb <;> obtain ⟨t, rfl⟩ := ha <;> obtain ⟨u, rfl⟩ := hy
  case add => exact add_int (k _ _ ⟨_, rfl⟩)
  case sub => exact sub_int (k _ _ ⟨_, rfl⟩)
  case mul h => exact mul_int (k _ _ ⟨_, rfl⟩) h
  case mod h => exact mod_int' h (k _ _ ⟨_, rfl⟩)
  case modP h => exact mod_int' (Int.ne_of_gt h) (by rw [fm h]; exact k _ _ ⟨_, rfl⟩)
  case div h h2 => exact floordiv_int h (k _ _ ⟨_, rfl⟩) (.inl (PyProof.noPylong_small h2))
  case band => exact and_int (k _ _ ⟨_, rfl⟩)
  case shr h => exact rshift_int_or hh (fun hn => absurd hn (Int.not_lt.mpr h)) fun _ => k _ _ ⟨_, rfl⟩
  case pow h0 h1 h2 => exact pow_int_small h0 h1 h2 (k _ _ ⟨_, rfl⟩)
  case shl h0 h1 h2 => exact lshift_int_small h0 h1 h2 (k _ _ ⟨_, rfl⟩)
  case cat h => exact add_str (fun _ _ => k _ _ ⟨_, rfl⟩) (Nat.le_trans h (by decide))
theorem TE.op (ok : Ok G c d) {op : Operator} {a b : CE} {post : MV → MH → Prop} (h : TE c m a H (fun x H1 => TE c m b H1 (fun y H2 => ∃ v, BinI op x y v ∧ post v H2))) : TE c m (.bin op a b) H post := by
  intro e he mr ρ s Q E S l k kx
  obtain ⟨h2, h3⟩ := and2 he
  refine wpAny_BinOp ?_
  refine h _ h2 mr ρ s _ E S l ?_ kx
  intro t x xr H1 hp1 tk1 hr hx S1
  refine hr _ h3 mr (ρ ++ t) _ _ E S1 l.mono ?_ kx.mono
  rintro t' y yr H2 hp2 tk2 ⟨v, hv, hp⟩ hy S2
  refine bin_ok ok.hh hv hx.mono hy ?_
  intro z tk hz
  rw [List.append_assoc] at hz S2
  exact k (t ++ t') v z H2 hp2 tk hp hz S2
end
noncomputable def Cq (c : Cx) (op : CmpOp) (H : MH) (a b : MV) (r : Bool) : Prop :=
  ∀ (mr : Str → Option Value) (ρ : List Addr) (s : Shared) (Q : Value → Shared → Prop) (E : Value → Shared → Prop) (va vb : Value), St c mr ρ H s.heap → VR ρ a va → VR ρ b vb →
    (∀ h' tk, St c mr ρ H h' → Q (.bool r) { s with heap := h', toks := tk }) → wpAny (model c.prog c.w) c.A (compareOp op va vb) Q E s
noncomputable def cmpN (op : CmpOp) (x y : Int) : Option Bool := match op with
  | .Lt => some (decide (x < y))
  | .LtE => some (decide (x ≤ y))
  | .Gt => some (decide (y < x))
  | .GtE => some (decide (y ≤ x))
  | .Eq => some (decide (x = y))
  | .NotEq => some (!decide (x = y))
  | _ => none
noncomputable def cmpQ (op : CmpOp) (e : Bool) : Option Bool := match op with
  | .Eq => some e
  | .NotEq => some (!e)
  | _ => none
noncomputable def cmpZ (op : CmpOp) (e : Bool) : Option Bool := match op with
  | .Is => some e
  | .IsNot => some (!e)
  | _ => none
noncomputable def cmpV (op : CmpOp) : MV → MV → Option Bool
  | .int x, .int y => cmpN op x y
  | .str x, .str y => cmpQ op (decide (x = y))
  | .bool x, .bool y => cmpQ op (x == y)
  | .none, .none => cmpZ op true
  | .ref _, .none => cmpZ op false
  | _, _ => none
noncomputable def Cmp (op : CmpOp) (a b : MV) (r : Bool) : Prop := match cmpV op a b with
  | some s => r = s
  | none => False
section
variable {c : Cx} {m : ML} {H : MH} {G : Gx} {d : Nat}
theorem cq_of {op : CmpOp} {a b : MV} {r : Bool} (h : Cmp op a b r) : Cq c op H a b r := by
  intro mr ρ s Q E va vb S ha hb k
  have k' := k s.heap s.toks S
  cases a with
  | int x =>
    cases b with
    | int y =>
      obtain ⟨t, rfl⟩ := ha
      obtain ⟨u, rfl⟩ := hb
      cases op with
      | Lt => have e : r = _ := h; subst e; exact lt_int k'
      | LtE => have e : r = _ := h; subst e; exact le_int k'
      | Gt => have e : r = _ := h; subst e; exact gt_int k'
      | GtE => have e : r = _ := h; subst e; exact ge_int k'
      | Eq => have e : r = _ := h; subst e; exact PyProof.Rows.eq_int (by rw [show (x == y) = decide (x = y) from rfl]; exact k')
      | NotEq => have e : r = _ := h; subst e; exact PyProof.Rows.ne_int (by rw [show (x != y) = !decide (x = y) from rfl]; exact k')
      | _ => exact False.elim h
    | _ => exact False.elim h
  | str x =>
    cases b with
    | str y =>
      obtain ⟨t, rfl⟩ := ha
      obtain ⟨u, rfl⟩ := hb
      cases op with
      | Eq => have e : r = _ := h; subst e; exact PyProof.Rows.eq_str (by rw [show (x == y) = decide (x = y) from rfl]; exact k')
      | NotEq => have e : r = _ := h; subst e; exact PyProof.Rows.ne_str (by rw [show (x != y) = !decide (x = y) from rfl]; exact k')
      | _ => exact False.elim h
    | _ => exact False.elim h
  | bool x =>
    cases b with
    | bool y =>
      cases ha
      cases hb
      cases op with
      | Eq => have e : r = _ := h; subst e; exact PyProof.Rows.eq_bool k'
      | NotEq => have e : r = _ := h; subst e; exact PyProof.Rows.ne_bool k'
      | _ => exact False.elim h
    | _ => exact False.elim h
  | none =>
    cases b with
    | none =>
      cases ha
      cases hb
      cases op with
      | Is => have e : r = _ := h; subst e; exact is_none_none k'
      | IsNot => have e : r = _ := h; subst e; exact isnot_none_none k'
      | _ => exact False.elim h
    | _ => exact False.elim h
  | ref i =>
    cases b with
    | none =>
      obtain ⟨x, _, rfl⟩ := ha
      cases hb
      cases op with
      | Is => have e : r = _ := h; subst e; exact is_none_ne (by intro q; cases q) k'
      | IsNot => have e : r = _ := h; subst e; exact isnot_none_ne (by intro q; cases q) k'
      | _ => exact False.elim h
    | _ => exact False.elim h
  | glob i => exact False.elim h
theorem re_marks {a : CE} {nm : List Str} {sc : Scope} {e : PySem.Expr} {op : CmpOp} (h : wfE a nm sc e = true) : behindInMarks op (reE a nm e) = false := by
  cases a with
  | tst t =>
    have h1 : (nonPlain t && wfT t nm sc e) = true := h
    have h2 := (and2 h1).1
    cases t <;> first | rfl | cases h2
  | _ => rfl
theorem TT.cq {op : CmpOp} {a b : CE} {post : Bool → MH → Prop} (h : TE c m a H (fun x H1 => TE c m b H1 (fun y H2 => ∃ r, Cq c op H2 x y r ∧ post r H2))) : TT c m (.cmp op a b) H post := by
  intro e he
  obtain ⟨h2, h3⟩ := and2 he
  intro wh mr ρ s Q E _ S l k kx
  refine wpAny_isTrue_Compare1 ?_ (re_marks h3)
  refine h _ h2 mr ρ s _ E S l ?_ kx
  intro t x xr H1 hp1 tk1 hr hx S1
  refine hr _ h3 mr (ρ ++ t) _ _ E S1 l.mono ?_ kx.mono
  rintro t' y yr H2 hp2 tk2 ⟨r, hq, hp⟩ hy S2
  refine hq mr _ _ _ E _ _ S2 hx.mono hy ?_
  intro h' tk S3
  refine wpAny_truthy_bool ?_
  rw [List.append_assoc] at S3
  exact k (t ++ t') r H2 h' tk hp S3
theorem TT.cmp {op : CmpOp} {a b : CE} {post : Bool → MH → Prop} (h : TE c m a H (fun x H1 => TE c m b H1 (fun y H2 => ∃ r, Cmp op x y r ∧ post r H2))) : TT c m (.cmp op a b) H post :=
  TT.cq (h.mono fun x H1 h1 => h1.mono fun y H2 ⟨r, hr, hp⟩ => ⟨r, cq_of hr, hp⟩)
theorem TV.cq {op : CmpOp} {a b : CE} {post : MV → MH → Prop} (h : TE c m a H (fun x H1 => TE c m b H1 (fun y H2 => ∃ r, Cq c op H2 x y r ∧ post (.bool r) H2))) : TV c m (.cmp op a b) H post := by
  intro e _ he
  obtain ⟨h2, h3⟩ := and2 he
  intro mr ρ s Q E S l k kx
  refine wpAny_Compare1 ?_ (re_marks h3)
  refine h _ h2 mr ρ s _ E S l ?_ kx
  intro t x xr H1 hp1 tk1 hr hx S1
  refine hr _ h3 mr (ρ ++ t) _ _ E S1 l.mono ?_ kx.mono
  rintro t' y yr H2 hp2 tk2 ⟨r, hq, hp⟩ hy S2
  refine hq mr _ _ _ E _ _ S2 hx.mono hy ?_
  intro h' tk S3
  rw [List.append_assoc] at S3
  exact k (t ++ t') (.bool r) _ H2 h' tk hp rfl S3
theorem TV.cmp {op : CmpOp} {a b : CE} {post : MV → MH → Prop} (h : TE c m a H (fun x H1 => TE c m b H1 (fun y H2 => ∃ r, Cmp op x y r ∧ post (.bool r) H2))) : TV c m (.cmp op a b) H post :=
  TV.cq (h.mono fun x H1 h1 => h1.mono fun y H2 ⟨r, hr, hp⟩ => ⟨r, cq_of hr, hp⟩)
theorem TE.tst {t : CT} {post : MV → MH → Prop} (h : TV c m t H post) : TE c m (.tst t) H post := by
  intro e he
  exact h e (and2 he).1 (and2 he).2
theorem TTs.orNil {post : Bool → MH → Prop} (h : post false H) : TTs c m .Or .nil H post := by
  intro es he
  intro mr ρ s Q E S l k kx
  refine wpAny_pure ?_
  exact k [] false H s.heap s.toks h (nil_of S)
theorem TTs.and {t : CT} {r : CTs} {post : Bool → MH → Prop} (h : TT c m t H (fun b H1 => (b = false → post false H1) ∧ (b = true → TTs c m .And r H1 post))) : TTs c m .And (.cons t r) H post := by
  intro es he
  have he := and2 he
  intro mr ρ s Q E S l k kx
  refine isTrue_and (whole := Sem.pure .none) (pos := ⟨0, 0, 0, 0⟩) ?_
  refine h _ he.1 _ mr ρ s _ E (fun _ => rfl) S l ?_ kx
  intro t b H1 h1 tk1 hp S1
  cases b with
  | false => exact k t false H1 h1 tk1 (hp.1 rfl) S1
  | true =>
    refine hp.2 rfl _ he.2 mr (ρ ++ t) _ _ E S1 l.mono ?_ kx.mono
    intro t' b H2 h2 tk2 hp2 S2
    rw [List.append_assoc] at S2
    exact k (t ++ t') b H2 h2 tk2 hp2 S2
theorem TTs.or {t : CT} {r : CTs} {post : Bool → MH → Prop} (h : TT c m t H (fun b H1 => (b = true → post true H1) ∧ (b = false → TTs c m .Or r H1 post))) : TTs c m .Or (.cons t r) H post := by
  intro es he
  have he := and2 he
  intro mr ρ s Q E S l k kx
  refine isTrue_or (whole := Sem.pure .none) (pos := ⟨0, 0, 0, 0⟩) ?_
  refine h _ he.1 _ mr ρ s _ E (fun _ => rfl) S l ?_ kx
  intro t b H1 h1 tk1 hp S1
  cases b with
  | true => exact k t true H1 h1 tk1 (hp.1 rfl) S1
  | false =>
    refine hp.2 rfl _ he.2 mr (ρ ++ t) _ _ E S1 l.mono ?_ kx.mono
    intro t' b H2 h2 tk2 hp2 S2
    rw [List.append_assoc] at S2
    exact k (t ++ t') b H2 h2 tk2 hp2 S2
theorem TT.and {ts : CTs} {post : Bool → MH → Prop} (h : TTs c m .And ts H post) : TT c m (.and ts) H post := by
  intro e he
  intro wh mr ρ s Q E _ S l k kx
  exact h _ he mr ρ s Q E S l k kx
theorem TT.or {ts : CTs} {post : Bool → MH → Prop} (h : TTs c m .Or ts H post) : TT c m (.or ts) H post := by
  intro e he
  intro wh mr ρ s Q E _ S l k kx
  exact h _ he mr ρ s Q E S l k kx
noncomputable def Tru (H : MH) : MV → Bool → Prop
  | .bool b, r => r = b
  | .int i, r => r = !decide (i = 0)
  | .none, r => r = false
  | _, _ => False
theorem isTrue_of {e : PySem.Expr} {env : Env} {wh : Sem Value} (h : plainX e = true) : isTrue e env wh = (do let v ← wh; standAt e.pos; holding [v] (truthy v)) := by
  cases e with
  | UnaryOp op x pos => cases op <;> first | rfl | cases h
  | BoolOp _ _ _ => cases h
  | IfExp _ _ _ _ => cases h
  | Compare _ _ _ _ => cases h
  | _ => rfl
theorem TT.plain {a : CE} {post : Bool → MH → Prop} (h : TE c m a H (fun v H1 => ∃ r, Tru H1 v r ∧ post r H1)) : TT c m (.plain a) H post := by
  intro e he
  have he := and2 he
  have hpl : plainX (reE a c.nm e) = true := by
    have h0 := he.1
    cases a <;> first | rfl | cases h0
  intro wh mr ρ s Q E hw S l k kx
  rw [hw hpl]
  refine isTrue_plain ?_ (isTrue_of hpl)
  refine h _ he.2 mr ρ s _ E S l ?_ kx
  rintro t v vr H1 h1 tk1 ⟨r, hr, hp⟩ hv S1
  cases v with
  | bool b =>
    have e1 : vr = .bool b := hv
    have e2 : r = b := hr
    subst e1 e2
    exact wpAny_truthy_bool (k t r H1 h1 tk1 hp S1)
  | int i =>
    obtain ⟨u, rfl⟩ := hv
    have e2 : r = !decide (i = 0) := hr
    subst e2
    exact truthy_int (k t _ H1 h1 tk1 hp S1)
  | none =>
    have e1 : vr = .none := hv
    have e2 : r = false := hr
    subst e1 e2
    exact truthy_none (k t _ H1 h1 tk1 hp S1)
  | _ => exact hr.elim
end
section
variable {c : Cx} {m : ML} {H : MH} {G : Gx} {d : Nat}
theorem star_cons {e : PySem.Expr} {es : List PySem.Expr} {env : Env} (h : notStar e = true) : starEach (e :: es) env = (false, eval e env) :: starEach es env := by
  cases e with
  | Starred _ _ => cases h
  | _ => rfl
theorem tst_of {t : CT} {nm : List Str} {sc : Scope} {e : PySem.Expr} (h : wfE (.tst t) nm sc e = true) : nonPlain t = true := by
  have h1 : (nonPlain t && wfT t nm sc e) = true := h
  exact (and2 h1).1
theorem star_re {a : CE} {nm : List Str} {sc : Scope} {e : PySem.Expr} (h : wfE a nm sc e = true) : notStar (reE a nm e) = true := by
  cases a with
  | tst t => have h2 := tst_of h; cases t <;> first | rfl | cases h2
  | _ => rfl
theorem slice_re {a : CE} {nm : List Str} {sc : Scope} {e : PySem.Expr} (h : wfE a nm sc e = true) : notSlice (reE a nm e) = true := by
  cases a with
  | tst t => have h2 := tst_of h; cases t <;> first | rfl | cases h2
  | _ => rfl
theorem comp_re {a : CE} {nm : List Str} {sc : Scope} {e : PySem.Expr} (h : wfE a nm sc e = true) (hn : isComp a = false) : notComp (reE a nm e) = true := by
  cases a with
  | tst t => have h2 := tst_of h; cases t <;> first | rfl | cases h2
  | comp _ _ _ _ => cases hn
  | _ => rfl
theorem star_plain {nm : List Str} {sc : Scope} {pos : Pos} {env : Env} : ∀ {as : CEs} {es : List PySem.Expr}, wfEs as nm sc es = true → (backTo pos (starEach (reEs as nm es) env)).any (·.1) = false
  | .nil, es, h => rfl
  | .cons a r, es, h => by
    have h := and2 h
    have := star_plain (pos := pos) (env := env) h.2
    show (backTo pos (starEach (reE a nm (nth 0 es) :: reEs r nm es.tail) env)).any (·.1) = false
    rw [star_cons (star_re h.1)]
    unfold backTo at this ⊢
    simp only [List.map_cons, List.any_cons, Bool.false_or]
    exact this
theorem TEs.nil {post : List MV → MH → Prop} (h : post [] H) : TEs c m .nil H post := by
  intro es pos he
  intro mr ρ s Q E S l k kx
  refine args_nil ?_
  exact k [] [] [] H s.heap s.toks h rfl (nil_of S)
theorem TEs.cons {a : CE} {r : CEs} {post : List MV → MH → Prop} (h : TE c m a H (fun v H1 => TEs c m r H1 (fun vs H2 => post (v :: vs) H2))) : TEs c m (.cons a r) H post := by
  intro es pos he
  obtain ⟨h2, h3⟩ := and2 he
  intro mr ρ s Q E S l k kx
  refine args_cons ?_ (star_cons (star_re h2))
  refine h _ h2 mr ρ s _ E S l ?_ kx
  intro t v vr H1 hp1 tk1 hr hv S1
  refine hr _ pos h3 mr (ρ ++ t) _ _ E S1 l.mono ?_ kx.mono
  intro t' vs vrs H2 hp2 tk2 hp hvs S2
  have hv' := hv.mono (t := t')
  rw [List.append_assoc] at hvs S2 hv'
  exact k (t ++ t') (v :: vs) (vr :: vrs) H2 hp2 tk2 hp ⟨vr, vrs, rfl, hv', hvs⟩ S2
theorem TE.list {as : CEs} {post : MV → MH → Prop} (h : TEs c m as H (fun vs H1 => vs.length ≤ 1000 ∧ post (.ref H1.length) (H1 ++ [.list vs]))) : TE c m (.list as) H post := by
  intro e he
  intro mr ρ s Q E S lr k kx
  refine List_ ?_
  refine h _ _ he mr ρ s _ E S lr ?_ kx
  rintro t vs vrs H1 h1 tk1 ⟨hsz, hp⟩ hvs S1
  obtain ⟨ml, xs, ⟨F, os, a1, a2, a3, N, a5⟩, back⟩ := S1.open
  refine newList_K F N ?_ (by rw [hvs.length]; exact Nat.le_trans hsz (by decide))
  intro l h' F' N' hl
  have := k (t ++ [l]) (.ref H1.length) (.ref l) _ h' tk1 hp
  rw [← List.append_assoc] at this
  exact this ⟨l, last_get a2, rfl⟩ (back _ _ _ (Led.alloc a1 a2 a3 a5 F' N' (fun p hp => Nat.ne_of_lt (hl p hp)) ⟨vrs, 0, hvs.mono, rfl⟩))
theorem TE.tup {as : CEs} {post : MV → MH → Prop} (h : TEs c m as H (fun vs H1 => vs.length ≤ 1000 ∧ post (.ref H1.length) (H1 ++ [.tup vs]))) : TE c m (.tup as) H post := by
  intro e he
  intro mr ρ s Q E S lr k kx
  refine Tuple_ ?_
  refine h _ _ he mr ρ s _ E S lr ?_ kx
  rintro t vs vrs H1 h1 tk1 ⟨hsz, hp⟩ hvs S1
  obtain ⟨ml, xs, ⟨F, os, a1, a2, a3, N, a5⟩, back⟩ := S1.open
  refine newTuple_N F N ?_ (by rw [hvs.length]; exact Nat.le_trans hsz (by decide))
  intro h' F' N'
  have := k (t ++ [h1.objs.size]) (.ref H1.length) (.ref h1.objs.size) _ h' tk1 hp
  rw [← List.append_assoc] at this
  exact this ⟨_, last_get a2, rfl⟩ (back _ _ _ (Led.alloc a1 a2 a3 a5 F' N' (fun p hp => Nat.ne_of_lt (Heap.lt_size (N p hp).1)) ⟨vrs, 0, hvs.mono, rfl⟩))
theorem isList_of {h₀ h : Heap} {L a : Addr} {vs : List Value} {n : Nat} (N : News h₀ L h [(a, listOf vs.toArray n)]) : h.IsList a vs.toArray := ⟨_, (N _ (.head _)).1, rfl, n, rfl⟩
theorem St.list {mr : Str → Option Value} {ρ : List Addr} {h : Heap} (S : St c mr ρ H h) {i : Nat} {xs : List MV} (hi : H[i]? = some (.list xs)) {x : Addr} (hx : ρ[i]? = some x) :
    ∃ vs n, VRs ρ xs vs ∧ News c.h₀ c.L h [(x, listOf vs.toArray n)] := by
  obtain ⟨y, o, hy, ⟨vs, n, hvs, rfl⟩, No⟩ := S.get hi
  rw [hx] at hy
  cases hy
  exact ⟨vs, n, hvs, No⟩
theorem St.tup {mr : Str → Option Value} {ρ : List Addr} {h : Heap} (S : St c mr ρ H h) {i : Nat} {xs : List MV} (hi : H[i]? = some (.tup xs)) {x : Addr} (hx : ρ[i]? = some x) :
    ∃ vs, VRs ρ xs vs ∧ IsTup h x vs.toArray := by
  obtain ⟨y, o, hy, ⟨vs, n, hvs, rfl⟩, No⟩ := S.get hi
  rw [hx] at hy
  cases hy
  exact ⟨vs, hvs, _, (No _ (.head _)).1, rfl, n, rfl⟩
theorem subscripted_of {nm : List Str} {sc : Scope} {i : PySem.Expr} (h : notSlice i = true) (a : Value) (k : Value) : subscripted i false a k = operate [a, k] (getItem a k) := by
  cases i with
  | Slice _ _ _ _ => cases h
  | _ => rfl
noncomputable def Sq (c : Cx) (H : MH) (o i v : MV) : Prop :=
  ∀ (mr : Str → Option Value) (ρ : List Addr) (s : Shared) (Q : Value → Shared → Prop) (E : Value → Shared → Prop) (vo vi : Value) (base sl : PySem.Expr), notSlice sl = true → St c mr ρ H s.heap → VR ρ o vo → VR ρ i vi →
    (∀ vr tk, VR ρ v vr → Q vr { s with toks := tk }) → wpAny (model c.prog c.w) c.A (subscriptTail base sl vo vi) Q E s
theorem TE.sq {o i : CE} {post : MV → MH → Prop} (h : TE c m o H (fun x H1 => TE c m i H1 (fun y H2 => ∃ v, Sq c H2 x y v ∧ post v H2))) : TE c m (.sub o i) H post := by
  intro e he
  obtain ⟨h2, h3⟩ := and2 he
  have h1 := slice_re h3
  intro mr ρ s Q E S lr k kx
  refine Subscript_ ?_
  refine h _ h2 mr ρ s _ E S lr ?_ kx
  intro t x xr H1 hp1 tk1 hr hx S1
  refine hr _ h3 mr (ρ ++ t) _ _ E S1 lr.mono ?_ kx.mono
  rintro t' y yr H2 hp2 tk2 ⟨v, hq, hp⟩ hy S2
  refine hq mr _ _ _ E _ _ _ _ h1 S2 hx.mono hy ?_
  intro vr tk hv
  rw [List.append_assoc] at hv S2
  exact k (t ++ t') v vr H2 hp2 tk hp hv S2
theorem Sq.glob {a : Addr} {vs : List Value} {n : Int} {i : Int} {t : Tok} (ha : c.h₀.IsList a vs.toArray) (h0 : 0 ≤ n) (hsz : vs.length ≤ 1000000) (hv : vs[n.toNat]? = some (.int i t)) : Sq c H (.glob a) (.int n) (.int i) := by
  rintro mr ρ s Q E _ _ base sl hsl S rfl ⟨u, rfl⟩ k
  have L : s.heap.IsList a vs.toArray := ha.at fun o e => S.keep _ o e
  have hlt := (List.getElem?_eq_some_iff.mp hv).1
  exact tail_any L.typeIs slot_list_getitem.lookup (wpAny_getItem_list L h0 (by omega) (by simpa using hv) (k _ _ ⟨t, rfl⟩)) (subscripted_of (nm := []) (sc := c.sc) hsl _ _)
theorem TB.nil {post : Fl → ML → MH → Prop} (h : post .next m H) : TB c m .nil H post := by
  intro ss hs
  intro mr ρ s Q E S l k kx
  refine wpAny_execs_nil ?_
  exact k [] .next .next m mr H s.heap s.toks h rfl (nil_of S) (by rw [List.append_nil]; exact l)
theorem TB.cons {a : CS} {r : CSs} {post : Fl → ML → MH → Prop} (h : TS c m a H (fun f m1 H1 => match f with | .next => TB c m1 r H1 post | f => post f m1 H1)) : TB c m (.cons a r) H post := by
  intro ss hs
  have hs := and2 hs
  intro mr ρ s Q E S l k kx
  refine wpAny_execs_cons ?_
  refine h _ hs.1 mr ρ s _ E S l ?_ kx
  intro t f fr m1 mr1 H1 h1 tk1 hp hf S1 l1
  cases f with
  | next =>
    subst hf
    refine hp _ hs.2 mr1 (ρ ++ t) _ _ E S1 l1 ?_ kx.mono
    intro t' f fr m2 mr2 H2 h2 tk2 hp2 hf2 S2 l2
    rw [List.append_assoc] at hf2 S2 l2
    exact k (t ++ t') f fr m2 mr2 H2 h2 tk2 hp2 hf2 S2 l2
  | brk => subst hf; exact k t .brk .brk m1 mr1 H1 h1 tk1 hp rfl S1 l1
  | cont => subst hf; exact k t .cont .cont m1 mr1 H1 h1 tk1 hp rfl S1 l1
  | ret v =>
    obtain ⟨vr, rfl, hv⟩ := hf
    exact k t (.ret v) (.ret vr) m1 mr1 H1 h1 tk1 hp ⟨vr, rfl, hv⟩ S1 l1
theorem TS.ret {a : CE} {post : Fl → ML → MH → Prop} (h : TE c m a H (fun v H1 => post (.ret v) m H1)) : TS c m (.ret a) H post := by
  intro st hs
  intro mr ρ s Q E S l k kx
  refine wpAny_Return_some ?_
  refine h _ hs mr ρ s _ E S l ?_ kx
  intro t v vr H1 h1 tk1 hp hv S1
  exact k t (.ret v) (.ret vr) m mr H1 h1 tk1 hp ⟨vr, rfl, hv⟩ S1 l.mono
theorem swaps_not {v : PySem.Expr} {t : Option PySem.Expr} {n : Nat} {env : Env} (h : notComp v = true) : swapsWith v t n env = pure false := by
  cases v <;> first | rfl | cases h
theorem TS.assign (ok : Ok G c d) (hfm : c.fm = none) {i : Nat} {a : CE} {post : Fl → ML → MH → Prop} (hn : isComp a = false) (h : TE c m a H (fun v H1 => post .next (m.set i (some v)) H1)) : TS c m (.assign i a) H post := by
  intro st hs
  obtain ⟨h1, h2, h3⟩ := and3 hs
  have h1 := beq_iff_eq.mp h1
  intro mr ρ s Q E S l k kx
  refine wpAny_Assign_Name ?_ (swaps_not (comp_re h3 hn))
  refine h _ h3 mr ρ s _ E S l ?_ kx
  intro t v vr H1 hp1 tk1 hp hv S1
  refine store ok S1 hfm h2 ?_
  intro h' tk S2
  exact k t .next .next _ _ H1 h' tk hp rfl S2 (l.mono.set h1 hv)
theorem TS.ite {t : CT} {a b : CSs} {post : Fl → ML → MH → Prop} (h : TT c m t H (fun r H1 => (r = true → TB c m a H1 post) ∧ (r = false → TB c m b H1 post))) : TS c m (.ite t a b) H post := by
  intro st hs
  have hs := and3 hs
  intro mr ρ s Q E S l k kx
  refine wpAny_If ?_
  refine h _ hs.1 _ mr ρ s _ E (fun _ => rfl) S l ?_ kx
  intro t b H1 h1 tk1 hp S1
  have fin : ∀ ss, EX c m ss H1 post → wpAny (model c.prog c.w) c.A (execs ss c.env) Q E { s with heap := h1, toks := tk1 } := by
    intro ss hss
    refine hss mr (ρ ++ t) _ _ E S1 l.mono ?_ kx.mono
    intro t' f fr m2 mr2 H2 h2 tk2 hp2 hf2 S2 l2
    rw [List.append_assoc] at hf2 S2 l2
    exact k (t ++ t') f fr m2 mr2 H2 h2 tk2 hp2 hf2 S2 l2
  cases b with
  | true => exact fin _ (hp.1 rfl _ hs.2.1)
  | false => exact fin _ (hp.2 rfl _ hs.2.2)
theorem TS.expr (hi : interactive c.env = false) {a : CE} {post : Fl → ML → MH → Prop} (h : TE c m a H (fun _ H1 => post .next m H1)) : TS c m (.expr a) H post := by
  intro st hs
  have hs := and2 hs
  intro mr ρ s Q E S l k kx
  refine wpAny_Expr_any ?_ hi (swaps_not (comp_re hs.2 (by simpa using hs.1)))
  refine h _ hs.2 mr ρ s _ E S l ?_ kx
  intro t v vr H1 h1 tk1 hp hv S1
  exact k t .next .next m mr H1 h1 tk1 hp rfl S1 l.mono
end
noncomputable def Cx.wx (c : Cx) (xt : List (Addr × Obj)) : Cx := { c with xt := xt }
theorem Ok.wx {G : Gx} {c : Cx} {d : Nat} (ok : Ok G c d) (xt : List (Addr × Obj)) : Ok G (c.wx xt) d :=
  ⟨ok.frames, ok.kin, ok.top, ok.hh, ok.dep, ok.uni, ok.fn, ok.gl, ok.bi, ok.ap, ok.kd, ok.fs, ok.ex⟩
section
variable {c : Cx} {m : ML} {H : MH} {G : Gx} {d : Nat}
theorem Led.addX {h₀ h : Heap} {L : Addr} {prog : Program} {w : World} {ml : Str → Option Value} {fr xt ex : List (Addr × Obj)} {ρ : List Addr} {o : Obj} (S : Led h₀ L prog w ml (fr ++ (xt ++ ex)) ρ H h) (ho : o.isFreed = false) :
    Led h₀ L prog w ml (fr ++ (((h.objs.size, o) :: xt) ++ ex)) ρ H (h.push o) := by
  obtain ⟨F, os, a1, a2, a3, N, a5⟩ := S
  have hn : h.objs.size ∉ (fr ++ (xt ++ ex)).map (·.1) ++ ρ := fun q => by
    obtain ⟨p, hp, e⟩ := led_addr (os := os) a1 a2 q
    have := Heap.lt_size (N p hp).1
    rw [e] at this
    exact Nat.lt_irrefl _ this
  refine ⟨F.push o, os, a1, a2, a3, fun p hp => N.push F o ho p ?_, ?_⟩
  · simp only [List.cons_append, List.mem_append, List.mem_cons] at hp ⊢
    rcases hp with (hp | hp | hp | hp) | hp <;> simp [hp]
  · have hp : ((fr ++ (((h.objs.size, o) :: xt) ++ ex)).map (·.1) ++ ρ).Perm (h.objs.size :: ((fr ++ (xt ++ ex)).map (·.1) ++ ρ)) := by
      simp only [List.map_append, List.map_cons, List.cons_append, List.append_assoc]
      exact List.perm_middle
    rw [hp.nodup_iff]
    exact List.nodup_cons.mpr ⟨hn, a5⟩
theorem St.addX {mr : Str → Option Value} {ρ : List Addr} {h : Heap} {o : Obj} (S : St c mr ρ H h) (ho : o.isFreed = false) : St (c.wx ((h.objs.size, o) :: c.xt)) mr ρ H (h.push o) := by
  obtain ⟨ml, fr, ex, own, u, l⟩ := S
  exact ⟨ml, fr, ex, own, u, l.addX ho⟩
theorem St.dropX {mr : Str → Option Value} {ρ : List Addr} {h : Heap} {p : Addr × Obj} (S : St (c.wx (p :: c.xt)) mr ρ H h) : St c mr ρ H h := by
  obtain ⟨ml, fr, ex, own, u, F, os, a1, a2, a3, N, a5⟩ := S
  refine ⟨ml, fr, ex, ?_, u, F, os, a1, a2, a3, fun q hq => N q ?_, ?_⟩
  · exact own
  · show q ∈ (fr ++ ((p :: c.xt) ++ ex)) ++ ρ.zip os
    simp only [List.cons_append, List.mem_append, List.mem_cons] at hq ⊢
    rcases hq with (hp | hp | hp) | hp <;> simp [hp]
  · replace a5 : ((fr ++ ((p :: c.xt) ++ ex)).map (·.1) ++ ρ).Nodup := a5
    refine List.Nodup.sublist ?_ a5
    simp only [List.map_append, List.map_cons, List.cons_append, List.append_assoc]
    exact List.Sublist.append (List.Sublist.refl _) (List.sublist_cons_self _ _)
theorem St.itr {mr : Str → Option Value} {ρ : List Addr} {h : Heap} {p : Addr × Obj} (S : St (c.wx (p :: c.xt)) mr ρ H h) : h.get? p.1 = some p.2 ∧ p.1 ≠ c.L ∧ c.h₀.get? p.1 = none := by
  obtain ⟨ml, fr, ex, own, u, F, os, a1, a2, a3, N, a5⟩ := S
  exact N p (List.mem_append_left _ (List.mem_append_right _ (List.mem_append_left _ (.head _))))
theorem St.turnX {mr : Str → Option Value} {ρ : List Addr} {h h' : Heap} {I : Addr} {o o' : Obj} (S : St (c.wx ((I, o) :: c.xt)) mr ρ H h) (hI : h'.get? I = some o')
    (hk : ∀ b x, b ≠ I → h.get? b = some x → h'.get? b = some x) : St (c.wx ((I, o') :: c.xt)) mr ρ H h' := by
  have nI := S.itr
  obtain ⟨ml, fr, ex, own, u, F, os, a1, a2, a3, N, a5⟩ := S
  replace N : News c.h₀ c.L h ((fr ++ (((I, o) :: c.xt) ++ ex)) ++ ρ.zip os) := N
  replace a5 : ((fr ++ (((I, o) :: c.xt) ++ ex)).map (·.1) ++ ρ).Nodup := a5
  have hne : ∀ b x, c.h₀.get? b = some x → b ≠ I := fun b x e q => by
    have := nI.2.2
    rw [q] at e
    have e' : c.h₀.get? I = none := this
    rw [e'] at e
    cases e
  refine ⟨ml, fr, ex, ?_, u, ⟨F.ns.at' fun x e => hk _ x (fun q => nI.2.1 q.symm) e, fun b x e => hk b x (hne b x e) (F.keep b x e), F.above⟩, os, a1, a2, a3, ?_, (by show ((fr ++ (((I, o') :: c.xt) ++ ex)).map (·.1) ++ ρ).Nodup; simpa [List.map_append] using a5)⟩
  · exact own
  · show News c.h₀ c.L h' ((fr ++ (((I, o') :: c.xt) ++ ex)) ++ ρ.zip os)
    have hp : ((fr ++ (((I, o) :: c.xt) ++ ex)).map (·.1) ++ ρ).Perm (I :: ((fr ++ (c.xt ++ ex)).map (·.1) ++ ρ)) := by
      simp only [List.map_append, List.map_cons, List.cons_append, List.append_assoc]
      exact List.perm_middle
    have hnd := List.nodup_cons.mp (hp.nodup_iff.mp a5)
    intro p hp
    have hsplit : p = (I, o') ∨ p ∈ (fr ++ (c.xt ++ ex)) ++ ρ.zip os := by
      simp only [List.cons_append, List.mem_append, List.mem_cons] at hp ⊢
      rcases hp with (hp | hp | hp | hp) | hp <;> simp [hp]
    rcases hsplit with rfl | hq
    · exact ⟨hI, nI.2⟩
    · have P := N p (by
        simp only [List.cons_append, List.mem_append, List.mem_cons] at hq ⊢
        rcases hq with (hp | hp | hp) | hp <;> simp [hp])
      refine ⟨hk _ _ (fun e => ?_) P.1, P.2⟩
      refine hnd.1 ?_
      rw [← e]
      rcases List.mem_append.mp hq with hq | hq
      · exact List.mem_append_left _ (List.mem_map_of_mem hq)
      · exact List.mem_append_right _ (List.of_mem_zip (show (p.1, p.2) ∈ _ from hq)).1
theorem St.endX {mr : Str → Option Value} {ρ : List Addr} {h h' : Heap} {I : Addr} {o : Obj} (S : St (c.wx ((I, o) :: c.xt)) mr ρ H h)
    (hk : ∀ b x, b ≠ I → h.get? b = some x → h'.get? b = some x) : St c mr ρ H h' := by
  have nI := S.itr
  obtain ⟨ml, fr, ex, own, u, F, os, a1, a2, a3, N, a5⟩ := S
  replace N : News c.h₀ c.L h ((fr ++ (((I, o) :: c.xt) ++ ex)) ++ ρ.zip os) := N
  replace a5 : ((fr ++ (((I, o) :: c.xt) ++ ex)).map (·.1) ++ ρ).Nodup := a5
  have hne : ∀ b x, c.h₀.get? b = some x → b ≠ I := fun b x e q => by
    have := nI.2.2
    rw [q] at e
    have e' : c.h₀.get? I = none := this
    rw [e'] at e
    cases e
  have hp : ((fr ++ (((I, o) :: c.xt) ++ ex)).map (·.1) ++ ρ).Perm (I :: ((fr ++ (c.xt ++ ex)).map (·.1) ++ ρ)) := by
    simp only [List.map_append, List.map_cons, List.cons_append, List.append_assoc]
    exact List.perm_middle
  have hnd := List.nodup_cons.mp (hp.nodup_iff.mp a5)
  refine ⟨ml, fr, ex, ?_, u, ⟨F.ns.at' fun x e => hk _ x (fun q => nI.2.1 q.symm) e, fun b x e => hk b x (hne b x e) (F.keep b x e), F.above⟩, os, a1, a2, a3, ?_, hnd.2⟩
  · exact own
  · intro p hq
    have P := N p (by
      simp only [List.cons_append, List.mem_append, List.mem_cons] at hq ⊢
      rcases hq with (hp | hp | hp) | hp <;> simp [hp])
    refine ⟨hk _ _ (fun e => ?_) P.1, P.2⟩
    refine hnd.1 ?_
    rw [← e]
    rcases List.mem_append.mp hq with hq | hq
    · exact List.mem_append_left _ (List.mem_map_of_mem hq)
    · exact List.mem_append_right _ (List.of_mem_zip (show (p.1, p.2) ∈ _ from hq)).1
theorem Fly.dropX {mr : Str → Option Value} {ρ : List Addr} {h : Heap} {p : Addr × Obj} {C : Addr} {as : List MV} {e : Addr} (f : Fly (c.wx (p :: c.xt)) mr ρ H C as e h) : Fly c mr ρ H C as e h := by
  obtain ⟨hB, t, vs, b, x⟩ := f.split
  exact FlyB.fly (c := c) ⟨b.st.dropX, b.vr, b.en, b.tn, b.tup, b.up, b.stay⟩ x
theorem Kx.addX {ρ : List Addr} {s : Shared} {E : Value → Shared → Prop} {p : Addr × Obj} (k : Kx c ρ s E) : Kx (c.wx (p :: c.xt)) ρ s E :=
  fun t C as e m' mr' H' h' tk hX hF hL => k t C as e m' mr' H' h' tk hX (hF.dropX) hL
end
noncomputable def setAll : List Nat → List MV → ML → ML
  | i :: is, v :: vs, m => setAll is vs (m.set i (some v))
  | _, _, m => m
noncomputable def Parts (H : MH) : List Nat → MV → List MV → Prop
  | [_], v, vs => vs = [v]
  | is, v, vs => 1 < is.length ∧ vs.length = is.length ∧ ∃ a, v = .ref a ∧ H[a]? = some (.tup vs)
noncomputable def okT (nm : List Str) (sc : Scope) (is : List Nat) : Bool := is.all (fun i => okSlot nm i && stb sc (nm.getD i ""))
section
variable {c : Cx} {m : ML} {H : MH} {G : Gx} {d : Nat}
theorem each_length {nm : List Str} {env : Env} : ∀ (is : List Nat) (es : List PySem.Expr), (assignEach (reNames (atNm nm is) es) env).length = is.length ∧ (assignEach (reNames (atNm nm is) es) env).findIdx? (·.1) = none
  | [], _ => ⟨rfl, rfl⟩
  | i :: is, es => by
    obtain ⟨h1, h2⟩ := each_length (nm := nm) (env := env) is es.tail
    refine ⟨?_, ?_⟩
    · show ((false, _) :: assignEach (reNames (atNm nm is) es.tail) env).length = _
      simp [h1]
    · show ((false, _) :: assignEach (reNames (atNm nm is) es.tail) env).findIdx? (·.1) = none
      rw [List.findIdx?_cons]
      simp [h2]
theorem assignIn (ok : Ok G c d) (hfm : c.fm = none) {Q : Unit → Shared → Prop} {E : Value → Shared → Prop} {ρ : List Addr} : ∀ {is : List Nat} {ts : List PySem.Expr} {vs : List MV} {vrs : List Value} {m : ML} {mr : Str → Option Value} {s : Shared},
    okT c.nm c.sc is = true → VRs ρ vs vrs → vs.length = is.length → St c mr ρ H s.heap → LR mr c.nm ρ m →
    (∀ mr' h' tk, St c mr' ρ H h' → LR mr' c.nm ρ (setAll is vs m) → Q () { s with heap := h', toks := tk }) →
    wpAny (model c.prog c.w) c.A (assignInOrder ((assignEach (reNames (atNm c.nm is) ts) c.env).map (·.2)) vrs) Q E s
  | [], ts, vs, vrs, m, mr, s, _, hv, hl, S, l, k => by
    cases vs with
    | nil =>
      have e : vrs = [] := hv
      subst e
      exact wpAny_pure (k mr s.heap s.toks S l)
    | cons _ _ => simp at hl
  | i :: is, ts, vs, vrs, m, mr, s, h, hv, hl, S, l, k => by
    have h1 : (okSlot c.nm i && stb c.sc (c.nm.getD i "") && okT c.nm c.sc is) = true := h
    obtain ⟨h1, h2, h3⟩ := and3 h1
    cases vs with
    | nil => simp at hl
    | cons v vs =>
      obtain ⟨vr, r, rfl, hv1, hv2⟩ := hv
      show wpAny _ _ (do holding r (assign (.Name (c.nm.getD i "") (nth 0 ts).pos) c.env vr); assignInOrder ((assignEach (reNames (atNm c.nm is) ts.tail) c.env).map (·.2)) r) Q E s
      refine wpAny_bind (wpAny_holding (wpAny_assign_Name ?_))
      refine store ok S hfm h2 ?_
      intro h' tk S2
      refine assignIn ok hfm (s := { s with heap := h', toks := tk }) h3 hv2 (by simpa using hl) S2 (l.set (beq_iff_eq.mp h1) hv1) ?_
      intro mr' h'' tk' S3 l3
      exact k mr' h'' tk' S3 l3
theorem ext_grow {h h' : Heap} (he : Heap.ExtBut h.objs.size h h') : ∀ b o, h.get? b = some o → h'.get? b = some o := fun b o e => he b o (Nat.ne_of_lt (Heap.lt_size e)) e
theorem assignTup (ok : Ok G c d) (hfm : c.fm = none) {Q : Unit → Shared → Prop} {E : Value → Shared → Prop} {ρ : List Addr} {is : List Nat} {ts : List PySem.Expr} {n : Nat} {p : Pos} {v : MV} {vr : Value} {vs : List MV} {mr : Str → Option Value} {s : Shared}
    (ht : okT c.nm c.sc is = true) (h1 : 1 < is.length) (hv : VR ρ v vr) (hp : Parts H is v vs) (S : St c mr ρ H s.heap) (l : LR mr c.nm ρ m)
    (k : ∀ mr' h' tk, St c mr' ρ H h' → LR mr' c.nm ρ (setAll is vs m) → Q () { s with heap := h', toks := tk }) : wpAny (model c.prog c.w) c.A (assign (.Tuple (reNames (atNm c.nm is) ts) n p) c.env vr) Q E s := by
  have hp' : 1 < is.length ∧ vs.length = is.length ∧ ∃ a, v = .ref a ∧ H[a]? = some (.tup vs) := by
    cases is with
    | nil => simp at h1
    | cons i r =>
      cases r with
      | nil => simp at h1
      | cons _ _ => exact hp
  obtain ⟨_, hl, a, rfl, ha⟩ := hp'
  obtain ⟨x, hx, rfl⟩ := hv
  obtain ⟨ws, hws, T⟩ := S.tup ha hx
  obtain ⟨q1, q2⟩ := each_length (nm := c.nm) (env := c.env) is ts
  refine assign_Tuple_tuple ok.hh T (by rw [q1, List.size_toArray, hws.length, hl]) q2 ?_
  intro h' he
  refine assignIn ok hfm (s := { s with heap := h' }) ht (by simpa using hws) hl (S.grow (ext_grow he)) l ?_
  intro mr' h'' tk' S3 l3
  exact k mr' h'' tk' S3 l3
theorem assignTg (ok : Ok G c d) (hfm : c.fm = none) {Q : Unit → Shared → Prop} {E : Value → Shared → Prop} {ρ : List Addr} {is : List Nat} {e : PySem.Expr} {v : MV} {vr : Value} {vs : List MV} {mr : Str → Option Value} {s : Shared}
    (h0 : is.isEmpty = false) (ht : okT c.nm c.sc is = true) (hv : VR ρ v vr) (hp : Parts H is v vs) (S : St c mr ρ H s.heap) (l : LR mr c.nm ρ m)
    (k : ∀ mr' h' tk, St c mr' ρ H h' → LR mr' c.nm ρ (setAll is vs m) → Q () { s with heap := h', toks := tk }) : wpAny (model c.prog c.w) c.A (assign (reTg (atNm c.nm is) e) c.env vr) Q E s := by
  cases is with
  | nil => cases h0
  | cons i r =>
    cases r with
    | nil =>
      have h1 : (okSlot c.nm i && stb c.sc (c.nm.getD i "") && true) = true := ht
      obtain ⟨h1, h2, _⟩ := and3 h1
      have e : vs = [v] := hp
      subst e
      refine wpAny_assign_Name (store ok S hfm h2 ?_)
      intro h' tk S2
      exact k _ h' tk S2 (l.set (beq_iff_eq.mp h1) hv)
    | cons j r =>
      have q : reTg (atNm c.nm (i :: j :: r)) e = .Tuple (reNames (atNm c.nm (i :: j :: r)) (kids e)) (numOf e) e.pos := rfl
      rw [q]
      exact assignTup ok hfm ht (by simp) hv hp S l k
noncomputable def NX (c : Cx) (I : Addr) (T : Nat → Obj → Prop) (good : MH → Prop) (item : Nat → MH → Option MV) (ρ₀ : List Addr) : Prop :=
  ∀ (i : Nat) (oI : Obj) (mr : Str → Option Value) (t : List Addr) (H : MH) (s : Shared) (Q : Option Value → Shared → Prop) (E : Value → Shared → Prop), T i oI → good H → St (c.wx ((I, oI) :: c.xt)) mr (ρ₀ ++ t) H s.heap →
    (∀ mv vr oI' h' tk, item i H = some mv → VR (ρ₀ ++ t) mv vr → T (i + 1) oI' → h'.get? I = some oI' → (∀ b o, b ≠ I → s.heap.get? b = some o → h'.get? b = some o) → Q (some vr) { s with heap := h', toks := tk }) →
    (∀ h' tk, item i H = none → (∀ b o, b ≠ I → s.heap.get? b = some o → h'.get? b = some o) → Q none { s with heap := h', toks := tk }) →
    wpAny (model c.prog c.w) c.A (pyNext (.ref I)) Q E s
noncomputable def GoOk (T : Nat → Obj → Prop) : Prop := ∀ i o, T i o → ∃ n vs, o.cls = .type n ∧ o.data = .fields vs ∧ ["enumerate", "zip", "dict_itemiterator", "dict_reverseitemiterator", "odict_iterator", "itertools.zip_longest", "itertools.pairwise"].contains n = false
theorem letOwned {T : Nat → Obj → Prop} (g : GoOk T) {i : Nat} {o : Obj} (hT : T i o) {I : Addr} {target : PySem.Expr} {v : Value} {s : Shared} {Q : Unit → Shared → Prop} {E : Value → Shared → Prop} {M : Model} {A : Around} (hI : s.heap.get? I = some o) (h : Q () s) :
    wpAny M A (letOwnedTupleGo target (.ref I) v) Q E s := by
  obtain ⟨n, vs, h1, h2, h3⟩ := g i o hT
  have key : wpAny M A (do
    let (.ref r, .ref a) := (Value.ref I, v) | return
    let o ← load r
    match o.cls, o.data with
    | .type n, .fields vs =>
      if ["enumerate", "zip", "dict_itemiterator", "dict_reverseitemiterator", "odict_iterator", "itertools.zip_longest", "itertools.pairwise"].contains n && vs[0]? == some (rawInt a) then
        rule "for.unpacks-the-owned-tuple"
        updateField r 0 .none
    | _, _ => pure ()) Q E s := by
    cases v with
    | ref a =>
      refine wpAny_bind (wpAny_load hI ?_)
      simp only [h1, h2, h3, Bool.false_and, Bool.false_eq_true, if_false]
      exact wpAny_pure h
    | _ => exact wpAny_pure h
  cases target with
  | Tuple _ _ _ => exact key
  | List _ _ => exact key
  | _ => exact wpAny_pure h
theorem forCore (ok : Ok G c d) (hfm : c.fm = none) {is : List Nat} {e : PySem.Expr} {b : CSs} {body : List Stmt} {post : Fl → ML → MH → Prop} (he : is.isEmpty = false) (ht : okT c.nm c.sc is = true) (hb : wfSs b c.nm c.sc body = true)
    {I : Addr} {T : Nat → Obj → Prop} {good : MH → Prop} {item : Nat → MH → Option MV} {ρ : List Addr} (nx : NX c I T good item ρ) (go : GoOk T)
    (J : Nat → ML → MH → Prop) (B : Nat) (h0 : J 0 m H) (hB : ∀ i m H, J i m H → i ≤ B ∧ good H)
    (turn : ∀ i m1 H1 v xt, J i m1 H1 → item i H1 = some v → ∃ vs, Parts H1 is v vs ∧ TB (c.wx xt) (setAll is vs m1) b H1 (fun f m2 H2 => match f with
      | .next => J (i + 1) m2 H2
      | .cont => J (i + 1) m2 H2
      | .brk => post .next m2 H2
      | .ret v => post (.ret v) m2 H2))
    (done : ∀ i m1 H1, J i m1 H1 → item i H1 = none → post .next m1 H1)
    {mr : Str → Option Value} {s : Shared} {Q : Flow → Shared → Prop} {E : Value → Shared → Prop} {oI : Obj} (hT : T 0 oI) (S : St (c.wx ((I, oI) :: c.xt)) mr ρ H s.heap) (lr : LR mr c.nm ρ m)
    (k : ∀ t f fr m' mr' H' h' tk, post f m' H' → FlR (ρ ++ t) f fr → St c mr' (ρ ++ t) H' h' → LR mr' c.nm (ρ ++ t) m' → Q fr { s with heap := h', toks := tk }) (kx : Kx c ρ s E) :
    codeAny (model c.prog c.w) c.A (.forLoop (reTg (atNm c.nm is) e) (.ref I) (reSs b c.nm body) [] c.env) (fun r s' => match r with | .ok f => Q f s' | .error e => cameBackBy (model c.prog c.w) c.A c.env E e s') s := by
  let L : Nat → Shared → Prop := fun n s' => ∃ i t m1 mr1 H1 h' tk o, s' = { s with heap := h', toks := tk } ∧ n = B + 1 - i ∧ J i m1 H1 ∧ T i o ∧ St (c.wx ((I, o) :: c.xt)) mr1 (ρ ++ t) H1 h' ∧ LR mr1 c.nm (ρ ++ t) m1
  refine codeAny_forLoop_any L ?_ (B + 1) ⟨0, [], m, mr, H, s.heap, s.toks, oI, rfl, rfl, h0, hT, nil_of S, by rw [List.append_nil]; exact lr⟩
  rintro n _ ⟨i, t, m1, mr1, H1, h1, tk1, o, rfl, rfl, hJ, hTi, S1, l1⟩
  have kx1 := (kx.mono (t := t) (h := h1) (tk := tk1)).pass (M := model c.prog c.w) (A := c.A) (A' := c.A) ok hfm rfl
  refine nx i o mr1 t H1 _ _ _ hTi (hB i m1 H1 hJ).2 S1 ?_ ?_
  · intro mv vr oI' h2 tk2 hi hv hT' hI hkeep
    have S2 := S1.turnX hI hkeep
    refine letOwned go hT' hI ?_
    obtain ⟨vs, hp, hturn⟩ := turn i m1 H1 mv ((I, oI') :: c.xt) hJ hi
    refine assignTg (c := c.wx ((I, oI') :: c.xt)) (s := { s with heap := h2, toks := tk2 }) (ok.wx _) hfm he ht hv hp S2 l1 ?_
    intro mr3 h3 tk3 S3 l3
    refine hturn _ hb mr3 (ρ ++ t) { s with heap := h3, toks := tk3 } _ _ S3 l3 ?_ ?_
    · intro t' f fr m4 mr4 H4 h4 tk4 hp4 hf S4 l4
      rw [List.append_assoc] at hf S4 l4
      cases f with
      | next =>
        subst hf
        have := (hB _ _ _ hp4).1
        exact ⟨B + 1 - (i + 1), by omega, i + 1, t ++ t', m4, mr4, H4, h4, tk4, oI', rfl, rfl, hp4, hT', S4, l4⟩
      | cont =>
        subst hf
        have := (hB _ _ _ hp4).1
        exact ⟨B + 1 - (i + 1), by omega, i + 1, t ++ t', m4, mr4, H4, h4, tk4, oI', rfl, rfl, hp4, hT', S4, l4⟩
      | brk =>
        subst hf
        exact k (t ++ t') .next .next m4 mr4 H4 h4 tk4 hp4 rfl (S4.dropX) l4
      | ret v =>
        obtain ⟨vr', rfl, hv'⟩ := hf
        exact k (t ++ t') (.ret v) (.ret vr') m4 mr4 H4 h4 tk4 hp4 ⟨vr', rfl, hv'⟩ (S4.dropX) l4
    · exact Kx.addX (c := c) (p := (I, oI')) fun t' C as e m' mr' H' h' tk hX hF hL => kx1 t' C as e m' mr' H' h' tk hX hF hL
  · intro h2 tk2 hi hkeep
    refine wpAny_execs_nil ?_
    have S2 : St c mr1 (ρ ++ t) H1 h2 := S1.endX hkeep
    exact k t .next .next m1 mr1 H1 h2 tk2 (done i m1 H1 hJ hi) rfl S2 l1
end
section
variable {c : Cx} {m : ML} {H : MH} {G : Gx} {d : Nat}
noncomputable def itemL (a : Nat) (i : Nat) (H : MH) : Option MV := match H[a]? with
  | some (.list xs) => xs[i]?
  | _ => none
theorem NX.list {I l : Addr} {a : Nat} {ρ : List Addr} (hh : c.A.handled = none) (hl : ρ[a]? = some l) :
    NX c I (fun i o => o.cls = .type "list_iterator" ∧ o.data = .fields #[.ref l, .int i 0]) (fun H => ∃ xs, H[a]? = some (.list xs)) (itemL a) ρ := by
  rintro i oI mr t H s Q E ⟨hc, hd⟩ ⟨xs, ha⟩ S k1 k2
  obtain ⟨vs, ep, hvs, No⟩ := S.list ha (get_mono hl)
  have hit : s.heap.IsListIter I l i := ⟨oI, S.itr.1, hc, hd⟩
  have L := isList_of No
  have hitem : itemL a i H = xs[i]? := by unfold itemL; rw [ha]
  cases hx : xs[i]? with
  | some mv =>
    obtain ⟨vr, e1, e2⟩ := hvs.get hx
    refine wpAny_pyNext_list_item hit L (x := vr) (by simpa using e1) fun h' hit' hs' => ?_
    obtain ⟨o', ho', hc', hd'⟩ := hit'
    exact k1 mv vr o' h' s.toks (hitem.trans hx) e2 ⟨hc', hd'⟩ ho' fun b o hb e => (hs'.2 b hb).trans e
  | none =>
    have hn : vs.toArray[i]? = none := by
      have : xs.length ≤ i := List.getElem?_eq_none_iff.mp hx
      simp only [List.getElem?_toArray]
      exact List.getElem?_eq_none_iff.mpr (by rw [hvs.length]; exact this)
    exact wpAny_pyNext_list_end hh hit L hn fun h' he' => k2 h' s.toks (hitem.trans hx) fun b o hb e => he' b o hb e
theorem and4 {a b c d : Bool} (h : (a && b && c && d) = true) : a = true ∧ b = true ∧ c = true ∧ d = true := ⟨(and3 (and2 h).1).1, (and3 (and2 h).1).2.1, (and3 (and2 h).1).2.2, (and2 h).2⟩
theorem ne_of {is : List Nat} (h : (!is.isEmpty) = true) : is.isEmpty = false := by simpa using h
theorem folded_of {nm : List Str} {sc : Scope} {a : CE} {e : PySem.Expr} {env : Env} (h : wfE a nm sc e = true) (v : Value) : foldedSetIterable (reE a nm e) env v = pure v := by
  cases a with
  | tst t => have h2 := tst_of h; cases t <;> first | rfl | cases h2
  | _ => rfl
theorem TS.forL (ok : Ok G c d) (hfm : c.fm = none) {is : List Nat} {it : CE} {b : CSs} {post : Fl → ML → MH → Prop}
    (h : TE c m it H (fun l H1 => ∃ a, l = .ref a ∧ ∃ (J : Nat → ML → MH → Prop) (B : Nat), J 0 m H1 ∧ (∀ i m2 H2, J i m2 H2 → i ≤ B ∧ ∃ xs, H2[a]? = some (.list xs)) ∧
      (∀ i m1 H2 v xt, J i m1 H2 → itemL a i H2 = some v → ∃ vs, Parts H2 is v vs ∧ TB (c.wx xt) (setAll is vs m1) b H2 (fun f m2 H3 => match f with
        | .next => J (i + 1) m2 H3
        | .cont => J (i + 1) m2 H3
        | .brk => post .next m2 H3
        | .ret v => post (.ret v) m2 H3)) ∧
      (∀ i m1 H2, J i m1 H2 → itemL a i H2 = none → post .next m1 H2))) : TS c m (.for is it b) H post := by
  intro st hs
  obtain ⟨h0, h1, h2, h3⟩ := and4 hs
  have h0 := ne_of h0
  intro mr ρ s Q E S lr k kx
  refine wpAny_For ?_ (folded_of h2)
  refine h _ h2 mr ρ s _ E S lr ?_ kx
  rintro t l lv H1 hp1 tk1 ⟨a, rfl, J, B, hJ0, hJ, turn, done⟩ hl S1
  obtain ⟨y, hy, rfl⟩ := hl
  obtain ⟨xs, ha⟩ := (hJ 0 m H1 hJ0).2
  obtain ⟨vs, ep, hvs, No⟩ := S1.list ha hy
  refine wpAny_pyIter_list (isList_of No) ?_
  refine forCore ok hfm h0 h1 h3 (NX.list ok.hh hy) (fun i o hT => ⟨_, _, hT.1, hT.2, rfl⟩) J B hJ0 hJ turn done (mr := mr) ⟨rfl, rfl⟩ (S1.addX rfl) lr.mono ?_ kx.mono
  intro t' f fr m' mr' H' h' tk hp hf S' l'
  rw [List.append_assoc] at hf S' l'
  exact k (t ++ t') f fr m' mr' H' h' tk hp hf S' l'
theorem TS.forL' (ok : Ok G c d) (hfm : c.fm = none) {is : List Nat} {it : CE} {b : CSs} {post : Fl → ML → MH → Prop}
    (h : TE c m it H (fun l H1 => ∃ a xs, l = .ref a ∧ H1[a]? = some (.list xs) ∧ ∃ (J : Nat → ML → MH → Prop), J 0 m H1 ∧ (∀ i m2 H2, J i m2 H2 → H2[a]? = some (.list xs)) ∧
      (∀ i m1 H2 v xt, J i m1 H2 → xs[i]? = some v → ∃ vs, Parts H2 is v vs ∧ TB (c.wx xt) (setAll is vs m1) b H2 (fun f m2 H3 => match f with
        | .next => J (i + 1) m2 H3
        | .cont => J (i + 1) m2 H3
        | .brk => post .next m2 H3
        | .ret v => post (.ret v) m2 H3)) ∧
      (∀ m1 H2, J xs.length m1 H2 → post .next m1 H2))) : TS c m (.for is it b) H post := by
  refine TS.forL ok hfm (h.mono fun l H1 h1 => ?_)
  obtain ⟨a, xs, rfl, ha, J, h0, hJ, turn, done⟩ := h1
  refine ⟨a, rfl, fun i m2 H2 => i ≤ xs.length ∧ J i m2 H2, xs.length, ⟨Nat.zero_le _, h0⟩, fun i m2 H2 q => ⟨q.1, xs, hJ i m2 H2 q.2⟩, ?_, ?_⟩
  · intro i m1 H2 v xt q hi
    have hx : xs[i]? = some v := by unfold itemL at hi; rw [hJ i m1 H2 q.2] at hi; exact hi
    have hlt := (List.getElem?_eq_some_iff.mp hx).1
    obtain ⟨vs, hp, ht⟩ := turn i m1 H2 v xt q.2 hx
    refine ⟨vs, hp, ht.mono fun f m2 H3 hf => ?_⟩
    cases f with
    | next => exact ⟨hlt, hf⟩
    | cont => exact ⟨hlt, hf⟩
    | brk => exact hf
    | ret v => exact hf
  · intro i m1 H2 q hi
    have hx : xs[i]? = none := by unfold itemL at hi; rw [hJ i m1 H2 q.2] at hi; exact hi
    have : i = xs.length := Nat.le_antisymm q.1 (List.getElem?_eq_none_iff.mp hx)
    exact done m1 H2 (this ▸ q.2)
noncomputable def itemR (a b : Int) (i : Nat) (_ : MH) : Option MV := if a + i < b then some (.int (a + i)) else none
theorem NX.range {I : Addr} {a b : Int} {ρ : List Addr} (hh : c.A.handled = none) :
    NX c I (fun i o => o = { cls := .type "range_iterator", data := .fields #[rawInt (a + i), rawInt (((b - a).toNat : Int) - i), rawInt 1] }) (fun _ => True) (itemR a b) ρ := by
  rintro i oI mr t H s Q E rfl _ S k1 k2
  have hI : IsRangeIter s.heap I (a + i) (((b - a).toNat : Int) - i) 1 := S.itr.1
  by_cases hlt : a + i < b
  · refine wpAny_pyNext_range_item hI (by omega) fun h' hit' hs' => ?_
    refine k1 (.int (a + i)) (.int (a + i) s.toks) _ h' _ (by unfold itemR; rw [if_pos hlt]) ⟨_, rfl⟩ ?_ hit' fun b o hb e => (hs'.2 b hb).trans e
    have e1 : a + (i : Int) + 1 = a + ((i + 1 : Nat) : Int) := by omega
    have e2 : ((b - a).toNat : Int) - (i : Int) - 1 = ((b - a).toNat : Int) - ((i + 1 : Nat) : Int) := by omega
    rw [e1, e2]
  · exact wpAny_pyNext_range_end hh hI (by omega) fun h' he' => k2 h' s.toks (by unfold itemR; rw [if_neg hlt]) fun b o hb e => he' b o hb e
noncomputable def Rng (vs : List MV) (a b : Int) : Prop := ((vs = [.int b] ∧ a = 0) ∨ vs = [.int a, .int b]) ∧ -(2 ^ 62) ≤ a ∧ a < 2 ^ 62 ∧ -(2 ^ 62) ≤ b ∧ b < 2 ^ 62
theorem call_range {mr : Str → Option Value} {ρ : List Addr} {s : Shared} {vs : List MV} {vrs : List Value} {a b : Int} {Q E} (S : St c mr ρ H s.heap) (hr : Rng vs a b) (hv : VRs ρ vs vrs)
    (k : ∀ h' tk t₁ u₁ v₁, IsRange h' s.heap.objs.size a b 1 t₁ u₁ v₁ → St c mr ρ H h' → s.heap.objs.size < h'.objs.size → Q (.ref s.heap.objs.size) { s with heap := h', toks := tk }) :
    wpAny (model c.prog c.w) c.A (call (.type "range") vrs) Q E s := by
  obtain ⟨ml, xs, ⟨F, os, a1, a2, a3, N, a5⟩, back⟩ := S.open
  obtain ⟨hvs, _⟩ := hr
  have hlt : ∀ h' t₁ u₁ v₁, IsRange h' s.heap.objs.size a b 1 t₁ u₁ v₁ → s.heap.objs.size < h'.objs.size := fun h' t₁ u₁ v₁ hr => by
    unfold IsRange at hr
    exact Heap.lt_size hr
  rcases hvs with ⟨rfl, rfl⟩ | rfl
  · obtain ⟨v, r, rfl, ⟨tt, rfl⟩, hr⟩ := hv
    have hr' : r = [] := hr
    subst hr'
    exact range1_rows F N fun h' tk t₁ u₁ v₁ hr _ _ hkeep => k h' tk t₁ u₁ v₁ hr (S.grow hkeep) (hlt _ _ _ _ hr)
  · obtain ⟨v, r, rfl, ⟨tt, rfl⟩, v2, r2, rfl, ⟨uu, rfl⟩, hr⟩ := hv
    have hr' : r2 = [] := hr
    subst hr'
    exact range2_rows F N fun h' tk t₁ u₁ v₁ hr _ _ hkeep => k h' tk t₁ u₁ v₁ hr (S.grow hkeep) (hlt _ _ _ _ hr)
theorem callType (ok : Ok G c d) {g : Str} {T : String} {as : CEs} {e : PySem.Expr} (hg : nsIn G.K mainGlobals g = some Option.none) (hb : bootBuiltins g = some (.type T)) (hn : g ≠ "__name__")
    (he : wfE (.call g as) c.nm c.sc e = true) (hne : as ≠ .nil) {mr : Str → Option Value} {ρ : List Addr} {s : Shared} {Q : Value → Shared → Prop} {E : Value → Shared → Prop} {p : List MV → MH → Prop} (S : St c mr ρ H s.heap) (l : LR mr c.nm ρ m) (kx : Kx c ρ s E)
    (h : TEs c m as H p) (k : ∀ t vs vrs H' h' tk, p vs H' → VRs (ρ ++ t) vs vrs → St c mr (ρ ++ t) H' h' → wpAny (model c.prog c.w) c.A (call (.type T) vrs) Q E { s with heap := h', toks := tk }) :
    wpAny (model c.prog c.w) c.A (eval (reE (.call g as) c.nm e) c.env) Q E s := by
  obtain ⟨h2, h3⟩ := and2 he
  refine Call_ ?_ rfl
  refine nameB ok S h2 hg hb hn ?_
  cases as with
  | nil => exact absurd rfl hne
  | cons a r =>
    have h4 := and2 h3
    refine PyProof.Rows.callWith_type1 ?_ (star_cons (star_re h4.1)) (star_plain h4.2)
    refine h _ _ h3 mr ρ s _ E S l ?_ kx
    intro t vs vrs H' h' tk hp hv S'
    exact k t vs vrs H' h' tk hp hv S'
theorem callBuiltin (ok : Ok G c d) {g : Str} {T : String} {as : CEs} {e : PySem.Expr} (hg : nsIn G.K mainGlobals g = some Option.none) (hb : bootBuiltins g = some (.builtin T)) (hn : g ≠ "__name__")
    (he : wfE (.call g as) c.nm c.sc e = true) (hne : as ≠ .nil) {mr : Str → Option Value} {ρ : List Addr} {s : Shared} {Q : Value → Shared → Prop} {E : Value → Shared → Prop} {p : List MV → MH → Prop} (S : St c mr ρ H s.heap) (l : LR mr c.nm ρ m) (kx : Kx c ρ s E)
    (h : TEs c m as H p) (k : ∀ t vs vrs H' h' tk, p vs H' → VRs (ρ ++ t) vs vrs → St c mr (ρ ++ t) H' h' → wpAny (model c.prog c.w) c.A (call (.builtin T) vrs) Q E { s with heap := h', toks := tk }) :
    wpAny (model c.prog c.w) c.A (eval (reE (.call g as) c.nm e) c.env) Q E s := by
  obtain ⟨h2, h3⟩ := and2 he
  refine Call_ ?_ rfl
  refine nameB ok S h2 hg hb hn ?_
  cases as with
  | nil => exact absurd rfl hne
  | cons a r =>
    have h4 := and2 h3
    refine PyProof.Rows.callWith_builtin1 ?_ (star_cons (star_re h4.1)) (star_plain h4.2)
    refine h _ _ h3 mr ρ s _ E S l ?_ kx
    intro t vs vrs H' h' tk hp hv S'
    exact k t vs vrs H' h' tk hp hv S'
theorem TS.forR (ok : Ok G c d) (hfm : c.fm = none) (hg : nsIn G.K mainGlobals "range" = some none) {is : List Nat} {as : CEs} {b : CSs} {post : Fl → ML → MH → Prop} (hne : as ≠ .nil)
    (h : TEs c m as H (fun vs H1 => ∃ a b', Rng vs a b' ∧ ∃ (J : Nat → ML → MH → Prop), J 0 m H1 ∧
      (∀ i m1 H2 xt, J i m1 H2 → a + i < b' → TB (c.wx xt) (setAll is [.int (a + i)] m1) b H2 (fun f m2 H3 => match f with
        | .next => J (i + 1) m2 H3
        | .cont => J (i + 1) m2 H3
        | .brk => post .next m2 H3
        | .ret v => post (.ret v) m2 H3)) ∧
      (∀ m1 H2, J (b' - a).toNat m1 H2 → post .next m1 H2))) (h1i : ∃ i, is = [i]) : TS c m (.for is (.call "range" as) b) H post := by
  obtain ⟨i0, rfl⟩ := h1i
  intro st hs
  obtain ⟨h0, h1, h2, h3⟩ := and4 hs
  have h0 := ne_of h0
  intro mr ρ s Q E S lr k kx
  refine wpAny_For ?_ (folded_of h2)
  refine callType ok (T := "range") hg boot_range (by decide) h2 hne S lr kx h ?_
  rintro t vs vrs H1 hp1 tk1 ⟨a, b', hr, J, hJ0, turn, done⟩ hv S1
  refine call_range S1 hr hv ?_
  intro h' tk t₁ u₁ v₁ hR S2 _
  refine wpAny_pyIter_range hR (small_one hr.2.1 hr.2.2.1 hr.2.2.2.1 hr.2.2.2.2) ?_
  refine forCore (post := post) ok hfm h0 h1 h3 (NX.range (a := a) (b := b') ok.hh) (fun i o hT => by subst hT; exact ⟨_, _, rfl, rfl, rfl⟩) (fun i m2 H2 => i ≤ (b' - a).toNat ∧ J i m2 H2) (b' - a).toNat ⟨Nat.zero_le _, hJ0⟩ (fun i m2 H2 q => ⟨q.1, trivial⟩) ?_ ?_ (mr := mr) ?_ (S2.addX rfl) lr.mono ?_ kx.mono
  · intro i m1 H2 v xt q hi
    unfold itemR at hi
    split at hi
    · rename_i hlt
      cases hi
      refine ⟨_, rfl, (turn i m1 H2 xt q.2 hlt).mono fun f m2 H3 hf => ?_⟩
      cases f with
      | next => exact ⟨by omega, hf⟩
      | cont => exact ⟨by omega, hf⟩
      | brk => exact hf
      | ret v => exact hf
    · cases hi
  · intro i m1 H2 q hi
    unfold itemR at hi
    split at hi
    · cases hi
    · rename_i hge
      have : i = (b' - a).toNat := by have := q.1; omega
      exact done m1 H2 (this ▸ q.2)
  · rw [rangeSize_nat]
    simp
  · intro t' f fr m' mr' H' h'' tk' hp hf S' l'
    rw [List.append_assoc] at hf S' l'
    exact k (t ++ t') f fr m' mr' H' h'' tk' hp hf S' l'
theorem TEs.one {a : CE} {p : MV → MH → Prop} (h : TE c m a H p) : TEs c m (.cons a .nil) H (fun vs H1 => ∃ v, vs = [v] ∧ p v H1) := TEs.cons (h.mono fun v H1 h1 => TEs.nil ⟨v, rfl, h1⟩)
end
theorem Ok.le {G : Gx} {c : Cx} {d d' : Nat} (h : d ≤ d') (ok : Ok G c d') : Ok G c d :=
  ⟨ok.frames, ok.kin, ok.top, ok.hh, by have := ok.dep; omega, by have := ok.uni; omega, ok.fn, ok.gl, ok.bi, ok.ap, ok.kd, ok.fs, ok.ex⟩
theorem CL.le {G : Gx} {prog : Program} {w : World} {d d' : Nat} {f : Addr} {args : List MV} {H : MH} {p : MV → MH → Prop} {xp : Addr → List MV → MH → Prop} (h : d ≤ d') (q : CL G prog w d f args H p xp) : CL G prog w d' f args H p xp :=
  fun c mr ρ s Q E vs e1 e2 ok S l k kx => q c mr ρ s Q E vs e1 e2 (ok.le h) S l k kx
structure GFn (G : Gx) (g : Str) (f : Addr) : Prop where
  ns : nsIn G.K mainGlobals g = some (some (.ref f))
  keep : keepIn G.K (.ref f) = true
noncomputable def GDef (G : Gx) (f : Addr) (names nm : List Str) (b : CSs) (dm : List MV) : Prop :=
  ∃ (name qual : Str) (params : Arguments) (body : List Stmt) (scope : Scope) (dV kV doc pm cdv ct oc : Value) (an od : Option Addr) (osl : Array (Option Value)) (dv : List Value),
    G.K.lookup f = some ⟨oc, od, .func (fnOf name qual params body scope dV kV doc pm an cdv ct), osl⟩ ∧ codeIn G.K cdv qual = true ∧
    (∀ (s : Shared) (vs : List Value), G.K.In s.heap → vs.length + dm.length = names.length → BindsTo s (fnOf name qual params body scope dV kV doc pm an cdv ct) ⟨vs, []⟩ (names.zip (vs ++ dv))) ∧
    VRs [] dm dv ∧ fnb scope names nm = true ∧ wfSs b nm scope body = true ∧ reSs b nm body = body
theorem GDef.cl {G : Gx} {prog : Program} {w : World} {d : Nat} {f : Addr} {names nm : List Str} {b : CSs} {dm args : List MV} {H : MH} {post : MV → MH → Prop} {xp : Addr → List MV → MH → Prop}
    (D : GDef G f names nm b dm) (hl : args.length + dm.length = names.length)
    (h : ∀ c : Cx, c.prog = prog → c.w = w → Ok G c d → c.fm = none → interactive c.env = false → c.nm = nm → c.X = (fun C as _ H => xp C as H) → TB c (start nm (args ++ dm)) b H (fun fl _ H' => post (retv fl) H')) :
    CL G prog w (d + 1) f args H post xp := by
  obtain ⟨name, qual, params, body, scope, dV, kV, doc, pm, cdv, ct, oc, an, od, osl, dv, h1, h2, h3, h4, h5, h6, h7⟩ := D
  refine CL.body (names := names) (nm := nm) h1 h2 (fun s vs X hv => h3 s vs X (by rw [hv]; exact hl)) h4 (by rw [List.length_append]; exact hl) h5 ?_
  intro c e1 e2 ok e3 e4 e5 e6
  have hb := h c e1 e2 ok e3 ?_ e4 e6 body (by rw [e4, e5]; exact h6)
  · rw [e4, h7] at hb
    exact hb
  have := ok.fn
  unfold interactive
  rw [this]
  rfl
section
variable {c : Cx} {m : ML} {H : MH} {G : Gx} {d : Nat}
theorem runCL {f : Addr} {vs : List MV} {vrs : List Value} {mr : Str → Option Value} {ρ t : List Addr} {s : Shared} {Q : Value → Shared → Prop} {E : Value → Shared → Prop} {H1 : MH} {h1 : Heap} {tk1 : Nat} {post : MV → MH → Prop} (ok : Ok G c d)
    (hcl : CL G c.prog c.w d f vs H1 post (fun C as H' => c.X C as m H')) (S1 : St c mr (ρ ++ t) H1 h1) (hvs : VRs (ρ ++ t) vs vrs) (l : LR mr c.nm ρ m)
    (k : ∀ t v vr H' h' tk, post v H' → VR (ρ ++ t) v vr → St c mr (ρ ++ t) H' h' → Q vr { s with heap := h', toks := tk }) (kx : Kx c ρ s E) :
    wpAny (model c.prog c.w) c.A (call (.ref f) vrs) Q E { s with heap := h1, toks := tk1 } := by
  refine wpAny_call ?_
  refine hcl c mr (ρ ++ t) _ _ E vrs rfl rfl ok S1 hvs ?_ ?_
  · intro t' v vr H2 h2 tk2 hp hv S2
    rw [List.append_assoc] at hv S2
    exact k (t ++ t') v vr H2 h2 tk2 hp hv S2
  · intro t' C as e H2 h2 tk2 hx hF
    rw [List.append_assoc] at hF
    exact kx (t ++ t') C as e m mr H2 h2 tk2 hx hF l.mono
theorem TE.call (ok : Ok G c d) {g : Str} {f : Addr} {a : CE} {r : CEs} {post : MV → MH → Prop} (hg : GFn G g f) (h : TEs c m (.cons a r) H (fun vs H1 => CL G c.prog c.w d f vs H1 post (fun C as H' => c.X C as m H'))) : TE c m (.call g (.cons a r)) H post := by
  intro e he
  obtain ⟨h2, h3⟩ := and2 he
  intro mr ρ s Q E S l k kx
  refine Call_ ?_ rfl
  refine nameG ok S h2 hg.ns ?_
  have h4 := and2 h3
  refine callWith_K ok.kin hg.keep ?_ (star_cons (star_re h4.1)) (star_plain h4.2)
  refine h _ _ h3 mr ρ s _ E S l ?_ kx
  intro t vs vrs H1 h1 tk1 hcl hvs S1
  exact ⟨ok.kin.keeps S1.keep, runCL ok hcl S1 hvs l k kx⟩
theorem base_of {o : PySem.Expr} {name : Str} {env : Env} {wh : Sem Value} (h : notSup o = true) : attributeBase o name env wh = wh := by
  unfold attributeBase
  split
  · rename_i id p pos
    cases h
  · rfl
theorem sup_re {a : CE} {nm : List Str} {sc : Scope} {e : PySem.Expr} (h : wfE a nm sc e = true) (hs : nsup a = true) : notSup (reE a nm e) = true := by
  cases a with
  | tst t => have h2 := tst_of h; cases t <;> first | rfl | cases h2
  | call g as => cases as <;> first | rfl | cases hs
  | _ => rfl
theorem star_all {nm : List Str} {sc : Scope} {pos : Pos} {env : Env} : ∀ {as : CEs} {es : List PySem.Expr}, wfEs as nm sc es = true → (backTo pos (starEach (reEs as nm es) env)).all (!·.1) = true
  | .nil, es, h => rfl
  | .cons a r, es, h => by
    have h := and2 h
    have := star_all (pos := pos) (env := env) h.2
    show (backTo pos (starEach (reE a nm (nth 0 es) :: reEs r nm es.tail) env)).all (!·.1) = true
    rw [star_cons (star_re h.1)]
    unfold backTo at this ⊢
    simp only [List.map_cons, List.all_cons, Bool.not_false, Bool.true_and]
    exact this
theorem len_re {nm : List Str} : ∀ (as : CEs) (es : List PySem.Expr), (reEs as nm es).length = lenEs as
  | .nil, _ => rfl
  | .cons a r, es => by
    show (reE a nm (nth 0 es) :: reEs r nm es.tail).length = lenEs r + 1
    rw [List.length_cons, len_re r]
theorem meth_eval {ob : PySem.Expr} {name : Str} {apos pos : Pos} {args : List PySem.Expr} {as : CEs} {es : List PySem.Expr} (ha : args = reEs as c.nm es) (h1 : notSup ob = true) (h2 : (apos.endLine == pos.line) = true) (h3 : args.length < 30) (h4 : wfEs as c.nm c.sc es = true) :
    eval (.Call (.Attribute ob name apos) args [] pos) c.env = (do
      let ov ← eval ob c.env
      standAt apos.atName
      let (f, first) ← holding [ov] (getMethod ov name (do return (← importBound ob c.env).getD true))
      callWith pos f first (backTo pos (starEach args c.env)) []) := by
  show (do
    let ov ← attributeBase ob name c.env (eval ob c.env)
    standAt apos.atName
    methodCall ob name apos pos c.env ov (args.length + 0) (backTo pos (starEach args c.env)) []) = _
  rw [base_of h1]
  have hf : methodCallForm (args.length + 0) (backTo pos (starEach args c.env)) [] = true := by
    unfold methodCallForm
    rw [ha, star_all h4, ← ha]
    simpa using h3
  unfold methodCall methodCallPos calleeOf
  simp only [hf, h2, Bool.not_true, Bool.false_or, if_true]
  rfl
end
section
variable {c : Cx} {m : ML} {H : MH} {G : Gx} {d : Nat}
noncomputable def MCall (c : Cx) (m : ML) (H : MH) (l : MV) (name : Str) (as : CEs) (post : MV → MH → Prop) : Prop :=
  ∀ (mr : Str → Option Value) (ρ : List Addr) (s : Shared) (Q : Value → Shared → Prop) (E : Value → Shared → Prop) (vr : Value) (pl : Sem Bool) (pos : Pos) (args : List PySem.Expr), St c mr ρ H s.heap → LR mr c.nm ρ m → VR ρ l vr →
    wfEs as c.nm c.sc args = true →
    (∀ t v vr H' h' tk, post v H' → VR (ρ ++ t) v vr → St c mr (ρ ++ t) H' h' → Q vr { s with heap := h', toks := tk }) → Kx c ρ s E →
    wpAny (model c.prog c.w) c.A (getMethod vr name pl) (fun fx s₂ => wpAny (model c.prog c.w) c.A (callWith pos fx.1 fx.2 (backTo pos (starEach (reEs as c.nm args) c.env)) []) Q E s₂) E s
theorem TE.mcall {o : CE} {name : Str} {as : CEs} {post : MV → MH → Prop} (h : TE c m o H (fun l H1 => MCall c m H1 l name as post)) : TE c m (.meth o name as) H post := by
  intro e he
  obtain ⟨he, h6⟩ := and2 he
  obtain ⟨h2, h3, h4, h5⟩ := and4 he
  intro mr ρ s Q E S l k kx
  refine MethodCall_ ?_ (meth_eval rfl (sup_re h5 h2) h3 (by rw [len_re]; exact of_decide_eq_true h4) h6)
  refine h _ h5 mr ρ s _ E S l ?_ kx
  intro t lv lr H1 hp1 tk1 hm hl S1
  refine hm mr (ρ ++ t) { s with heap := hp1, toks := tk1 } Q E lr _ e.pos (kids e).tail S1 l.mono hl h6 ?_ kx.mono
  intro t' v vr H2 h2 tk2 hp hv S2
  rw [List.append_assoc] at hv S2
  exact k (t ++ t') v vr H2 h2 tk2 hp hv S2
theorem TE.append {o x : CE} {post : MV → MH → Prop} (h : TE c m o H (fun l H1 => ∃ a xs, l = .ref a ∧ H1[a]? = some (.list xs) ∧
      TE c m x H1 (fun v H2 => ∃ ys, H2[a]? = some (.list ys) ∧ ys.length ≤ 1000000 ∧ post .none (H2.set a (.list (ys ++ [v])))))) : TE c m (.meth o "append" (.cons x .nil)) H post := by
  refine TE.mcall (h.mono ?_)
  rintro l H1 ⟨a, xs, rfl, ha, hx⟩ mr ρ s Q E _ pl pos args S lr ⟨y, hy, rfl⟩ hes k kx
  obtain ⟨vs, ep, hvs, No⟩ := S.list ha hy
  refine PySem.Calls.getMethod_list_append (No _ (.head _)).1 rfl rfl ?_
  have h4 := and2 hes
  refine callWith_method1 ?_ (star_cons (star_re h4.1)) (star_plain h4.2)
  refine (TEs.one hx) _ _ hes mr ρ s _ E S lr ?_ kx
  rintro t vs vrs H2 h2 tk2 ⟨v, rfl, ys, hy2, hsz, hp⟩ ⟨vr, r, rfl, hv, hr⟩ S2
  have hr' : r = [] := hr
  subst hr'
  obtain ⟨ws, ep2, hws, No2⟩ := S2.list hy2 (get_mono hy)
  refine append_at (No2 _ (.head _)).1 (fun h' hs' hg => ?_) (by rw [List.size_toArray, hws.length]; exact Nat.le_trans hsz (by decide))
  have S3 := S2.upd (o' := .list (ys ++ [v])) hy2 (get_mono hy) hs' hg ⟨ws ++ [vr], ep2 + 1, hws.append ⟨vr, [], rfl, hv, rfl⟩, by simp⟩
  exact k t .none .none _ h' tk2 hp rfl S3
end
section
variable {c : Cx} {m : ML} {H : MH} {G : Gx} {d : Nat}
noncomputable def BC (c : Cx) (f : Value) (args : List MV) (H : MH) (post : MV → MH → Prop) : Prop :=
  ∀ (mr : Str → Option Value) (ρ : List Addr) (s : Shared) (Q : Value → Shared → Prop) (E : Value → Shared → Prop) (vs : List Value), St c mr ρ H s.heap → VRs ρ args vs →
    (∀ t v vr H' h' tk, post v H' → VR (ρ ++ t) v vr → St c mr (ρ ++ t) H' h' → Q vr { s with heap := h', toks := tk }) →
    wpAny (model c.prog c.w) c.A (PySem.call f vs) Q E s
theorem TE.bc (ok : Ok G c d) {g : Str} {T : String} {a : CE} {r : CEs} {post : MV → MH → Prop} (hg : nsIn G.K mainGlobals g = some Option.none) (hb : bootBuiltins g = some (.builtin T)) (hn : g ≠ "__name__")
    (h : TEs c m (.cons a r) H (fun vs H1 => BC c (.builtin T) vs H1 post)) : TE c m (.call g (.cons a r)) H post := by
  intro e he mr ρ s Q E S l k kx
  refine callBuiltin ok hg hb hn he (by intro q; cases q) S l kx h ?_
  intro t vs vrs H1 h1 tk1 hbc hv S1
  refine hbc mr (ρ ++ t) _ Q E vrs S1 hv ?_
  intro t' v vr H2 h2 tk2 hp hv S2
  rw [List.append_assoc] at hv S2
  exact k (t ++ t') v vr H2 h2 tk2 hp hv S2
theorem TE.tc (ok : Ok G c d) {g : Str} {T : String} {a : CE} {r : CEs} {post : MV → MH → Prop} (hg : nsIn G.K mainGlobals g = some Option.none) (hb : bootBuiltins g = some (.type T)) (hn : g ≠ "__name__")
    (h : TEs c m (.cons a r) H (fun vs H1 => BC c (.type T) vs H1 post)) : TE c m (.call g (.cons a r)) H post := by
  intro e he mr ρ s Q E S l k kx
  refine callType ok hg hb hn he (by intro q; cases q) S l kx h ?_
  intro t vs vrs H1 h1 tk1 hbc hv S1
  refine hbc mr (ρ ++ t) _ Q E vrs S1 hv ?_
  intro t' v vr H2 h2 tk2 hp hv S2
  rw [List.append_assoc] at hv S2
  exact k (t ++ t') v vr H2 h2 tk2 hp hv S2
theorem one_of {ρ : List Addr} {a : MV} {vs : List Value} (h : VRs ρ [a] vs) : ∃ v, vs = [v] ∧ VR ρ a v := by
  obtain ⟨v, r, rfl, h1, h2⟩ := h
  have : r = [] := h2
  subst this
  exact ⟨v, rfl, h1⟩
theorem BC.len {a : Nat} {xs : List MV} {post : MV → MH → Prop} (ha : H[a]? = some (.list xs)) (hsz : xs.length ≤ 1000000) (h : post (.int xs.length) H) : BC c (.builtin "len") [.ref a] H post := by
  intro mr ρ s Q E vs S hv k
  obtain ⟨v, rfl, x, hx, rfl⟩ := one_of hv
  obtain ⟨ws, ep, hws, No⟩ := S.list ha hx
  have hlen : ws.toArray.size = xs.length := by rw [List.size_toArray, hws.length]
  refine len_list (isList_of No) (by rw [hlen]; omega) ?_
  rw [hlen]
  exact k [] (.int xs.length) (.int xs.length (s.toks + 1)) H s.heap (s.toks + 1 + 1) h ⟨_, rfl⟩ (nil_of S)
theorem BC.lenS {x : Str} {post : MV → MH → Prop} (hsz : x.length ≤ 1000000) (h : post (.int x.length) H) : BC c (.builtin "len") [.str x] H post := by
  intro mr ρ s Q E vs S hv k
  obtain ⟨v, rfl, t, rfl⟩ := one_of hv
  refine PyProof.Rows.len_str (by omega) ?_
  exact k [] (.int x.length) (.int x.length (s.toks + 1)) H s.heap (s.toks + 1 + 1) h ⟨_, rfl⟩ (nil_of S)
theorem BC.lenG {a : Addr} {vs : List Value} {post : MV → MH → Prop} (hl : c.h₀.IsList a vs.toArray) (hsz : vs.length ≤ 1000000) (h : post (.int vs.length) H) : BC c (.builtin "len") [.glob a] H post := by
  intro mr ρ s Q E ws S hv k
  obtain ⟨v, rfl, e⟩ := one_of hv
  have e' : v = .ref a := e
  subst e'
  have hlen : vs.toArray.size = vs.length := List.size_toArray ..
  refine len_list (hl.at fun o e => S.keep _ o e) (by rw [hlen]; omega) ?_
  rw [hlen]
  exact k [] (.int vs.length) (.int vs.length (s.toks + 1)) H s.heap (s.toks + 1 + 1) h ⟨_, rfl⟩ (nil_of S)
abbrev intL (ns : List Int) : List MV := ns.map MV.int
theorem intL_are {ρ : List Addr} : ∀ {ns : List Int} {vs : List Value}, VRs ρ (intL ns) vs → IntsAre vs ns
  | [], _, h => by rw [show _ = [] from h]; exact .nil
  | n :: ns, _, ⟨v, r, e, ⟨t, h1⟩, h2⟩ => by
    subst e h1
    exact .cons _ _ (intL_are h2)
theorem BC.list {a : Nat} {xs : List MV} {post : MV → MH → Prop} (ha : H[a]? = some (.list xs)) (hsz : xs.length ≤ 1000000) (h : post (.ref H.length) (H ++ [.list xs])) : BC c (.type "list") [.ref a] H post := by
  intro mr ρ s Q E vs S hv k
  obtain ⟨v, rfl, x, hx, rfl⟩ := one_of hv
  obtain ⟨ws, ep, hws, No⟩ := S.list ha hx
  obtain ⟨ml, xt, ⟨F, os, a1, a2, a3, N, a5⟩, back⟩ := S.open
  refine list_copyK F N (isList_of No) ?_ (by rw [List.size_toArray, hws.length]; exact Nat.le_trans hsz (by decide))
  intro D n h' F' N' hlt
  exact k [D] (.ref H.length) (.ref D) _ h' s.toks h ⟨D, last_get a2, rfl⟩ (back _ _ _ (Led.alloc a1 a2 a3 a5 F' N' (fun p hp => Nat.ne_of_lt (hlt p hp)) ⟨ws, n, hws.mono, rfl⟩))
noncomputable def tyOf : MV → Option String
  | .int _ => some "int"
  | .str _ => some "str"
  | .bool _ => some "bool"
  | _ => none
theorem tyIs {v : MV} {T : String} {ρ : List Addr} {vr : Value} {s : Shared} (h : tyOf v = some T) (hv : VR ρ v vr) : s.TypeIs vr T := by
  cases v <;> simp only [tyOf] at h <;> cases h
  · rw [show vr = _ from hv]; exact PySem.typeIs_bool ..
  · obtain ⟨t, rfl⟩ := hv; exact typeIs_int ..
  · obtain ⟨t, rfl⟩ := hv; exact typeIs_str ..
theorem TT.tyAny (ok : Ok G c d) (hg : nsIn G.K mainGlobals "type" = some Option.none) {op : CmpOp} {neg : Bool} (hop : (op = .Is ∧ neg = false) ∨ (op = .IsNot ∧ neg = true)) {a : CE} {N : Str} {T' : String} (hgN : nsIn G.K mainGlobals N = some Option.none) (hbN : bootBuiltins N = some (.type T')) (hnN : N ≠ "__name__") {post : Bool → MH → Prop}
    (h : TE c m a H (fun v H1 => ∃ T, tyOf v = some T ∧ post (if neg then !decide (T = T') else decide (T = T')) H1)) : TT c m (.cmp op (.call "type" (.cons a .nil)) (.glob N)) H post := by
  intro e he
  obtain ⟨h2, h3⟩ := and2 he
  intro wh mr ρ s Q E _ S lr k kx
  refine wpAny_isTrue_Compare1 ?_ (re_marks h3)
  refine callType ok (T := "type") hg PyProof.Rows.boot_type (by decide) h2 (by intro q; cases q) S lr kx (TEs.one h) ?_
  rintro t vs vrs H1 hp1 tk1 ⟨v, rfl, T, hT, hp⟩ hv S1
  obtain ⟨vr, rfl, hvr⟩ := one_of hv
  refine call_type_of (tyIs hT hvr) ?_ ?_
  · cases v <;> simp only [tyOf] at hT <;> cases hT <;> decide
  · refine nameB (s := { s with heap := hp1, toks := tk1 }) ok S1 h3 hgN hbN hnN ?_
    have hbe : ∀ T T' : String, (Value.type T == Value.type T') = decide (T = T') := fun T T' => by
      by_cases q : T = T'
      · subst q; simp
      · have : (Value.type T == Value.type T') = false := by simpa using q
        rw [this, decide_eq_false q]
    rcases hop with ⟨rfl, rfl⟩ | ⟨rfl, rfl⟩
    · refine wpAny_pure (a := Value.bool (Value.type T == Value.type T')) ?_
      refine wpAny_truthy_bool ?_
      rw [hbe]
      exact k t _ H1 hp1 tk1 hp S1
    · refine isnot_type ?_
      refine wpAny_truthy_bool ?_
      rw [hbe]
      exact k t _ H1 hp1 tk1 hp S1
end
noncomputable def isTgN (scope : Scope) : List Str → List PySem.Expr → Bool
  | [], [] => true
  | x :: xs, .Name y _ :: es => x == y && scope.names.lookup x == some .local && !xs.contains x && isTgN scope xs es
  | _, _ => false
noncomputable def isTg (scope : Scope) (tg : List Str) : PySem.Expr → Bool
  | .Name y p => isTgN scope tg [.Name y p]
  | .Tuple ts _ _ => isTgN scope tg ts && decide (1 < tg.length)
  | _ => false
theorem tgN_re {scope : Scope} : ∀ (tg : List Str) (es : List PySem.Expr), okNames (fun x => scope.names.lookup x == some .local) tg = true → isTgN scope tg (reNames tg es) = true
  | [], _, _ => rfl
  | x :: r, es, h => by
    have h1 : ((scope.names.lookup x == some .local) && !r.contains x && okNames (fun x => scope.names.lookup x == some .local) r) = true := h
    obtain ⟨a, b, e⟩ := and3 h1
    show (x == x && scope.names.lookup x == some .local && !r.contains x && isTgN scope r (reNames r es.tail)) = true
    rw [a, b, tgN_re r es.tail e]
    simp
theorem tg_re {scope : Scope} {tg : List Str} {e : PySem.Expr} (h0 : (!tg.isEmpty) = true) (h : okNames (fun x => scope.names.lookup x == some .local) tg = true) : isTg scope tg (reTg tg e) = true := by
  cases tg with
  | nil => cases h0
  | cons x r =>
    cases r with
    | nil => exact tgN_re [x] [e] h
    | cons y r =>
      show (isTgN scope (x :: y :: r) (reNames (x :: y :: r) (kids e)) && decide (1 < (x :: y :: r).length)) = true
      rw [tgN_re _ _ h]
      simp
noncomputable def clF (env : Env) : List (Str × NameKind) → List (Str × Addr) → List (Str × Addr)
  | [], acc => acc
  | (n, k) :: r, acc => if k == .free then clF env r ((n, (env.cells.lookup n).getD 0) :: acc) else clF env r acc
theorem closure_of {env : Env} : ∀ (names : List (Str × NameKind)) (acc : List (Str × Addr)), (∀ p ∈ names, p.2 = .free → (env.cells.lookup p.1).isSome = true) →
    (forIn names acc fun (x : Str × NameKind) cs => if x.2 == .free then do let a ← cellOf env x.1; pure (ForInStep.yield ((x.1, a) :: cs)) else pure (ForInStep.yield cs) : Sem (List (Str × Addr))) = pure (clF env names acc)
  | [], acc, _ => rfl
  | (n, k) :: r, acc, h => by
    rw [List.forIn_cons]
    by_cases hk : (k == .free) = true
    · have hk' : k = .free := by simpa using hk
      obtain ⟨a, ha⟩ := Option.isSome_iff_exists.mp (h _ (.head _) hk')
      have hc : cellOf env n = pure a := by unfold cellOf; rw [ha]
      simp only [hk, if_true, hc]
      unfold clF
      rw [if_pos hk, ha]
      exact closure_of r _ fun p hp => h p (.tail _ hp)
    · unfold clF
      rw [if_neg hk]
      simp only [hk]
      exact closure_of r _ fun p hp => h p (.tail _ hp)
theorem closureFor_of {scope : Scope} {env : Env} (h : ∀ p ∈ scope.names, p.2 = .free → (env.cells.lookup p.1).isSome = true) : closureFor scope env = pure (clF env scope.names []) := by
  have := closure_of (env := env) scope.names [] h
  show (forIn scope.names ([] : List (Str × Addr)) (fun (x : Str × NameKind) cs => if x.2 == .free then do let a ← cellOf env x.1; pure (ForInStep.yield ((x.1, a) :: cs)) else pure (ForInStep.yield cs)) >>= fun cs => (pure cs : Sem (List (Str × Addr)))) = _
  rw [this]
  rfl
theorem clF_at {env : Env} {x : Str} : ∀ {names : List (Str × NameKind)} {acc : List (Str × Addr)}, (∀ p ∈ acc, env.cells.lookup p.1 = some p.2) → (∀ p ∈ names, p.2 = .free → (env.cells.lookup p.1).isSome = true) →
    ((x, NameKind.free) ∈ names ∨ (acc.lookup x).isSome = true) → (clF env names acc).lookup x = env.cells.lookup x
  | [], acc, ha, _, h => by
    rcases h with h | h
    · cases h
    · obtain ⟨a, ea⟩ := Option.isSome_iff_exists.mp h
      show acc.lookup x = _
      rw [ea, ha _ (mem_of_lookup ea)]
  | (n, k) :: r, acc, ha, hn, h => by
    unfold clF
    by_cases hk : (k == .free) = true
    · have hk' : k = .free := by simpa using hk
      rw [if_pos hk]
      obtain ⟨a, ea⟩ := Option.isSome_iff_exists.mp (hn _ (.head _) hk')
      refine clF_at ?_ (fun p hp => hn p (.tail _ hp)) ?_
      · intro p hp
        rcases List.mem_cons.mp hp with rfl | hp
        · rw [ea]; rfl
        · exact ha p hp
      · rcases h with h | h
        · rcases List.mem_cons.mp h with e | h
          · cases e
            exact .inr (by rw [List.lookup_cons]; simp)
          · exact .inl h
        · by_cases q : x = n
          · subst q
            exact .inr (by rw [List.lookup_cons]; simp)
          · have hb : (x == n) = false := by simpa using q
            exact .inr (by rw [List.lookup_cons, hb]; exact h)
    · rw [if_neg hk]
      refine clF_at ha (fun p hp => hn p (.tail _ hp)) ?_
      rcases h with h | h
      · rcases List.mem_cons.mp h with e | h
        · cases e
          exact absurd rfl hk
        · exact .inl h
      · exact .inr h
theorem kcl_relabel {scope : Scope} {env : Env} (x : Str) : kcl ((relabel scope env).names.lookup x) = kcl (scope.names.lookup x) := by
  unfold relabel
  show kcl (List.lookup x (scope.names.map fun (n, k) => if (k == .free && env.scope.kind == .function && env.kindOf n == some .cell) then (n, .cell) else (n, k))) = _
  generalize scope.names = l
  induction l with
  | nil => rfl
  | cons p r ih =>
    obtain ⟨n, k⟩ := p
    rw [List.map_cons]
    by_cases hc : (k == NameKind.free && env.scope.kind == .function && env.kindOf n == some .cell) = true
    · have hk : k = .free := by
        simp only [Bool.and_eq_true, beq_iff_eq] at hc
        exact hc.1.1
      simp only [hc, if_true, List.lookup_cons]
      cases x == n with
      | true => rw [hk]; rfl
      | false => exact ih
    · have e : (match (n, k) with | (n, k) => if (k == NameKind.free && env.scope.kind == .function && env.kindOf n == some .cell) = true then (n, NameKind.cell) else (n, k)) = (n, k) := if_neg hc
      rw [e, List.lookup_cons, List.lookup_cons]
      cases x == n with
      | true => rfl
      | false => exact ih
theorem mem_of_kcl2 {x : Str} : ∀ {l : List (Str × NameKind)}, (∀ p ∈ l, p.2 ≠ .cell) → kcl (l.lookup x) = 2 → (x, NameKind.free) ∈ l
  | [], _, h => by cases h
  | (n, k) :: r, hc, h => by
    rw [List.lookup_cons] at h
    by_cases q : x = n
    · subst q
      simp at h
      rcases kcl2 h with e | e
      · exact absurd (Option.some.inj e) (hc _ (.head _))
      · rw [Option.some.inj e]; exact .head _
    · have hb : (x == n) = false := by simpa using q
      rw [hb] at h
      exact .tail _ (mem_of_kcl2 (fun p hp => hc p (.tail _ hp)) h)
structure Sub (G : Gx) (c c' : Cx) (d : Nat) : Prop where
  ok : Ok G c' d
  prog : c'.prog = c.prog
  w : c'.w = c.w
  h₀ : c'.h₀ = c.h₀
section
variable {c : Cx} {m : ML} {H : MH} {G : Gx} {d : Nat}
noncomputable def Cx.comp (c : Cx) (scope : Scope) (tg : List Str) (C : Addr) (ml : Str → Option Value) (ox fr xt : List (Addr × Obj)) : Cx :=
  { c with env := compEnvC scope (clF c.env scope.names []) C c.env, fm := some (ml, ox), fr := fr, xt := xt, X := fun _ _ _ _ => False, nm := c.nm ++ tg, sc := scope }
theorem comp_ok (ok : Ok G c d) {scope : Scope} {tg : List Str} {C : Addr} {ml : Str → Option Value} {ox fr xt : List (Addr × Obj)} (hk : scope.kind = .function) (hfr : TI.SameUp c.fr fr) : Ok G (c.comp scope tg C ml ox fr xt) d := by
  obtain ⟨env₀, outer, h1, h2, h3, h4, h5⟩ := ok.frames
  refine ⟨⟨env₀, outer, h1, h2, h3, h4.up hfr, fun q => (by cases q)⟩, ok.kin, ok.top, ok.hh, ok.dep, ok.uni, hk, ok.gl, ok.bi, fun q => (by cases q), fun x => kcl_relabel x, fun q => (by cases q), ok.ex⟩
theorem storeC {mr : Str → Option Value} {ρ : List Addr} {s : Shared} {x : Str} {v : Value} {f : Str → Option Value} {ox : List (Addr × Obj)} {Q E} (hfm : c.fm = some (f, ox)) (hk : c.env.scope.kind = .function) (S : St c mr ρ H s.heap) (hx : c.env.kindOf x = some .local)
    (h : ∀ h' tk, St c (fun y => if y = x then some v else mr y) ρ H h' → Q () { s with heap := h', toks := tk }) :
    wpAny (model c.prog c.w) c.A (storeName c.env x v) Q E s := by
  obtain ⟨ml, fr, ex, o, u, F, os, a1, a2, a3, N, a5⟩ := S
  unfold Own at o
  rw [hfm] at o
  obtain ⟨e0, ⟨oC, mC, q1, q2, q3⟩, o2⟩ := o
  subst q1
  have hC := N (c.env.locals, oC) (List.mem_append_left _ (List.mem_append_right _ (List.mem_append_right _ (.head _))))
  refine wpAny_storeName_local hx (q2.ns hC.1) (fun h' hn hs => ?_) (by rw [hk]; rfl)
  obtain ⟨oC', hC', hoC'⟩ := LCg.ns_obj hn
  refine h h' _ ⟨ml, fr, (c.env.locals, oC') :: ox, ?_, u, F.change hs hC.2.1 hC.2.2, os, a1, a2, a3, ?_, (by simpa [List.map_append] using a5)⟩
  · unfold Own
    rw [hfm]
    refine ⟨e0, ⟨oC', _, rfl, hoC', fun y hy => ?_⟩, fun y hy => ?_⟩
    · by_cases e : y = x
      · simp [e]
      · simp [e, q3 y hy]
    · have hne : y ≠ x := by
        rintro rfl
        rw [hx] at hy
        rcases hy with hy | hy <;> cases hy
      simp only [if_neg hne]
      exact o2 y hy
  · have hp : ((fr ++ (c.xt ++ (c.env.locals, oC) :: ox)).map (·.1) ++ ρ).Perm (c.env.locals :: ((fr ++ (c.xt ++ ox)).map (·.1) ++ ρ)) := by
      simp only [List.map_append, List.map_cons, List.append_assoc]
      have h1 := List.perm_middle (a := c.env.locals) (l₁ := fr.map (·.1) ++ c.xt.map (·.1)) (l₂ := ox.map (·.1) ++ ρ)
      simpa [List.append_assoc] using h1
    have hnd := List.nodup_cons.mp (hp.nodup_iff.mp a5)
    intro p hp
    have hsplit : p = (c.env.locals, oC') ∨ p ∈ (fr ++ (c.xt ++ ox)) ++ ρ.zip os := by
      simp only [List.mem_append, List.mem_cons] at hp ⊢
      rcases hp with (hp | hp | hp | hp) | hp <;> simp [hp]
    rcases hsplit with rfl | hq
    · exact ⟨hC', hC.2⟩
    · have P := N p (by
        simp only [List.mem_append, List.mem_cons] at hq ⊢
        rcases hq with (hp | hp | hp) | hp <;> simp [hp])
      refine ⟨(hs.2 _ fun e => ?_).trans P.1, P.2⟩
      refine hnd.1 ?_
      rw [← e]
      rcases List.mem_append.mp hq with hq | hq
      · exact List.mem_append_left _ (List.mem_map_of_mem hq)
      · exact List.mem_append_right _ (List.of_mem_zip (show (p.1, p.2) ∈ _ from hq)).1
noncomputable def upd (mr : Str → Option Value) : List Str → List Value → Str → Option Value
  | x :: xs, v :: vs => upd (fun y => if y = x then some v else mr y) xs vs
  | _, _ => mr
theorem eachC_length {scope : Scope} {env : Env} : ∀ {tg : List Str} {ts : List PySem.Expr}, isTgN scope tg ts = true → (assignEach ts env).length = tg.length ∧ (assignEach ts env).findIdx? (·.1) = none
  | [], [], _ => ⟨rfl, rfl⟩
  | [], _ :: _, h => by simp [isTgN] at h
  | _ :: _, [], h => by simp [isTgN] at h
  | i :: is, t :: ts, h => by
    cases t <;> simp only [isTgN, Bool.false_eq_true] at h
    simp only [Bool.and_eq_true] at h
    obtain ⟨h1, h2⟩ := eachC_length (env := env) h.2
    refine ⟨?_, ?_⟩
    · show ((false, _) :: assignEach ts env).length = _
      simp [h1]
    · show ((false, _) :: assignEach ts env).findIdx? (·.1) = none
      rw [List.findIdx?_cons]
      simp [h2]
theorem assignInC {f : Str → Option Value} {ox : List (Addr × Obj)} (hfm : c.fm = some (f, ox)) (hk : c.env.scope.kind = .function) (hkd : ∀ x, kcl (c.env.kindOf x) = kcl (c.sc.names.lookup x)) {Q : Unit → Shared → Prop} {E : Value → Shared → Prop} {ρ : List Addr} :
    ∀ {tg : List Str} {ts : List PySem.Expr} {vrs : List Value} {mr : Str → Option Value} {s : Shared},
    isTgN c.sc tg ts = true → vrs.length = tg.length → St c mr ρ H s.heap →
    (∀ h' tk, St c (upd mr tg vrs) ρ H h' → Q () { s with heap := h', toks := tk }) →
    wpAny (model c.prog c.w) c.A (assignInOrder ((assignEach ts c.env).map (·.2)) vrs) Q E s
  | [], [], vrs, mr, s, _, hl, S, k => by
    cases vrs with
    | nil => exact wpAny_pure (k s.heap s.toks S)
    | cons _ _ => simp at hl
  | [], _ :: _, _, _, _, h, _, _, _ => by simp [isTgN] at h
  | _ :: _, [], _, _, _, h, _, _, _ => by simp [isTgN] at h
  | x :: xs, t :: ts, vrs, mr, s, h, hl, S, k => by
    cases t <;> simp only [isTgN, Bool.false_eq_true] at h
    rename_i y px
    simp only [Bool.and_eq_true, beq_iff_eq] at h
    obtain ⟨⟨⟨rfl, h2⟩, h3⟩, h4⟩ := h
    cases vrs with
    | nil => simp at hl
    | cons v vs =>
      show wpAny _ _ (do holding vs (assign (.Name x px) c.env v); assignInOrder ((assignEach ts c.env).map (·.2)) vs) Q E s
      refine wpAny_bind (wpAny_holding (wpAny_assign_Name ?_))
      refine storeC hfm hk S (kcl1 ((hkd x).trans (by rw [h2]; rfl))) ?_
      intro h' tk S2
      refine assignInC hfm hk hkd (s := { s with heap := h', toks := tk }) h4 (by simpa using hl) S2 ?_
      intro h'' tk' S3
      exact k h'' tk' S3
noncomputable def PartsN (H : MH) : List Str → MV → List MV → Prop
  | [_], v, vs => vs = [v]
  | is, v, vs => 1 < is.length ∧ vs.length = is.length ∧ ∃ a, v = .ref a ∧ H[a]? = some (.tup vs)
theorem assignTgC (hh : c.A.handled = none) {f : Str → Option Value} {ox : List (Addr × Obj)} (hfm : c.fm = some (f, ox)) (hk : c.env.scope.kind = .function) (hkd : ∀ x, kcl (c.env.kindOf x) = kcl (c.sc.names.lookup x)) {Q : Unit → Shared → Prop} {E : Value → Shared → Prop} {ρ : List Addr} {tg : List Str} {target : PySem.Expr} {v : MV} {vr : Value} {vs : List MV} {mr : Str → Option Value} {s : Shared}
    (ht : isTg c.sc tg target = true) (hv : VR ρ v vr) (hp : PartsN H tg v vs) (S : St c mr ρ H s.heap)
    (k : ∀ vrs h' tk, VRs ρ vs vrs → vrs.length = tg.length → St c (upd mr tg vrs) ρ H h' → Q () { s with heap := h', toks := tk }) : wpAny (model c.prog c.w) c.A (assign target c.env vr) Q E s := by
  unfold isTg at ht
  split at ht
  · rename_i y p
    cases tg with
    | nil => simp [isTgN] at ht
    | cons x xs =>
      cases xs with
      | cons _ _ => simp [isTgN] at ht
      | nil =>
        simp only [isTgN, Bool.and_eq_true, beq_iff_eq] at ht
        obtain ⟨⟨⟨rfl, h2⟩, _⟩, _⟩ := ht
        have e : vs = [v] := hp
        subst e
        refine wpAny_assign_Name (storeC hfm hk S (kcl1 ((hkd x).trans (by rw [h2]; rfl))) ?_)
        intro h' tk S2
        exact k [vr] h' tk ⟨vr, [], rfl, hv, rfl⟩ rfl S2
  · rename_i ts k' px
    simp only [Bool.and_eq_true, decide_eq_true_eq] at ht
    have hp' : 1 < tg.length ∧ vs.length = tg.length ∧ ∃ a, v = .ref a ∧ H[a]? = some (.tup vs) := by
      cases tg with
      | nil => simp at ht
      | cons i r =>
        cases r with
        | nil => simp at ht
        | cons _ _ => exact hp
    obtain ⟨_, hl, a, rfl, ha⟩ := hp'
    obtain ⟨x, hx, rfl⟩ := hv
    obtain ⟨ws, hws, T⟩ := S.tup ha hx
    obtain ⟨q1, q2⟩ := eachC_length (env := c.env) ht.1
    have hlen : ws.length = tg.length := by rw [hws.length, hl]
    refine assign_Tuple_tuple hh T (by rw [q1, List.size_toArray, hlen]) q2 ?_
    intro h' he
    refine assignInC hfm hk hkd (s := { s with heap := h' }) ht.1 (by simpa using hlen) (S.grow (ext_grow he)) ?_
    intro h'' tk' S3
    exact k ws h'' tk' hws hlen S3
  · cases ht
end
theorem slot_app_off {x : Str} : ∀ {nm tg : List Str}, x ∉ tg → slot (nm ++ tg) x = slot nm x
  | [], [], _ => rfl
  | [], y :: r, h => by
    have h1 : x ∉ r := fun q => h (.tail _ q)
    have h2 : (y == x) = false := by simpa using fun e : y = x => h (e ▸ .head _)
    show slot (y :: r) x = none
    unfold slot
    have := slot_app_off (nm := []) (tg := r) h1
    rw [List.nil_append] at this
    rw [this]
    unfold slot
    simp [h2]
  | z :: nm, tg, h => by
    show slot (z :: (nm ++ tg)) x = slot (z :: nm) x
    unfold slot
    rw [slot_app_off h]
theorem slot_app_in {x : Str} : ∀ {nm tg : List Str}, x ∈ tg → ∃ j, slot tg x = some j ∧ slot (nm ++ tg) x = some (nm.length + j)
  | [], tg, h => by
    have key : ∀ {tg : List Str}, x ∈ tg → ∃ j, slot tg x = some j := by
      intro tg
      induction tg with
      | nil => intro h; cases h
      | cons y r ih =>
        intro h
        unfold slot
        cases e : slot r x with
        | some j => exact ⟨j + 1, rfl⟩
        | none =>
          rcases List.mem_cons.mp h with rfl | h
          · exact ⟨0, by simp⟩
          · obtain ⟨j, hj⟩ := ih h
            rw [hj] at e; cases e
    obtain ⟨j, hj⟩ := key h
    exact ⟨j, hj, by simpa using hj⟩
  | z :: nm, tg, h => by
    obtain ⟨j, h1, h2⟩ := slot_app_in (nm := nm) h
    refine ⟨j, h1, ?_⟩
    show slot (z :: (nm ++ tg)) x = _
    unfold slot
    rw [h2]
    simp only [List.length_cons]
    congr 1
    omega
theorem upd_off {x : Str} : ∀ {tg : List Str} {vrs : List Value} {mr : Str → Option Value}, x ∉ tg → upd mr tg vrs x = mr x
  | [], _, _, _ => by unfold upd; rfl
  | _ :: _, [], _, _ => by unfold upd; rfl
  | y :: r, v :: vs, mr, h => by
    unfold upd
    rw [upd_off fun q => h (.tail _ q)]
    have : x ≠ y := fun e => h (e ▸ .head _)
    simp [this]
theorem upd_at {x : Str} {v : Value} {sc : Scope} : ∀ {tg : List Str} {ts : List PySem.Expr} {vrs : List Value} {mr : Str → Option Value} {j : Nat}, isTgN sc tg ts = true → tg[j]? = some x → vrs[j]? = some v → upd mr tg vrs x = some v
  | [], _, _, _, _, _, h, _ => by simp at h
  | _ :: _, _, [], _, _, _, _, h => by simp at h
  | y :: r, ts, u :: us, mr, j, ht, h1, h2 => by
    cases ts with
    | nil => simp [isTgN] at ht
    | cons t ts =>
      cases t <;> simp only [isTgN, Bool.false_eq_true] at ht
      simp only [Bool.and_eq_true, beq_iff_eq, Bool.not_eq_true'] at ht
      obtain ⟨⟨⟨_, _⟩, hc⟩, hr⟩ := ht
      have hc' : y ∉ r := by simpa using hc
      unfold upd
      cases j with
      | zero =>
        simp at h1 h2
        subst h1 h2
        rw [upd_off hc']
        simp
      | succ j => exact upd_at hr (by simpa using h1) (by simpa using h2)
theorem tgN_of {scope : Scope} {tg : List Str} {target : PySem.Expr} (h : isTg scope tg target = true) : ∃ ts, isTgN scope tg ts = true := by
  unfold isTg at h
  split at h
  · exact ⟨_, h⟩
  · simp only [Bool.and_eq_true] at h
    exact ⟨_, h.1⟩
  · cases h
section
variable {c : Cx} {m : ML} {H : MH} {G : Gx} {d : Nat}
theorem forIn_false {env : Env} {M : Model} {A : Around} {Q : Bool → Shared → Prop} {E : Value → Shared → Prop} {s : Shared} : ∀ {ifs : List PySem.Expr}, Q false s →
    wpAny M A (forIn ifs false fun c r => if r = true then do let ok ← isTrue c env (eval c env); pure (ForInStep.yield ok) else pure (ForInStep.yield r)) Q E s
  | [], h => wpAny_pure h
  | _ :: _, h => by
    rw [List.forIn_cons]
    simp only [Bool.false_eq_true, if_false]
    exact forIn_false h
noncomputable def TC (c : Cx) (m : ML) : CTs → MH → (Bool → MH → Prop) → Prop
  | .nil, H, post => post true H
  | .cons t r, H, post => TT c m t H (fun b H1 => (b = false → post false H1) ∧ (b = true → TC c m r H1 post))
theorem tests_of {post : Bool → MH → Prop} {mr : Str → Option Value} {Q : Bool → Shared → Prop} {E : Value → Shared → Prop} : ∀ {cs : CTs} {ifs : List PySem.Expr} {H : MH} {ρ : List Addr} {s : Shared}, TC c m cs H post → wfTs cs c.nm c.sc ifs = true → St c mr ρ H s.heap → LR mr c.nm ρ m →
    (∀ t b H' h' tk, post b H' → St c mr (ρ ++ t) H' h' → Q b { s with heap := h', toks := tk }) → Kx c ρ s E →
    wpAny (model c.prog c.w) c.A (forIn (reTs cs c.nm ifs) true fun x r => if r = true then do let ok ← isTrue x c.env (eval x c.env); pure (ForInStep.yield ok) else pure (ForInStep.yield r)) Q E s
  | .nil, ifs, H, ρ, s, h, hi, S, l, k, kx => by
    exact wpAny_pure (k [] true H s.heap s.toks h (nil_of S))
  | .cons t r, ifs, H, ρ, s, h, hi, S, l, k, kx => by
    have hi := and2 hi
    show wpAny _ _ (forIn (reT t c.nm (nth 0 ifs) :: reTs r c.nm ifs.tail) true _) _ _ _
    rw [List.forIn_cons]
    simp only [if_true]
    refine wpAny_bind (wpAny_bind ?_)
    refine h _ hi.1 _ mr ρ s _ E (fun _ => rfl) S l ?_ kx
    intro t' b H1 h1 tk1 hp S1
    refine wpAny_pure ?_
    cases b with
    | false => exact forIn_false (k t' false H1 h1 tk1 (hp.1 rfl) S1)
    | true =>
      refine tests_of (ρ := ρ ++ t') (s := { s with heap := h1, toks := tk1 }) (hp.2 rfl) hi.2 S1 l.mono ?_ kx.mono
      intro t'' b H2 h2 tk2 hp2 S2
      rw [List.append_assoc] at S2
      exact k (t' ++ t'') b H2 h2 tk2 hp2 S2
theorem comp_scope {sc scope : Scope} {tg : List Str} (h : compb sc scope tg = true) : scope.kind = .function ∧ (∀ y ∈ scope.names, y.2 ≠ .cell) ∧ (∀ y ∈ scope.names, y.2 = .local → scope.names.lookup y.1 = some .local ∧ (y.1 = (".0" : Str) ∨ y.1 ∈ tg)) ∧
    (∀ y ∈ scope.names, y.2 = .free → kcl (sc.names.lookup y.1) = 2 ∧ y.1 ∉ tg) := by
  unfold compb at h
  simp only [Bool.and_eq_true, beq_iff_eq, List.all_eq_true] at h
  refine ⟨h.1, ?_, ?_, ?_⟩
  · intro y hy e
    have := h.2 y hy
    rw [e] at this
    cases this
  · intro y hy e
    have := h.2 y hy
    rw [e] at this
    simp only [Bool.and_eq_true, Bool.or_eq_true, beq_iff_eq] at this
    exact ⟨this.2, this.1.imp id fun q => by simpa using q⟩
  · intro y hy e
    have := h.2 y hy
    rw [e] at this
    simp only [Bool.and_eq_true, beq_iff_eq, Bool.not_eq_true'] at this
    exact ⟨this.1, by simpa using this.2⟩
theorem local_mem {x : Str} : ∀ {l : List (Str × NameKind)}, l.lookup x = some .local → (x, NameKind.local) ∈ l
  | [], h => by cases h
  | (n, k) :: r, h => by
    rw [List.lookup_cons] at h
    by_cases q : x = n
    · subst q
      simp at h
      rw [h]; exact .head _
    · have hb : (x == n) = false := by simpa using q
      rw [hb] at h
      exact .tail _ (local_mem h)
noncomputable abbrev Cx.at (c : Cx) (scope : Scope) (tg : List Str) (C : Addr) (ml : Str → Option Value) (ex fr : List (Addr × Obj)) (D : Addr) (yrs : List Value) : Cx := c.comp scope tg C ml ex fr ((D, LCg.lst yrs) :: c.xt)
theorem lr_comp {scope : Scope} {tg : List Str} {ts : List PySem.Expr} {mr mr' : Str → Option Value} {ρ : List Addr} {vs : List MV} {vrs : List Value} (hcb : compb c.sc scope tg = true) (h0 : c.nm.contains (".0" : Str) = false) (ht : isTgN scope tg ts = true) (l : LR mr c.nm ρ m)
    (hm : ∀ x, x ∉ tg → scope.names.lookup x ≠ some .local → mr' x = mr x) (hv : VRs ρ vs vrs) (hl : vrs.length = tg.length) : LR (upd mr' tg vrs) (c.nm ++ tg) ρ (m ++ vs.map some) := by
  obtain ⟨_, _, hloc, _⟩ := comp_scope hcb
  refine ⟨by rw [List.length_append, List.length_append, List.length_map, l.1, ← hv.length, hl], fun i x v e1 e2 => ?_⟩
  by_cases hx : x ∈ tg
  · obtain ⟨j, h1, h2⟩ := slot_app_in (nm := c.nm) hx
    rw [h2] at e1
    cases e1
    rw [List.getElem?_append_right (by rw [l.1]; omega), l.1, Nat.add_sub_cancel_left, List.getElem?_map] at e2
    cases q : vs[j]? with
    | none => rw [q] at e2; cases e2
    | some u =>
      rw [q] at e2
      cases e2
      obtain ⟨vr, g1, g2⟩ := hv.get q
      exact ⟨vr, g2, upd_at ht (slot_get h1) g1⟩
  · rw [slot_app_off hx] at e1
    have hi : i < m.length := by rw [l.1]; exact (List.getElem?_eq_some_iff.mp (slot_get e1)).1
    rw [List.getElem?_append_left hi] at e2
    obtain ⟨vr, g1, g2⟩ := l.2 i x v e1 e2
    refine ⟨vr, g1, ?_⟩
    rw [upd_off hx, hm x hx ?_, g2]
    intro q
    rcases (hloc _ (local_mem q) rfl).2 with q | q
    · have hm0 := List.mem_of_getElem? (slot_get e1)
      have : c.nm.contains (".0" : Str) = true := by
        rw [show x = (".0" : Str) from q] at hm0
        simpa using hm0
      rw [h0] at this
      cases this
    · exact hx q
end
theorem loopC {prog : Program} {w : World} {A : Around} {R : Result → Shared → Prop} {s : Shared} {elt target iter : PySem.Expr} {ifs : List PySem.Expr} {scope : Scope} {pos : Pos} {it acc : Value} {env : Env} (I : Nat → Shared → Prop)
    (turn : ∀ n s, I n s → ∀ E' : Value → Shared → Prop, wpAny (model prog w) A (pyNext it) (fun r s₁ => match r with
      | none => R (.ok .next) s₁
      | some v => wpAny (model prog w) A (letOwnedTupleGo target it v) (fun _ s₁' => wpAny (model prog w) A (assign target env v) (fun _ s₂ =>
          wpAny (model prog w) A (forIn ifs true fun c r => if r = true then do let ok ← isTrue c env (eval c env); pure (ForInStep.yield ok) else pure (ForInStep.yield r)) (fun ok s₃ =>
            if ok = true then wpAny (model prog w) A (eval elt env) (fun x s₄ =>
              wpAny (model prog w) A (call (.builtin "list.append") [acc, x]) (fun _ s₅ => ∃ m, m < n ∧ I m s₅) E' s₄) E' s₃
            else ∃ m, m < n ∧ I m s₃) E' s₂) E' s₁') E' s₁) E' s)
    (n : Nat) (h : I n s) : codeAny (model prog w) A (.compLoop (.ListComp elt [⟨target, iter, ifs, 0⟩] scope pos) 0 it acc env) R s := by
  refine codeAny_loop rfl I (fun n s hI => ?_) n h
  show wpAny _ A ((compTurn (.ListComp elt [⟨target, iter, ifs, 0⟩] scope pos) 0 it acc env).onRaise (fun x => do noteFrame x env; theTreesLotGoes x)) _ _ s
  refine wpAny_noted ?_
  rw [compTurn_list]
  refine wpAny_bind (wpAny_standAt (wpAny_bind (wpAny_mono (turn n s hI _) (fun r s₁ h₁ => ?_) fun _ _ h' => h')))
  cases r with
  | none => exact wpAny_pure h₁
  | some v =>
    refine wpAny_bind (wpAny_mono h₁ (fun _ s₁' h₁' => ?_) fun _ _ h' => h')
    refine wpAny_bind (wpAny_mono h₁' (fun _ s₂ h₂ => wpAny_bind (wpAny_mono h₂ (fun ok s₃ h₃ => ?_) fun _ _ h' => h')) fun _ _ h' => h')
    cases ok with
    | false => exact wpAny_pure ⟨rfl, h₃⟩
    | true =>
      exact wpAny_bind (wpAny_bind (wpAny_mono h₃ (fun x s₄ h₄ => wpAny_bind (wpAny_mono h₄ (fun _ s₅ h₅ => wpAny_pure (wpAny_pure ⟨rfl, h₅⟩)) fun _ _ h' => h')) fun _ _ h' => h'))
section
variable {c : Cx} {m : ML} {H : MH} {G : Gx} {d : Nat}
theorem St.fact {mr : Str → Option Value} {ρ : List Addr} {h : Heap} (S : St c mr ρ H h) {p : Addr × Obj} (hp : p ∈ c.xt) : h.get? p.1 = some p.2 ∧ p.1 ≠ c.L ∧ c.h₀.get? p.1 = none := by
  obtain ⟨ml, fr, ex, own, u, F, os, a1, a2, a3, N, a5⟩ := S
  exact N p (List.mem_append_left _ (List.mem_append_right _ (List.mem_append_left _ hp)))
theorem St.growD {mr : Str → Option Value} {ρ : List Addr} {h h' : Heap} {D : Addr} {o o' : Obj} {p : Addr × Obj} {xt : List (Addr × Obj)} (S : St (c.wx (p :: (D, o) :: xt)) mr ρ H h) (hs : Heap.SameBut D h h') (hD : h'.get? D = some o') :
    St (c.wx (p :: (D, o') :: xt)) mr ρ H h' := by
  obtain ⟨ml, fr, ex, own, u, F, os, a1, a2, a3, N, a5⟩ := S
  replace N : News c.h₀ c.L h ((fr ++ ((p :: (D, o) :: xt) ++ ex)) ++ ρ.zip os) := N
  replace a5 : ((fr ++ ((p :: (D, o) :: xt) ++ ex)).map (·.1) ++ ρ).Nodup := a5
  have nD := N (D, o) (by simp)
  have hp : ((fr ++ ((p :: (D, o) :: xt) ++ ex)).map (·.1) ++ ρ).Perm (D :: ((fr ++ ((p :: xt) ++ ex)).map (·.1) ++ ρ)) := by
    simp only [List.map_append, List.map_cons, List.cons_append, List.append_assoc]
    have h1 := List.perm_middle (a := D) (l₁ := fr.map (·.1) ++ [p.1]) (l₂ := xt.map (·.1) ++ (ex.map (·.1) ++ ρ))
    simpa [List.append_assoc] using h1
  have hnd := List.nodup_cons.mp (hp.nodup_iff.mp a5)
  refine ⟨ml, fr, ex, own, u, F.change hs nD.2.1 nD.2.2, os, a1, a2, a3, ?_, (by show ((fr ++ ((p :: (D, o') :: xt) ++ ex)).map (·.1) ++ ρ).Nodup; simpa [List.map_append] using a5)⟩
  show News c.h₀ c.L h' ((fr ++ ((p :: (D, o') :: xt) ++ ex)) ++ ρ.zip os)
  intro q hq
  have hsplit : q = (D, o') ∨ q ∈ (fr ++ ((p :: xt) ++ ex)) ++ ρ.zip os := by
    simp only [List.cons_append, List.mem_append, List.mem_cons] at hq ⊢
    rcases hq with (hp | hp | hp | hp | hp) | hp <;> simp [hp]
  rcases hsplit with rfl | hq
  · exact ⟨hD, nD.2⟩
  · have P := N q (by
      simp only [List.cons_append, List.mem_append, List.mem_cons] at hq ⊢
      rcases hq with (hp | hp | hp | hp) | hp <;> simp [hp])
    refine ⟨(hs.2 _ fun e => ?_).trans P.1, P.2⟩
    refine hnd.1 ?_
    rw [← e]
    rcases List.mem_append.mp hq with hq | hq
    · exact List.mem_append_left _ (List.mem_map_of_mem hq)
    · exact List.mem_append_right _ (List.of_mem_zip (show (q.1, q.2) ∈ _ from hq)).1
theorem comp_end {scope : Scope} {tg : List Str} {C D : Addr} {ml mr mr' : Str → Option Value} {ex fr : List (Addr × Obj)} {yrs : List Value} {ys : List MV} {ρ : List Addr} {h : Heap} (own : Own c mr ml ex) (hfr : TI.SameUp c.fr fr)
    (S : St (c.at scope tg C ml ex fr D yrs) mr' ρ H h) (hy : VRs ρ ys yrs) : ∃ oC mC, LCg.NsObj oC mC ∧ St (c.wx ((C, oC) :: c.xt)) mr (ρ ++ [D]) (H ++ [.list ys]) h ∧ (ρ ++ [D])[H.length]? = some D := by
  obtain ⟨ml', fr', ex', own', u, F, os, a1, a2, a3, N, a5⟩ := S
  obtain ⟨e0, ⟨oC, mC, q1, q2, q3⟩, o2⟩ := own'
  have e0' : ml' = ml := e0
  subst e0' q1
  replace N : News c.h₀ c.L h ((fr' ++ (((D, LCg.lst yrs) :: c.xt) ++ ((C, oC) :: ex))) ++ ρ.zip os) := N
  replace a5 : ((fr' ++ (((D, LCg.lst yrs) :: c.xt) ++ ((C, oC) :: ex))).map (·.1) ++ ρ).Nodup := a5
  refine ⟨oC, mC, q2, ?_, last_get a2⟩
  have hp : ((fr' ++ (((D, LCg.lst yrs) :: c.xt) ++ ((C, oC) :: ex))).map (·.1) ++ ρ).Perm (D :: ((fr' ++ (((C, oC) :: c.xt) ++ ex)).map (·.1) ++ ρ)) := by
    simp only [List.map_append, List.map_cons, List.cons_append, List.append_assoc]
    have h1 := List.perm_middle (a := C) (l₁ := fr'.map (·.1) ++ D :: c.xt.map (·.1)) (l₂ := ex.map (·.1) ++ ρ)
    have h2 := List.perm_middle (a := D) (l₁ := fr'.map (·.1)) (l₂ := c.xt.map (·.1) ++ (ex.map (·.1) ++ ρ))
    have h3 : (fr'.map (·.1) ++ D :: (c.xt.map (·.1) ++ C :: (ex.map (·.1) ++ ρ))).Perm (C :: (fr'.map (·.1) ++ D :: (c.xt.map (·.1) ++ (ex.map (·.1) ++ ρ)))) := by simpa [List.append_assoc] using h1
    have h4 := List.perm_middle (a := C) (l₁ := fr'.map (·.1)) (l₂ := c.xt.map (·.1) ++ (ex.map (·.1) ++ ρ))
    exact (h3.trans ((List.Perm.cons _ h2).trans (List.Perm.swap _ _ _))).trans (List.Perm.cons _ h4.symm)
  have hnd := List.nodup_cons.mp (hp.nodup_iff.mp a5)
  have hN : News c.h₀ c.L h ((D, LCg.lst yrs) :: ((fr' ++ (((C, oC) :: c.xt) ++ ex)) ++ ρ.zip os)) := fun q hq => N q (by
    simp only [List.cons_append, List.mem_append, List.mem_cons] at hq ⊢
    rcases hq with hp | (hp | hp | hp | hp) | hp <;> simp [hp])
  refine ⟨ml', fr', ex, own, hfr.trans u, Led.alloc (l := D) (x := LCg.lst yrs) (o := .list ys) a1 a2 a3 hnd.2 F hN ?_ ⟨yrs, yrs.length, hy.mono, rfl⟩⟩
  intro q hq e
  refine hnd.1 ?_
  rw [← e]
  rcases List.mem_append.mp hq with hq | hq
  · exact List.mem_append_left _ (List.mem_map_of_mem hq)
  · exact List.mem_append_right _ (List.of_mem_zip (show (q.1, q.2) ∈ _ from hq)).1
structure ItOk (c : Cx) (I : Addr) (T : Nat → Obj → Prop) (good : MH → Prop) (item : Nat → MH → Option MV) (ρ : List Addr) : Prop where
  nx : ∀ c₁ : Cx, c₁.A = c.A → NX c₁ I T good item ρ
  go : GoOk T
  slf : ∀ (s : Shared) (Q : Value → Shared → Prop) (E : Value → Shared → Prop) (i : Nat) (o : Obj), T i o → s.heap.get? I = some o → Q (.ref I) s → wpAny (model c.prog c.w) c.A (pyIter (.ref I)) Q E s
theorem compCore (ok : Ok G c d) {tg : List Str} {elt : CE} {cs : CTs} {target iter el : PySem.Expr} {ifs : List PySem.Expr} {scope : Scope} {pos : Pos} {post : MV → MH → Prop}
    (h0 : c.nm.contains (".0" : Str) = false) (ht : isTg scope tg target = true) (hcb : compb c.sc scope tg = true) (hcs : wfTs cs (c.nm ++ tg) scope ifs = true) (hel : wfE elt (c.nm ++ tg) scope el = true)
    {I : Addr} {T : Nat → Obj → Prop} {good : MH → Prop} {item : Nat → MH → Option MV} {ρ : List Addr} (it : ItOk c I T good item ρ)
    (J : Nat → List MV → MH → Prop) (B : Nat) (hB : B ≤ 1000000) (hJ0 : J 0 [] H) (hJ : ∀ i ys H1, J i ys H1 → i ≤ B ∧ ys.length ≤ i ∧ good H1)
    (turn : ∀ i ys H1 v, J i ys H1 → item i H1 = some v → ∃ vs, PartsN H1 tg v vs ∧ ∀ c', Sub G c c' d → c'.nm = c.nm ++ tg →
      TC c' (m ++ vs.map some) cs H1 (fun r H2 => (r = false → J (i + 1) ys H2) ∧ (r = true → TE c' (m ++ vs.map some) elt H2 (fun y H3 => J (i + 1) (ys ++ [y]) H3))))
    (done : ∀ i ys H1, J i ys H1 → item i H1 = none → post (.ref H1.length) (H1 ++ [.list ys]))
    {mr : Str → Option Value} {s : Shared} {RR : Value → Addr → Result → Shared → Prop} {E : Value → Shared → Prop} {oI : Obj} (hT : T 0 oI) (S : St (c.wx ((I, oI) :: c.xt)) mr ρ H s.heap) (lr : LR mr c.nm ρ m)
    (k : ∀ C D t v H' h tk oC mC, post v H' → LCg.NsObj oC mC → St (c.wx ((C, oC) :: c.xt)) mr (ρ ++ t) H' h → VR (ρ ++ t) v (.ref D) → RR (.ref D) C (.ok .next) { s with heap := h, toks := tk }) :
    wpAny (model c.prog c.w) c.A (newList []) (fun acc s₃ => wpAny (model c.prog c.w) c.A (newFunctionEnv scope c.env.globals (clF c.env scope.names []) [] c.env.qual none .none (some c.env)) (fun cenv s₄ =>
      codeAny (model c.prog c.w) c.A (.compStart (.ListComp (reE elt (c.nm ++ tg) el) [⟨target, iter, reTs cs (c.nm ++ tg) ifs, 0⟩] scope pos) 0 (.ref I) acc { cenv with scope := relabel scope c.env }) (RR acc cenv.locals) s₄) E s₃) E s := by
  obtain ⟨hkind, hcell, hloc, hfree⟩ := comp_scope hcb
  obtain ⟨ts, htn⟩ := tgN_of ht
  obtain ⟨ml, fr, ex, own, u, F, os, a1, a2, a3, N, a5⟩ := S
  replace N : News c.h₀ c.L s.heap ((fr ++ (((I, oI) :: c.xt) ++ ex)) ++ ρ.zip os) := N
  replace a5 : ((fr ++ (((I, oI) :: c.xt) ++ ex)).map (·.1) ++ ρ).Nodup := a5
  replace own : Own c mr ml ex := own
  have hlt : ∀ a ∈ (fr ++ (((I, oI) :: c.xt) ++ ex)).map (·.1) ++ ρ, a < s.heap.objs.size := fun a ha => by
    obtain ⟨p, hp, e⟩ := led_addr (os := os) a1 a2 ha
    rw [← e]
    exact Heap.lt_size (N p hp).1
  refine wpAny_newObj_type (wpAny_newFunctionEnv hcell (by intro y hy; simp at hy) (fun h₁ hns₁ hsb₁ => ?_) hkind)
  dsimp only at hns₁ hsb₁ ⊢
  generalize hH2 : s.heap.push { cls := .type "list", dict := none, data := .seq ([] : List Value).toArray } = H2 at hns₁ hsb₁ ⊢
  have hC : H2.objs.size = s.heap.objs.size + 1 := by rw [← hH2, Heap.size_push]
  have hDC : s.heap.objs.size ≠ H2.objs.size := by rw [hC]; exact Nat.ne_of_lt (Nat.lt_succ_self _)
  have old : ∀ b o, s.heap.get? b = some o → h₁.get? b = some o := fun b o e => hsb₁.extBut b o (by have := Heap.lt_size e; rw [hC]; exact Nat.ne_of_lt (Nat.lt_succ_of_lt this)) (Heap.get?_push_of_some _ (hH2 ▸ Heap.get?_push_of_some _ e))
  have hacc : h₁.get? s.heap.objs.size = some (LCg.lst []) := hsb₁.extBut _ _ hDC (Heap.get?_push_of_some _ (hH2 ▸ Heap.get?_push_size _ rfl))
  have fresh₀ : ∀ a, s.heap.objs.size ≤ a → c.h₀.get? a = none := fun a ha => by
    cases e : c.h₀.get? a with
    | none => rfl
    | some o' => exact absurd (Heap.lt_size (F.keep a o' e)) (Nat.not_lt.mpr ha)
  have hLlt : c.L < s.heap.objs.size := F.ns.lt
  obtain ⟨oC, hCo, hoC⟩ := LCg.ns_obj hns₁
  let cc : List Value → Cx := fun yrs => c.at scope tg H2.objs.size ml ex fr s.heap.objs.size yrs
  let mr₀ : Str → Option Value := fun y => if (relabel scope c.env).names.lookup y = some .local then none else mr y
  have hmap : ∀ y, (fun _ => none : Str → Option Value) y = none := fun _ => rfl
  have hkl : ∀ y, (relabel scope c.env).names.lookup y = some .local ↔ scope.names.lookup y = some .local := fun y => by
    constructor
    · intro q
      exact kcl1 (by rw [← kcl_relabel (env := c.env), q]; rfl)
    · intro q
      exact kcl1 (by rw [kcl_relabel, q]; rfl)
  have hcells : ∀ p ∈ scope.names, p.2 = .free → (c.env.cells.lookup p.1).isSome = true := fun p hp e => by
    have h2 := (hfree p hp e).1
    rw [← ok.kd] at h2
    unfold Own at own
    split at own
    · obtain ⟨_, _, o2⟩ := own
      obtain ⟨a, o, e1, _⟩ := o2 _ (kcl2 h2)
      rw [e1]; rfl
    · obtain ⟨_, _, o2⟩ := own
      obtain ⟨a, o, e1, _⟩ := o2 _ (kcl2 h2)
      rw [e1]; rfl
  have hcelld : ∀ x, kcl (scope.names.lookup x) = 2 → ∃ a o, (clF c.env scope.names []).lookup x = some a ∧ (a, o) ∈ ex ∧ o.data = .cell (mr x) := fun x hx => by
    have hm := mem_of_kcl2 hcell hx
    have h2 := (hfree _ hm rfl).1
    rw [← ok.kd] at h2
    rw [clF_at (fun p hp => (by cases hp)) hcells (.inl hm)]
    unfold Own at own
    split at own
    · obtain ⟨_, _, o2⟩ := own
      exact o2 _ (kcl2 h2)
    · rename_i f ox hf
      obtain ⟨_, ⟨oC', mC', q1, _⟩, o2⟩ := own
      obtain ⟨a, o, e1, e2, e3⟩ := o2 _ (kcl2 h2)
      exact ⟨a, o, e1, by rw [q1]; exact .tail _ e2, e3⟩
  have S1 : St ((cc []).wx ((I, oI) :: (cc []).xt)) mr₀ ρ H h₁ := by
    refine ⟨ml, fr, (H2.objs.size, oC) :: ex, ?_, TI.SameUp.refl _, F.keeps old, os, a1, a2, a3, ?_, ?_⟩
    · refine ⟨rfl, ⟨oC, _, rfl, hoC, fun x hx => ?_⟩, fun x hx => ?_⟩
      · have hx' : (relabel scope c.env).names.lookup x = some .local := hx
        show _ = if (relabel scope c.env).names.lookup x = some .local then none else mr x
        rw [if_pos hx']
        rfl
      · have hx2 : kcl (scope.names.lookup x) = 2 := by
          rw [← kcl_relabel (env := c.env)]
          rcases hx with hx | hx
          · rw [show (relabel scope c.env).names.lookup x = some .cell from hx]; rfl
          · rw [show (relabel scope c.env).names.lookup x = some .free from hx]; rfl
        obtain ⟨a, o, e1, e2, e3⟩ := hcelld x hx2
        refine ⟨a, o, e1, e2, ?_⟩
        have hnl : ¬ (relabel scope c.env).names.lookup x = some .local := by
          rw [hkl]
          intro q
          rw [q] at hx2
          cases hx2
        show _ = Data.cell (if (relabel scope c.env).names.lookup x = some .local then none else mr x)
        rw [if_neg hnl]
        exact e3
    · show News c.h₀ c.L h₁ ((fr ++ (((I, oI) :: (s.heap.objs.size, LCg.lst []) :: c.xt) ++ ((H2.objs.size, oC) :: ex))) ++ ρ.zip os)
      intro p hp
      have hsplit : p = (s.heap.objs.size, LCg.lst []) ∨ p = (H2.objs.size, oC) ∨ p ∈ (fr ++ (((I, oI) :: c.xt) ++ ex)) ++ ρ.zip os := by
        simp only [List.cons_append, List.mem_append, List.mem_cons] at hp ⊢
        rcases hp with (hp | hp | hp | hp | hp | hp) | hp <;> simp [hp]
      rcases hsplit with rfl | rfl | hq
      · exact ⟨hacc, Nat.ne_of_gt hLlt, fresh₀ _ (Nat.le_refl _)⟩
      · exact ⟨hCo, by show H2.objs.size ≠ c.L; rw [hC]; exact Nat.ne_of_gt (Nat.lt_succ_of_lt hLlt), fresh₀ _ (by show s.heap.objs.size ≤ H2.objs.size; rw [hC]; exact Nat.le_succ _)⟩
      · exact ⟨old _ _ (N p hq).1, (N p hq).2⟩
    · show ((fr ++ (((I, oI) :: (s.heap.objs.size, LCg.lst []) :: c.xt) ++ ((H2.objs.size, oC) :: ex))).map (·.1) ++ ρ).Nodup
      have hp : ((fr ++ (((I, oI) :: (s.heap.objs.size, LCg.lst []) :: c.xt) ++ ((H2.objs.size, oC) :: ex))).map (·.1) ++ ρ).Perm (H2.objs.size :: s.heap.objs.size :: ((fr ++ (((I, oI) :: c.xt) ++ ex)).map (·.1) ++ ρ)) := by
        simp only [List.map_append, List.map_cons, List.cons_append, List.append_assoc]
        have h1 := List.perm_middle (a := H2.objs.size) (l₁ := fr.map (·.1) ++ I :: s.heap.objs.size :: c.xt.map (·.1)) (l₂ := ex.map (·.1) ++ ρ)
        have h2 := List.perm_middle (a := s.heap.objs.size) (l₁ := fr.map (·.1) ++ [I]) (l₂ := c.xt.map (·.1) ++ (ex.map (·.1) ++ ρ))
        have h3 : (fr.map (·.1) ++ I :: s.heap.objs.size :: (c.xt.map (·.1) ++ H2.objs.size :: (ex.map (·.1) ++ ρ))).Perm (H2.objs.size :: (fr.map (·.1) ++ I :: s.heap.objs.size :: (c.xt.map (·.1) ++ (ex.map (·.1) ++ ρ)))) := by simpa [List.append_assoc] using h1
        have h4 : (fr.map (·.1) ++ I :: s.heap.objs.size :: (c.xt.map (·.1) ++ (ex.map (·.1) ++ ρ))).Perm (s.heap.objs.size :: (fr.map (·.1) ++ I :: (c.xt.map (·.1) ++ (ex.map (·.1) ++ ρ)))) := by simpa [List.append_assoc] using h2
        exact h3.trans (List.Perm.cons _ h4)
      rw [hp.nodup_iff, List.nodup_cons, List.nodup_cons]
      refine ⟨?_, ?_, a5⟩
      · intro q
        rcases List.mem_cons.mp q with q | q
        · exact hDC q.symm
        · have h9 := hlt _ q
          rw [hC] at h9
          exact Nat.lt_irrefl _ (Nat.lt_of_succ_lt h9)
      · intro q
        exact Nat.lt_irrefl _ (hlt _ q)
  have okc : ∀ yrs xt, Ok G ((cc yrs).wx xt) d := fun yrs xt => (comp_ok ok hkind u).wx xt
  have hm0 : ∀ x, x ∉ tg → scope.names.lookup x ≠ some .local → mr₀ x = mr x := fun x _ hx => by
    show (if (relabel scope c.env).names.lookup x = some .local then none else mr x) = _
    rw [if_neg (by rw [hkl]; exact hx)]
  have loop : ∀ s₃ : Shared, (∃ tk, s₃ = { s with heap := h₁, toks := tk }) →
      codeAny (model c.prog c.w) c.A (.compLoop (.ListComp (reE elt (c.nm ++ tg) el) [⟨target, iter, reTs cs (c.nm ++ tg) ifs, 0⟩] scope pos) 0 (.ref I) (.ref s.heap.objs.size) (compEnvC scope (clF c.env scope.names []) H2.objs.size c.env)) (RR (.ref s.heap.objs.size) H2.objs.size) s₃ := by
    rintro s₃ ⟨tk₃, rfl⟩
    let K : Nat → Shared → Prop := fun n s' => ∃ i ys yrs t mr' H1 h' tk o, s' = { s with heap := h', toks := tk } ∧ n = B + 1 - i ∧ J i ys H1 ∧ T i o ∧ VRs (ρ ++ t) ys yrs ∧ (∀ x, x ∉ tg → scope.names.lookup x ≠ some .local → mr' x = mr x) ∧ St ((cc yrs).wx ((I, o) :: (cc yrs).xt)) mr' (ρ ++ t) H1 h'
    refine loopC K ?_ (B + 1) ⟨0, [], [], [], mr₀, H, h₁, tk₃, oI, rfl, rfl, hJ0, hT, rfl, hm0, nil_of S1⟩
    rintro n _ ⟨i, ys, yrs, t, mr', H1, h', tk, o, rfl, rfl, hJi, hTi, hy, hmr, S2⟩ E'
    obtain ⟨b1, b2, b3⟩ := hJ i ys H1 hJi
    refine it.nx (cc yrs) rfl i o mr' t H1 { s with heap := h', toks := tk } _ E' hTi b3 S2 ?_ ?_
    · intro mv vr oI' h2 tk2 hi hv hT' hI hkeep
      have S3 := S2.turnX hI hkeep
      refine letOwned it.go hT' hI ?_
      obtain ⟨vs, hp, hturn⟩ := turn i ys H1 mv hJi hi
      refine assignTgC (c := (cc yrs).wx ((I, oI') :: (cc yrs).xt)) (s := { s with heap := h2, toks := tk2 }) ok.hh rfl hkind (okc yrs _).kd ht hv hp S3 ?_
      intro vrs h3 tk3 hvr hvl S4
      have l4 : LR (upd mr' tg vrs) (c.nm ++ tg) (ρ ++ t) (m ++ vs.map some) := lr_comp hcb h0 htn lr.mono hmr hvr hvl
      have kxF : ∀ (ρ' : List Addr) (s' : Shared), Kx ((cc yrs).wx ((I, oI') :: (cc yrs).xt)) ρ' s' E' := fun ρ' s' t C as e m' mr' H' h' tk hX => hX.elim
      have sub : Sub G c ((cc yrs).wx ((I, oI') :: (cc yrs).xt)) d := ⟨okc yrs _, rfl, rfl, rfl⟩
      have hnext : ∀ x, x ∉ tg → scope.names.lookup x ≠ some .local → upd mr' tg vrs x = mr x := fun x hx hl => by rw [upd_off hx]; exact hmr x hx hl
      refine tests_of (c := (cc yrs).wx ((I, oI') :: (cc yrs).xt)) (s := { s with heap := h3, toks := tk3 }) (hturn _ sub rfl) hcs S4 l4 ?_ (kxF _ _)
      intro t5 b H5 h5 tk5 hb S5
      rw [List.append_assoc] at S5
      cases b with
      | false =>
        simp only [Bool.false_eq_true, if_false]
        have hJ' := hb.1 rfl
        have := (hJ _ _ _ hJ').1
        refine ⟨B + 1 - (i + 1), by omega, i + 1, ys, yrs, t ++ t5, _, H5, h5, tk5, oI', rfl, rfl, hJ', hT', ?_, hnext, S5⟩
        rw [← List.append_assoc]
        exact hy.mono
      | true =>
        simp only [if_true]
        refine hb.2 rfl _ hel (upd mr' tg vrs) _ { s with heap := h5, toks := tk5 } _ E' S5 (by rw [← List.append_assoc]; exact l4.mono) ?_ (kxF _ _)
        intro t6 y yr H6 h6 tk6 hJ' hyr S6
        simp only [List.append_assoc] at hyr S6
        have nD := S6.fact (p := (s.heap.objs.size, LCg.lst yrs)) (.tail _ (.head _))
        have hlen := (hJ i ys H1 hJi).2.1
        refine append_at nD.1 (fun h7 hs7 hD7 => ?_) (by show yrs.toArray.size ≤ sizeLine; rw [List.size_toArray, hy.length]; exact Nat.le_trans (Nat.le_trans (Nat.le_trans hlen b1) hB) (by decide))
        have S7 := S6.growD (c := cc yrs) hs7 (hD7.trans (congrArg some (LCg.lst_snoc yrs yr)))
        have := (hJ _ _ _ hJ').1
        refine ⟨B + 1 - (i + 1), by omega, i + 1, ys ++ [y], yrs ++ [yr], t ++ (t5 ++ t6), _, H6, h7, tk6, oI', rfl, rfl, hJ', hT', ?_, hnext, S7⟩
        have e1 : ρ ++ (t ++ (t5 ++ t6)) = ρ ++ t ++ (t5 ++ t6) := by simp only [List.append_assoc]
        refine VRs.append ?_ ⟨yr, [], rfl, hyr, rfl⟩
        rw [e1]
        exact hy.mono
    · intro h2 tk2 hi hkeep
      have S3 := St.endX (c := cc yrs) S2 hkeep
      obtain ⟨oC', mC, hn, g1, g2⟩ := comp_end own u S3 hy
      rw [List.append_assoc] at g1 g2
      exact k H2.objs.size s.heap.objs.size (t ++ [s.heap.objs.size]) (.ref H1.length) _ h2 tk2 oC' mC (done i ys H1 hJi hi) hn g1 ⟨_, g2, rfl⟩
  exact codeAny_compStart_list (loop _ ⟨_, rfl⟩) (it.slf _ _ _ 0 oI hT (old _ _ (N (I, oI) (by simp)).1) (loop _ ⟨_, rfl⟩))
end
section
variable {c : Cx} {m : ML} {H : MH} {G : Gx} {d : Nat}
noncomputable def Turns (G : Gx) (d : Nat) (c : Cx) (m : ML) (tg : List Str) (elt : CE) (cs : CTs) (item : Nat → MH → Option MV) (good : MH → Prop) (B : Nat) (H : MH) (post : MV → MH → Prop) : Prop :=
  B ≤ 1000000 ∧ ∃ J : Nat → List MV → MH → Prop, J 0 [] H ∧ (∀ i ys H1, J i ys H1 → i ≤ B ∧ ys.length ≤ i ∧ good H1) ∧
    (∀ i ys H1 v, J i ys H1 → item i H1 = some v → ∃ vs, PartsN H1 tg v vs ∧ ∀ c', Sub G c c' d → c'.nm = c.nm ++ tg →
      TC c' (m ++ vs.map some) cs H1 (fun r H2 => (r = false → J (i + 1) ys H2) ∧ (r = true → TE c' (m ++ vs.map some) elt H2 (fun y H3 => J (i + 1) (ys ++ [y]) H3)))) ∧
    (∀ i ys H1, J i ys H1 → item i H1 = none → post (.ref H1.length) (H1 ++ [.list ys]))
noncomputable def Src (G : Gx) (d : Nat) (c : Cx) (m : ML) (tg : List Str) (elt : CE) (cs : CTs) (it : CE) (H : MH) (post : MV → MH → Prop) : Prop :=
  ∀ (e : PySem.Expr) (mr : Str → Option Value) (ρ : List Addr) (s : Shared) (Q : Value → Shared → Prop) (E : Value → Shared → Prop), wfE it c.nm c.sc e = true → St c mr ρ H s.heap → LR mr c.nm ρ m → Kx c ρ s E →
    (∀ t H' h' tk I T good item B oI, ItOk c I T good item (ρ ++ t) → Turns G d c m tg elt cs item good B H' post → T 0 oI → St (c.wx ((I, oI) :: c.xt)) mr (ρ ++ t) H' h' → Q (.ref I) { s with heap := h', toks := tk }) →
    wpAny (model c.prog c.w) c.A (eval (reE it c.nm e) c.env) (fun x s₁ => wpAny (model c.prog c.w) c.A (pyIter x) Q E s₁) E s
theorem cells_some (ok : Ok G c d) {scope : Scope} {tg : List Str} (hcb : compb c.sc scope tg = true) {mr : Str → Option Value} {ρ : List Addr} {h : Heap} (S : St c mr ρ H h) : ∀ p ∈ scope.names, p.2 = .free → (c.env.cells.lookup p.1).isSome = true := fun p hp e => by
  obtain ⟨_, _, _, hfree⟩ := comp_scope hcb
  obtain ⟨ml, fr, ex, own, _⟩ := S
  have h2 := (hfree p hp e).1
  rw [← ok.kd] at h2
  unfold Own at own
  split at own
  · obtain ⟨_, _, o2⟩ := own
    obtain ⟨a, o, e1, _⟩ := o2 _ (kcl2 h2)
    rw [e1]; rfl
  · obtain ⟨_, _, o2⟩ := own
    obtain ⟨a, o, e1, _⟩ := o2 _ (kcl2 h2)
    rw [e1]; rfl
theorem St.same {mr : Str → Option Value} {ρ : List Addr} {h h' : Heap} {C : Addr} {o : Obj} (S : St (c.wx ((C, o) :: c.xt)) mr ρ H h) (hs : Heap.SameBut C h h') : St c mr ρ H h' := S.endX fun b x hb e => (hs.2 b hb).trans e
theorem comp_wf {elt : CE} {tg : List Str} {it : CE} {cs : CTs} {nm : List Str} {sc : Scope} {e : PySem.Expr} (he : wfE (.comp elt tg it cs) nm sc e = true) :
    nm.contains (".0" : Str) = false ∧ isTg (scOf e) tg (reTg tg (kid 1 e)) = true ∧ compb sc (scOf e) tg = true ∧ wfE it nm sc (kid 2 e) = true ∧ wfTs cs (nm ++ tg) (scOf e) ((kids e).drop 3) = true ∧ wfE elt (nm ++ tg) (scOf e) (kid 0 e) = true := by
  obtain ⟨he, h5⟩ := and2 he
  obtain ⟨he, h4⟩ := and2 he
  obtain ⟨he, h3⟩ := and2 he
  obtain ⟨he, h2⟩ := and2 he
  obtain ⟨h0, h1, h1'⟩ := and3 he
  exact ⟨by simpa using h0, tg_re h1 h1', h2, h3, h4, h5⟩
theorem TE.comp (ok : Ok G c d) {elt : CE} {tg : List Str} {it : CE} {cs : CTs} {post : MV → MH → Prop} (h : Src G d c m tg elt cs it H post) : TE c m (.comp elt tg it cs) H post := by
  intro e he
  obtain ⟨h0, h1, h2, h3, h4, h5⟩ := comp_wf he
  obtain ⟨hkind, hcell, hloc, hfree⟩ := comp_scope h2
  intro mr ρ s Q E S l k kx
  show wpAny _ _ (eval (.ListComp (reE elt (c.nm ++ tg) (kid 0 e)) [⟨reTg tg (kid 1 e), reE it c.nm (kid 2 e), reTs cs (c.nm ++ tg) ((kids e).drop 3), 0⟩] (scOf e) e.pos) c.env) _ _ _
  rw [eval_ListComp]
  refine wpAny_comprehension_free (e := .ListComp (reE elt (c.nm ++ tg) (kid 0 e)) [⟨reTg tg (kid 1 e), reE it c.nm (kid 2 e), reTs cs (c.nm ++ tg) ((kids e).drop 3), 0⟩] (scOf e) e.pos) (g := ⟨reTg tg (kid 1 e), reE it c.nm (kid 2 e), reTs cs (c.nm ++ tg) ((kids e).drop 3), 0⟩) (gs := []) (use := Option.none) rfl (fun x => folded_of h3 x) (closureFor_of (cells_some ok h2 S)) hkind (fun x hx e => (hloc x hx e).1) ?_
  refine h _ mr ρ s _ E h3 S l kx ?_
  rintro t H' h' tk I T good item B oI hit ⟨hB, J, j0, j1, j2, j3⟩ hT S1
  refine compCore (s := { s with heap := h', toks := tk }) ok h0 h1 h2 h4 h5 hit J B hB j0 j1 j2 j3 hT S1 l.mono ?_
  intro C D t' v H2 h2 tk2 oC mC hp hn S2 hv
  refine ⟨mC, hn.ns S2.itr.1, fun h3 hs => ?_⟩
  have S3 := S2.same hs
  rw [List.append_assoc] at S3 hv
  exact k (t ++ t') v _ H2 h3 tk2 hp hv S3
end
section
variable {c : Cx} {m : ML} {H : MH} {G : Gx} {d : Nat}
theorem Src.list (ok : Ok G c d) {tg : List Str} {elt : CE} {cs : CTs} {it : CE} {post : MV → MH → Prop}
    (h : TE c m it H (fun l H1 => ∃ a xs B, l = .ref a ∧ H1[a]? = some (.list xs) ∧ Turns G d c m tg elt cs (itemL a) (fun H => ∃ xs, H[a]? = some (.list xs)) B H1 post)) : Src G d c m tg elt cs it H post := by
  intro e mr ρ s Q E he S l kx k
  refine h _ he mr ρ s _ E S l ?_ kx
  rintro t lv lr H1 h1 tk1 ⟨a, xs, B, rfl, ha, ht⟩ ⟨y, hy, rfl⟩ S1
  obtain ⟨vs, ep, hvs, No⟩ := S1.list ha hy
  refine wpAny_pyIter_list (isList_of No) ?_
  refine k t H1 _ tk1 _ (fun i o => o.cls = .type "list_iterator" ∧ o.data = .fields #[.ref y, .int i 0]) _ _ B _ ⟨fun c₁ e => NX.list (by rw [e]; exact ok.hh) hy, fun i o hT => ⟨_, _, hT.1, hT.2, rfl⟩, fun s' Q E i o hT hI hq => ?_⟩ ht ⟨rfl, rfl⟩ (S1.addX rfl)
  exact wpAny_pyIter_listiter ⟨o, hI, hT.1, hT.2⟩ hq
theorem TC.mono {c : Cx} {m : ML} : ∀ {cs : CTs} {H : MH} {p q : Bool → MH → Prop}, TC c m cs H p → (∀ r H2, p r H2 → q r H2) → TC c m cs H q
  | .nil, _, _, _, h, hpq => hpq _ _ h
  | .cons t r, _, _, _, h, hpq => TT.mono h fun b H1 hb => ⟨fun e => hpq _ _ (hb.1 e), fun e => TC.mono (hb.2 e) hpq⟩
theorem Turns.list {tg : List Str} {elt : CE} {cs : CTs} {a : Nat} {xs : List MV} {post : MV → MH → Prop} (hB : xs.length ≤ 1000000) (J : Nat → List MV → MH → Prop) (j0 : J 0 [] H) (jl : ∀ i ys H1, J i ys H1 → ys.length ≤ i ∧ H1[a]? = some (.list xs))
    (turn : ∀ i ys H1 v, J i ys H1 → xs[i]? = some v → ∃ vs, PartsN H1 tg v vs ∧ ∀ c', Sub G c c' d → c'.nm = c.nm ++ tg →
      TC c' (m ++ vs.map some) cs H1 (fun r H2 => (r = false → J (i + 1) ys H2) ∧ (r = true → TE c' (m ++ vs.map some) elt H2 (fun y H3 => J (i + 1) (ys ++ [y]) H3))))
    (done : ∀ ys H1, J xs.length ys H1 → post (.ref H1.length) (H1 ++ [.list ys])) : Turns G d c m tg elt cs (itemL a) (fun H => ∃ xs, H[a]? = some (.list xs)) xs.length H post := by
  refine ⟨hB, fun i ys H1 => i ≤ xs.length ∧ J i ys H1, ⟨Nat.zero_le _, j0⟩, fun i ys H1 q => ⟨q.1, (jl i ys H1 q.2).1, xs, (jl i ys H1 q.2).2⟩, ?_, ?_⟩
  · intro i ys H1 v q hi'
    have hx : xs[i]? = some v := by unfold itemL at hi'; rw [(jl i ys H1 q.2).2] at hi'; exact hi'
    have hlt := (List.getElem?_eq_some_iff.mp hx).1
    obtain ⟨vs, hp, ht⟩ := turn i ys H1 v q.2 hx
    refine ⟨vs, hp, fun c' sub hn => (ht c' sub hn).mono fun r H2 hr => ?_⟩
    exact ⟨fun e => ⟨hlt, hr.1 e⟩, fun e => (hr.2 e).mono fun y H3 hy => ⟨hlt, hy⟩⟩
  · intro i ys H1 q hi'
    have hx : xs[i]? = none := by unfold itemL at hi'; rw [(jl i ys H1 q.2).2] at hi'; exact hi'
    have : i = xs.length := Nat.le_antisymm q.1 (List.getElem?_eq_none_iff.mp hx)
    exact done ys H1 (this ▸ q.2)
end
section
variable {c : Cx} {m : ML} {H : MH} {G : Gx} {d : Nat}
end
theorem law_entry {G : Gx} {prog : Program} {w : World} {s : Shared} {fa sa : Addr} {o : Obj} {fd : FuncData} {body : List Stmt} {x : Str} {nm : List Str} {k : CSs} {R : Result → Shared → Prop}
    (kin : G.K.In s.heap) (hex : G.ex s.heap) (T : Top G.p G.loose G.mean G.mg G.mb s.heap) (ho : s.heap.get? fa = some o) (hd : o.data = .func fd) (hcd : s.heap.CodeRec fd.code fd.qualname)
    (hbody : fd.body = .stmts body) (hgl : fd.globals = mainGlobals) (hcl : fd.closure = []) (hbi : fd.builtins = builtinsNs)
    (hb : BindsTo s fd ⟨[.ref sa], []⟩ [(x, .ref sa)]) (hfn : fnb fd.scope [x] nm = true) (hwf : wfSs k nm fd.scope body = true) (hre : reSs k nm body = body)
    (h : ∀ c : Cx, c.prog = prog → c.w = w → c.h₀ = s.heap → Ok G c 200 → c.fm = none → interactive c.env = false → c.nm = nm → c.X = (fun _ _ _ _ => False) → TB c (start nm [.glob sa]) k [] (fun fl _ _ => retv fl = .bool true))
    (hR : ∀ L m h' tk, Fr s.heap L h' m → R (.ok (.ret (.bool true))) { s with heap := h', toks := tk }) :
    codeAny (model prog w) callerA (.call (.ref fa) ⟨[.ref sa], []⟩) R s := by
  unfold fnb at hfn
  simp only [Bool.and_eq_true, beq_iff_eq, decide_eq_true_eq, Bool.not_eq_true', List.all_eq_true] at hfn
  obtain ⟨⟨⟨⟨⟨⟨⟨hn1, hn2⟩, hn3⟩, hco⟩, hgen⟩, hk⟩, hnd⟩, hnf⟩ := hfn
  have hnf' : fd.scope.names.all (fun p => p.2 != .free) = true := List.all_eq_true.mpr hnf
  have hmemn : ∀ y ∈ [(x, Value.ref sa)], fd.scope.names.lookup y.1 = some .local ∨ fd.scope.names.lookup y.1 = some .cell := fun y hy => by
    have := hn3 y.1 (by rw [List.mem_singleton] at hy; subst hy; exact .head _)
    unfold stb at this
    simpa using this
  refine codeAny_call_function (by decide) ho hd hco hgen hbody hcd (hb _ _ _ _ ?_)
  rw [hgl, hcl, hbi]
  refine wpAny_newFunctionEnv_cells hk (fun x hx => (hmemn x hx).imp id fun q => ⟨q, cellsFrom_some _ _ _ (.inl q)⟩) fun env' he s' x' => ?_
  subst he
  refine ⟨T.nolimit.keeps x'.toInCall.keep, codeAny_func ?_⟩
  obtain ⟨h₁, tk, rfl, hk₁⟩ := x'.done
  obtain ⟨cells, NC, Y⟩ := Cl.news (h₀ := s.heap) (Nat.le_refl _) fun n c hm => ⟨x'.cell n c (lookup_of_mem_nodup (cellsFrom_names fd.scope.names 0 (s.heap.objs.size + 1) [] [] rfl ▸ hnd) hm), x'.above n c hm⟩
  let env' : Env := envOfC fd.qualname fd.scope s.heap.objs.size fa fd.code
  let mr' : Str → Option Value := fun y => if env'.kindOf y = some .local then bindL env'.kindOf [(x, .ref sa)] (fun _ => none) y else bindC env'.kindOf [(x, .ref sa)] (fun _ => none) y
  let c' : Cx := { prog := prog, w := w, A := callerA.deeper env', env := env', h₀ := s.heap, L := s.heap.objs.size, fm := none, fr := [], xt := [], X := fun _ _ _ _ => False, nm := nm, sc := fd.scope }
  have ok' : Ok G c' 200 := by
    refine ⟨⟨env', [], Around.frames_deeper rfl, rfl, hk, trivial, fun _ => rfl⟩, kin, T, rfl, ?_, ?_, hk, rfl, rfl, fun _ => x'.apart, fun _ => rfl, fun _ => rfl, hex⟩
    · show 1 + claimMargin + 1 + 200 < recursionLimit
      decide
    · show 4 + 3 + 8 * 200 + 64 < cLine
      decide
  have S' : St c' mr' [] [] h₁ := by
    refine ⟨bindL env'.kindOf [(x, .ref sa)] (fun _ => none), [], cells, ?_, trivial, ⟨x'.toInCall.ns, fun b o e => hk₁ b o e, Nat.le_refl _⟩, [], rfl, rfl, ?_, ?_, ?_⟩
    · refine ⟨rfl, fun y hy => ?_, fun y hy => ?_⟩
      · show _ = if env'.kindOf y = some .local then _ else _
        rw [if_pos hy]
      · rcases hy with hy | hy
        · have hs : ((cellsFrom (s.heap.objs.size + 1) fd.scope.names []).lookup y).isSome = true := cellsFrom_some _ _ _ (.inl hy)
          obtain ⟨a, ha⟩ := Option.isSome_iff_exists.mp hs
          obtain ⟨o, h1, h2⟩ := cells_get Y ha
          refine ⟨a, o, ha, h1, h2.trans ?_⟩
          have hnl : ¬ env'.kindOf y = some .local := by
            intro q
            have q' : env'.kindOf y = some .cell := hy
            rw [q] at q'
            cases q'
          show _ = Data.cell (if env'.kindOf y = some .local then _ else _)
          rw [if_neg hnl]
          rfl
        · exact absurd hy (nofree hnf')
    · intro i o e
      simp at e
    · intro p hp
      replace hp : p ∈ (([] : List (Addr × Obj)) ++ ([] ++ cells)) ++ ([] : List Addr).zip [] := hp
      simp only [List.nil_append, List.zip_nil_left, List.append_nil] at hp
      exact NC p hp
    · have hcnd : (cells.map (·.1)).Nodup := by
        rw [cells_addrs Y]
        exact List.pairwise_map.mpr x'.apart
      show ((([] : List (Addr × Obj)) ++ ([] ++ cells)).map (fun p : Addr × Obj => p.1) ++ ([] : List Addr)).Nodup
      simpa using hcnd
  have l' : LR mr' nm [] (start nm [.glob sa]) := by
    have hle : 1 ≤ nm.length := by
      have := congrArg List.length hn1
      simp only [List.length_take, List.length_singleton] at this
      omega
    refine ⟨by unfold start; rw [List.length_append, List.length_map, List.length_replicate, List.length_singleton]; omega, fun i y v e1 e2 => ?_⟩
    unfold start at e2
    by_cases hi : i < 1
    · have h0 : i = 0 := by omega
      subst h0
      simp at e2
      subst e2
      have hy : x = y := by
        have := slot_get e1
        cases nm with
        | nil => simp at this
        | cons z zs =>
          simp at this hn1
          rw [hn1, this]
      subst hy
      refine ⟨.ref sa, rfl, ?_⟩
      show (if env'.kindOf x = some .local then _ else _) = _
      split
      · rename_i q; exact bindL_at (names := [x]) (vals := [.ref sa]) (i := 0) q (by simp) rfl rfl
      · rename_i q; exact bindC_at (names := [x]) (vals := [.ref sa]) (i := 0) q (by simp) rfl rfl
    · rw [List.getElem?_append_right (by rw [List.length_map, List.length_singleton]; omega), List.getElem?_replicate] at e2
      split at e2 <;> cases e2
  have hni : interactive env' = false := by
    unfold interactive
    rw [show env'.scope.kind = .function from hk]
    rfl
  have hb2 : EX c' (start nm [.glob sa]) (reSs k nm body) [] (fun fl _ _ => retv fl = .bool true) := h c' rfl rfl rfl ok' rfl hni rfl rfl body hwf
  rw [hre] at hb2
  refine hb2 mr' [] { s with heap := h₁, toks := tk } _ _ S' l' ?_ ?_
  · intro t fl fr' m' mr'' H' h' tk' hp hfl S2 _
    obtain ⟨ml, xs, led, _⟩ := S2.open
    cases fl with
    | ret v =>
      obtain ⟨vr, rfl, hv⟩ := hfl
      have e : v = .bool true := hp
      subst e
      have e2 : vr = .bool true := hv
      subst e2
      exact hR _ ml h' tk' led.1
    | next => cases hp
    | brk => cases hp
    | cont => cases hp
  · intro t C as e m' mr'' H' h' tk' hX hF hL'
    exact False.elim hX
theorem zip_lookup {x : Str} {v : Value} : ∀ {names : List Str} {vs : List Value}, names.length = vs.length → x ∈ names → ((names.zip vs).lookup x).isSome = true
  | [], _, _, h => by cases h
  | _ :: _, [], h, _ => by cases h
  | y :: ns, u :: us, hl, h => by
    rw [List.zip_cons_cons, List.lookup_cons]
    by_cases e : x = y
    · subst e
      simp
    · have hb : (x == y) = false := by simpa using e
      rw [hb]
      rcases List.mem_cons.mp h with q | q
      · exact absurd q e
      · exact zip_lookup (v := v) (by simpa using hl) q
theorem fm_congr {α β : Type} {f g : α → Option β} : ∀ {l : List α}, (∀ x ∈ l, f x = g x) → l.filterMap f = l.filterMap g
  | [], _ => rfl
  | a :: l, h => by rw [List.filterMap_cons, List.filterMap_cons, h a (.head _), fm_congr fun x hx => h x (.tail _ hx)]
theorem zip_filterMap : ∀ {names : List Str} {vs : List Value}, names.Nodup → names.length = vs.length → (names.filterMap fun n => ((names.zip vs).lookup n).map (n, ·)) = names.zip vs
  | [], _, _, _ => rfl
  | _ :: _, [], _, h => by cases h
  | y :: ns, u :: us, hn, hl => by
    rw [List.nodup_cons] at hn
    rw [List.zip_cons_cons, List.filterMap_cons]
    have h0 : ((y, u) :: ns.zip us).lookup y = some u := by simp [List.lookup]
    rw [h0]
    simp only [Option.map_some]
    congr 1
    have : (ns.filterMap fun n => (((y, u) :: ns.zip us).lookup n).map (n, ·)) = (ns.filterMap fun n => ((ns.zip us).lookup n).map (n, ·)) := by
      refine fm_congr fun n hnm => ?_
      have hb : (n == y) = false := by
        have : n ≠ y := fun e => hn.1 (e ▸ hnm)
        simpa using this
      rw [List.lookup_cons, hb]
    rw [this, zip_filterMap hn.2 (by simpa using hl)]
noncomputable def plainPar (p : Arguments) : Bool := p.posonlyargs.isEmpty && p.vararg.isNone && p.kwonlyargs.isEmpty && p.kwarg.isNone
theorem bind_plain {fd : FuncData} {vs : List Value} (hp : plainPar fd.params = true) (hdf : fd.defaults = .none) (hn : (fd.params.args.map (·.arg)).Nodup) (hl : vs.length = (fd.params.args.map (·.arg)).length) :
    bindArgs fd ⟨vs, []⟩ = pure ((fd.params.args.map (·.arg)).zip vs) := by
  unfold plainPar at hp
  simp only [Bool.and_eq_true, List.isEmpty_iff, Option.isNone_iff_eq_none] at hp
  obtain ⟨⟨⟨h1, h2⟩, h3⟩, h4⟩ := hp
  unfold bindArgs
  have hseq : seqItems? Value.none = pure none := rfl
  have hmiss : ((fd.params.args.map (·.arg)).filter fun n => (((fd.params.args.map (·.arg)).zip vs).lookup n).isNone) = [] := by
    rw [List.filter_eq_nil_iff]
    intro n hnm
    have := zip_lookup (v := .none) hl.symm hnm
    rw [Option.isSome_iff_ne_none] at this
    simpa [Option.isNone_iff_eq_none] using this
  have hz := zip_filterMap hn hl.symm
  obtain ⟨N, hN⟩ : ∃ N, fd.params.args.map (·.arg) = N := ⟨_, rfl⟩
  rw [hN] at hmiss hz hl hn ⊢
  simp only [h1, h2, h3, h4, hdf, hseq, List.map_nil, List.nil_append, List.append_nil, pure_bind, Option.getD_none, hN, hl]
  simp [hmiss, hz]
noncomputable def bodyAt (K : Frag) (f : Addr) : List Stmt := match K.lookup f with
  | some ⟨_, _, .func fd, _⟩ => match fd.body with
    | .stmts body => body
    | _ => []
  | _ => []
noncomputable def defb (K : Frag) (f : Addr) (names nm : List Str) (b : CSs) : Bool :=
  match K.lookup f with
  | some ⟨_, _, .func fd, _⟩ =>
    (match fd.body with
    | .stmts body => wfSs b nm fd.scope body
    | _ => false) && fd.globals == mainGlobals && fd.closure.isEmpty && fd.builtins == builtinsNs && (match fd.defaults with | .none => true | _ => false) &&
      plainPar fd.params && (names == fd.params.args.map (·.arg)) && codeIn K fd.code fd.qualname && fnb fd.scope names nm
  | _ => false
theorem GDef.of {G : Gx} {f : Addr} {names nm : List Str} {b : CSs} (h : defb G.K f names nm b = true) (hre : reSs b nm (bodyAt G.K f) = bodyAt G.K f) : GDef G f names nm b [] := by
  unfold defb at h
  unfold bodyAt at hre
  cases hk : G.K.lookup f with
  | none => rw [hk] at h; cases h
  | some ob =>
    obtain ⟨oc, od, dat, osl⟩ := ob
    rw [hk] at h hre
    cases dat with
    | func fd =>
      simp only [Bool.and_eq_true, beq_iff_eq, List.isEmpty_iff] at h hre
      obtain ⟨⟨⟨⟨⟨⟨⟨⟨h1, h2⟩, h3⟩, h4⟩, h5⟩, h6⟩, h7⟩, h8⟩, h9⟩ := h
      obtain ⟨name, qual, params, bd, scope, gl, cl, df, kd, doc, pm, an, cd, ct, bi⟩ := fd
      cases bd with
      | stmts body =>
        simp only at h1 h2 h3 h4 h5 h6 h7 h8 h9 hre
        subst h2 h3 h4
        cases df with
        | none =>
          refine ⟨name, qual, params, body, scope, .none, kd, doc, pm, cd, ct, oc, an, od, osl, [], hk, h8, ?_, rfl, h9, h1, hre⟩
          intro s vs X hl
          refine BindsTo.of_eq ?_
          rw [List.append_nil]
          have hnn : names.Nodup := by
            unfold fnb at h9
            simp only [Bool.and_eq_true, beq_iff_eq, decide_eq_true_eq] at h9
            rw [h9.1.1.1.1.1.1.1]
            exact (List.take_sublist _ _).nodup h9.1.1.1.1.1.1.2
          subst h7
          exact bind_plain (fd := fnOf name qual params body scope .none kd doc pm an cd ct) h6 rfl hnn (by simpa using hl)
        | _ => cases h5
      | _ => cases h1
    | _ => cases h
noncomputable def isSomeRef (f : Addr) : Option (Option Value) → Bool
  | some (some (.ref g)) => g == f
  | _ => false
theorem isSomeRef_eq {f : Addr} {o : Option (Option Value)} (h : isSomeRef f o = true) : o = some (some (.ref f)) := by
  unfold isSomeRef at h
  split at h
  · rw [beq_iff_eq.mp h]
  · cases h
noncomputable def fnk (K : Frag) (g : Str) (f : Addr) : Bool := isSomeRef f (nsIn K mainGlobals g) && keepIn K (.ref f)
theorem GFn.of {G : Gx} {g : Str} {f : Addr} (h : fnk G.K g f = true) : GFn G g f := by
  unfold fnk at h
  simp only [Bool.and_eq_true] at h
  exact ⟨isSomeRef_eq h.1, h.2⟩
section
variable {c : Cx} {m : ML} {H : MH} {G : Gx} {d : Nat}
end
noncomputable def Ext (H H' : MH) : Prop := ∀ (i : Nat) (o : MO), H[i]? = some o → H'[i]? = some o
theorem Ext.refl (H : MH) : Ext H H := fun _ _ h => h
theorem Ext.trans {A B C : MH} (h : Ext A B) (g : Ext B C) : Ext A C := fun i o e => g i o (h i o e)
theorem get_app {H t : MH} {i : Nat} {o : MO} (h : H[i]? = some o) : (H ++ t)[i]? = some o := by
  rw [List.getElem?_append_left (List.getElem?_eq_some_iff.mp h).1]; exact h
theorem Ext.app {H H' : MH} (h : Ext H H') (t : MH) : Ext H (H' ++ t) := fun i o e => get_app (h i o e)
theorem get_end {H : MH} {o : MO} : (H ++ [o])[H.length]? = some o := by simp
theorem CL.use {G : Gx} {prog : Program} {w : World} {d d' : Nat} {f : Addr} {args : List MV} {H : MH} {p q : MV → MH → Prop} {xp : Addr → List MV → MH → Prop} (h : CL G prog w d f args H p xp) (hd : d ≤ d') (hp : ∀ v H', p v H' → q v H') :
    CL G prog w d' f args H q xp := (h.le hd).mono hp fun _ _ _ x => x
noncomputable def isSomeInt (i : Int) : Option (Option Value) → Bool
  | some (some (.int j _)) => i == j
  | _ => false
theorem isSomeInt_eq {i : Int} {o : Option (Option Value)} (h : isSomeInt i o = true) : ∃ t, o = some (some (.int i t)) := by
  unfold isSomeInt at h
  split at h
  · rw [beq_iff_eq.mp h]; exact ⟨_, rfl⟩
  · cases h
theorem bb_len : bootBuiltins "len" = some (.builtin "len") := by kernel_rfl
theorem bb_max : bootBuiltins "max" = some (.builtin "max") := by kernel_rfl
theorem bb_list : bootBuiltins "list" = some (.type "list") := by kernel_rfl
theorem bb_int : bootBuiltins "int" = some (.type "int") := by kernel_rfl
structure Bs (G : Gx) : Prop where
  len : nsIn G.K mainGlobals "len" = some none
  max : nsIn G.K mainGlobals "max" = some none
  min : nsIn G.K mainGlobals "min" = some none
  sum : nsIn G.K mainGlobals "sum" = some none
  list : nsIn G.K mainGlobals "list" = some none
  range : nsIn G.K mainGlobals "range" = some none
  reversed : nsIn G.K mainGlobals "reversed" = some none
  type : nsIn G.K mainGlobals "type" = some none
  int : nsIn G.K mainGlobals "int" = some none
  str : nsIn G.K mainGlobals "str" = some none
noncomputable def Scr (c : Cx) (a : Addr) (ns : List Int) : Prop := ∃ vs : List Value, c.h₀.IsList a vs.toArray ∧ IntsAre vs ns ∧ ns.length ≤ 63
theorem ints_len {vs : List Value} {ns : List Int} (h : IntsAre vs ns) : vs.length = ns.length := by
  induction h with
  | nil => rfl
  | cons _ _ _ ih => simp [ih]
theorem ints_at {vs : List Value} {ns : List Int} (h : IntsAre vs ns) : ∀ n, n < ns.length → ∃ t, vs[n]? = some (.int (ns.getD n 0) t) := by
  induction h with
  | nil => intro n hn; simp at hn
  | cons i t _ ih =>
    intro n hn
    cases n with
    | zero => exact ⟨t, rfl⟩
    | succ n => exact ih n (by simpa using hn)
theorem Scr.len {c : Cx} {H : MH} {a : Addr} {ns : List Int} (S : Scr c a ns) {post : MV → MH → Prop} (h : post (.int ns.length) H) : BC c (.builtin "len") [.glob a] H post := by
  obtain ⟨vs, h1, h2, h3⟩ := S
  have := ints_len h2
  exact BC.lenG h1 (by omega) (by rw [this]; exact h)
theorem Scr.at {c : Cx} {H : MH} {a : Addr} {ns : List Int} (S : Scr c a ns) {n : Int} (h0 : 0 ≤ n) (h : n < ns.length) : Sq c H (.glob a) (.int n) (.int (ns.getD n.toNat 0)) := by
  obtain ⟨vs, h1, h2, h3⟩ := S
  have hl := ints_len h2
  obtain ⟨t, ht⟩ := ints_at h2 n.toNat (by omega)
  exact Sq.glob h1 h0 (by omega) ht
noncomputable def ScrG (G : Gx) (a : Addr) (ns : List Int) : Prop := ∀ h, G.ex h → ∃ vs : List Value, h.IsList a vs.toArray ∧ IntsAre vs ns ∧ ns.length ≤ 63
section
variable {c : Cx} {m : ML} {H : MH} {G : Gx} {d : Nat}
theorem Sq.tup {a : Nat} {xs : List MV} {n : Nat} {v : MV} (ha : H[a]? = some (.tup xs)) (hn : xs.length ≤ 1000000) (hv : xs[n]? = some v) : Sq c H (.ref a) (.int (n : Nat)) v := by
  rintro mr ρ s Q E _ _ base sl hsl S ⟨x, hx, rfl⟩ ⟨u, rfl⟩ k
  obtain ⟨vs, hvs, T⟩ := S.tup ha hx
  obtain ⟨vr, e1, e2⟩ := hvs.get hv
  have hlt := (List.getElem?_eq_some_iff.mp hv).1
  have hlen : vs.toArray.size = xs.length := by rw [List.size_toArray, hvs.length]
  refine tail_any T.typeIs slot_tuple_getitem.lookup (getItem_tuple (j := n) T (by omega) (by omega) (by rw [hlen]; unfold seqIndex?; simp; omega) (by simpa using e1) (k vr _ e2)) (subscripted_of (nm := []) (sc := c.sc) hsl _ _)
theorem TE.len (ok : Ok G c d) (b : Bs G) {a : CE} {post : MV → MH → Prop} (h : TE c m a H (fun v H1 => BC c (.builtin "len") [v] H1 post)) : TE c m (.call "len" (.cons a .nil)) H post :=
  TE.bc ok b.len bb_len (by decide) (TEs.cons (h.mono fun _ _ x => TEs.nil x))
theorem TE.blist (ok : Ok G c d) (b : Bs G) {a : CE} {post : MV → MH → Prop} (h : TE c m a H (fun v H1 => BC c (.type "list") [v] H1 post)) : TE c m (.call "list" (.cons a .nil)) H post :=
  TE.tc ok b.list bb_list (by decide) (TEs.cons (h.mono fun _ _ x => TEs.nil x))
end
theorem bb_str : bootBuiltins "str" = some (.type "str") := by kernel_rfl
section
variable {c : Cx} {m : ML} {H : MH} {G : Gx} {d : Nat}
theorem TT.cqIn {a b : CE} {post : Bool → MH → Prop} (h : TE c m a H (fun x H1 => TE c m b H1 (fun y H2 => ∃ r, Cq c .In H2 x y r ∧ post r H2))) : TT c m (.cmp .In a b) H post := TT.cq h
theorem TT.cqNI {a b : CE} {post : Bool → MH → Prop} (h : TE c m a H (fun x H1 => TE c m b H1 (fun y H2 => ∃ r, Cq c .NotIn H2 x y r ∧ post r H2))) : TT c m (.cmp .NotIn a b) H post := TT.cq h
end
abbrev strL (ys : List Str) : List MV := ys.map MV.str
theorem strL_are {ρ : List Addr} : ∀ {ys : List Str} {vs : List Value}, VRs ρ (strL ys) vs → StrsAre vs ys
  | [], _, h => by rw [show _ = [] from h]; exact .nil
  | n :: ns, _, ⟨v, r, e, ⟨t, h1⟩, h2⟩ => by
    subst e h1
    exact .cons _ _ (strL_are h2)
noncomputable def isSomeStr (x : Str) : Option (Option Value) → Bool
  | some (some (.str y _)) => x == y
  | _ => false
theorem isSomeStr_eq {x : Str} {o : Option (Option Value)} (h : isSomeStr x o = true) : ∃ t, o = some (some (.str x t)) := by
  unfold isSomeStr at h
  split at h
  · rw [beq_iff_eq.mp h]; exact ⟨_, rfl⟩
  · cases h
section
variable {c : Cx} {m : ML} {H : MH} {G : Gx} {d : Nat}
theorem Sq.str {x : Str} {n : Int} {ch : Nat} (h0 : 0 ≤ n) (hl : x.length ≤ 1000000) (hc : x.cps[n.toNat]? = some ch) : Sq c H (.str x) (.int n) (.str ⟨#[ch]⟩) := by
  rintro mr ρ s Q E _ _ base sl hsl S ⟨t, rfl⟩ ⟨u, rfl⟩ k
  have hlt : n.toNat < x.cps.size := (Array.getElem?_eq_some_iff.mp hc).1
  have hx : x.length = x.cps.size := rfl
  refine tail_any (typeIs_str s x t) PyProof.Rows.slot_str_getitem.lookup (PyProof.Rows.getItem_str (c := ch) ?_ ?_ (k _ _ ⟨_, rfl⟩)) (subscripted_of (nm := []) (sc := c.sc) hsl _ _)
  · have h1 : ¬ n < -(2 ^ 63 : Int) := by omega
    have h2 : ¬ n ≥ 2 ^ 63 := by omega
    rw [decide_eq_false h1, decide_eq_false h2]
    rfl
  · unfold seqIndex?
    have h1 : ¬ n < 0 := by omega
    have h2 : (decide (0 ≤ n) && decide (n < (x.length : Int))) = true := by simp; omega
    simp only [if_neg h1, h2, if_true]
    exact hc
theorem Cq.ninS {ch : Nat} {x : Str} : Cq c .NotIn H (.str ⟨#[ch]⟩) (.str x) (!decide (ch ∈ x.cps.toList)) := by
  rintro mr ρ s Q E _ _ S ⟨t, rfl⟩ ⟨u, rfl⟩ k
  refine PyProof.Rows.notIn_str ?_
  rw [empty_one]
  simpa using k s.heap s.toks S
theorem Cq.inLS {a : Nat} {ys : List Str} {x : Str} (ha : H[a]? = some (.list (strL ys))) : Cq c .In H (.str x) (.ref a) (ys.any (· == x)) := by
  rintro mr ρ s Q E _ _ S ⟨t, rfl⟩ ⟨y, hy, rfl⟩ k
  obtain ⟨vs, n, hv, N⟩ := S.list ha hy
  exact in_list_strs (isList_of N) (strL_are hv) (k s.heap s.toks S)
theorem Cq.inTS {a : Nat} {ys : List Str} {x : Str} (ha : H[a]? = some (.tup (strL ys))) : Cq c .In H (.str x) (.ref a) (ys.any (· == x)) := by
  rintro mr ρ s Q E _ _ S ⟨t, rfl⟩ ⟨y, hy, rfl⟩ k
  obtain ⟨vs, hv, T⟩ := S.tup ha hy
  exact in_tuple_strs T (by simpa using strL_are hv) (k s.heap s.toks S)
theorem BC.maxL (hh : c.A.handled = none) {a : Nat} {ns : List Int} {post : MV → MH → Prop} (ha : H[a]? = some (.list (intL ns))) (hne : 0 < ns.length) (h : ∀ k, k < ns.length → post (.int (ns.getD k 0)) H) : BC c (.builtin "max") [.ref a] H post := by
  intro mr ρ s Q E vs S hv k
  obtain ⟨v, rfl, x, hx, rfl⟩ := one_of hv
  obtain ⟨ws, ep, hws, No⟩ := S.list ha hx
  have hi := intL_are hws
  obtain ⟨xs, hxs⟩ := hi.allInts.items
  have hl := isList_of No
  have hsz : ws.toArray.size = ns.length := by rw [List.size_toArray, hws.length, List.length_map]
  rw [hxs] at hl
  have hxn : 0 < xs.size := by
    have : (intItems xs).size = ns.length := by rw [← hxs, hsz]
    simp [intItems] at this
    omega
  refine max_intList hh hl hxn fun v h' tk hvi hk => ?_
  rw [← hxs] at hvi
  have hvi' : ws[argBest (fun i j => decide (numAt xs i > numAt xs j)) (xs.size - 1)]? = some v := by simpa using hvi
  obtain ⟨t, rfl⟩ := hi.int_at _ _ hvi'
  have hlt : argBest (fun i j => decide (numAt xs i > numAt xs j)) (xs.size - 1) < ns.length := by
    have := (List.getElem?_eq_some_iff.mp hvi').1
    rw [← hsz, List.size_toArray]
    exact this
  exact k [] _ _ H h' tk (h _ hlt) ⟨_, rfl⟩ (nil_of (S.grow hk))
theorem NX.str {I : Addr} {x : Str} {t : Tok} {ρ : List Addr} (hh : c.A.handled = none) :
    NX c I (fun i o => o.cls = .type "str_ascii_iterator" ∧ o.data = .fields #[.str x t, .int i 0]) (fun _ => True) (fun i _ => (x.cps[i]?).map fun ch => .str ⟨#[ch]⟩) ρ := by
  rintro i oI mr t' H s Q E ⟨hc, hd⟩ _ S k1 k2
  have hit : s.heap.IsStrIter I "str_ascii_iterator" x t i := ⟨oI, S.itr.1, hc, hd⟩
  cases hx : x.cps[i]? with
  | some ch =>
    refine wpAny_pyNext_ascii_item hit hx fun h' hit' hs' => ?_
    obtain ⟨o', ho', hc', hd'⟩ := hit'
    exact k1 (.str ⟨#[ch]⟩) _ o' h' _ (by show Option.map _ x.cps[i]? = _; rw [hx]; rfl) ⟨_, rfl⟩ ⟨hc', hd'⟩ ho' fun b o hb e => (hs'.2 b hb).trans e
  | none => exact wpAny_pyNext_ascii_end hh hit hx fun h' he' => k2 h' s.toks (by show Option.map _ x.cps[i]? = _; rw [hx]; rfl) fun b o hb e => he' b o hb e
theorem TS.forS (ok : Ok G c d) (hfm : c.fm = none) {i0 : Nat} {it : CE} {b : CSs} {post : Fl → ML → MH → Prop}
    (h : TE c m it H (fun v H1 => ∃ x : Str, v = .str x ∧ x.cps.all (· < 128) = true ∧ ∃ (J : Nat → ML → MH → Prop), J 0 m H1 ∧
      (∀ i m1 H2 ch xt, J i m1 H2 → x.cps[i]? = some ch → TB (c.wx xt) (setAll [i0] [.str ⟨#[ch]⟩] m1) b H2 (fun f m2 H3 => match f with
        | .next => J (i + 1) m2 H3
        | .cont => J (i + 1) m2 H3
        | .brk => post .next m2 H3
        | .ret v => post (.ret v) m2 H3)) ∧
      (∀ m1 H2, J x.cps.size m1 H2 → post .next m1 H2))) : TS c m (.for [i0] it b) H post := by
  intro st hs
  obtain ⟨h0, h1, h2, h3⟩ := and4 hs
  have h0 := ne_of h0
  intro mr ρ s Q E S lr k kx
  refine wpAny_For ?_ (folded_of h2)
  refine h _ h2 mr ρ s _ E S lr ?_ kx
  rintro t l lv H1 hp1 tk1 ⟨x, rfl, hasc, J, hJ0, turn, done⟩ ⟨u, rfl⟩ S1
  refine wpAny_pyIter_ascii hasc ?_
  refine forCore (post := post) ok hfm h0 h1 h3 (NX.str (x := x) (t := u) ok.hh) (fun i o hT => ⟨_, _, hT.1, hT.2, rfl⟩) (fun i m2 H2 => i ≤ x.cps.size ∧ J i m2 H2) x.cps.size ⟨Nat.zero_le _, hJ0⟩ (fun i m2 H2 q => ⟨q.1, trivial⟩) ?_ ?_ (mr := mr) ⟨rfl, rfl⟩ (S1.addX rfl) lr.mono ?_ kx.mono
  · intro i m1 H2 v xt q hi
    cases hx : x.cps[i]? with
    | none => replace hi : Option.map _ x.cps[i]? = _ := hi; rw [hx] at hi; cases hi
    | some ch =>
      replace hi : Option.map _ x.cps[i]? = _ := hi
      rw [hx] at hi
      cases hi
      have hlt := (Array.getElem?_eq_some_iff.mp hx).1
      refine ⟨[.str ⟨#[ch]⟩], rfl, (turn i m1 H2 ch xt q.2 hx).mono fun f m2 H3 hf => ?_⟩
      cases f with
      | next => exact ⟨hlt, hf⟩
      | cont => exact ⟨hlt, hf⟩
      | brk => exact hf
      | ret v => exact hf
  · intro i m1 H2 q hi
    cases hx : x.cps[i]? with
    | some ch => replace hi : Option.map _ x.cps[i]? = _ := hi; rw [hx] at hi; cases hi
    | none =>
      have : i = x.cps.size := Nat.le_antisymm q.1 (Array.getElem?_eq_none_iff.mp hx)
      exact done m1 H2 (this ▸ q.2)
  · intro t' f fr m' mr' H' h' tk hp hf S' l'
    rw [List.append_assoc] at hf S' l'
    exact k (t ++ t') f fr m' mr' H' h' tk hp hf S' l'
end
/- one step: walk_at "s" -/
local macro_rules | `(tactic| walk_at "s") => `(tactic| with_reducible first
  | refine TB.cons ?_
  | refine TB.nil ?_
  | refine TS.ret ?_
  | refine TS.assign (by assumption) (by assumption) (by with_unfolding_all rfl) ?_
  | refine TS.expr (by assumption) ?_
  | refine TS.ite ?_
  | refine TS.setAttr (by assumption) ?_
  | refine TS.setItem ?_
  | refine TE.loc (by assumption) (by with_unfolding_all rfl) ?_
  | refine TE.int ?_
  | refine TE.str ?_
  | refine TE.bool ?_
  | refine TE.none ?_
  | refine TE.op (by assumption) ?_
  | refine TE.attr (by assumption) ?_
  | refine TE.pop ?_
  | refine TE.append ?_
  | refine TE.meth (by assumption) ?_
  | refine TE.meth0 (by assumption) ?_
  | refine TE.sq ?_
  | refine TE.len (by assumption) (by assumption) ?_
  | refine TE.max (by assumption) (by assumption) ?_
  | refine TE.min (by assumption) (by assumption) ?_
  | refine TE.sum (by assumption) (by assumption) ?_
  | refine TE.blist (by assumption) (by assumption) ?_
  | refine TE.bstr (by assumption) (by assumption) ?_
  | refine TE.call (by assumption) (by assumption) ?_
  | refine TE.ite ?_
  | refine TE.list ?_
  | refine TE.tup ?_
  | refine TE.tst ?_
  | refine TE.negI ?_
  | refine TEs.nil ?_
  | refine TEs.cons ?_
  | refine TT.not ?_
  | refine TT.and ?_
  | refine TT.or ?_
  | refine TTs.andNil ?_
  | refine TTs.orNil ?_
  | refine TTs.and ?_
  | refine TTs.or ?_
  | refine TT.cqNI ?_
  | refine TT.cqIn ?_
  | refine TT.cmp ?_
  | refine TT.cmp2 ?_
  | refine TV.cmp2 ?_
  | refine TT.plain ?_
  | refine BC.lenI (by assumption) (by omega) ?_
  | refine Scr.len (by assumption) ?_
  | refine ⟨_, NegI.mk, ?_⟩
  | refine ⟨_, BinI.add, ?_⟩
  | refine ⟨_, BinI.sub, ?_⟩
  | refine ⟨_, BinI.band, ?_⟩
  | refine ⟨_, BinI.shr (by decide), ?_⟩
  | refine ⟨_, BinI.modP (by omega), ?_⟩
  | refine ⟨_, BinI.shl (by decide) (by decide) (by decide), ?_⟩
  | refine ⟨_, BinI.pow (by decide) (by decide) (by decide), ?_⟩
  | refine ⟨_, BinI.mul (mulL (by omega) (by omega)), ?_⟩
  | refine ⟨_, BinI.mul (mulR (by omega) (by omega)), ?_⟩
  | refine ⟨_, _, _, _, rfl, by assumption, by with_unfolding_all exact Nat.le_of_ble_eq_true rfl, by assumption, ?_⟩
  | refine ⟨_, _, _, _, _, rfl, by (first | assumption | exact Ext.ins (by assumption) (by assumption)), by with_unfolding_all rfl, by assumption, ?_⟩
  | fail)
local macro_rules | `(tactic| walk_at "w") => `(tactic| repeat walk_at "s")
noncomputable def k_need_name_nm : List Str := ["text", "sign"]
noncomputable def k_need_name : CSs := (.cons (.ite (.or (.cons (.cmp .IsNot (.call "type" (.cons (.loc 0) .nil)) (.glob "str")) (.cons (.cmp .Eq (.loc 0) (.str "")) (.cons (.cmp .Gt (.call "len" (.cons (.loc 0) .nil)) (.int 12)) (.cons (.cmp .NotIn (.sub (.loc 0) (.int 0)) (.glob "LETTERS")) .nil))))) (.cons (.raise "ShareError" (.cons (.bin .Add (.str "no name: ") (.call "shown" (.cons (.loc 0) .nil))) .nil))
  .nil) .nil)
  (.cons (.for [1] (.loc 0) (.cons (.ite (.and (.cons (.cmp .NotIn (.loc 1) (.glob "LETTERS")) (.cons (.cmp .NotIn (.loc 1) (.glob "DIGITS")) .nil))) (.cons (.raise "ShareError" (.cons (.bin .Add (.str "no name: ") (.call "shown" (.cons (.loc 0) .nil))) .nil))
  .nil) .nil)
  .nil))
  (.cons (.ret (.loc 0))
  .nil)))
noncomputable def k_name_nm : List Str := ["text"]
noncomputable def k_name : CSs := (.cons (.ite (.cmp .In (.loc 0) (.tup (.cons (.str "and") (.cons (.str "or") (.cons (.str "of") .nil))))) (.cons (.raise "ShareError" (.cons (.bin .Add (.str "a word of rules: ") (.loc 0)) .nil))
  .nil) .nil)
  (.cons (.ret (.tup (.cons (.str "name") (.cons (.call "need_name" (.cons (.loc 0) .nil)) .nil))))
  .nil))
noncomputable def k_gate_nm : List Str := ["needed", "parts", "out"]
noncomputable def k_gate : CSs := (.cons (.ite (.or (.cons (.cmp .IsNot (.call "type" (.cons (.loc 0) .nil)) (.glob "int")) (.cons (.cmp .Lt (.loc 0) (.int 1)) (.cons (.cmp .Gt (.loc 0) (.call "len" (.cons (.loc 1) .nil))) .nil)))) (.cons (.raise "ShareError" (.cons (.str "so many of fewer") .nil))
  .nil) .nil)
  (.cons (.assign 2 (.tup (.cons (.str "gate") (.cons (.loc 0) (.cons (.call "list" (.cons (.loc 1) .nil)) .nil)))))
  (.cons (.ite (.cmp .Gt (.call "places" (.cons (.loc 2) (.cons (.bin .Add (.glob "PLACES") (.int 1)) .nil))) (.glob "PLACES")) (.cons (.raise "ShareError" (.cons (.str "a rule of too many names") .nil))
  .nil) .nil)
  (.cons (.ite (.cmp .Gt (.call "depth" (.cons (.loc 2) .nil)) (.glob "DEEPEST")) (.cons (.raise "ShareError" (.cons (.str "a rule nested too deep") .nil))
  .nil) .nil)
  (.cons (.ret (.loc 2))
  .nil)))))
noncomputable def k_places_nm : List Str := ["rule", "most", "total", "part"]
noncomputable def k_places : CSs := (.cons (.ite (.cmp .Eq (.sub (.loc 0) (.int 0)) (.str "name")) (.cons (.ret (.int 1))
  .nil) .nil)
  (.cons (.assign 2 (.int 0))
  (.cons (.for [3] (.sub (.loc 0) (.int 2)) (.cons (.assign 2 (.bin .Add (.loc 2) (.call "places" (.cons (.loc 3) (.cons (.bin .Sub (.loc 1) (.loc 2)) .nil)))))
  (.cons (.ite (.cmp .GtE (.loc 2) (.loc 1)) (.cons (.ret (.loc 1))
  .nil) .nil)
  .nil)))
  (.cons (.ret (.loc 2))
  .nil))))
noncomputable def k_depth_nm : List Str := ["rule"]
noncomputable def k_depth : CSs := (.cons (.ite (.cmp .Eq (.sub (.loc 0) (.int 0)) (.str "name")) (.cons (.ret (.int 0))
  .nil) .nil)
  (.cons (.ret (.bin .Add (.int 1) (.call "max" (.cons (.comp (.call "depth" (.cons (.loc 1) .nil)) ["part"] (.sub (.loc 0) (.int 2)) .nil) .nil))))
  .nil))
noncomputable def k_holds_nm : List Str := ["rule", "present"]
noncomputable def k_holds : CSs := (.cons (.ite (.cmp .Eq (.sub (.loc 0) (.int 0)) (.str "name")) (.cons (.ret (.tst (.cmp .In (.sub (.loc 0) (.int 1)) (.loc 1))))
  .nil) .nil)
  (.cons (.ret (.tst (.cmp .GtE (.call "len" (.cons (.comp (.loc 2) ["part"] (.sub (.loc 0) (.int 2)) (.cons (.plain (.call "holds" (.cons (.loc 2) (.cons (.loc 1) .nil)))) .nil)) .nil)) (.sub (.loc 0) (.int 1)))))
  .nil))
noncomputable def LETS : Str := "abcdefghijklmnopqrstuvwxyzABCDEFGHIJKLMNOPQRSTUVWXYZ"
noncomputable def DIGS : Str := "0123456789"
noncomputable def okN (x : Str) : Bool := decide (x.length ≤ 12) && x.cps.all (· < 128) && (match x.cps[0]? with | some ch => decide (ch ∈ LETS.cps.toList) | none => false) && x.cps.toList.all fun ch => decide (ch ∈ LETS.cps.toList) || decide (ch ∈ DIGS.cps.toList)
structure NameK (G : Gx) : Prop where
  bs : Bs G
  le : ∃ t, nsIn G.K mainGlobals "LETTERS" = some (some (.str LETS t))
  di : ∃ t, nsIn G.K mainGlobals "DIGITS" = some (some (.str DIGS t))
  nn : ∃ f, GFn G "need_name" f ∧ GDef G f ["text"] k_need_name_nm k_need_name []
theorem need_name_cl {G : Gx} {prog : Program} {w : World} {f : Addr} {x : Str} {H : MH} {xp : Addr → List MV → MH → Prop} (D : GDef G f ["text"] k_need_name_nm k_need_name []) (K : NameK G) (hx : okN x = true) :
    CL G prog w 1 f [.str x] H (fun v H' => v = .str x ∧ H' = H) xp := by
  have bs := K.bs
  obtain ⟨t1, gL⟩ := K.le
  obtain ⟨t2, gD⟩ := K.di
  unfold okN at hx
  obtain ⟨h1, h2, h3, h4⟩ := and4 hx
  have h1 : x.length ≤ 12 := of_decide_eq_true h1
  cases hc : x.cps[0]? with
  | none => rw [hc] at h3; cases h3
  | some ch =>
    rw [hc] at h3
    have h3 : ch ∈ LETS.cps.toList := of_decide_eq_true h3
    have hpos : 0 < x.cps.size := (Array.getElem?_eq_some_iff.mp hc).1
    have hne : x ≠ "" := by
      rintro rfl
      exact absurd hpos (by decide +kernel)
    refine D.cl rfl ?_
    intro c e1 e2 ok hfm hint hnm hX
    show TB c [some (.str x), none] _ _ _
    unfold k_need_name
    refine TB.cons (TS.ite (TT.or (TTs.or (TT.tyAny (N := "str") (T' := "str") ok bs.type (.inr ⟨rfl, rfl⟩) bs.str bb_str (by decide) ?_))))
    walk_at "w"
    refine ⟨"str", rfl, fun h => (by cases h), fun _ => ?_⟩
    walk_at "w"
    refine ⟨false, by show false = decide _; simp [hne], fun h => (by cases h), fun _ => ?_⟩
    walk_at "w"
    refine BC.lenS (by omega) ?_
    walk_at "w"
    refine ⟨false, by show false = decide _; simp; omega, fun h => (by cases h), fun _ => ?_⟩
    walk_at "w"
    refine ⟨_, Sq.str (by decide) (by omega) hc, ?_⟩
    refine TE.glob ok gL (v := .str LETS) ⟨t1, rfl⟩ ?_
    refine ⟨_, Cq.ninS, fun h => (by simp [h3] at h), fun _ => ?_⟩
    walk_at "w"
    refine ⟨fun h => (by cases h), fun _ => ?_⟩
    refine TB.nil (TB.cons (TS.forS ok hfm ?_))
    walk_at "w"
    refine ⟨x, rfl, h2, fun j m1 H2 => ∃ o1, m1 = [some (.str x), o1] ∧ H2 = H, ⟨none, rfl, rfl⟩, ?_, ?_⟩
    · rintro j m1 H2 ch' xt ⟨o1, rfl, rfl⟩ hj
      have okx := ok.wx xt
      have hfx : (c.wx xt).fm = none := hfm
      have hm : ch' ∈ x.cps.toList := by
        rw [Array.mem_toList_iff]
        exact Array.mem_of_getElem? hj
      have hq := List.all_eq_true.mp h4 ch' hm
      show TB (c.wx xt) [some (.str x), some (.str ⟨#[ch']⟩)] _ _ _
      walk_at "w"
      refine TE.glob okx gL (v := .str LETS) ⟨t1, rfl⟩ ?_
      refine ⟨_, Cq.ninS, fun h => ?_, fun h => ?_⟩
      · refine ⟨fun h => (by cases h), fun _ => ?_⟩
        walk_at "w"
        exact ⟨_, rfl, rfl⟩
      · walk_at "w"
        refine TE.glob okx gD (v := .str DIGS) ⟨t2, rfl⟩ ?_
        have hnl : ¬ ch' ∈ LETS.cps.toList := by simpa using h
        have hdg : ch' ∈ DIGS.cps.toList := by
          rcases (Bool.or_eq_true _ _).mp hq with q | q
          · exact absurd (of_decide_eq_true q) hnl
          · exact of_decide_eq_true q
        refine ⟨_, Cq.ninS, fun h => ⟨fun h => (by cases h), fun _ => ?_⟩, fun h => (by simp [hdg] at h)⟩
        walk_at "w"
        exact ⟨_, rfl, rfl⟩
    · rintro m1 H2 ⟨o1, rfl, rfl⟩
      walk_at "w"
      exact ⟨rfl, rfl⟩
noncomputable def NameAt (H : MH) (r : Nat) (x : Str) : Prop := H[r]? = some (.tup [.str "name", .str x])
theorem name_cl {G : Gx} {prog : Program} {w : World} {f : Addr} {x : Str} {H : MH} {xp : Addr → List MV → MH → Prop} (D : GDef G f ["text"] k_name_nm k_name []) (K : NameK G) (hx : okN x = true) (hw : ([("and" : Str), "or", "of"].any (· == x)) = false) :
    CL G prog w 2 f [.str x] H (fun v H' => ∃ z, v = .ref z ∧ Ext H H' ∧ H.length ≤ z ∧ NameAt H' z x) xp := by
  obtain ⟨fN, gN, dN⟩ := K.nn
  refine D.cl rfl ?_
  intro c e1 e2 ok hfm hint hnm hX
  subst e1 e2
  show TB c [some (.str x)] _ _ _
  unfold k_name
  walk_at "w"
  refine ⟨by decide, ?_⟩
  refine ⟨_, Cq.inTS (ys := ["and", "or", "of"]) get_end, fun h => (by rw [hw] at h; cases h), fun _ => ?_⟩
  walk_at "w"
  refine (need_name_cl dN K hx).use (Nat.le_refl _) ?_
  rintro _ _ ⟨rfl, rfl⟩
  walk_at "w"
  refine ⟨Nat.le_of_ble_eq_true rfl, _, rfl, ((Ext.refl H).app _).app _, by simp, get_end⟩
noncomputable def GateAt (H : MH) (r : Nat) (n : Int) (xs : List Str) : Prop := ∃ l refs, H[r]? = some (.tup [.str "gate", .int n, .ref l]) ∧ H[l]? = some (.list refs) ∧ refs.length = xs.length ∧ ∀ k, k < xs.length → ∃ t, refs[k]? = some (.ref t) ∧ NameAt H t (xs.getD k "")
theorem GateAt.ext {H H' : MH} {r : Nat} {n : Int} {xs : List Str} (h : GateAt H r n xs) (e : Ext H H') : GateAt H' r n xs := by
  obtain ⟨l, refs, h1, h2, h3, h4⟩ := h
  exact ⟨l, refs, e _ _ h1, e _ _ h2, h3, fun k hk => let ⟨t, q1, q2⟩ := h4 k hk; ⟨t, q1, e _ _ q2⟩⟩
section
variable {G : Gx} {prog : Program} {w : World} {f : Addr} {H : MH} {xp : Addr → List MV → MH → Prop}
theorem Sq.name {c : Cx} {r : Nat} {x : Str} (h : NameAt H r x) : Sq c H (.ref r) (.int 0) (.str "name") ∧ Sq c H (.ref r) (.int 1) (.str x) := ⟨Sq.tup (n := 0) h (by simp) rfl, Sq.tup (n := 1) h (by simp) rfl⟩
theorem places_name {r : Nat} {x : Str} {k : Int} (D : GDef G f ["rule", "most"] k_places_nm k_places []) (h : NameAt H r x) : CL G prog w 1 f [.ref r, .int k] H (fun v H' => v = .int 1 ∧ H' = H) xp := by
  refine D.cl rfl ?_
  intro c e1 e2 ok hfm hint hnm hX
  show TB c [some (.ref r), some (.int k), none, none] _ _ _
  unfold k_places
  walk_at "w"
  refine ⟨_, (Sq.name h).1, ?_⟩
  walk_at "w"
  refine ⟨true, rfl, fun _ => ?_, fun h => (by cases h)⟩
  walk_at "w"
  exact ⟨rfl, rfl⟩
theorem places_gate {r : Nat} {n k : Int} {xs : List Str} (D : GDef G f ["rule", "most"] k_places_nm k_places []) (g : GFn G "places" f) (h : GateAt H r n xs) (hk : (xs.length : Int) < k) (hl : xs.length ≤ 1000) : CL G prog w 2 f [.ref r, .int k] H (fun v H' => v = .int xs.length ∧ H' = H) xp := by
  obtain ⟨l, refs, h1, h2, h3, h4⟩ := h
  refine D.cl rfl ?_
  intro c e1 e2 ok hfm hint hnm hX
  subst e1 e2
  show TB c [some (.ref r), some (.int k), none, none] _ _ _
  unfold k_places
  walk_at "w"
  refine ⟨.str "gate", Sq.tup (n := 0) h1 (by simp) rfl, ?_⟩
  walk_at "w"
  refine ⟨false, by show false = decide _; decide +kernel, fun h => (by cases h), fun _ => ?_⟩
  walk_at "w"
  refine TS.forL' ok hfm ?_
  walk_at "w"
  refine ⟨.ref l, Sq.tup (n := 2) h1 (by simp) rfl, ?_⟩
  refine ⟨l, refs, rfl, h2, fun j m1 H2 => ∃ o3, m1 = [some (.ref r), some (.int k), some (.int (j : Int)), o3] ∧ j ≤ xs.length ∧ H2 = H, ⟨none, rfl, by omega, rfl⟩, ?_, ?_, ?_⟩
  · rintro j m1 H2 ⟨_, _, _, rfl⟩
    exact h2
  · rintro j m1 H2 v xt ⟨o3, rfl, hj, rfl⟩ hv
    have hj' : j < xs.length := by
      have := (List.getElem?_eq_some_iff.mp hv).1
      omega
    obtain ⟨t, q1, q2⟩ := h4 j hj'
    rw [q1] at hv
    cases hv
    refine ⟨[.ref t], rfl, ?_⟩
    have okx := ok.wx xt
    have hfx : (c.wx xt).fm = none := hfm
    show TB (c.wx xt) [some (.ref r), some (.int k), some (.int (j : Int)), some (.ref t)] _ _ _
    walk_at "w"
    refine (places_name D q2).use (Nat.le_refl _) ?_
    rintro _ H3 ⟨rfl, rfl⟩
    walk_at "w"
    refine ⟨false, by show false = decide _; simp; omega, fun h => (by cases h), fun _ => ?_⟩
    walk_at "w"
    exact ⟨_, by have : ((j + 1 : Nat) : Int) = (j : Int) + 1 := by omega
                 rw [this]; rfl, by omega, rfl⟩
  · rintro m1 H2 ⟨o3, rfl, hj, rfl⟩
    walk_at "w"
    refine ⟨?_, rfl⟩
    rw [h3]
    rfl
theorem depth_name {r : Nat} {x : Str} (D : GDef G f ["rule"] k_depth_nm k_depth []) (h : NameAt H r x) : CL G prog w 1 f [.ref r] H (fun v H' => v = .int 0 ∧ H' = H) xp := by
  refine D.cl rfl ?_
  intro c e1 e2 ok hfm hint hnm hX
  show TB c [some (.ref r)] _ _ _
  unfold k_depth
  walk_at "w"
  refine ⟨_, (Sq.name h).1, ?_⟩
  walk_at "w"
  refine ⟨true, rfl, fun _ => ?_, fun h => (by cases h)⟩
  walk_at "w"
  exact ⟨rfl, rfl⟩
theorem depth_gate (bs : Bs G) {r : Nat} {n : Int} {xs : List Str} (D : GDef G f ["rule"] k_depth_nm k_depth []) (g : GFn G "depth" f) (h : GateAt H r n xs) (hp : 0 < xs.length) (hl : xs.length ≤ 1000) : CL G prog w 2 f [.ref r] H (fun v H' => v = .int 1 ∧ Ext H H') xp := by
  obtain ⟨l, refs, h1, h2, h3, h4⟩ := h
  refine D.cl rfl ?_
  intro c e1 e2 ok hfm hint hnm hX
  subst e1 e2
  show TB c [some (.ref r)] _ _ _
  unfold k_depth
  walk_at "w"
  refine ⟨.str "gate", Sq.tup (n := 0) h1 (by simp) rfl, ?_⟩
  walk_at "w"
  refine ⟨false, by show false = decide _; decide +kernel, fun h => (by cases h), fun _ => ?_⟩
  refine TB.nil (TB.cons (TS.ret (TE.op ok (TE.int (TE.bc ok bs.max bb_max (by decide) (TEs.cons (TE.comp ok (Src.list ok ?_))))))))
  walk_at "w"
  refine ⟨.ref l, Sq.tup (n := 2) h1 (by simp) rfl, ?_⟩
  refine ⟨l, refs, _, rfl, h2, Turns.list (xs := refs) (by omega) (fun k ys H2 => H2 = H ∧ ys = intL (List.replicate k 0)) ⟨rfl, rfl⟩ ?_ ?_ ?_⟩
  · rintro k ys H2 ⟨rfl, rfl⟩
    exact ⟨by simp, h2⟩
  · rintro k ys H2 v ⟨rfl, rfl⟩ hv
    have hk : k < xs.length := by
      have := (List.getElem?_eq_some_iff.mp hv).1
      omega
    obtain ⟨t, q1, q2⟩ := h4 k hk
    rw [q1] at hv
    cases hv
    refine ⟨[.ref t], rfl, ?_⟩
    intro c' sub hnm'
    have ok' := sub.ok
    refine ⟨fun q => (by cases q), fun _ => ?_⟩
    show TE c' [some (.ref r), some (.ref t)] _ _ _
    walk_at "w"
    refine (depth_name D q2).use (Nat.le_refl _) ?_
    rintro _ H3 ⟨rfl, rfl⟩
    refine ⟨rfl, ?_⟩
    simp [List.replicate_succ']
  · rintro ys H2 ⟨rfl, rfl⟩
    refine TEs.nil (BC.maxL ok.hh get_end (by simp; omega) fun k hk => ?_)
    have e0 : (List.replicate refs.length (0 : Int)).getD k 0 = 0 := by
      rw [List.getD_eq_getElem?_getD, List.getElem?_replicate]
      split <;> rfl
    rw [e0]
    refine ⟨_, BinI.add, rfl, (Ext.refl H2).app _⟩
theorem holds_name {r q : Nat} {x : Str} {ys : List Str} (D : GDef G f ["rule", "present"] k_holds_nm k_holds []) (h : NameAt H r x) (hq : H[q]? = some (.list (strL ys))) : CL G prog w 1 f [.ref r, .ref q] H (fun v H' => v = .bool (ys.any (· == x)) ∧ H' = H) xp := by
  refine D.cl rfl ?_
  intro c e1 e2 ok hfm hint hnm hX
  show TB c [some (.ref r), some (.ref q)] _ _ _
  unfold k_holds
  walk_at "w"
  refine ⟨_, (Sq.name h).1, ?_⟩
  walk_at "w"
  refine ⟨true, rfl, fun _ => ?_, fun h => (by cases h)⟩
  refine TB.cons (TS.ret (TE.tst (TV.cq ?_)))
  walk_at "w"
  refine ⟨_, (Sq.name h).2, ?_⟩
  walk_at "w"
  exact ⟨_, Cq.inLS hq, rfl, rfl⟩
noncomputable def cnt (ys xs : List Str) (k : Nat) : Nat := ((xs.take k).filter fun x => ys.any (· == x)).length
theorem cnt_le {ys xs : List Str} {k : Nat} : cnt ys xs k ≤ k := by
  unfold cnt
  refine Nat.le_trans (List.length_filter_le _ _) ?_
  rw [List.length_take]
  omega
theorem holds_gate (bs : Bs G) {r q : Nat} {n : Int} {xs ys : List Str} (D : GDef G f ["rule", "present"] k_holds_nm k_holds []) (g : GFn G "holds" f) (h : GateAt H r n xs) (hq : H[q]? = some (.list (strL ys))) (hl : xs.length ≤ 1000) :
    CL G prog w 2 f [.ref r, .ref q] H (fun v H' => v = .bool (decide (n ≤ (cnt ys xs xs.length : Nat))) ∧ Ext H H') xp := by
  obtain ⟨l, refs, h1, h2, h3, h4⟩ := h
  refine D.cl rfl ?_
  intro c e1 e2 ok hfm hint hnm hX
  subst e1 e2
  show TB c [some (.ref r), some (.ref q)] _ _ _
  unfold k_holds
  walk_at "w"
  refine ⟨.str "gate", Sq.tup (n := 0) h1 (by simp) rfl, ?_⟩
  walk_at "w"
  refine ⟨false, by show false = decide _; decide +kernel, fun h => (by cases h), fun _ => ?_⟩
  refine TB.nil (TB.cons (TS.ret (TE.tst (TV.cmp (TE.len ok bs (TE.comp ok (Src.list ok ?_)))))))
  walk_at "w"
  refine ⟨.ref l, Sq.tup (n := 2) h1 (by simp) rfl, ?_⟩
  refine ⟨l, refs, _, rfl, h2, Turns.list (xs := refs) (by omega) (fun k zs H2 => H2 = H ∧ zs.length = cnt ys xs k) ⟨rfl, by simp [cnt]⟩ ?_ ?_ ?_⟩
  · rintro k zs H2 ⟨rfl, hz⟩
    exact ⟨by rw [hz]; exact cnt_le, h2⟩
  · rintro k zs H2 v ⟨rfl, hz⟩ hv
    have hk : k < xs.length := by
      have := (List.getElem?_eq_some_iff.mp hv).1
      omega
    obtain ⟨t, q1, q2⟩ := h4 k hk
    rw [q1] at hv
    cases hv
    have hstep : cnt ys xs (k + 1) = cnt ys xs k + (if ys.any (· == xs.getD k "") then 1 else 0) := by
      unfold cnt
      rw [List.take_add_one, List.getElem?_eq_getElem hk, List.filter_append, List.length_append, List.getD_eq_getElem?_getD, List.getElem?_eq_getElem hk]
      simp only [Option.toList_some, Option.getD_some, List.filter_cons, List.filter_nil]
      split <;> rfl
    refine ⟨[.ref t], rfl, ?_⟩
    intro c' sub hnm'
    have ok' := sub.ok
    show TT c' [some (.ref r), some (.ref q), some (.ref t)] _ _ _
    walk_at "w"
    refine (holds_name D q2 hq).use (Nat.le_refl _) ?_
    rintro _ H3 ⟨rfl, rfl⟩
    refine ⟨_, rfl, fun hb => ⟨fun _ => ⟨rfl, ?_⟩, fun h => (by cases h)⟩, fun hb => ⟨fun h => (by cases h), fun _ => ?_⟩⟩
    · rw [hstep, hb, hz]
      rfl
    · show TE c' [some (.ref r), some (.ref q), some (.ref t)] _ _ _
      walk_at "w"
      refine ⟨rfl, ?_⟩
      rw [hstep, hb, List.length_append, hz]
      rfl
  · rintro zs H2 ⟨rfl, hz⟩
    rw [h3] at hz
    have hc : cnt ys xs xs.length ≤ xs.length := cnt_le
    refine BC.len get_end (by omega) ?_
    walk_at "w"
    refine ⟨.int n, Sq.tup (n := 1) (get_app h1) (by simp) rfl, ?_⟩
    refine ⟨_, rfl, ?_, (Ext.refl H2).app _⟩
    rw [hz]
    rfl
structure GateK (G : Gx) : Prop where
  bs : Bs G
  pl : ∃ f, GFn G "places" f ∧ GDef G f ["rule", "most"] k_places_nm k_places []
  de : ∃ f, GFn G "depth" f ∧ GDef G f ["rule"] k_depth_nm k_depth []
  p2 : ∃ t, nsIn G.K mainGlobals "PLACES" = some (some (.int 200 t))
  d2 : ∃ t, nsIn G.K mainGlobals "DEEPEST" = some (some (.int 20 t))
theorem gate_cl {l : Nat} {n : Int} {xs : List Str} {refs : List MV} (D : GDef G f ["needed", "parts"] k_gate_nm k_gate []) (K : GateK G) (h2 : H[l]? = some (.list refs)) (h3 : refs.length = xs.length) (h4 : ∀ k, k < xs.length → ∃ t, refs[k]? = some (.ref t) ∧ NameAt H t (xs.getD k ""))
    (n1 : 1 ≤ n) (n2 : n ≤ xs.length) (hl : xs.length ≤ 200) : CL G prog w 3 f [.int n, .ref l] H (fun v H' => ∃ z, v = .ref z ∧ Ext H H' ∧ H.length ≤ z ∧ GateAt H' z n xs) xp := by
  have bs := K.bs
  obtain ⟨fP, gP, dP⟩ := K.pl
  obtain ⟨fD, gD, dD⟩ := K.de
  obtain ⟨t1, g1⟩ := K.p2
  obtain ⟨t2, g2⟩ := K.d2
  refine D.cl rfl ?_
  intro c e1 e2 ok hfm hint hnm hX
  subst e1 e2
  show TB c [some (.int n), some (.ref l), none] _ _ _
  unfold k_gate
  refine TB.cons (TS.ite (TT.or (TTs.or (TT.tyAny (N := "int") (T' := "int") ok bs.type (.inr ⟨rfl, rfl⟩) bs.int bb_int (by decide) ?_))))
  walk_at "w"
  refine ⟨"int", rfl, fun h => (by cases h), fun _ => ?_⟩
  walk_at "w"
  refine ⟨false, by show false = decide _; simp; omega, fun h => (by cases h), fun _ => ?_⟩
  walk_at "w"
  refine BC.len h2 (by omega) ?_
  rw [h3]
  refine ⟨false, by show false = decide _; simp; omega, fun h => (by cases h), fun _ => ?_⟩
  walk_at "w"
  refine ⟨fun h => (by cases h), fun _ => ?_⟩
  walk_at "w"
  refine BC.list h2 (by omega) ?_
  walk_at "w"
  refine ⟨Nat.le_of_ble_eq_true rfl, ?_⟩
  generalize hH1 : H ++ [MO.list refs] ++ [MO.tup [.str "gate", .int n, .ref H.length]] = H1
  have E1 : Ext H H1 := by subst hH1; exact ((Ext.refl H).app _).app _
  have lz : (H ++ [MO.list refs]).length = H.length + 1 := by simp
  rw [lz]
  have hG : GateAt H1 (H.length + 1) n xs := by
    refine ⟨H.length, refs, ?_, ?_, h3, fun k hk => ?_⟩
    · subst hH1; rw [← lz]; exact get_end
    · subst hH1; exact get_app get_end
    · obtain ⟨t, q1, q2⟩ := h4 k hk
      exact ⟨t, q1, E1 _ _ q2⟩
  walk_at "w"
  refine TE.glob ok g1 (v := .int 200) ⟨t1, rfl⟩ ?_
  walk_at "w"
  refine (places_gate dP gP hG (by omega) (by omega)).use (Nat.le_refl _) ?_
  rintro _ H2 ⟨rfl, rfl⟩
  refine TE.glob ok g1 (v := .int 200) ⟨t1, rfl⟩ ?_
  refine ⟨false, by show false = decide _; simp; omega, fun h => (by cases h), fun _ => ?_⟩
  walk_at "w"
  refine (depth_gate bs dD gD hG (by omega) (by omega)).use (Nat.le_refl _) ?_
  rintro _ H3 ⟨rfl, E3⟩
  refine TE.glob ok g2 (v := .int 20) ⟨t2, rfl⟩ ?_
  refine ⟨false, rfl, fun h => (by cases h), fun _ => ?_⟩
  walk_at "w"
  exact ⟨H.length + 1, rfl, E1.trans E3, by omega, hG.ext E3⟩
end
noncomputable def k02_law_nm : List Str := ["script", "needed", "present", "k", "rule"]
noncomputable def k02_law : CSs := (.cons (.ite (.cmp .Lt (.call "len" (.cons (.loc 0) .nil)) (.int 4)) (.cons (.ret (.bool true))
  .nil) .nil)
  (.cons (.assign 1 (.bin .Add (.int 1) (.bin .Mod (.sub (.loc 0) (.int 0)) (.int 3))))
  (.cons (.assign 2 (.list .nil))
  (.cons (.for [3] (.call "range" (.cons (.int 3) .nil)) (.cons (.ite (.cmp .Eq (.bin .Mod (.sub (.loc 0) (.bin .Add (.int 1) (.loc 3))) (.int 2)) (.int 1)) (.cons (.expr (.meth (.loc 2) "append" (.cons (.sub (.str "abc") (.loc 3)) .nil)))
  .nil) .nil)
  .nil))
  (.cons (.assign 4 (.call "gate" (.cons (.loc 1) (.cons (.list (.cons (.call "name" (.cons (.str "a") .nil)) (.cons (.call "name" (.cons (.str "b") .nil)) (.cons (.call "name" (.cons (.str "c") .nil)) .nil)))) .nil))))
  (.cons (.ret (.tst (.cmp .Eq (.call "holds" (.cons (.loc 4) (.cons (.loc 2) .nil))) (.tst (.cmp .GtE (.call "len" (.cons (.loc 2) .nil)) (.loc 1))))))
  .nil))))))
noncomputable def ch02 (k : Nat) : Str := ⟨#[97 + k]⟩
noncomputable def bit02 (ns : List Int) (k : Nat) : Bool := decide (ns.getD (1 + k) 0 % 2 = 1)
noncomputable def pr02 (ns : List Int) (j : Nat) : List Str := ((List.range j).filter (bit02 ns)).map ch02
theorem cnt02 (ns : List Int) : cnt (pr02 ns 3) ["a", "b", "c"] 3 = (pr02 ns 3).length := by
  have e : pr02 ns 3 = ((if bit02 ns 0 then [0] else []) ++ (if bit02 ns 1 then [1] else []) ++ (if bit02 ns 2 then [2] else [])).map ch02 := by
    unfold pr02
    rw [show List.range 3 = [0, 1, 2] from rfl]
    simp only [List.filter_cons, List.filter_nil]
    cases bit02 ns 0 <;> cases bit02 ns 1 <;> cases bit02 ns 2 <;> rfl
  rw [e]
  cases bit02 ns 0 <;> cases bit02 ns 1 <;> cases bit02 ns 2 <;> decide +kernel
structure K02 (G : Gx) : Prop where
  N : NameK G
  g : GateK G
  na : ∃ f, GFn G "name" f ∧ GDef G f ["text"] k_name_nm k_name []
  ga : ∃ f, GFn G "gate" f ∧ GDef G f ["needed", "parts"] k_gate_nm k_gate []
  ho : ∃ f, GFn G "holds" f ∧ GDef G f ["rule", "present"] k_holds_nm k_holds []
theorem law02 {G : Gx} {c : Cx} {sa : Addr} {ns : List Int} (ok : Ok G c 200) (hfm : c.fm = none) (hint : interactive c.env = false) (S : Scr c sa ns) (SG : ScrG G sa ns) (K : K02 G) :
    TB c (start k02_law_nm [.glob sa]) k02_law [] (fun fl _ _ => retv fl = .bool true) := by
  have bs := K.g.bs
  obtain ⟨fN, gN, dN⟩ := K.na
  obtain ⟨fG, gG, dG⟩ := K.ga
  obtain ⟨fH, gH, dH⟩ := K.ho
  show TB c [some (.glob sa), none, none, none, none] _ _ _
  unfold k02_law
  walk_at "w"
  refine ⟨_, rfl, fun h => ?_, fun h => ?_⟩
  · walk_at "w"
    rfl
  · have h : 4 ≤ ns.length := by simp at h; omega
    walk_at "w"
    refine ⟨_, Scr.at S (n := 0) (by omega) (by omega), ?_⟩
    walk_at "w"
    generalize hnd : 1 + ns.getD (0 : Int).toNat 0 % 3 = nd
    have bnd : 1 ≤ nd ∧ nd ≤ 3 := by omega
    refine ⟨by decide, ?_⟩
    walk_at "s"
    refine TS.forR ok hfm bs.range (by nofun) ?_ ⟨_, rfl⟩
    walk_at "w"
    refine ⟨0, 3, ⟨.inl ⟨rfl, rfl⟩, by omega, by omega, by omega, by omega⟩, fun j m1 H2 => ∃ o3, m1 = [some (.glob sa), some (.int nd), some (.ref 0), o3, none] ∧ H2 = [.list (strL (pr02 ns j))], ⟨none, rfl, rfl⟩, ?_, ?_⟩
    · rintro j m1 H2 xt ⟨o3, rfl, rfl⟩ hlt
      have okx := ok.wx xt
      have hfx : (c.wx xt).fm = none := hfm
      have hix : interactive (c.wx xt).env = false := hint
      have Sx : Scr (c.wx xt) sa ns := S
      rw [Int.zero_add] at *
      show TB (c.wx xt) [some (.glob sa), some (.int nd), some (.ref 0), some (.int (j : Int)), none] _ _ _
      walk_at "w"
      refine ⟨_, Scr.at Sx (n := 1 + (j : Int)) (by omega) (by omega), ?_⟩
      walk_at "w"
      have ej : (1 + (j : Int)).toNat = 1 + j := by omega
      rw [ej]
      have hpl : (pr02 ns j).length ≤ j := by
        unfold pr02
        rw [List.length_map]
        refine Nat.le_trans (List.length_filter_le _ _) ?_
        simp
      refine ⟨_, rfl, fun h => ?_, fun h => ?_⟩
      · have h : ns.getD (1 + j) 0 % 2 = 1 := by simpa using h
        walk_at "w"
        refine ⟨0, _, rfl, rfl, ?_⟩
        walk_at "w"
        have hj3 : j = 0 ∨ j = 1 ∨ j = 2 := by omega
        have hch : ("abc" : Str).cps[(j : Int).toNat]? = some (97 + j) := by
          rcases hj3 with rfl | rfl | rfl <;> decide +kernel
        refine ⟨_, Sq.str (by omega) (by decide +kernel) hch, ?_⟩
        refine ⟨_, rfl, by rw [List.length_map]; omega, ?_⟩
        walk_at "w"
        refine ⟨_, rfl, ?_⟩
        have hb : bit02 ns j = true := by unfold bit02; simp only [decide_eq_true_eq]; exact h
        have : pr02 ns (j + 1) = pr02 ns j ++ [ch02 j] := by
          unfold pr02
          rw [List.range_succ, List.filter_append, List.map_append]
          simp [hb]
        rw [this]
        simp [strL, ch02]
      · have h : ¬ ns.getD (1 + j) 0 % 2 = 1 := by simpa using h
        walk_at "w"
        refine ⟨_, rfl, ?_⟩
        have hb : bit02 ns j = false := by unfold bit02; simp only [decide_eq_false_iff_not]; exact h
        have : pr02 ns (j + 1) = pr02 ns j := by
          unfold pr02
          rw [List.range_succ, List.filter_append, List.map_append]
          simp [hb]
        rw [this]
    · rintro m1 H2 ⟨o3, rfl, rfl⟩
      have e3 : ((3 : Int) - 0).toNat = 3 := rfl
      rw [e3]
      generalize hys : pr02 ns 3 = ys
      generalize hH0 : ([MO.list (strL ys)] : MH) = H0
      have kq : H0[0]? = some (.list (strL ys)) := by subst hH0; rfl
      walk_at "w"
      refine (name_cl dN K.N (x := "a") (by decide +kernel) (by decide +kernel)).use (d' := 200) (by decide) ?_
      rintro _ H1 ⟨za, rfl, E1, _, na⟩
      walk_at "w"
      refine (name_cl dN K.N (x := "b") (by decide +kernel) (by decide +kernel)).use (d' := 200) (by decide) ?_
      rintro _ H2 ⟨zb, rfl, E2, _, nb⟩
      walk_at "w"
      refine (name_cl dN K.N (x := "c") (by decide +kernel) (by decide +kernel)).use (d' := 200) (by decide) ?_
      rintro _ H3 ⟨zc, rfl, E3, _, nc⟩
      walk_at "w"
      refine ⟨Nat.le_of_ble_eq_true rfl, ?_⟩
      refine TEs.nil ?_
      have E4 : Ext H3 (H3 ++ [MO.list [.ref za, .ref zb, .ref zc]]) := (Ext.refl H3).app _
      refine (gate_cl (xs := ["a", "b", "c"]) (refs := [.ref za, .ref zb, .ref zc]) dG K.g get_end rfl (fun k hk => ?_) bnd.1 (by show nd ≤ 3; omega) (by decide)).use (d' := 200) (by decide) ?_
      · have : k = 0 ∨ k = 1 ∨ k = 2 := by simp at hk; omega
        rcases this with rfl | rfl | rfl
        · exact ⟨za, rfl, E4 _ _ (E3 _ _ (E2 _ _ na))⟩
        · exact ⟨zb, rfl, E4 _ _ (E3 _ _ nb)⟩
        · exact ⟨zc, rfl, E4 _ _ nc⟩
      rintro _ H5 ⟨zg, rfl, E5, _, hg⟩
      have kq5 := E5 _ _ (E4 _ _ (E3 _ _ (E2 _ _ (E1 _ _ kq))))
      refine TB.cons (TS.ret (TE.tst (TV.cmp ?_)))
      walk_at "w"
      refine (holds_gate bs dH gH hg kq5 (by decide)).use (d' := 200) (by decide) ?_
      rintro _ H6 ⟨rfl, E6⟩
      have hl6 : ys.length ≤ 3 := by
        rw [← hys]
        unfold pr02
        rw [List.length_map]
        refine Nat.le_trans (List.length_filter_le _ _) ?_
        simp
      refine TE.tst (TV.cmp ?_)
      walk_at "w"
      refine BC.len (E6 _ _ kq5) (by rw [List.length_map]; omega) ?_
      rw [List.length_map]
      walk_at "w"
      refine ⟨_, rfl, _, rfl, ?_⟩
      have hc := cnt02 ns
      rw [hys] at hc
      have e0 : (["a", "b", "c"] : List Str).length = 3 := rfl
      rw [e0, hc]
      show MV.bool (_ == _) = _
      simp
noncomputable def scrEx (a : Addr) (ns : List Int) : Heap → Prop := fun h => ∃ vs : List Value, h.IsList a vs.toArray ∧ IntsAre vs ns ∧ ns.length ≤ 63
section
variable {G : Gx} {P : Params} (h : G.K = _root_.Mine.hd.heap_39 P)
include h
theorem z_bs : Bs G := by
  constructor <;> (rw [h]; kernel_rfl)
theorem z_f_need_name : ∃ f, GFn G "need_name" f ∧ GDef G f ["text"] k_need_name_nm k_need_name [] := by
  refine ⟨41, GFn.of ?_, GDef.of ?_ ?_⟩
  all_goals (rw [h]; kernel_rfl)
theorem z_f_name : ∃ f, GFn G "name" f ∧ GDef G f ["text"] k_name_nm k_name [] := by
  refine ⟨48, GFn.of ?_, GDef.of ?_ ?_⟩
  all_goals (rw [h]; kernel_rfl)
theorem z_f_gate : ∃ f, GFn G "gate" f ∧ GDef G f ["needed", "parts"] k_gate_nm k_gate [] := by
  refine ⟨55, GFn.of ?_, GDef.of ?_ ?_⟩
  all_goals (rw [h]; kernel_rfl)
theorem z_f_places : ∃ f, GFn G "places" f ∧ GDef G f ["rule", "most"] k_places_nm k_places [] := by
  refine ⟨62, GFn.of ?_, GDef.of ?_ ?_⟩
  all_goals (rw [h]; kernel_rfl)
theorem z_f_depth : ∃ f, GFn G "depth" f ∧ GDef G f ["rule"] k_depth_nm k_depth [] := by
  refine ⟨67, GFn.of ?_, GDef.of ?_ ?_⟩
  all_goals (rw [h]; kernel_rfl)
theorem z_f_holds : ∃ f, GFn G "holds" f ∧ GDef G f ["rule", "present"] k_holds_nm k_holds [] := by
  refine ⟨72, GFn.of ?_, GDef.of ?_ ?_⟩
  all_goals (rw [h]; kernel_rfl)
theorem z_i_PLACES : ∃ t, nsIn G.K mainGlobals "PLACES" = some (some (.int 200 t)) := isSomeInt_eq (by rw [h]; kernel_rfl)
theorem z_i_DEEPEST : ∃ t, nsIn G.K mainGlobals "DEEPEST" = some (some (.int 20 t)) := isSomeInt_eq (by rw [h]; kernel_rfl)
theorem z_t_LETTERS : ∃ t, nsIn G.K mainGlobals "LETTERS" = some (some (.str LETS t)) := isSomeStr_eq (by rw [h]; kernel_rfl)
theorem z_t_DIGITS : ∃ t, nsIn G.K mainGlobals "DIGITS" = some (some (.str DIGS t)) := isSomeStr_eq (by rw [h]; kernel_rfl)
theorem z_name : NameK G := ⟨z_bs h, z_t_LETTERS h, z_t_DIGITS h, z_f_need_name h⟩
theorem z_gate : GateK G := ⟨z_bs h, z_f_places h, z_f_depth h, z_i_PLACES h, z_i_DEEPEST h⟩
theorem z_K : K02 G := ⟨z_name h, z_gate h, z_f_name h, z_f_gate h, z_f_holds h⟩
end
end Mine
theorem PySem.Challenge.cw_ui0506_02_holds : PySem.Challenge.rw_ui0506_02.Holds := by
  refine _root_.Mine.hd ?_
  intro w s₀ s₁ mg mb G Y fa o pm cd doc dV kV ho hd hcd hD hmg hg args vals as hpre hlay hrd hwl hlo
  have KX := kIn_of Y
  refine Ground.open G ?_
  intro T B D TE TW
  wrow_args hpre hlay hrd hwl hlo
  refine enter_call ?_
  have e0 := hD.none rfl
  subst e0
  refine Mine.law_entry (G := ⟨_root_.Mine.hd.heap_39 w.params, _, _, _, mg, mb, Mine.scrEx _ _⟩) (x := "script") (nm := Mine.k02_law_nm) (k := Mine.k02_law) KX ⟨_, by assumption, by assumption, by omega⟩ T ho hd hcd rfl rfl rfl rfl ?_ ?_ ?_ ?_ ?_ ?_
  · exact BindsTo.of_eq (Mine.bind_plain rfl rfl (show List.Nodup [("script" : Str)] by simp) rfl)
  · kernel_rfl
  · kernel_rfl
  · kernel_rfl
  · intro c e1 e2 e3 ok hfm hint hnm hX
    exact Mine.law02 ok hfm hint ⟨_, by rw [e3]; assumption, by assumption, by omega⟩ (fun h x => x) (Mine.z_K rfl)
  · intro L m h' tk F
    exact GoodW.toG (goodW_bool F hg (fun cls => rfl) (postW_of rfl rfl (by simp [W.same])))
