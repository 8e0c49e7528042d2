import PyProof.Rows.All
import Wide.All
import OpenK.AllK
import Wide.FinOn
import KE.BitLaws
import KE.KEqSeq
import PyProof.ExcBaseAll.ValueError
import Lean
import PySem.Challenge.RW_ui0506_11
open PySem PySem.W PyProof.Rows PySem.Calls PySem.Spec
set_option Elab.async false
set_option linter.unusedVariables false
set_option maxRecDepth 100000
set_option maxHeartbeats 8000000
set_option genSizeOf false
set_option genInjectivity false
namespace Mine
noncomputable def runQ (p : Program) (w : World) (n₀ : Nat) (ann : Option Value) : Nat → SharedT → Thread → Option SharedT
  | 0, _, _ => none
  | n + 1, s, t => match through t with
    | true => some s
    | false => match Fast.tw6613529449190102663 n₀ ann t with
      | false => none
      | true => match Fast.tw10156331382660048174 (Fast.tw11892475500146522536 Fast.tw14364793385576792824) p w s t with
        | some (s', t') => runQ p w n₀ ann n s' t'
        | none => none
theorem q_den : denote treeTable = Fast.tw11892475500146522536 Fast.tw14364793385576792824 := by
  rw [← Fast.te11892475500146522536, ← Fast.te14364793385576792824]
theorem runQ_of {p : Program} {w : World} {n₀ : Nat} {ann : Option Value} : ∀ {n : Nat} {s s' : SharedT} {t : Thread}, runQ p w n₀ ann n s t = some s' → topRun treeTable p w n₀ ann n s.abs t = some s'.abs
  | 0, _, _, _, h => by cases h
  | n + 1, s, s', t, h => by
    unfold runQ at h
    unfold topRun
    rw [← q_den, ← Fast.te6613529449190102663, ← Fast.te10156331382660048174] at h
    cases ht : through t with
    | true => rw [ht] at h; cases h; rfl
    | false =>
      rw [ht] at h
      cases hk : stepOk n₀ ann t with
      | false => rw [hk] at h; cases h
      | true =>
        rw [hk] at h
        cases hs : stepT (denote treeTable) p w s t with
        | none => rw [hs] at h; cases h
        | some r => obtain ⟨s₂, t₂⟩ := r; rw [hs] at h; rw [stepT_spec hs]; exact runQ_of h
noncomputable def build : List Obj → Nat → BT → Option BT
  | [], _, t => some t
  | o :: r, n, t => match ((t.ins n o).get n).isSome with
    | true => build r (n + 1) (t.ins n o)
    | false => none
theorem build_abs {life : Life} : ∀ {l pre : List Obj} {n : Nat} {t t' : BT}, build l n t = some t' → absHeap t n life = ⟨pre.toArray, life⟩ → absHeap t' (n + l.length) life = ⟨(pre ++ l).toArray, life⟩
  | [], pre, n, t, t', h, e => by cases h; simpa using e
  | o :: r, pre, n, t, t', h, e => by
    unfold build at h
    cases hk : ((t.ins n o).get n).isSome with
    | false => rw [hk] at h; cases h
    | true =>
      rw [hk] at h
      have h1 := absHeap_ins (life := life) hk
      rw [e] at h1
      have h2 := build_abs (pre := pre ++ [o]) h (h1.trans (by simp [Heap.push]))
      have e1 : n + 1 + r.length = n + (o :: r).length := by simp; omega
      rw [e1] at h2
      rw [h2]
      simp
theorem build_heap {h : Heap} {t : BT} (e : build h.objs.toList 0 .nil = some t) : absHeap t h.objs.size h.life = h := by
  have := build_abs (life := h.life) (pre := []) e (by simp [absHeap, BT.list])
  simpa using this
theorem left_quick {p q : Program} {loose : List Str} {Xt : Shared → Bool} {α : Type} {Yf : Shared → α} {Ya : World → α} {N : Nat} {g0 : Bool}
    (h : ∀ w : World, ((Fast.tw10274390034422433532 Fast.tw14364793385576792824 (opening p) w N (Fast.tw1435165496053646825 (opening p)).1 (Fast.tw1435165496053646825 (opening p)).2).bind (Fast.tw14289696077712309145 p)).bind (fun s₀ =>
      match s₀.heap.isNs mainGlobals && s₀.gens.size == 0 with
      | true => (build s₀.heap.objs.toList 0 .nil).bind fun T => (runQ p w s₀.heap.objs.size (Fast.tw8920871248978507458 s₀.heap mainGlobals "__annotations__") N ⟨T, s₀.heap.objs.size, s₀.heap.life, s₀.gens, s₀.drawn, s₀.toks, s₀.os⟩ (topStub p)).bind fun S₁ =>
        match staticsOk (Fast.tw5923862056798008813 p.main.body) s₀.heap S₁.abs.heap && namesBound p S₁.abs.heap && gensDone S₁.abs && laidKept s₀.heap S₁.abs.heap with
        | true => some (Fast.tw4187177175401517315 q loose (Fast.tw5923862056798008813 p.main.body) Xt g0 S₁.abs, Yf S₁.abs)
        | false => none
      | false => none) = some (openGood q loose, Ya w)) : LeftO p q loose Xt Yf Ya N g0 := by
  intro w
  have h := h w
  rw [← Fast.te10274390034422433532, ← Fast.te14364793385576792824, ← Fast.te1435165496053646825, ← Fast.te14289696077712309145, ← Fast.te8920871248978507458, ← Fast.te5923862056798008813, ← Fast.te4187177175401517315] at h
  obtain ⟨s₀, h0, h⟩ := Option.bind_eq_some_iff.mp h
  unfold openEnds fencedOpening
  rw [h0]
  show Option.map _ (topFrom treeTable p w N s₀) = _
  unfold topFrom
  cases hg : s₀.heap.isNs mainGlobals && s₀.gens.size == 0 with
  | false => rw [hg] at h; cases h
  | true =>
    rw [hg] at h
    obtain ⟨T, hT, h⟩ := Option.bind_eq_some_iff.mp h
    obtain ⟨S₁, hS, h⟩ := Option.bind_eq_some_iff.mp h
    have e := runQ_of hS
    have ea : (SharedT.mk T s₀.heap.objs.size s₀.heap.life s₀.gens s₀.drawn s₀.toks s₀.os).abs = s₀ := by
      unfold SharedT.abs
      rw [build_heap hT]
    rw [ea] at e
    rw [e]
    show Option.map _ (match staticsOk (importedModules p.main.body) s₀.heap S₁.abs.heap && namesBound p S₁.abs.heap && gensDone S₁.abs && laidKept s₀.heap S₁.abs.heap with | true => some S₁.abs | false => none) = _
    cases hk : staticsOk (importedModules p.main.body) s₀.heap S₁.abs.heap && namesBound p S₁.abs.heap && gensDone S₁.abs && laidKept s₀.heap S₁.abs.heap with
    | false => rw [hk] at h; cases h
    | true => rw [hk] at h; exact h
noncomputable def qv : Program := view PySem.Challenge.pw_ui0506_11 [1, 2, 3, 4, 5, 7, 8, 9, 10, 11, 12, 13, 14, 15, 16, 17, 18, 19, 20, 21, 22, 24, 25]
noncomputable def qlo : List PySem.Str := []
noncomputable def qlv : List (PySem.Str × WData) := []
set_option hygiene false in
local macro_rules | `(tactic| o_head $H) => `(tactic| (
  refine PySem.W.holds_open (q := Mine.qv) (loose := Mine.qlo) (Xt := fun s => xlAt Mine.qv Mine.qlv s && recOk [] s) (XP := XL Mine.qv Mine.qlv) (Yf := Hook.obs $H) (Ya := Hook.val $H) (YP := Hook.says $H) (N := 2210) ?hl (Hook.of $H) (Hook.keeps $H) (fun s e => xl_of s (Bool.and_eq_true_iff.mp e).1) XL.keeps (by rfl) (by rfl) (by rfl) (fun s e => recFacts_of (Bool.and_eq_true_iff.mp e).2) (by rfl) (by first | assumption | decide +kernel) (by decide +kernel) ⟨rfl, rfl, rfl, rfl, rfl, by decide +kernel⟩ ?hw ?hc
  (case hl => (refine Mine.left_quick ?_; intro w; kernel_rfl))))
open_top hd for PySem.Challenge.rw_ui0506_11
inductive MV where
  | none
  | bool (b : Bool)
  | int (i : Int)
  | str (x : Str)
  | ref (a : Nat)
  | glob (a : Addr)
inductive MO where
  | list (xs : List MV)
  | tup (xs : List MV)
  | inst (c : Addr) (d : Nat)
  | ns (fs : List (Str × MV))
  | dI (es : List (Int × MV))
  | dS (es : List (Str × MV))
  | exc (c : Addr) (t : Nat)
  | setN (n : Nat)
  | junk
abbrev MH := List MO
abbrev ML := List (Option MV)
noncomputable def VR (ρ : List Addr) : MV → Value → Prop
  | .none, v => v = .none
  | .bool b, v => v = .bool b
  | .int i, v => ∃ t, v = .int i t
  | .str x, v => ∃ t, v = .str x t
  | .ref a, v => ∃ x, ρ[a]? = some x ∧ v = .ref x
  | .glob a, v => v = .ref a
noncomputable def VRs (ρ : List Addr) : List MV → List Value → Prop
  | [], vs => vs = []
  | m :: ms, vs => ∃ v r, vs = v :: r ∧ VR ρ m v ∧ VRs ρ ms r
noncomputable def NR (P : Params) (ρ : List Addr) : List (Str × MV) → List DictEntry → Prop
  | [], es => es = []
  | (x, m) :: fs, es => ∃ t v r, es = ⟨PyData.keyHash P x, .str x t, v⟩ :: r ∧ VR ρ m v ∧ NR P ρ fs r
noncomputable def PR {K : Type} (ρ : List Addr) : List (K × MV) → List (K × Value) → Prop
  | [], es => es = []
  | (k, m) :: fs, es => ∃ v r, es = (k, v) :: r ∧ VR ρ m v ∧ PR ρ fs r
noncomputable def OR (prog : Program) (w : World) (ρ : List Addr) : MO → Obj → Prop
  | .list xs, o => ∃ vs n, VRs ρ xs vs ∧ o = listOf vs.toArray n
  | .tup xs, o => ∃ vs n, VRs ρ xs vs ∧ o = { cls := .type "tuple", data := .seq vs.toArray n }
  | .inst c d, o => ∃ x, ρ[d]? = some x ∧ o = instObj c x
  | .ns fs, o => ∃ es n, NR w.params ρ fs es ∧ o = dictOf es n
  | .dI fs, o => ∃ kvs, PR ρ fs kvs ∧ o.IsDictOf (intKind prog w) kvs
  | .dS fs, o => ∃ kvs, PR ρ fs kvs ∧ o.IsDictOf (strKind prog w) kvs
  | .exc c d, o => ∃ x vs, ρ[d]? = some x ∧ o.cls = .ref c ∧ o.data = .fields vs ∧ vs[0]? = some (.ref x)
  | .setN n, o => ∃ S, o.SetObjOf (intKind prog w) S n
  | .junk, _ => True
theorem get_mono {ρ t : List Addr} {a : Nat} {x : Addr} (h : ρ[a]? = some x) : (ρ ++ t)[a]? = some x := by
  rw [List.getElem?_append_left (List.getElem?_eq_some_iff.mp h).1]; exact h
theorem VR.mono {ρ t : List Addr} {m : MV} {v : Value} (h : VR ρ m v) : VR (ρ ++ t) m v := by
  cases m <;> try exact h
  obtain ⟨x, hx, e⟩ := h
  exact ⟨x, get_mono hx, e⟩
theorem VRs.mono {ρ t : List Addr} : ∀ {ms : List MV} {vs : List Value}, VRs ρ ms vs → VRs (ρ ++ t) ms vs
  | [], _, h => h
  | _ :: _, _, ⟨v, r, e, h1, h2⟩ => ⟨v, r, e, h1.mono, h2.mono⟩
theorem NR.mono {P : Params} {ρ t : List Addr} : ∀ {fs : List (Str × MV)} {es : List DictEntry}, NR P ρ fs es → NR P (ρ ++ t) fs es
  | [], _, h => h
  | (_, _) :: _, _, ⟨k, v, r, e, h1, h2⟩ => ⟨k, v, r, e, h1.mono, h2.mono⟩
theorem PR.mono {K : Type} {ρ t : List Addr} : ∀ {fs : List (K × MV)} {es : List (K × Value)}, PR ρ fs es → PR (ρ ++ t) fs es
  | [], _, h => h
  | (_, _) :: _, _, ⟨v, r, e, h1, h2⟩ => ⟨v, r, e, h1.mono, h2.mono⟩
theorem OR.mono {prog : Program} {w : World} {ρ t : List Addr} {m : MO} {o : Obj} (h : OR prog w ρ m o) : OR prog w (ρ ++ t) m o := by
  cases m with
  | list xs => obtain ⟨vs, n, h, e⟩ := h; exact ⟨vs, n, h.mono, e⟩
  | tup xs => obtain ⟨vs, n, h, e⟩ := h; exact ⟨vs, n, h.mono, e⟩
  | inst c d => obtain ⟨x, hx, e⟩ := h; exact ⟨x, get_mono hx, e⟩
  | ns fs => obtain ⟨es, n, h, e⟩ := h; exact ⟨es, n, h.mono, e⟩
  | dI fs => obtain ⟨es, h, e⟩ := h; exact ⟨es, h.mono, e⟩
  | dS fs => obtain ⟨es, h, e⟩ := h; exact ⟨es, h.mono, e⟩
  | exc c d => obtain ⟨x, vs, h, e⟩ := h; exact ⟨x, vs, get_mono h, e⟩
  | setN n => exact h
  | junk => trivial
theorem VRs.length {ρ : List Addr} : ∀ {ms : List MV} {vs : List Value}, VRs ρ ms vs → vs.length = ms.length
  | [], _, h => by rw [h]; rfl
  | _ :: _, _, ⟨v, r, e, _, h2⟩ => by rw [e, List.length_cons, List.length_cons, h2.length]
theorem VRs.get {ρ : List Addr} : ∀ {ms : List MV} {vs : List Value} {i : Nat} {m : MV}, VRs ρ ms vs → ms[i]? = some m → ∃ v, vs[i]? = some v ∧ VR ρ m v
  | [], _, _, _, _, e => by simp at e
  | a :: ms, _, 0, m, ⟨v, r, e, h1, _⟩, hi => by
    subst e
    simp at hi
    subst hi
    exact ⟨v, rfl, h1⟩
  | a :: ms, _, i + 1, m, ⟨v, r, e, _, h2⟩, hi => by
    subst e
    simp at hi
    obtain ⟨u, hu, hr⟩ := h2.get hi
    exact ⟨u, by simpa using hu, hr⟩
theorem VRs.append {ρ : List Addr} : ∀ {ms ms' : List MV} {vs vs' : List Value}, VRs ρ ms vs → VRs ρ ms' vs' → VRs ρ (ms ++ ms') (vs ++ vs')
  | [], _, _, _, h, h' => by rw [h]; exact h'
  | _ :: _, _, _, _, ⟨u, r, e, h1, h2⟩, h' => by subst e; exact ⟨u, r ++ _, rfl, h1, h2.append h'⟩
structure Cx where
  prog : Program
  w : World
  A : Around
  env : Env
  h₀ : Heap
  L : Addr
  /-- in a comprehension: what the frame's names hold, and the cells and names around it -/
  fm : Option ((Str → Option Value) × List (Addr × Obj))
  /-- the frames below: their names' objects, up to slots -/
  fr : List (Addr × Obj)
  /-- further objects that stay -/
  xt : List (Addr × Obj)
  /-- what must hold where an exception leaves -/
  X : Addr → List MV → ML → MH → Prop
  /-- the names, by their places; the scope that says their kinds -/
  nm : List Str
  sc : Scope
noncomputable def Led (h₀ : Heap) (L : Addr) (prog : Program) (w : World) (ml : Str → Option Value) (xs : List (Addr × Obj)) (ρ : List Addr) (H : MH) (h : Heap) : Prop :=
  Fr h₀ L h ml ∧ ∃ os : List Obj, os.length = H.length ∧ ρ.length = H.length ∧
    (∀ (i : Nat) (o : MO), H[i]? = some o → ∃ x, os[i]? = some x ∧ OR prog w ρ o x) ∧
    News h₀ L h (xs ++ ρ.zip os) ∧ (xs.map (·.1) ++ ρ).Nodup
noncomputable def Own (c : Cx) (mr ml : Str → Option Value) (ex : List (Addr × Obj)) : Prop :=
  match c.fm with
  | none => c.env.locals = c.L ∧ (∀ x, c.env.kindOf x = some .local → ml x = mr x) ∧
      ∀ x, c.env.kindOf x = some .cell ∨ c.env.kindOf x = some .free → ∃ a o, c.env.cells.lookup x = some a ∧ (a, o) ∈ ex ∧ o.data = .cell (mr x)
  | some (f, ox) => ml = f ∧ (∃ oC mC, ex = (c.env.locals, oC) :: ox ∧ LCg.NsObj oC mC ∧ ∀ x, c.env.kindOf x = some .local → mC x = mr x) ∧
      ∀ x, c.env.kindOf x = some .cell ∨ c.env.kindOf x = some .free → ∃ a o, c.env.cells.lookup x = some a ∧ (a, o) ∈ ox ∧ o.data = .cell (mr x)
noncomputable def St (c : Cx) (mr : Str → Option Value) (ρ : List Addr) (H : MH) (h : Heap) : Prop :=
  ∃ ml fr ex, Own c mr ml ex ∧ TI.SameUp c.fr fr ∧ Led c.h₀ c.L c.prog c.w ml (fr ++ (c.xt ++ ex)) ρ H h
theorem St.open {c : Cx} {mr : Str → Option Value} {ρ : List Addr} {H : MH} {h : Heap} (S : St c mr ρ H h) :
    ∃ ml xs, Led c.h₀ c.L c.prog c.w ml xs ρ H h ∧ ∀ ρ' H' h', Led c.h₀ c.L c.prog c.w ml xs ρ' H' h' → St c mr ρ' H' h' := by
  obtain ⟨ml, fr, ex, o, u, l⟩ := S
  exact ⟨ml, _, l, fun ρ' H' h' l' => ⟨ml, fr, ex, o, u, l'⟩⟩
theorem St.keep {c : Cx} {mr : Str → Option Value} {ρ : List Addr} {H : MH} {h : Heap} (S : St c mr ρ H h) : ∀ b o, c.h₀.get? b = some o → h.get? b = some o := by
  obtain ⟨ml, xs, l, _⟩ := S.open
  exact l.1.keep
noncomputable def slot : List Str → Str → Option Nat
  | [], _ => none
  | y :: r, x => match slot r x with
    | some i => some (i + 1)
    | none => if y == x then some 0 else none
theorem slot_get : ∀ {nm : List Str} {x : Str} {i : Nat}, slot nm x = some i → nm[i]? = some x
  | [], _, _, h => by cases h
  | y :: r, x, i, h => by
    unfold slot at h
    cases e : slot r x with
    | some j =>
      rw [e] at h
      cases h
      simpa using slot_get e
    | none =>
      rw [e] at h
      simp only at h
      split at h
      · rename_i q
        cases h
        simpa using q
      · cases h
noncomputable def LR (mr : Str → Option Value) (nm : List Str) (ρ : List Addr) (m : ML) : Prop :=
  m.length = nm.length ∧ ∀ i x v, slot nm x = some i → m[i]? = some (some v) → ∃ vr, VR ρ v vr ∧ mr x = some vr
theorem LR.mono {mr : Str → Option Value} {nm : List Str} {ρ t : List Addr} {m : ML} (h : LR mr nm ρ m) : LR mr nm (ρ ++ t) m :=
  ⟨h.1, fun i x v e1 e2 => let ⟨vr, h1, h2⟩ := h.2 i x v e1 e2; ⟨vr, h1.mono, h2⟩⟩
theorem LR.set {mr : Str → Option Value} {nm : List Str} {ρ : List Addr} {m : ML} (h : LR mr nm ρ m) {x : Str} {i : Nat} {v : MV} {vr : Value} (hs : slot nm x = some i) (hv : VR ρ v vr) :
    LR (fun y => if y = x then some vr else mr y) nm ρ (m.set i (some v)) := by
  refine ⟨by rw [List.length_set]; exact h.1, fun j y u e1 e2 => ?_⟩
  by_cases e : y = x
  · subst e
    rw [hs] at e1
    cases e1
    rw [List.getElem?_set_self'] at e2
    cases hm : m[i]? with
    | none => rw [hm] at e2; cases e2
    | some o =>
      rw [hm] at e2
      cases e2
      exact ⟨vr, hv, by simp⟩
  · have hij : i ≠ j := by
      rintro rfl
      have h1 := slot_get hs
      have h2 := slot_get e1
      rw [h1] at h2
      cases h2
      exact e rfl
    rw [List.getElem?_set_ne hij] at e2
    obtain ⟨w, h1, h2⟩ := h.2 j y u e1 e2
    exact ⟨w, h1, by simp [e, h2]⟩
noncomputable def Fly (c : Cx) (mr : Str → Option Value) (ρ : List Addr) (H : MH) (C : Addr) (as : List MV) (e : Addr) (h : Heap) : Prop :=
  ∃ (hB : Heap) (t : Addr) (vs : List Value), St c mr ρ H hB ∧ VRs ρ as vs ∧ hB.get? e = none ∧ hB.get? t = none ∧ h.TupAt t vs ∧ hB.UpToSlots h ∧
    (TI.gone hB (c.L :: c.fr.map (·.1))).StaysIn h ∧
    ((∃ oe ws, h.get? e = some oe ∧ oe.cls = .ref C ∧ oe.data = .fields ws ∧ ws[0]? = some (.ref t) ∧ ws[1]? = some .none) ∨
     ∃ fl, h.TracedAtW (TI.gone hB (c.L :: c.fr.map (·.1))) e (.ref C) (.ref t) fl ∧ (fl = .none ∨ fl = rawInt c.L))
noncomputable def Kx (c : Cx) (ρ : List Addr) (s : Shared) (E : Value → Shared → Prop) : Prop :=
  ∀ t C as e m' mr' H' h' tk, c.X C as m' H' → Fly c mr' (ρ ++ t) H' C as e h' → LR mr' c.nm (ρ ++ t) m' → E (.ref e) { s with heap := h', toks := tk }
theorem Kx.mono {c : Cx} {ρ t : List Addr} {s : Shared} {E : Value → Shared → Prop} {h : Heap} {tk : Nat} (k : Kx c ρ s E) : Kx c (ρ ++ t) { s with heap := h, toks := tk } E := by
  intro t' C as e m' mr' H' h' tk' hX hF hL
  rw [List.append_assoc] at hF hL
  exact k (t ++ t') C as e m' mr' H' h' tk' hX hF hL
noncomputable def EV (c : Cx) (m : ML) (e : PySem.Expr) (H : MH) (post : MV → MH → Prop) : Prop :=
  ∀ (mr : Str → Option Value) (ρ : List Addr) (s : Shared) (Q : Value → Shared → Prop) (E : Value → Shared → Prop), St c mr ρ H s.heap → LR mr c.nm ρ m →
    (∀ t v vr H' h' tk, post v H' → VR (ρ ++ t) v vr → St c mr (ρ ++ t) H' h' → Q vr { s with heap := h', toks := tk }) → Kx c ρ s E →
    wpAny (model c.prog c.w) c.A (eval e c.env) Q E s
theorem EV.mono {c : Cx} {m : ML} {e : PySem.Expr} {H : MH} {p q : MV → MH → Prop} (h : EV c m e H p) (hp : ∀ v H', p v H' → q v H') : EV c m e H q :=
  fun mr ρ s Q E S l k kx => h mr ρ s Q E S l (fun t v vr H' h' tk hv => k t v vr H' h' tk (hp _ _ hv)) kx
theorem nil_of {c : Cx} {mr : Str → Option Value} {ρ : List Addr} {H : MH} {h : Heap} (S : St c mr ρ H h) : St c mr (ρ ++ []) H h := by rw [List.append_nil]; exact S
theorem ns_of {oC : Obj} {mC : Str → Option Value} {h : Heap} {C : Addr} (hC : LCg.NsObj oC mC) (e : h.get? C = some oC) : h.Ns C mC := hC.ns e
noncomputable def kcl : Option NameKind → Nat
  | some .local => 1
  | some .cell => 2
  | some .free => 2
  | some .globalImplicit => 3
  | _ => 0
noncomputable def rdb (sc : Scope) (x : Str) : Bool := (x != ("__debug__" : Str)) && (x != ("__classdict__" : Str)) && (kcl (sc.names.lookup x) == 1 || kcl (sc.names.lookup x) == 2)
noncomputable def glb (sc : Scope) (x : Str) : Bool := (x != ("__debug__" : Str)) && kcl (sc.names.lookup x) == 3
theorem kcl1 {k : Option NameKind} (h : kcl k = 1) : k = some .local := by
  unfold kcl at h
  split at h <;> first | rfl | cases h
theorem kcl2 {k : Option NameKind} (h : kcl k = 2) : k = some .cell ∨ k = some .free := by
  unfold kcl at h
  split at h <;> first | (exact .inl rfl) | (exact .inr rfl) | cases h
theorem kcl3 {k : Option NameKind} (h : kcl k = 3) : k = some .globalImplicit := by
  unfold kcl at h
  split at h <;> first | rfl | cases h
structure Gx where
  K : Frag
  p : Program
  loose : List Str
  mean : ExcName → Option Value
  mg : Str → Option Value
  mb : Str → Option Value
  /-- what else stands in the heap -/
  ex : Heap → Prop
structure Ok (G : Gx) (c : Cx) (d : Nat) : Prop where
  frames : ∃ env₀ outer, c.A.frames = some (env₀ :: outer) ∧ env₀.frame = some c.L ∧ env₀.scope.kind = .function ∧ TI.Frs outer c.fr ∧ (c.fm = none → env₀ = c.env)
  kin : G.K.In c.h₀
  top : Top G.p G.loose G.mean G.mg G.mb c.h₀
  hh : c.A.handled = none
  dep : c.A.depth + d < recursionLimit
  uni : c.A.units + 8 * d + 64 < cLine
  fn : c.env.scope.kind = .function
  gl : c.env.globals = mainGlobals
  bi : c.env.builtins = builtinsNs
  ap : c.fm = none → c.env.cells.Pairwise fun x y => x.2 ≠ y.2
  kd : ∀ x, kcl (c.env.kindOf x) = kcl (c.sc.names.lookup x)
  fs : c.fm = none → c.env.scope = c.sc
  ex : G.ex c.h₀
theorem read {G : Gx} {c : Cx} {d : Nat} (ok : Ok G c d) {mr : Str → Option Value} {ρ : List Addr} {H : MH} {s : Shared} {x : Str} {pos : Pos} {v : Value} {Q E} (S : St c mr ρ H s.heap) (hx : rdb c.sc x = true) (hv : mr x = some v) (h : Q v s) :
    wpAny (model c.prog c.w) c.A (eval (.Name x pos) c.env) Q E s := by
  unfold rdb at hx
  simp only [Bool.and_eq_true, Bool.or_eq_true, beq_iff_eq, bne_iff_ne, ne_eq] at hx
  obtain ⟨⟨hd, hcd⟩, hx⟩ := hx
  rw [← ok.kd] at hx
  have hd' : (x == ("__debug__" : Str)) = false := by simpa using hd
  have hcd' : (x == ("__classdict__" : Str)) = false := by simpa using hcd
  have hk := ok.fn
  refine wpAny_Name ?_ hd'
  obtain ⟨ml, fr, ex, o, u, F, os, a1, a2, a3, N, a5⟩ := S
  unfold Own at o
  have cellRead : ∀ a o, c.env.cells.lookup x = some a → (a, o) ∈ fr ++ (c.xt ++ ex) → o.data = .cell (mr x) → (c.env.kindOf x = some .cell ∨ c.env.kindOf x = some .free) → wpAny (model c.prog c.w) c.A (loadName c.env x) Q E s := by
    intro a o e1 e2 e3 hk'
    rw [hv] at e3
    have hc : s.heap.IsCell a (some v) := ⟨o, (N _ (List.mem_append_left _ e2)).1, e3⟩
    rcases hk' with hk' | hk'
    · exact wpAny_loadName_cell hk hk' e1 hc h
    · exact wpAny_loadName_free hk hk' e1 hc h hcd'
  cases hf : c.fm with
  | none =>
    rw [hf] at o
    obtain ⟨oL, o1, o2⟩ := o
    rcases hx with hx | hx
    · exact wpAny_loadName_local hk (kcl1 hx) (by rw [oL]; exact F.ns) ((o1 x (kcl1 hx)).trans hv) h
    · obtain ⟨a, ob, e1, e2, e3⟩ := o2 x (kcl2 hx)
      exact cellRead a ob e1 (List.mem_append_right _ (List.mem_append_right _ e2)) e3 (kcl2 hx)
  | some f =>
    obtain ⟨f, ox⟩ := f
    rw [hf] at o
    obtain ⟨rfl, ⟨oC, mC, q1, q2, q3⟩, o2⟩ := o
    have hox : ∀ p ∈ ox, p ∈ fr ++ (c.xt ++ ex) := fun p hp => List.mem_append_right _ (List.mem_append_right _ (by rw [q1]; exact .tail _ hp))
    rcases hx with hx | hx
    · exact wpAny_loadName_local hk (kcl1 hx) (ns_of q2 (N _ (List.mem_append_left _ (List.mem_append_right _ (List.mem_append_right _ (by rw [q1]; exact .head _))))).1) ((q3 x (kcl1 hx)).trans hv) h
    · obtain ⟨a, ob, e1, e2, e3⟩ := o2 x (kcl2 hx)
      exact cellRead a ob e1 (hox _ e2) e3 (kcl2 hx)
theorem mem_zip_of {ρ : List Addr} {os : List Obj} {i : Nat} {a : Addr} {x : Obj} (h1 : ρ[i]? = some a) (h2 : os[i]? = some x) : (a, x) ∈ ρ.zip os := by
  have : (ρ.zip os)[i]? = some (a, x) := by
    rw [List.getElem?_zip_eq_some]
    exact ⟨h1, h2⟩
  exact List.mem_of_getElem? this
section
variable {h₀ h h' : Heap} {L : Addr} {prog : Program} {w : World} {ml : Str → Option Value} {xs : List (Addr × Obj)} {ρ : List Addr} {H : MH}
theorem Led.get (S : Led h₀ L prog w ml xs ρ H h) {i : Nat} {o : MO} (hi : H[i]? = some o) : ∃ a x, ρ[i]? = some a ∧ OR prog w ρ o x ∧ News h₀ L h [(a, x)] := by
  obtain ⟨F, os, a1, a2, a3, N, a5⟩ := S
  obtain ⟨x, hx, hr⟩ := a3 i o hi
  have hlt : i < ρ.length := by rw [a2]; exact (List.getElem?_eq_some_iff.mp hi).1
  refine ⟨ρ[i], x, List.getElem?_eq_getElem hlt, hr, fun p hp => ?_⟩
  rw [List.mem_singleton.mp hp]
  exact N _ (List.mem_append_right _ (mem_zip_of (List.getElem?_eq_getElem hlt) hx))
theorem zip_append_one {os : List Obj} {l : Addr} {x : Obj} (h : ρ.length = os.length) : (ρ ++ [l]).zip (os ++ [x]) = ρ.zip os ++ [(l, x)] := by
  rw [List.zip_append h]
  rfl
theorem led_addr {os : List Obj} (a1 : os.length = H.length) (a2 : ρ.length = H.length) {a : Addr} (ha : a ∈ xs.map (·.1) ++ ρ) : ∃ p ∈ xs ++ ρ.zip os, p.1 = a := by
  rcases List.mem_append.mp ha with ha | ha
  · obtain ⟨p, hp, rfl⟩ := List.mem_map.mp ha
    exact ⟨p, List.mem_append_left _ hp, rfl⟩
  · obtain ⟨i, hi, rfl⟩ := List.getElem_of_mem ha
    have hi' : i < os.length := by rw [a1, ← a2]; exact hi
    exact ⟨(ρ[i], os[i]), List.mem_append_right _ (mem_zip_of (List.getElem?_eq_getElem hi) (List.getElem?_eq_getElem hi')), rfl⟩
theorem Led.alloc {os : List Obj} {l : Addr} {x : Obj} {o : MO}
    (a1 : os.length = H.length) (a2 : ρ.length = H.length) (a3 : ∀ (i : Nat) (o : MO), H[i]? = some o → ∃ x, os[i]? = some x ∧ OR prog w ρ o x)
    (a5 : (xs.map (·.1) ++ ρ).Nodup)
    (F : Fr h₀ L h' ml) (N : News h₀ L h' ((l, x) :: (xs ++ ρ.zip os))) (hl : ∀ p ∈ xs ++ ρ.zip os, p.1 ≠ l) (ho : OR prog w (ρ ++ [l]) o x) :
    Led h₀ L prog w ml xs (ρ ++ [l]) (H ++ [o]) h' := by
  refine ⟨F, os ++ [x], by simp [a1], by simp [a2], ?_, ?_, ?_⟩
  · intro i o' hi
    by_cases hlt : i < H.length
    · rw [List.getElem?_append_left hlt] at hi
      obtain ⟨y, hy, hr⟩ := a3 i o' hi
      exact ⟨y, by rw [List.getElem?_append_left (by rw [a1]; exact hlt)]; exact hy, hr.mono⟩
    · rw [List.getElem?_append_right (Nat.le_of_not_lt hlt)] at hi
      have hz : i - H.length = 0 := by
        have := (List.getElem?_eq_some_iff.mp hi).1
        simp at this
        omega
      rw [hz] at hi
      simp at hi
      subst hi
      refine ⟨x, ?_, ho⟩
      rw [List.getElem?_append_right (by rw [a1]; exact Nat.le_of_not_lt hlt), a1, hz]
      rfl
  · intro p hp
    rw [zip_append_one (by rw [a1, a2])] at hp
    refine N p ?_
    rw [← List.append_assoc] at hp
    rcases List.mem_append.mp hp with hp | hp
    · exact .tail _ hp
    · rw [List.mem_singleton.mp hp]; exact .head _
  · rw [← List.append_assoc, List.nodup_append]
    refine ⟨a5, by simp, ?_⟩
    intro a ha b hb e
    rw [List.mem_singleton.mp hb] at e
    obtain ⟨p, hp, e2⟩ := led_addr (os := os) a1 a2 ha
    exact hl p hp (e2.trans e)
theorem Led.upd (S : Led h₀ L prog w ml xs ρ H h) {i : Nat} {o o' : MO} {a : Addr} {x' : Obj} (hi : H[i]? = some o) (ha : ρ[i]? = some a)
    (hs : Heap.SameBut a h h') (hx : h'.get? a = some x') (ho : OR prog w ρ o' x') : Led h₀ L prog w ml xs ρ (H.set i o') h' := by
  obtain ⟨F, os, a1, a2, a3, N, a5⟩ := S
  obtain ⟨x, hx0, _⟩ := a3 i o hi
  have hm : (a, x) ∈ ρ.zip os := mem_zip_of ha hx0
  have na := N _ (List.mem_append_right _ hm)
  have hlt : i < H.length := (List.getElem?_eq_some_iff.mp hi).1
  refine ⟨F.change hs na.2.1 na.2.2, os.set i x', by simp [a1], by simp [a2], ?_, ?_, a5⟩
  · intro j o1 hj
    by_cases e : i = j
    · subst e
      rw [List.getElem?_set_self hlt] at hj
      cases hj
      exact ⟨x', List.getElem?_set_self (by rw [a1]; exact hlt), ho⟩
    · rw [List.getElem?_set_ne e] at hj
      obtain ⟨y, hy, hr⟩ := a3 j o1 hj
      exact ⟨y, by rw [List.getElem?_set_ne e]; exact hy, hr⟩
  · intro p hp
    rw [List.nodup_append] at a5
    rcases List.mem_append.mp hp with hp | hp
    · have P := N p (List.mem_append_left _ hp)
      have hne : p.1 ≠ a := fun e => a5.2.2 p.1 (List.mem_map_of_mem hp) a (List.mem_of_getElem? ha) e
      exact ⟨(hs.2 _ hne).trans P.1, P.2⟩
    · obtain ⟨j, hj, e⟩ := List.getElem_of_mem hp
      obtain ⟨b, y⟩ := p
      have e' : (ρ.zip (os.set i x'))[j]? = some (b, y) := by rw [List.getElem?_eq_getElem hj, e]
      rw [List.getElem?_zip_eq_some] at e'
      by_cases eij : i = j
      · subst eij
        rw [ha, List.getElem?_set_self (by rw [a1]; exact hlt)] at e'
        obtain ⟨e1, e2⟩ := e'
        cases e1; cases e2
        exact ⟨hx, na.2⟩
      · rw [List.getElem?_set_ne eij] at e'
        have P := N _ (List.mem_append_right _ (mem_zip_of e'.1 e'.2))
        have hne : b ≠ a := by
          intro e3
          subst e3
          have l1 := (List.getElem?_eq_some_iff.mp ha).1
          exact eij ((List.getElem?_inj l1 a5.2.1).mp (ha.trans e'.1.symm))
        exact ⟨(hs.2 _ hne).trans P.1, P.2⟩
theorem Led.grow (S : Led h₀ L prog w ml xs ρ H h) (hk : ∀ b o, h.get? b = some o → h'.get? b = some o) : Led h₀ L prog w ml xs ρ H h' := by
  obtain ⟨F, os, a1, a2, a3, N, a5⟩ := S
  exact ⟨F.keeps hk, os, a1, a2, a3, N.grown hk, a5⟩
end
theorem St.get {c : Cx} {mr : Str → Option Value} {ρ : List Addr} {H : MH} {h : Heap} (S : St c mr ρ H h) {i : Nat} {o : MO} (hi : H[i]? = some o) :
    ∃ a x, ρ[i]? = some a ∧ OR c.prog c.w ρ o x ∧ News c.h₀ c.L h [(a, x)] := by
  obtain ⟨ml, xs, l, _⟩ := S.open
  exact l.get hi
theorem St.upd {c : Cx} {mr : Str → Option Value} {ρ : List Addr} {H : MH} {h h' : Heap} (S : St c mr ρ H h) {i : Nat} {o o' : MO} {a : Addr} {x' : Obj} (hi : H[i]? = some o) (ha : ρ[i]? = some a)
    (hs : Heap.SameBut a h h') (hx : h'.get? a = some x') (ho : OR c.prog c.w ρ o' x') : St c mr ρ (H.set i o') h' := by
  obtain ⟨ml, xs, l, back⟩ := S.open
  exact back _ _ _ (l.upd hi ha hs hx ho)
theorem St.grow {c : Cx} {mr : Str → Option Value} {ρ : List Addr} {H : MH} {h h' : Heap} (S : St c mr ρ H h) (hk : ∀ b o, h.get? b = some o → h'.get? b = some o) : St c mr ρ H h' := by
  obtain ⟨ml, xs, l, back⟩ := S.open
  exact back _ _ _ (l.grow hk)
theorem last_get {ρ : List Addr} {H : MH} {l : Addr} (a2 : ρ.length = H.length) : (ρ ++ [l])[H.length]? = some l := by
  rw [List.getElem?_append_right (by rw [a2]; exact Nat.le_refl _), a2, Nat.sub_self]
  rfl
noncomputable def stb (sc : Scope) (x : Str) : Bool := sc.names.lookup x == some .local || sc.names.lookup x == some .cell
theorem store' {c : Cx} (hap : c.fm = none → c.env.cells.Pairwise fun x y => x.2 ≠ y.2) (hk : c.env.scope.kind = .function) (hfs : c.fm = none → c.env.scope = c.sc) {mr : Str → Option Value} {ρ : List Addr} {H : MH} {s : Shared} {x : Str} {v : Value} {Q E} (S : St c mr ρ H s.heap) (hfm : c.fm = none) (hx : stb c.sc x = true)
    (h : ∀ h' tk, St c (fun y => if y = x then some v else mr y) ρ H h' → Q () { s with heap := h', toks := tk }) :
    wpAny (model c.prog c.w) c.A (storeName c.env x v) Q E s := by
  unfold stb at hx
  replace hap := hap hfm
  rw [← hfs hfm] at hx
  simp only [Bool.or_eq_true, beq_iff_eq] at hx
  change c.env.kindOf x = some .local ∨ c.env.kindOf x = some .cell at hx
  obtain ⟨ml, fr, ex, o, u, F, os, a1, a2, a3, N, a5⟩ := S
  unfold Own at o
  rw [hfm] at o
  obtain ⟨oL, o1, o2⟩ := o
  rcases hx with hx | hx
  · refine wpAny_storeName_local hx (by rw [oL]; exact F.ns) (fun h' hn hs => ?_) (by rw [hk]; rfl)
    rw [oL] at hn hs
    refine h h' _ ⟨_, fr, ex, ?_, u, F.set hn hs, os, a1, a2, a3, N.set hs, a5⟩
    unfold Own
    rw [hfm]
    refine ⟨oL, fun y hy => ?_, fun y hy => ?_⟩
    · by_cases e : y = x
      · simp [e]
      · simp [e, o1 y hy]
    · have hne : y ≠ x := by
        rintro rfl
        rw [hx] at hy
        rcases hy with hy | hy <;> cases hy
      simp only [if_neg hne]
      exact o2 y hy
  · obtain ⟨a, ob, e1, e2, e3⟩ := o2 x (.inl hx)
    have hmem : (a, ob) ∈ fr ++ (c.xt ++ ex) := List.mem_append_right _ (List.mem_append_right _ e2)
    have hN := N _ (List.mem_append_left _ hmem)
    refine wpAny_storeName_cell hk hx e1 ⟨ob, hN.1, e3⟩ fun h' hv hs => ?_
    obtain ⟨o', ho', hd'⟩ := hv
    have hF : Fr c.h₀ c.L h' ml := F.change hs hN.2.1 hN.2.2
    let f : Addr × Obj → Addr × Obj := fun p => if p.1 = a then (a, o') else p
    have hfst : ∀ l : List (Addr × Obj), (l.map f).map (·.1) = l.map (·.1) := by
      intro l
      induction l with
      | nil => rfl
      | cons p l ih =>
        simp only [List.map_cons, ih]
        congr 1
        show (if p.1 = a then (a, o') else p).1 = p.1
        split
        · rename_i q; exact q.symm
        · rfl
    have hnd := a5
    rw [List.nodup_append] at hnd
    obtain ⟨nd1, nd2, nd3⟩ := hnd
    have hfix : ∀ p ∈ fr ++ c.xt, f p = p := by
      intro p hp
      show (if p.1 = a then (a, o') else p) = p
      rw [if_neg]
      intro q
      rw [List.map_append, List.map_append, ← List.append_assoc, ← List.map_append, List.nodup_append] at nd1
      exact nd1.2.2 p.1 (List.mem_map_of_mem hp) a (List.mem_map_of_mem (f := (·.1)) e2) q
    have hfix1 : fr.map f = fr := by
      have := List.map_congr_left (l := fr) (f := f) (g := id) (fun p hp => hfix p (List.mem_append_left _ hp))
      rw [this]; simp
    have hfix2 : c.xt.map f = c.xt := by
      have := List.map_congr_left (l := c.xt) (f := f) (g := id) (fun p hp => hfix p (List.mem_append_right _ hp))
      rw [this]; simp
    refine h h' _ ⟨ml, fr, ex.map f, ?_, u, hF, os, a1, a2, a3, ?_, ?_⟩
    · unfold Own
      rw [hfm]
      refine ⟨oL, fun y hy => ?_, fun y hy => ?_⟩
      · have hne : y ≠ x := by
          rintro rfl
          rw [hx] at hy
          cases hy
        simp only [if_neg hne]
        exact o1 y hy
      · by_cases e : y = x
        · subst e
          refine ⟨a, o', e1, ?_, by simp [hd']⟩
          have : f (a, ob) = (a, o') := by show (if a = a then (a, o') else _) = _; rw [if_pos rfl]
          rw [← this]
          exact List.mem_map_of_mem e2
        · obtain ⟨b, oy, y1, y2, y3⟩ := o2 y hy
          have hba : b ≠ a := fun q => e (name_of_addr hap (mem_of_lookup y1) (q ▸ mem_of_lookup e1))
          refine ⟨b, oy, y1, ?_, by simp [e, y3]⟩
          have : f (b, oy) = (b, oy) := by show (if b = a then (a, o') else _) = _; rw [if_neg hba]
          rw [← this]
          exact List.mem_map_of_mem y2
    · intro p hp
      have hsplit : fr ++ (c.xt ++ ex.map f) = (fr ++ (c.xt ++ ex)).map f := by simp only [List.map_append, hfix1, hfix2]
      rw [hsplit] at hp
      rcases List.mem_append.mp hp with hp | hp
      · obtain ⟨q, hq, rfl⟩ := List.mem_map.mp hp
        have P := N q (List.mem_append_left _ hq)
        show h'.get? (f q).1 = some (f q).2 ∧ _
        by_cases e : q.1 = a
        · have : f q = (a, o') := by show (if q.1 = a then (a, o') else q) = _; rw [if_pos e]
          rw [this]
          exact ⟨ho', hN.2⟩
        · have : f q = q := by show (if q.1 = a then (a, o') else q) = _; rw [if_neg e]
          rw [this]
          exact ⟨(hs.2 _ e).trans P.1, P.2⟩
      · have P := N p (List.mem_append_right _ hp)
        refine ⟨(hs.2 _ fun q => ?_).trans P.1, P.2⟩
        exact nd3 a (List.mem_map_of_mem (f := (·.1)) hmem) p.1 (List.of_mem_zip (show (p.1, p.2) ∈ _ from hp)).1 q.symm
    · have hsplit : fr ++ (c.xt ++ ex.map f) = (fr ++ (c.xt ++ ex)).map f := by simp only [List.map_append, hfix1, hfix2]
      rw [hsplit, hfst]
      exact a5
theorem store {G : Gx} {c : Cx} {d : Nat} (ok : Ok G c d) {mr : Str → Option Value} {ρ : List Addr} {H : MH} {s : Shared} {x : Str} {v : Value} {Q E} (S : St c mr ρ H s.heap) (hfm : c.fm = none) (hx : stb c.sc x = true)
    (h : ∀ h' tk, St c (fun y => if y = x then some v else mr y) ρ H h' → Q () { s with heap := h', toks := tk }) :
    wpAny (model c.prog c.w) c.A (storeName c.env x v) Q E s := store' ok.ap ok.fn ok.fs S hfm hx h
theorem su_addrs : ∀ {a b : List (Addr × Obj)}, TI.SameUp a b → b.map (·.1) = a.map (·.1)
  | [], [], _ => rfl
  | [], _ :: _, h => False.elim h
  | _ :: _, [], h => False.elim h
  | _ :: _, _ :: _, ⟨h1, _, h3⟩ => by simp only [List.map_cons, h1, su_addrs h3]
abbrev FA (c : Cx) : List Addr := c.L :: c.fr.map (·.1)
structure FlyB (c : Cx) (mr : Str → Option Value) (ρ : List Addr) (H : MH) (as : List MV) (e : Addr) (h hB : Heap) (t : Addr) (vs : List Value) : Prop where
  st : St c mr ρ H hB
  vr : VRs ρ as vs
  en : hB.get? e = none
  tn : hB.get? t = none
  tup : h.TupAt t vs
  up : hB.UpToSlots h
  stay : (TI.gone hB (FA c)).StaysIn h
noncomputable def FlyH (c : Cx) (mr : Str → Option Value) (ρ : List Addr) (H : MH) (C : Addr) (as : List MV) (e : Addr) (fl : Value) (h : Heap) : Prop :=
  ∃ hB t vs, FlyB c mr ρ H as e h hB t vs ∧ h.TracedAtW (TI.gone hB (FA c)) e (.ref C) (.ref t) fl
section
variable {c : Cx} {mr : Str → Option Value} {ρ : List Addr} {H : MH} {C : Addr} {as : List MV} {e : Addr} {h hB : Heap} {t : Addr} {vs : List Value} {G : Gx} {d : Nat}
theorem Fly.split (f : Fly c mr ρ H C as e h) : ∃ hB t vs, FlyB c mr ρ H as e h hB t vs ∧
    ((∃ oe ws, h.get? e = some oe ∧ oe.cls = .ref C ∧ oe.data = .fields ws ∧ ws[0]? = some (.ref t) ∧ ws[1]? = some .none) ∨
     ∃ fl, h.TracedAtW (TI.gone hB (FA c)) e (.ref C) (.ref t) fl ∧ (fl = .none ∨ fl = rawInt c.L)) := by
  obtain ⟨hB, t, vs, a1, a2, a3, a4, a5, a6, a7, a8⟩ := f
  exact ⟨hB, t, vs, ⟨a1, a2, a3, a4, a5, a6, a7⟩, a8⟩
theorem FlyB.fly (b : FlyB c mr ρ H as e h hB t vs) (x : (∃ oe ws, h.get? e = some oe ∧ oe.cls = .ref C ∧ oe.data = .fields ws ∧ ws[0]? = some (.ref t) ∧ ws[1]? = some .none) ∨
     ∃ fl, h.TracedAtW (TI.gone hB (FA c)) e (.ref C) (.ref t) fl ∧ (fl = .none ∨ fl = rawInt c.L)) : Fly c mr ρ H C as e h :=
  ⟨hB, t, vs, b.st, b.vr, b.en, b.tn, b.tup, b.up, b.stay, x⟩
theorem FlyH.fly {fl : Value} (f : FlyH c mr ρ H C as e fl h) (hfl : fl = .none ∨ fl = rawInt c.L) : Fly c mr ρ H C as e h := by
  obtain ⟨hB, t, vs, b, x⟩ := f
  exact b.fly (.inr ⟨fl, x, hfl⟩)
theorem FlyB.frames (ok : Ok G c d) (b : FlyB c mr ρ H as e h hB t vs) : ∃ env₀ outer, c.A.frames = some (env₀ :: outer) ∧ env₀.frame = some c.L ∧ (c.fm = none → env₀ = c.env) ∧ h.FunFrames (TI.gone hB (FA c)) (env₀ :: outer) := by
  obtain ⟨env₀, outer, hA, hf, hk, Fs, he⟩ := ok.frames
  refine ⟨env₀, outer, hA, hf, he, ?_⟩
  obtain ⟨ml, fr, ex, own, u, F, os, a1, a2, a3, N, a5⟩ := b.st
  have Fs' := Fs.up u
  obtain ⟨fr', u', ht'⟩ := TI.sameUp_of (h' := h) (frs := fr) fun p hp => b.up p.1 p.2 (N p (List.mem_append_left _ (List.mem_append_left _ hp))).1 fun ws q => by
    obtain ⟨es, ep, hd⟩ := Fs'.dict p hp
    rw [hd] at q; cases q
  refine Heap.FunFrames.cons (by rw [hk]; decide) hf (b.up.ns F.ns) (TI.gone_none (.head _)) ((Fs'.up u').fun fun q hq => ⟨ht' q hq, TI.gone_none (.tail _ ?_)⟩)
  rw [← su_addrs u, ← su_addrs u']
  exact List.mem_map_of_mem hq
theorem FlyB.st' (ok : Ok G c d) (b : FlyB c mr ρ H as e h hB t vs) : St c mr ρ H h := by
  obtain ⟨env₀, outer, hA, hf, hk, Fs, he⟩ := ok.frames
  obtain ⟨ml, fr, ex, own, u, F, os, a1, a2, a3, N, a5⟩ := b.st
  have Fs' := Fs.up u
  obtain ⟨fr', u', ht'⟩ := TI.sameUp_of (h' := h) (frs := fr) fun p hp => b.up p.1 p.2 (N p (List.mem_append_left _ (List.mem_append_left _ hp))).1 fun ws q => by
    obtain ⟨es, ep, hd⟩ := Fs'.dict p hp
    rw [hd] at q; cases q
  have hFA : FA c = c.L :: fr.map (·.1) := by unfold FA; rw [su_addrs u]
  have nd := a5
  rw [List.map_append, List.append_assoc, List.nodup_append] at nd
  refine ⟨ml, fr', ex, own, u.trans u', ⟨b.up.ns F.ns, fun x o ex => b.stay x o ((TI.gone_get ?_).trans (F.keep x o ex)), F.above⟩, os, a1, a2, a3, ?_, ?_⟩
  · rw [hFA]
    exact TI.base_apart (frs := fr) F N (fun p hp => List.mem_append_left _ (List.mem_append_left _ hp)) ex
  · intro p hp
    rw [List.append_assoc] at hp
    rcases List.mem_append.mp hp with hp | hp
    · obtain ⟨q, hq, e1⟩ := u'.fwd p hp
      have P := N q (List.mem_append_left _ (List.mem_append_left _ hq))
      exact ⟨ht' p hp, by rw [e1]; exact P.2.1, by rw [e1]; exact P.2.2⟩
    · have P := N p (by rw [List.append_assoc]; exact List.mem_append_right _ hp)
      refine ⟨b.stay _ _ ((TI.gone_get ?_).trans P.1), P.2⟩
      rw [hFA]
      intro hm
      rcases List.mem_cons.mp hm with q | hm
      · exact P.2.1 q
      · refine nd.2.2 p.1 hm p.1 ?_ rfl
        rcases List.mem_append.mp hp with hp | hp
        · exact List.mem_append_left _ (List.mem_map_of_mem hp)
        · exact List.mem_append_right _ (List.of_mem_zip (show (p.1, p.2) ∈ _ from hp)).1
  · rw [List.map_append, su_addrs u', ← List.map_append]
    exact a5
theorem Fly.st (ok : Ok G c d) (f : Fly c mr ρ H C as e h) : St c mr ρ H h := by
  obtain ⟨hB, t, vs, b, _⟩ := f.split
  exact b.st' ok
theorem FlyB.base (b : FlyB c mr ρ H as e h hB t vs) : (TI.gone hB (FA c)).get? e = none := TI.none_of (fun _ _ q => (TI.gone_some q).2) b.en
theorem FlyB.on {h' : Heap} (b : FlyB c mr ρ H as e h hB t vs) (up : h.UpToSlots h') (st : (TI.gone hB (FA c)).StaysIn h') : FlyB c mr ρ H as e h' hB t vs :=
  ⟨b.st, b.vr, b.en, b.tn, b.tup.of_slots up, b.up.trans up, st⟩
end
section
variable {c : Cx} {mr : Str → Option Value} {ρ : List Addr} {H : MH} {C : Addr} {as : List MV} {e : Addr} {G : Gx} {d : Nat} {M : Model} {A : Around} {s : Shared} {Q : Unit → Shared → Prop} {E : Value → Shared → Prop}
theorem setFlightW {base : Heap} {cls a0 fl : Value} (o : Option Addr) (hkb : base.StaysIn s.heap) (ht : s.heap.TracedAtW base e cls a0 fl)
    (h : ∀ h', base.StaysIn h' → h'.TracedAtW base e cls a0 (o.elim .none fun f => rawInt f) → (∀ b x, s.heap.get? b = some x → (∀ vs, x.data ≠ .fields vs) → h'.get? b = some x) → Q () { s with heap := h' }) :
    wpAny M A (setFlight (.ref e) o) Q E s := by
  obtain ⟨oe, vs, T, oT, ts, he, hcls, hd, h1, hnT, hTe, hT, hdT, h3⟩ := ht
  have hsz3 : 3 < ts.size := (Array.getElem?_eq_some_iff.mp h3).1
  have other : ∀ b, b ≠ T → (s.heap.update T (Obj.mapFields (·.setIfInBounds 3 (o.elim Value.none fun f => rawInt f)))).get? b = s.heap.get? b :=
    fun b hb => Heap.get?_update_other _ _ (Ne.symm hb)
  have noRecord : ∀ b o, s.heap.get? b = some o → (∀ vs, o.data ≠ .fields vs) → b ≠ T := fun b o hb hnf q => by
    rw [q, hT] at hb; injection hb with hb; subst hb; exact hnf ts hdT
  unfold setFlight
  refine wpAny_bind (wpAny_field he hd h1 ?_)
  rw [if_pos (show (Value.ref T != Value.none) = true from by simp)]
  refine wpAny_setField hT hdT hsz3 (h _ (fun b o hbo => (other b fun q => by rw [q, hnT] at hbo; cases hbo).trans (hkb b o hbo)) ?_ fun b o hb hnf => (other b (noRecord b o hb hnf)).trans hb)
  exact ⟨oe, vs, T, _, _, (other e (Ne.symm hTe)).trans he, hcls, hd, h1, hnT, hTe, Heap.get?_update_self _ hT (Obj.isFreed_of_fields (Obj.data_mapFields hdT _)), Obj.data_mapFields hdT _, by simp [hsz3]⟩
theorem FlyH.flight {fl : Value} (o : Option Addr) (f : FlyH c mr ρ H C as e fl s.heap) (k : ∀ h', FlyH c mr ρ H C as e (o.elim .none fun f => rawInt f) h' → Q () { s with heap := h' }) : wpAny M A (setFlight (.ref e) o) Q E s := by
  obtain ⟨hB, t, vs, b, x⟩ := f
  exact setFlightW o b.stay x fun h' k1 k2 k3 => k h' ⟨hB, t, vs, b.on (fun a x ha hn => ⟨x.slots, k3 a x ha hn⟩) k1, k2⟩
theorem Fly.note (ok : Ok G c d) (hfm : c.fm = none) (hA : A.frames = c.A.frames) (f : Fly c mr ρ H C as e s.heap) (k : ∀ h', FlyH c mr ρ H C as e (rawInt c.L) h' → Q () { s with heap := h' }) :
    wpAny M A (noteFrame (.ref e) c.env) Q E s := by
  obtain ⟨hB, t, vs, b, x⟩ := f.split
  obtain ⟨env₀, outer, hA0, hf, he0, hFF⟩ := b.frames ok
  have he1 := he0 hfm
  subst he1
  rw [hA0] at hA
  rcases x with ⟨oe, ws, q1, q2, q3, q4, q5⟩ | ⟨fl, x, rfl | rfl⟩
  · unfold noteFrame
    simp only [hf]
    refine wpAny_bind (wpAny_field q1 q3 q5 ?_)
    rw [if_neg (by decide)]
    refine wpAny_entryW (a0 := .ref t) hA hFF hf q1 b.stay b.base q3 (Array.getElem?_eq_some_iff.mp q5).1 q4 fun h' hN => ?_
    obtain ⟨k1, k2, k3, k4⟩ := hN
    rw [q2] at k3
    exact k h' ⟨hB, t, vs, b.on k4 k1, k3⟩
  · refine wpAny_noteFrame_onW hA hFF hf x b.stay b.base fun h' hN => ?_
    obtain ⟨k1, k2, k3, k4⟩ := hN
    exact k h' ⟨hB, t, vs, b.on k4 k1, k3⟩
  · exact wpAny_noteFrame_againW hf x (k s.heap ⟨hB, t, vs, b, x⟩)
theorem Fly.leave (ok : Ok G c d) (hfm : c.fm = none) (hA : A.frames = c.A.frames) (f : Fly c mr ρ H C as e s.heap) (k : ∀ h', FlyH c mr ρ H C as e .none h' → Q () { s with heap := h' }) :
    wpAny M A (leaving c.env (.ref e)) Q E s := by
  unfold leaving
  refine wpAny_bind (f.note ok hfm hA fun h' f' => ?_)
  exact f'.flight none k
theorem Kx.pass (ok : Ok G c d) (hfm : c.fm = none) {A' : Around} (hA : A.frames = c.A.frames) (k : Kx c ρ s E) : Kx c ρ s (notedBy M A c.env (cameBackBy M A' c.env E)) := by
  intro t C as e m' mr' H' h' tk hX hF hL
  obtain ⟨_, _, _, _, _, _, he⟩ := ok.frames
  have hfr : c.env.frame = some c.L := by
    obtain ⟨env₀, outer, _, hf, _, _, he⟩ := ok.frames
    rw [← he hfm]; exact hf
  unfold notedBy
  refine Fly.note (s := { s with heap := h', toks := tk }) ok hfm hA hF fun h2 f2 => ?_
  unfold cameBackBy
  obtain ⟨hB, t', vs, b, x⟩ := id f2
  obtain ⟨oe, ws, T, oT, ts, q1, q2, q3, q4, q5, q6, q7, q8, q9⟩ := id x
  refine wpAny_bind (wpAny_field q1 q3 q4 ?_)
  rw [if_neg (by simp)]
  rw [hfr]
  refine FlyH.flight (s := { s with heap := h2, toks := tk }) (some c.L) f2 fun h3 f3 => ?_
  exact k t C as e m' mr' H' h3 tk hX (f3.fly (.inr rfl)) hL
end
structure Over (c c' : Cx) (mr ml : Str → Option Value) (fr ex : List (Addr × Obj)) (oL : Obj) : Prop where
  prog : c'.prog = c.prog
  w : c'.w = c.w
  h₀ : c'.h₀ = c.h₀
  fr' : c'.fr = (c.L, oL) :: fr
  xt' : c'.xt = c.xt ++ ex
  su : TI.SameUp c.fr fr
  own : Own c mr ml ex
  ns : ∀ (h : Heap) sl, h.get? c.L = some { oL with slots := sl } → h.Ns c.L ml
  above : c.h₀.objs.size ≤ c.L
theorem Over.back {c c' : Cx} {mr ml mr' : Str → Option Value} {fr ex : List (Addr × Obj)} {oL : Obj} {ρ : List Addr} {H : MH} {h h' : Heap} (O : Over c c' mr ml fr ex oL) (S : St c' mr' ρ H h)
    (hk : ∀ b o, b ≠ c'.L → h.get? b = some o → h'.get? b = some o) : St c mr ρ H h' := by
  obtain ⟨ml', fr', ex', own', u', F', os, a1, a2, a3, N', a5⟩ := S
  obtain ⟨ep, ew, e0, ef, ex0, su, own, ns, above⟩ := O
  rw [ef] at u'
  cases fr' with
  | nil => exact False.elim u'
  | cons q fr'' =>
    obtain ⟨u1, ⟨sl, u2⟩, u3⟩ := u'
    obtain ⟨qa, qo⟩ := q
    simp only at u1 u2
    subst u1 u2
    have hmem : ∀ p ∈ (fr'' ++ (c.xt ++ ex)) ++ ρ.zip os, p ∈ ((c.L, { oL with slots := sl }) :: fr'' ++ (c'.xt ++ ex')) ++ ρ.zip os := by
      intro p hp
      rw [ex0]
      simp only [List.mem_append, List.mem_cons, List.cons_append] at hp ⊢
      rcases hp with (hp | hp | hp) | hp <;> simp [hp]
    have hL := N' (c.L, { oL with slots := sl }) (List.mem_append_left _ (.head _))
    have hnd : (c.L :: ((fr'' ++ (c.xt ++ ex)).map (·.1) ++ ρ)).Nodup := by
      refine List.Nodup.sublist ?_ a5
      rw [ex0]
      simp only [List.cons_append, List.map_cons, List.map_append, List.append_assoc]
      refine List.Sublist.cons_cons _ ?_
      refine List.Sublist.append (List.Sublist.refl _) ?_
      refine List.Sublist.append (List.Sublist.refl _) ?_
      refine List.Sublist.append (List.Sublist.refl _) ?_
      exact List.sublist_append_right _ _
    rw [List.nodup_cons] at hnd
    refine ⟨ml, fr'', ex, own, su.trans u3, ⟨ns _ sl (hk _ _ hL.2.1 hL.1), fun b o e => hk b o ?_ (F'.keep b o (by rw [e0]; exact e)), above⟩, os, a1, a2, ?_, ?_, hnd.2⟩
    · rintro rfl
      have := F'.above
      rw [e0] at this
      exact absurd (Heap.lt_size e) (Nat.not_lt.mpr this)
    · rw [← ep, ← ew]; exact a3
    · intro p hp
      have P := N' p (hmem p hp)
      refine ⟨hk _ _ P.2.1 P.1, ?_, by rw [← e0]; exact P.2.2⟩
      intro q
      refine hnd.1 ?_
      rw [← q]
      rcases List.mem_append.mp hp with hp | hp
      · exact List.mem_append_left _ (List.mem_map_of_mem hp)
      · exact List.mem_append_right _ (List.of_mem_zip (show (p.1, p.2) ∈ _ from hp)).1
theorem Over.fly {c c' : Cx} {mr ml mr' : Str → Option Value} {fr ex : List (Addr × Obj)} {oL : Obj} {ρ : List Addr} {H : MH} {C : Addr} {as : List MV} {e : Addr} {h : Heap} (O : Over c c' mr ml fr ex oL)
    (f : FlyH c' mr' ρ H C as e .none h) : Fly c mr ρ H C as e h := by
  obtain ⟨hB, t, vs, b, x⟩ := f
  have hg : ∀ b o, (TI.gone hB [c'.L]).get? b = some o → b ≠ c'.L ∧ hB.get? b = some o := fun b o q => by
    obtain ⟨h1, h2⟩ := TI.gone_some q
    exact ⟨fun e => h1 (by rw [e]; exact .head _), h2⟩
  have hin : ∀ b o, (TI.gone (TI.gone hB [c'.L]) (FA c)).get? b = some o → (TI.gone hB (FA c')).get? b = some o := fun b o q => by
    obtain ⟨h1, h2⟩ := TI.gone_some q
    obtain ⟨h3, h4⟩ := hg b o h2
    refine (TI.gone_get ?_).trans h4
    unfold FA at h1 ⊢
    rw [O.fr', List.map_cons, su_addrs O.su]
    intro hm
    rcases List.mem_cons.mp hm with q | hm
    · exact h3 q
    · exact h1 hm
  refine FlyB.fly (hB := TI.gone hB [c'.L]) (t := t) (vs := vs) ⟨O.back b.st fun b o hb q => (TI.gone_get (by simpa using hb)).trans q, b.vr, TI.none_of (fun b o q => (hg b o q).2) b.en, TI.none_of (fun b o q => (hg b o q).2) b.tn, b.tup,
    fun a o q hn => b.up a o (hg a o q).2 hn, fun a o q => b.stay a o (hin a o q)⟩ (.inr ⟨.none, ?_, .inl rfl⟩)
  obtain ⟨oe, ws, T, oT, ts, q1, q2, q3, q4, q5, q6, q7, q8, q9⟩ := x
  exact ⟨oe, ws, T, oT, ts, q1, q2, q3, q4, TI.none_of hin q5, q6, q7, q8, q9⟩
noncomputable def CL (G : Gx) (prog : Program) (w : World) (d : Nat) (f : Addr) (args : List MV) (H : MH) (post : MV → MH → Prop) (xp : Addr → List MV → MH → Prop) : Prop :=
  ∀ (c : Cx) (mr : Str → Option Value) (ρ : List Addr) (s : Shared) (Q : Value → Shared → Prop) (E : Value → Shared → Prop) (vs : List Value), c.prog = prog → c.w = w → Ok G c d → St c mr ρ H s.heap → VRs ρ args vs →
    (∀ t v vr H' h' tk, post v H' → VR (ρ ++ t) v vr → St c mr (ρ ++ t) H' h' → Q vr { s with heap := h', toks := tk }) →
    (∀ t C as e H' h' tk, xp C as H' → Fly c mr (ρ ++ t) H' C as e h' → E (.ref e) { s with heap := h', toks := tk }) →
    codeAny (model prog w) c.A (.call (.ref f) ⟨vs, []⟩) (fun r s' => match r with | .ok (.ret v) => Q v s' | .ok _ => False | .error e => E e s') s
theorem CL.mono {G : Gx} {prog : Program} {w : World} {d : Nat} {f : Addr} {args : List MV} {H : MH} {p q : MV → MH → Prop} {xp xq : Addr → List MV → MH → Prop} (h : CL G prog w d f args H p xp) (hp : ∀ v H', p v H' → q v H')
    (hx : ∀ C as H', xp C as H' → xq C as H') : CL G prog w d f args H q xq :=
  fun c mr ρ s Q E vs e1 e2 o S l k kx => h c mr ρ s Q E vs e1 e2 o S l (fun t v vr H' h' tk hv => k t v vr H' h' tk (hp _ _ hv)) fun t C as e H' h' tk hv => kx t C as e H' h' tk (hx _ _ _ hv)
inductive Fl where
  | next
  | brk
  | cont
  | ret (v : MV)
noncomputable def FlR (ρ : List Addr) : Fl → Flow → Prop
  | .next, f => f = .next
  | .brk, f => f = .brk
  | .cont, f => f = .cont
  | .ret m, f => ∃ v, f = .ret v ∧ VR ρ m v
noncomputable def retv : Fl → MV
  | .ret v => v
  | _ => .none
noncomputable def EX (c : Cx) (m : ML) (ss : List Stmt) (H : MH) (post : Fl → ML → MH → Prop) : Prop :=
  ∀ (mr : Str → Option Value) (ρ : List Addr) (s : Shared) (Q : Flow → Shared → Prop) (E : Value → Shared → Prop), St c mr ρ H s.heap → LR mr c.nm ρ m →
    (∀ t f fr m' mr' H' h' tk, post f m' H' → FlR (ρ ++ t) f fr → St c mr' (ρ ++ t) H' h' → LR mr' c.nm (ρ ++ t) m' → Q fr { s with heap := h', toks := tk }) → Kx c ρ s E →
    wpAny (model c.prog c.w) c.A (execs ss c.env) Q E s
theorem bindL_off {k : Str → Option NameKind} {x : Str} : ∀ {names : List Str} {vals : List Value} {m₀ : Str → Option Value}, x ∉ names → bindL k (names.zip vals) m₀ x = m₀ x
  | [], _, _, _ => rfl
  | _ :: _, [], _, _ => rfl
  | n :: ns, v :: vs, m₀, h => by
    have hn : x ≠ n := fun e => h (e ▸ .head _)
    rw [List.zip_cons_cons]
    unfold bindL
    rw [bindL_off fun q => h (.tail _ q)]
    split <;> simp [hn]
theorem bindC_off {k : Str → Option NameKind} {x : Str} : ∀ {names : List Str} {vals : List Value} {m₀ : Str → Option Value}, x ∉ names → bindC k (names.zip vals) m₀ x = m₀ x
  | [], _, _, _ => rfl
  | _ :: _, [], _, _ => rfl
  | n :: ns, v :: vs, m₀, h => by
    have hn : x ≠ n := fun e => h (e ▸ .head _)
    rw [List.zip_cons_cons]
    unfold bindC
    rw [bindC_off fun q => h (.tail _ q)]
    split <;> simp [hn]
theorem bindL_at {k : Str → Option NameKind} {x : Str} {v : Value} (hk : k x = some .local) : ∀ {names : List Str} {vals : List Value} {i : Nat} {m₀ : Str → Option Value}, names.Nodup → names[i]? = some x → vals[i]? = some v → bindL k (names.zip vals) m₀ x = some v
  | [], _, _, _, _, e, _ => by simp at e
  | _ :: _, [], _, _, _, _, e => by simp at e
  | n :: ns, u :: us, 0, m₀, hn, e1, e2 => by
    simp at e1 e2
    subst e1 e2
    rw [List.zip_cons_cons]
    unfold bindL
    rw [bindL_off (List.nodup_cons.mp hn).1, if_pos hk]
    simp
  | n :: ns, u :: us, i + 1, m₀, hn, e1, e2 => by
    rw [List.zip_cons_cons]
    unfold bindL
    exact bindL_at hk (List.nodup_cons.mp hn).2 (by simpa using e1) (by simpa using e2)
theorem bindC_at {k : Str → Option NameKind} {x : Str} {v : Value} (hk : k x ≠ some .local) : ∀ {names : List Str} {vals : List Value} {i : Nat} {m₀ : Str → Option Value}, names.Nodup → names[i]? = some x → vals[i]? = some v → bindC k (names.zip vals) m₀ x = some v
  | [], _, _, _, _, e, _ => by simp at e
  | _ :: _, [], _, _, _, _, e => by simp at e
  | n :: ns, u :: us, 0, m₀, hn, e1, e2 => by
    simp at e1 e2
    subst e1 e2
    rw [List.zip_cons_cons]
    unfold bindC
    rw [bindC_off (List.nodup_cons.mp hn).1, if_neg hk]
    simp
  | n :: ns, u :: us, i + 1, m₀, hn, e1, e2 => by
    rw [List.zip_cons_cons]
    unfold bindC
    exact bindC_at hk (List.nodup_cons.mp hn).2 (by simpa using e1) (by simpa using e2)
theorem cells_get {cm : Str → Option Value} {x : Str} {a : Addr} : ∀ {cs : List (Str × Addr)} {cells : List (Addr × Obj)}, CellsAre cm cs cells → cs.lookup x = some a → ∃ o, (a, o) ∈ cells ∧ o.data = .cell (cm x)
  | _, _, .nil, h => by cases h
  | _, _, .cons (n := n) (c := b) (o := o) hd X, h => by
    rw [List.lookup_cons] at h
    by_cases e : x = n
    · subst e
      simp at h
      subst h
      exact ⟨o, .head _, hd⟩
    · have hb : (x == n) = false := by simpa using e
      rw [hb] at h
      obtain ⟨o', h1, h2⟩ := cells_get X h
      exact ⟨o', .tail _ h1, h2⟩
theorem cells_addrs {cm : Str → Option Value} : ∀ {cs : List (Str × Addr)} {cells : List (Addr × Obj)}, CellsAre cm cs cells → cells.map (·.1) = cs.map (·.2)
  | _, _, .nil => rfl
  | _, _, .cons hd X => by simp only [List.map_cons, cells_addrs X]
noncomputable def start (nm : List Str) (args : List MV) : ML := args.map some ++ List.replicate (nm.length - args.length) none
noncomputable def fnb (scope : Scope) (names nm : List Str) : Bool :=
  names == nm.take names.length && decide nm.Nodup && names.all (fun x => stb scope x) && !scope.isCoroutine && !scope.isGenerator && scope.kind == .function &&
    decide (((cellsFrom 0 scope.names []).map (·.1)).Nodup) && scope.names.all (fun p => p.2 != .free)
theorem nofree {x : Str} : ∀ {l : List (Str × NameKind)}, l.all (fun p => p.2 != .free) = true → l.lookup x ≠ some .free
  | [], _, h => by cases h
  | (y, k) :: r, h, e => by
    simp only [List.all_cons, Bool.and_eq_true] at h
    rw [List.lookup_cons] at e
    by_cases q : x = y
    · subst q
      simp at e
      rw [e] at h
      exact absurd h.1 (by decide)
    · have hb : (x == y) = false := by simpa using q
      rw [hb] at e
      exact nofree h.2 e
theorem CL.body {G : Gx} {prog : Program} {w : World} {d : Nat} {f : Addr} {args : List MV} {H : MH} {post : MV → MH → Prop} {xp : Addr → List MV → MH → Prop}
    {name qual : Str} {params : Arguments} {body : List Stmt} {scope : Scope} {dV kV doc pm cdv ct oc : Value} {an od : Option Addr} {osl : Array (Option Value)} {names nm : List Str} {dm : List MV} {dv : List Value}
    (hf : G.K.lookup f = some ⟨oc, od, .func (fnOf name qual params body scope dV kV doc pm an cdv ct), osl⟩) (hcd : codeIn G.K cdv qual = true)
    (hb : ∀ (s : Shared) (vs : List Value), G.K.In s.heap → vs.length = args.length → BindsTo s (fnOf name qual params body scope dV kV doc pm an cdv ct) ⟨vs, []⟩ (names.zip (vs ++ dv)))
    (hdm : VRs [] dm dv) (hl : (args ++ dm).length = names.length) (hfn : fnb scope names nm = true)
    (h : ∀ c : Cx, c.prog = prog → c.w = w → Ok G c d → c.fm = none → c.nm = nm → c.sc = scope → c.X = (fun C as _ H => xp C as H) → EX c (start nm (args ++ dm)) body H (fun fl _ H' => post (retv fl) H')) :
    CL G prog w (d + 1) f args H post xp := by
  intro c mr ρ s Q E vs ep ew ok S hvs k kx
  subst ep ew
  unfold fnb at hfn
  simp only [Bool.and_eq_true, beq_iff_eq, decide_eq_true_eq, Bool.not_eq_true', List.all_eq_true] at hfn
  obtain ⟨⟨⟨⟨⟨⟨⟨hn1, hn2⟩, hn3⟩, hco⟩, hgen⟩, hk⟩, hnd⟩, hnf⟩ := hfn
  have hnf' : scope.names.all (fun p => p.2 != .free) = true := List.all_eq_true.mpr hnf
  obtain ⟨ml, fr, ex, own, u, F, os, a1, a2, a3, N, a5⟩ := id S
  obtain ⟨env₀, outer, hA, hfr, hkf, Fs, _⟩ := ok.frames
  have X := ok.kin.keeps F.keep
  have hnn : names.Nodup := by rw [hn1]; exact (List.take_sublist _ _).nodup hn2
  have hvd : VRs ρ (args ++ dm) (vs ++ dv) := hvs.append (by simpa using hdm.mono (t := ρ))
  have hlen : (vs ++ dv).length = names.length := by rw [hvd.length, hl]
  have hmemn : ∀ x ∈ names.zip (vs ++ dv), scope.names.lookup x.1 = some .local ∨ scope.names.lookup x.1 = some .cell := fun x hx => by
    have := hn3 x.1 (List.of_mem_zip (show (x.1, x.2) ∈ _ from hx)).1
    unfold stb at this
    simpa using this
  refine codeAny_call_function (by have := ok.dep; omega) (X _ _ hf) rfl hco hgen rfl (codeRec_of X hcd) (hb s vs X hvs.length _ _ _ _ ?_)
  refine wpAny_newFunctionEnv_cells hk (fun x hx => (hmemn x hx).imp id fun q => ⟨q, cellsFrom_some _ _ _ (.inl q)⟩) fun env' he s' x => ?_
  subst he
  refine ⟨(ok.top.nolimit.keeps F.keep).keeps x.toInCall.keep, codeAny_func ?_⟩
  obtain ⟨h₁, tk, rfl, hk₁⟩ := x.done
  obtain ⟨cells, NC, Y⟩ := Cl.news (h₀ := s.heap) (Nat.le_refl _) fun n c hm => ⟨x.cell n c (lookup_of_mem_nodup (cellsFrom_names scope.names 0 (s.heap.objs.size + 1) [] [] rfl ▸ hnd) hm), x.above n c hm⟩
  obtain ⟨oL, es, eP, hL, hLd, hLk, hLf⟩ := F.ns
  have hLt := Heap.lt_size hL
  let env' : Env := envOfC qual scope s.heap.objs.size f cdv
  let mr' : Str → Option Value := fun y => if env'.kindOf y = some .local then bindL env'.kindOf (names.zip (vs ++ dv)) (fun _ => none) y else bindC env'.kindOf (names.zip (vs ++ dv)) (fun _ => none) y
  let c' : Cx := { prog := c.prog, w := c.w, A := c.A.deeper env', env := env', h₀ := c.h₀, L := s.heap.objs.size, fm := none, fr := (c.L, oL) :: fr, xt := c.xt ++ ex, X := fun C as _ H => xp C as H, nm := nm, sc := scope }
  have O : Over c c' mr ml fr ex oL := ⟨rfl, rfl, rfl, rfl, rfl, u, own, fun h' sl e => ⟨_, es, eP, e, hLd, hLk, hLf⟩, F.above⟩
  have ok' : Ok G c' d := by
    refine ⟨⟨env', env₀ :: outer, Around.frames_deeper hA, rfl, hk, ⟨by rw [hkf]; decide, hfr, ⟨es, eP, hLd⟩, Fs.up u⟩, fun _ => rfl⟩, ok.kin, ok.top, ok.hh, ?_, ?_, hk, rfl, rfl, fun _ => x.apart, fun _ => rfl, fun _ => rfl, ok.ex⟩
    · have := ok.dep
      show c.A.depth + 1 + d < recursionLimit
      omega
    · have := ok.uni
      show c.A.units + 3 + 8 * d + 64 < cLine
      omega
  have hall : ∀ p ∈ (fr ++ (c.xt ++ ex)) ++ ρ.zip os, h₁.get? p.1 = some p.2 ∧ p.1 ≠ s.heap.objs.size ∧ c.h₀.get? p.1 = none := fun p hp => ⟨hk₁ _ _ (N p hp).1, Nat.ne_of_lt (Heap.lt_size (N p hp).1), (N p hp).2.2⟩
  have S' : St c' mr' ρ H h₁ := by
    refine ⟨bindL env'.kindOf (names.zip (vs ++ dv)) (fun _ => none), (c.L, oL) :: fr, cells, ?_, TI.SameUp.refl _, ⟨x.toInCall.ns, fun b o e => hk₁ b o (F.keep b o e), Nat.le_trans F.above (Nat.le_of_lt hLt)⟩, os, a1, a2, a3, ?_, ?_⟩
    · refine ⟨rfl, fun y hy => ?_, fun y hy => ?_⟩
      · show _ = if env'.kindOf y = some .local then _ else _
        rw [if_pos hy]
      · rcases hy with hy | hy
        · have hs : ((cellsFrom (s.heap.objs.size + 1) scope.names []).lookup y).isSome = true := cellsFrom_some _ _ _ (.inl hy)
          obtain ⟨a, ha⟩ := Option.isSome_iff_exists.mp hs
          obtain ⟨o, h1, h2⟩ := cells_get Y ha
          refine ⟨a, o, ha, h1, h2.trans ?_⟩
          have hnl : ¬ env'.kindOf y = some .local := by
            intro q
            have q' : env'.kindOf y = some .cell := hy
            rw [q] at q'
            cases q'
          show _ = Data.cell (if env'.kindOf y = some .local then _ else _)
          rw [if_neg hnl]
          rfl
        · exact absurd hy (nofree hnf')
    · intro p hp
      replace hp : p ∈ (((c.L, oL) :: fr) ++ ((c.xt ++ ex) ++ cells)) ++ ρ.zip os := hp
      simp only [List.cons_append, List.append_assoc, List.mem_cons, List.mem_append] at hp
      rcases hp with rfl | hp | hp | hp | hp | hp
      · exact ⟨hk₁ _ _ hL, Nat.ne_of_lt hLt, Heap.get?_none_of_le F.above⟩
      · exact hall p (by simp [hp])
      · exact hall p (by simp [hp])
      · exact hall p (by simp [hp])
      · exact ⟨(NC p hp).1, (NC p hp).2.1, TI.none_of F.keep (NC p hp).2.2⟩
      · exact hall p (by simp [hp])
    · have hLn : c.L ∉ (fr ++ (c.xt ++ ex)).map (·.1) ++ ρ := fun q => by
        obtain ⟨p, hp, e⟩ := led_addr (os := os) a1 a2 q
        exact (N p hp).2.1 e
      have hcn : ∀ a ∈ cells.map (·.1), s.heap.get? a = none := fun a ha => by
        obtain ⟨p, hp, rfl⟩ := List.mem_map.mp ha
        exact (NC p hp).2.2
      have hcnd : (cells.map (·.1)).Nodup := by
        rw [cells_addrs Y]
        exact List.pairwise_map.mpr x.apart
      have hp : ((((c.L, oL) :: fr) ++ ((c.xt ++ ex) ++ cells)).map (·.1) ++ ρ).Perm (cells.map (·.1) ++ (c.L :: ((fr ++ (c.xt ++ ex)).map (·.1) ++ ρ))) := by
        simp only [List.map_append, List.map_cons, List.cons_append, List.append_assoc]
        have : ∀ (A B C R : List Addr), (A ++ (B ++ (C ++ R))).Perm (C ++ (A ++ (B ++ R))) := by
          intro A B C R
          have h1 : ((A ++ B) ++ C ++ R).Perm (C ++ (A ++ B) ++ R) := List.perm_append_comm.append_right R
          simpa [List.append_assoc] using h1
        have h2 := this (c.L :: fr.map (·.1)) (c.xt.map (·.1) ++ ex.map (·.1)) (cells.map (·.1)) ρ
        simpa [List.append_assoc] using h2
      rw [hp.nodup_iff, List.nodup_append]
      refine ⟨hcnd, List.nodup_cons.mpr ⟨hLn, a5⟩, fun a ha b hb e => ?_⟩
      subst e
      have h0 := hcn a ha
      rcases List.mem_cons.mp hb with q | q
      · rw [q, hL] at h0; cases h0
      · obtain ⟨p, hp, e⟩ := led_addr (os := os) a1 a2 q
        have := (N p hp).1
        rw [e, h0] at this
        cases this
  have l' : LR mr' nm ρ (start nm (args ++ dm)) := by
    have hle : names.length ≤ nm.length := by
      have := congrArg List.length hn1
      rw [List.length_take] at this
      omega
    refine ⟨by unfold start; rw [List.length_append, List.length_map, List.length_replicate]; omega, fun i y v e1 e2 => ?_⟩
    unfold start at e2
    by_cases hi : i < (args ++ dm).length
    · rw [List.getElem?_append_left (by rw [List.length_map]; exact hi), List.getElem?_map] at e2
      cases q : (args ++ dm)[i]? with
      | none => rw [q] at e2; cases e2
      | some v' =>
        rw [q] at e2
        cases e2
        obtain ⟨vr, g1, g2⟩ := hvd.get q
        have hy : names[i]? = some y := by
          rw [hn1, List.getElem?_take_of_lt (by rw [← hl]; exact hi)]
          exact slot_get e1
        refine ⟨vr, g2, ?_⟩
        show (if env'.kindOf y = some .local then _ else _) = _
        split
        · rename_i q; exact bindL_at q hnn hy g1
        · rename_i q; exact bindC_at q hnn hy g1
    · rw [List.getElem?_append_right (by rw [List.length_map]; omega), List.getElem?_replicate] at e2
      split at e2 <;> cases e2
  refine h c' rfl rfl ok' rfl rfl rfl rfl mr' ρ { s with heap := h₁, toks := tk } _ _ S' l' ?_ ?_
  · intro t fl fr' m' mr'' H' h' tk' hp hfl S2 _
    have S3 : St c mr (ρ ++ t) H' h' := O.back S2 fun b o _ q => q
    cases fl with
    | ret v =>
      obtain ⟨vr, rfl, hv⟩ := hfl
      exact k t v vr H' h' tk' hp hv S3
    | next => subst hfl; exact k t .none .none H' h' tk' hp rfl S3
    | brk => subst hfl; exact k t .none .none H' h' tk' hp rfl S3
    | cont => subst hfl; exact k t .none .none H' h' tk' hp rfl S3
  · intro t C as e m' mr'' H' h' tk' hX hF hL'
    refine Fly.leave (c := c') (s := { s with heap := h', toks := tk' }) ok' rfl rfl hF fun h2 f2 => ?_
    exact kx t C as e H' h2 tk' hX (O.fly f2)
mutual
inductive CE where
  | int (i : Int)
  | str (x : Str)
  | none
  | bool (b : Bool)
  | loc (i : Nat)
  | glob (x : Str)
  | bin (op : Operator) (a b : CE)
  | neg (a : CE)
  | tst (t : CT)
  | ite (t : CT) (a b : CE)
  | call (g : Str) (as : CEs)
  | meth (o : CE) (n : Str) (as : CEs)
  | attr (o : CE) (n : Str)
  | sub (o i : CE)
  | slice (o : CE) (lo hi : CO)
  | list (as : CEs)
  | tup (as : CEs)
  | dict0
  | comp (elt : CE) (tg : List Str) (it : CE) (cs : CTs)
inductive CEs where
  | nil
  | cons (e : CE) (r : CEs)
inductive CO where
  | none
  | some (e : CE)
inductive CT where
  | cmp (op : CmpOp) (a b : CE)
  | cmp2 (a : CE) (o1 : CmpOp) (b : CE) (o2 : CmpOp) (c : CE)
  | not (t : CT)
  | and (ts : CTs)
  | or (ts : CTs)
  | plain (e : CE)
inductive CTs where
  | nil
  | cons (t : CT) (r : CTs)
end
mutual
inductive CS where
  | assign (i : Nat) (e : CE)
  | assignT (is : List Nat) (e : CE)
  | setItem (o i e : CE)
  | setAttr (o : CE) (n : Str) (e : CE)
  | swap (o1 i1 o2 i2 e1 e2 : CE)
  | expr (e : CE)
  | ite (t : CT) (a b : CSs)
  | while (t : CT) (b : CSs)
  | for (tg : List Nat) (it : CE) (b : CSs)
  | ret (e : CE)
  | ret0
  | raise (g : Str) (as : CEs)
  | raiseFrom (g : Str) (as : CEs) (c : CE)
  | try (b : CSs) (h : CHs)
  | brk
  | cont
  | pass
inductive CSs where
  | nil
  | cons (s : CS) (r : CSs)
inductive CHs where
  | nil
  | cons (g : Str) (x : Option Nat) (b : CSs) (r : CHs)
end
noncomputable def kids : PySem.Expr → List PySem.Expr
  | .BinOp l _ r _ => [l, r]
  | .UnaryOp _ x _ => [x]
  | .IfExp a b c _ => [a, b, c]
  | .Compare l _ rs _ => l :: rs
  | .Call f as _ _ => f :: as
  | .Attribute o _ _ => [o]
  | .Subscript o i _ => [o, i]
  | .List es _ => es
  | .Tuple es _ _ => es
  | .BoolOp _ es _ => es
  | .ListComp el [⟨t, i, ifs, _⟩] _ _ => el :: t :: i :: ifs
  | .Slice l h _ _ => l.toList ++ h.toList
  | _ => []
noncomputable def numOf : PySem.Expr → Nat
  | .Constant _ k _ => k
  | .Tuple _ k _ => k
  | _ => 0
noncomputable def scOf : PySem.Expr → Scope
  | .ListComp _ _ s _ => s
  | _ => default
noncomputable def kid (i : Nat) (e : PySem.Expr) : PySem.Expr := (kids e).getD i e
noncomputable def nth (i : Nat) (es : List PySem.Expr) : PySem.Expr := es.getD i (.Name "" default)
noncomputable def reNames (ns : List Str) (es : List PySem.Expr) : List PySem.Expr := match ns with
  | [] => []
  | x :: r => .Name x (nth 0 es).pos :: reNames r es.tail
noncomputable def reTg (ns : List Str) (e : PySem.Expr) : PySem.Expr := match ns with
  | [x] => .Name x e.pos
  | ns => .Tuple (reNames ns (kids e)) (numOf e) e.pos
mutual
noncomputable def reE : CE → List Str → PySem.Expr → PySem.Expr
  | .int i => fun _ e => .Constant (.int i) (numOf e) e.pos
  | .str x => fun _ e => .Constant (.str x) (numOf e) e.pos
  | .none => fun _ e => .Constant .none (numOf e) e.pos
  | .bool b => fun _ e => .Constant (.bool b) (numOf e) e.pos
  | .loc i => fun nm e => .Name (nm.getD i "") e.pos
  | .glob x => fun _ e => .Name x e.pos
  | .bin op a b => fun nm e => .BinOp (reE a nm (kid 0 e)) op (reE b nm (kid 1 e)) e.pos
  | .neg a => fun nm e => .UnaryOp .USub (reE a nm (kid 0 e)) e.pos
  | .tst t => fun nm e => reT t nm e
  | .ite t a b => fun nm e => .IfExp (reT t nm (kid 0 e)) (reE a nm (kid 1 e)) (reE b nm (kid 2 e)) e.pos
  | .call g as => fun nm e => .Call (.Name g (kid 0 e).pos) (reEs as nm (kids e).tail) [] e.pos
  | .meth o n as => fun nm e => .Call (.Attribute (reE o nm (kid 0 (kid 0 e))) n (kid 0 e).pos) (reEs as nm (kids e).tail) [] e.pos
  | .attr o n => fun nm e => .Attribute (reE o nm (kid 0 e)) n e.pos
  | .sub o i => fun nm e => .Subscript (reE o nm (kid 0 e)) (reE i nm (kid 1 e)) e.pos
  | .slice o lo hi => fun nm e => .Subscript (reE o nm (kid 0 e)) (.Slice (reO lo nm (nth 0 (kids (kid 1 e)))) (reO hi nm (nth 0 (kids (kid 1 e)).reverse)) Option.none (kid 1 e).pos) e.pos
  | .list as => fun nm e => .List (reEs as nm (kids e)) e.pos
  | .tup as => fun nm e => .Tuple (reEs as nm (kids e)) (numOf e) e.pos
  | .dict0 => fun _ e => .Dict [] [] e.pos
  | .comp elt tg it cs => fun nm e => .ListComp (reE elt (nm ++ tg) (kid 0 e)) [⟨reTg tg (kid 1 e), reE it nm (kid 2 e), reTs cs (nm ++ tg) ((kids e).drop 3), 0⟩] (scOf e) e.pos
noncomputable def reEs : CEs → List Str → List PySem.Expr → List PySem.Expr
  | .nil => fun _ _ => []
  | .cons a r => fun nm es => reE a nm (nth 0 es) :: reEs r nm es.tail
noncomputable def reO : CO → List Str → PySem.Expr → Option PySem.Expr
  | .none => fun _ _ => Option.none
  | .some a => fun nm e => Option.some (reE a nm e)
noncomputable def reT : CT → List Str → PySem.Expr → PySem.Expr
  | .cmp op a b => fun nm e => .Compare (reE a nm (kid 0 e)) [op] [reE b nm (kid 1 e)] e.pos
  | .cmp2 a o1 b o2 c => fun nm e => .Compare (reE a nm (kid 0 e)) [o1, o2] [reE b nm (kid 1 e), reE c nm (kid 2 e)] e.pos
  | .not t => fun nm e => .UnaryOp .Not (reT t nm (kid 0 e)) e.pos
  | .and ts => fun nm e => .BoolOp .And (reTs ts nm (kids e)) e.pos
  | .or ts => fun nm e => .BoolOp .Or (reTs ts nm (kids e)) e.pos
  | .plain a => fun nm e => reE a nm e
noncomputable def reTs : CTs → List Str → List PySem.Expr → List PySem.Expr
  | .nil => fun _ _ => []
  | .cons t r => fun nm es => reT t nm (nth 0 es) :: reTs r nm es.tail
end
noncomputable def notSup : PySem.Expr → Bool
  | .Call (.Name _ _) [] [] _ => false
  | _ => true
noncomputable def notSlice : PySem.Expr → Bool
  | .Slice .. => false
  | _ => true
noncomputable def notStar : PySem.Expr → Bool
  | .Starred .. => false
  | _ => true
noncomputable def notComp : PySem.Expr → Bool
  | .ListComp .. => false
  | .SetComp .. => false
  | .DictComp .. => false
  | _ => true
noncomputable def plainX : PySem.Expr → Bool
  | .UnaryOp .Not _ _ => false
  | .BoolOp .. => false
  | .IfExp .. => false
  | .Compare .. => false
  | _ => true
noncomputable def nonPlain : CT → Bool
  | .plain _ => false
  | _ => true
noncomputable def plainC : CE → Bool
  | .tst _ => false
  | .ite .. => false
  | _ => true
noncomputable def nsup : CE → Bool
  | .call _ .nil => false
  | _ => true
noncomputable def okNames (p : Str → Bool) : List Str → Bool
  | [] => true
  | x :: r => p x && !r.contains x && okNames p r
noncomputable def compb (sc scope : Scope) (tg : List Str) : Bool :=
  scope.kind == .function && scope.names.all fun p => match p.2 with
    | .local => (p.1 == (".0" : Str) || tg.contains p.1) && scope.names.lookup p.1 == some .local
    | .free => kcl (sc.names.lookup p.1) == 2 && !tg.contains p.1
    | .globalImplicit => true
    | _ => false
noncomputable def lenEs : CEs → Nat
  | .nil => 0
  | .cons _ r => lenEs r + 1
noncomputable def okSlot (nm : List Str) (i : Nat) : Bool := slot nm (nm.getD i "") == some i
mutual
noncomputable def wfE : CE → List Str → Scope → PySem.Expr → Bool
  | .int _ => fun _ _ _ => true
  | .str _ => fun _ _ _ => true
  | .none => fun _ _ _ => true
  | .bool _ => fun _ _ _ => true
  | .loc i => fun nm sc _ => okSlot nm i && rdb sc (nm.getD i "")
  | .glob x => fun _ sc _ => glb sc x
  | .bin _ a b => fun nm sc e => wfE a nm sc (kid 0 e) && wfE b nm sc (kid 1 e)
  | .neg a => fun nm sc e => wfE a nm sc (kid 0 e)
  | .tst t => fun nm sc e => nonPlain t && wfT t nm sc e
  | .ite t a b => fun nm sc e => wfT t nm sc (kid 0 e) && wfE a nm sc (kid 1 e) && wfE b nm sc (kid 2 e)
  | .call g as => fun nm sc e => glb sc g && wfEs as nm sc (kids e).tail
  | .meth o _ as => fun nm sc e => nsup o && (kid 0 e).pos.endLine == e.pos.line && lenEs as < 30 && wfE o nm sc (kid 0 (kid 0 e)) && wfEs as nm sc (kids e).tail
  | .attr o _ => fun nm sc e => nsup o && wfE o nm sc (kid 0 e)
  | .sub o i => fun nm sc e => wfE o nm sc (kid 0 e) && wfE i nm sc (kid 1 e)
  | .slice o lo hi => fun nm sc e => wfE o nm sc (kid 0 e) && wfO lo nm sc (nth 0 (kids (kid 1 e))) && wfO hi nm sc (nth 0 (kids (kid 1 e)).reverse)
  | .list as => fun nm sc e => wfEs as nm sc (kids e)
  | .tup as => fun nm sc e => wfEs as nm sc (kids e)
  | .dict0 => fun _ _ _ => true
  | .comp elt tg it cs => fun nm sc e => !nm.contains (".0" : Str) && !tg.isEmpty && okNames (fun x => (scOf e).names.lookup x == some .local) tg && compb sc (scOf e) tg && wfE it nm sc (kid 2 e) && wfTs cs (nm ++ tg) (scOf e) ((kids e).drop 3) && wfE elt (nm ++ tg) (scOf e) (kid 0 e)
noncomputable def wfEs : CEs → List Str → Scope → List PySem.Expr → Bool
  | .nil => fun _ _ _ => true
  | .cons a r => fun nm sc es => wfE a nm sc (nth 0 es) && wfEs r nm sc es.tail
noncomputable def wfO : CO → List Str → Scope → PySem.Expr → Bool
  | .none => fun _ _ _ => true
  | .some a => fun nm sc e => wfE a nm sc e
noncomputable def wfT : CT → List Str → Scope → PySem.Expr → Bool
  | .cmp _ a b => fun nm sc e => wfE a nm sc (kid 0 e) && wfE b nm sc (kid 1 e)
  | .cmp2 a _ b _ c => fun nm sc e => wfE a nm sc (kid 0 e) && wfE b nm sc (kid 1 e) && wfE c nm sc (kid 2 e)
  | .not t => fun nm sc e => wfT t nm sc (kid 0 e)
  | .and ts => fun nm sc e => wfTs ts nm sc (kids e)
  | .or ts => fun nm sc e => wfTs ts nm sc (kids e)
  | .plain a => fun nm sc e => plainC a && wfE a nm sc e
noncomputable def wfTs : CTs → List Str → Scope → List PySem.Expr → Bool
  | .nil => fun _ _ _ => true
  | .cons t r => fun nm sc es => wfT t nm sc (nth 0 es) && wfTs r nm sc es.tail
end
noncomputable def exps : Stmt → List PySem.Expr
  | .Assign ts v _ => v :: ts
  | .Expr v _ => [v]
  | .If t _ _ _ => [t]
  | .While t _ _ _ => [t]
  | .For t i _ _ _ => [t, i]
  | .Return v _ => v.toList
  | .Raise x c _ => x.toList ++ c.toList
  | _ => []
noncomputable def bl0 : Stmt → List Stmt
  | .If _ b _ _ => b
  | .While _ b _ _ => b
  | .For _ _ b _ _ => b
  | .Try b _ _ _ _ => b
  | _ => []
noncomputable def bl1 : Stmt → List Stmt
  | .If _ _ b _ => b
  | _ => []
noncomputable def hsOf : Stmt → List ExceptHandler
  | .Try _ h _ _ _ => h
  | _ => []
noncomputable def ex (i : Nat) (st : Stmt) : PySem.Expr := nth i (exps st)
noncomputable def hBody : ExceptHandler → List Stmt
  | .ExceptHandler _ _ b _ => b
noncomputable def hPos : ExceptHandler → Pos
  | .ExceptHandler _ _ _ p => p
noncomputable def hTy : ExceptHandler → Pos
  | .ExceptHandler (some t) _ _ _ => t.pos
  | .ExceptHandler none _ _ p => p
noncomputable def nthS (ss : List Stmt) : Stmt := ss.headD (.Pass default)
noncomputable def nthH (hs : List ExceptHandler) : ExceptHandler := hs.headD (.ExceptHandler none none [] default)
noncomputable def atNm (nm : List Str) (is : List Nat) : List Str := is.map fun i => nm.getD i ""
mutual
noncomputable def reS : CS → List Str → Stmt → Stmt
  | .assign i a => fun nm st => .Assign [.Name (nm.getD i "") (ex 1 st).pos] (reE a nm (ex 0 st)) st.pos
  | .assignT is a => fun nm st => .Assign [.Tuple (reNames (atNm nm is) (kids (ex 1 st))) (numOf (ex 1 st)) (ex 1 st).pos] (reE a nm (ex 0 st)) st.pos
  | .setItem o i a => fun nm st => .Assign [.Subscript (reE o nm (kid 0 (ex 1 st))) (reE i nm (kid 1 (ex 1 st))) (ex 1 st).pos] (reE a nm (ex 0 st)) st.pos
  | .setAttr o n a => fun nm st => .Assign [.Attribute (reE o nm (kid 0 (ex 1 st))) n (ex 1 st).pos] (reE a nm (ex 0 st)) st.pos
  | .swap o1 i1 o2 i2 a1 a2 => fun nm st => .Assign [.Tuple [.Subscript (reE o1 nm (kid 0 (kid 0 (ex 1 st)))) (reE i1 nm (kid 1 (kid 0 (ex 1 st)))) (kid 0 (ex 1 st)).pos, .Subscript (reE o2 nm (kid 0 (kid 1 (ex 1 st)))) (reE i2 nm (kid 1 (kid 1 (ex 1 st)))) (kid 1 (ex 1 st)).pos] (numOf (ex 1 st)) (ex 1 st).pos]
      (.Tuple [reE a1 nm (kid 0 (ex 0 st)), reE a2 nm (kid 1 (ex 0 st))] (numOf (ex 0 st)) (ex 0 st).pos) st.pos
  | .expr a => fun nm st => .Expr (reE a nm (ex 0 st)) st.pos
  | .ite t a b => fun nm st => .If (reT t nm (ex 0 st)) (reSs a nm (bl0 st)) (reSs b nm (bl1 st)) st.pos
  | .while t b => fun nm st => .While (reT t nm (ex 0 st)) (reSs b nm (bl0 st)) [] st.pos
  | .for is it b => fun nm st => .For (reTg (atNm nm is) (ex 0 st)) (reE it nm (ex 1 st)) (reSs b nm (bl0 st)) [] st.pos
  | .ret a => fun nm st => .Return (some (reE a nm (ex 0 st))) st.pos
  | .ret0 => fun _ st => .Return none st.pos
  | .raise g as => fun nm st => .Raise (some (.Call (.Name g (kid 0 (ex 0 st)).pos) (reEs as nm (kids (ex 0 st)).tail) [] (ex 0 st).pos)) none st.pos
  | .raiseFrom g as c => fun nm st => .Raise (some (.Call (.Name g (kid 0 (ex 0 st)).pos) (reEs as nm (kids (ex 0 st)).tail) [] (ex 0 st).pos)) (some (reE c nm (ex 1 st))) st.pos
  | .try b h => fun nm st => .Try (reSs b nm (bl0 st)) (reHs h nm (hsOf st)) [] [] st.pos
  | .brk => fun _ st => .Break st.pos
  | .cont => fun _ st => .Continue st.pos
  | .pass => fun _ st => .Pass st.pos
noncomputable def reSs : CSs → List Str → List Stmt → List Stmt
  | .nil => fun _ _ => []
  | .cons a r => fun nm ss => reS a nm (nthS ss) :: reSs r nm ss.tail
noncomputable def reHs : CHs → List Str → List ExceptHandler → List ExceptHandler
  | .nil => fun _ _ => []
  | .cons g x b r => fun nm hs => .ExceptHandler (some (.Name g (hTy (nthH hs)))) (x.map fun i => nm.getD i "") (reSs b nm (hBody (nthH hs))) (hPos (nthH hs)) :: reHs r nm hs.tail
end
noncomputable def isComp : CE → Bool
  | .comp .. => true
  | _ => false
noncomputable def isTup : CE → Bool
  | .tup .. => true
  | _ => false
noncomputable def notNilS : CSs → Bool
  | .nil => false
  | _ => true
mutual
noncomputable def wfS : CS → List Str → Scope → Stmt → Bool
  | .assign i a => fun nm sc st => okSlot nm i && stb sc (nm.getD i "") && wfE a nm sc (ex 0 st)
  | .assignT is a => fun nm sc st => is.all (fun i => okSlot nm i && stb sc (nm.getD i "")) && decide (1 < is.length) && !isTup a && !isComp a && wfE a nm sc (ex 0 st)
  | .setItem o i a => fun nm sc st => wfE o nm sc (kid 0 (ex 1 st)) && wfE i nm sc (kid 1 (ex 1 st)) && wfE a nm sc (ex 0 st)
  | .setAttr o _ a => fun nm sc st => wfE o nm sc (kid 0 (ex 1 st)) && wfE a nm sc (ex 0 st)
  | .swap o1 i1 o2 i2 a1 a2 => fun nm sc st => wfE o1 nm sc (kid 0 (kid 0 (ex 1 st))) && wfE i1 nm sc (kid 1 (kid 0 (ex 1 st))) && wfE o2 nm sc (kid 0 (kid 1 (ex 1 st))) && wfE i2 nm sc (kid 1 (kid 1 (ex 1 st))) && wfE a1 nm sc (kid 0 (ex 0 st)) && wfE a2 nm sc (kid 1 (ex 0 st))
  | .expr a => fun nm sc st => !isComp a && wfE a nm sc (ex 0 st)
  | .ite t a b => fun nm sc st => wfT t nm sc (ex 0 st) && wfSs a nm sc (bl0 st) && wfSs b nm sc (bl1 st)
  | .while t b => fun nm sc st => wfT t nm sc (ex 0 st) && wfSs b nm sc (bl0 st)
  | .for is it b => fun nm sc st => !is.isEmpty && is.all (fun i => okSlot nm i && stb sc (nm.getD i "")) && wfE it nm sc (ex 1 st) && wfSs b nm sc (bl0 st)
  | .ret a => fun nm sc st => wfE a nm sc (ex 0 st)
  | .ret0 => fun _ _ _ => true
  | .raise g as => fun nm sc st => glb sc g && wfEs as nm sc (kids (ex 0 st)).tail
  | .raiseFrom g as c => fun nm sc st => glb sc g && wfEs as nm sc (kids (ex 0 st)).tail && wfE c nm sc (ex 1 st)
  | .try b h => fun nm sc st => wfSs b nm sc (bl0 st) && wfHs h nm sc (hsOf st)
  | .brk => fun _ _ _ => true
  | .cont => fun _ _ _ => true
  | .pass => fun _ _ _ => true
noncomputable def wfSs : CSs → List Str → Scope → List Stmt → Bool
  | .nil => fun _ _ _ => true
  | .cons a r => fun nm sc ss => wfS a nm sc (nthS ss) && wfSs r nm sc ss.tail
noncomputable def wfHs : CHs → List Str → Scope → List ExceptHandler → Bool
  | .nil => fun _ _ _ => true
  | .cons g x b r => fun nm sc hs => glb sc g && notNilS b && (match x with
      | none => true
      | some i => okSlot nm i && sc.names.lookup (nm.getD i "") == some .local) && wfSs b nm sc (hBody (nthH hs)) && wfHs r nm sc hs.tail
end
noncomputable def AR (c : Cx) (m : ML) (es : List PySem.Expr) (pos : Pos) (H : MH) (post : List MV → MH → Prop) : Prop :=
  ∀ (mr : Str → Option Value) (ρ : List Addr) (s : Shared) (Q : List Value → Shared → Prop) (E : Value → Shared → Prop), St c mr ρ H s.heap → LR mr c.nm ρ m →
    (∀ t vs vrs H' h' tk, post vs H' → VRs (ρ ++ t) vs vrs → St c mr (ρ ++ t) H' h' → Q vrs { s with heap := h', toks := tk }) → Kx c ρ s E →
    wpAny (model c.prog c.w) c.A (spliced (backTo pos (starEach es c.env))) Q E s
noncomputable def IT (c : Cx) (m : ML) (e : PySem.Expr) (H : MH) (post : Bool → MH → Prop) : Prop :=
  ∀ (whole : Sem Value) (mr : Str → Option Value) (ρ : List Addr) (s : Shared) (Q : Bool → Shared → Prop) (E : Value → Shared → Prop), (plainX e = true → whole = eval e c.env) → St c mr ρ H s.heap → LR mr c.nm ρ m →
    (∀ t b H' h' tk, post b H' → St c mr (ρ ++ t) H' h' → Q b { s with heap := h', toks := tk }) → Kx c ρ s E →
    wpAny (model c.prog c.w) c.A (isTrue e c.env whole) Q E s
noncomputable def IB (c : Cx) (m : ML) (op : BoolOp) (es : List PySem.Expr) (H : MH) (post : Bool → MH → Prop) : Prop :=
  ∀ (mr : Str → Option Value) (ρ : List Addr) (s : Shared) (Q : Bool → Shared → Prop) (E : Value → Shared → Prop), St c mr ρ H s.heap → LR mr c.nm ρ m →
    (∀ t b H' h' tk, post b H' → St c mr (ρ ++ t) H' h' → Q b { s with heap := h', toks := tk }) → Kx c ρ s E →
    wpAny (model c.prog c.w) c.A (allTrue op es c.env) Q E s
noncomputable def X1 (c : Cx) (m : ML) (st : Stmt) (H : MH) (post : Fl → ML → MH → Prop) : Prop :=
  ∀ (mr : Str → Option Value) (ρ : List Addr) (s : Shared) (Q : Flow → Shared → Prop) (E : Value → Shared → Prop), St c mr ρ H s.heap → LR mr c.nm ρ m →
    (∀ t f fr m' mr' H' h' tk, post f m' H' → FlR (ρ ++ t) f fr → St c mr' (ρ ++ t) H' h' → LR mr' c.nm (ρ ++ t) m' → Q fr { s with heap := h', toks := tk }) → Kx c ρ s E →
    wpAny (model c.prog c.w) c.A (exec st c.env) Q E s
def TE (c : Cx) (m : ML) (a : CE) (H : MH) (post : MV → MH → Prop) : Prop := ∀ e, wfE a c.nm c.sc e = true → EV c m (reE a c.nm e) H post
def TEs (c : Cx) (m : ML) (as : CEs) (H : MH) (post : List MV → MH → Prop) : Prop := ∀ es pos, wfEs as c.nm c.sc es = true → AR c m (reEs as c.nm es) pos H post
def TT (c : Cx) (m : ML) (t : CT) (H : MH) (post : Bool → MH → Prop) : Prop := ∀ e, wfT t c.nm c.sc e = true → IT c m (reT t c.nm e) H post
def TTs (c : Cx) (m : ML) (op : BoolOp) (ts : CTs) (H : MH) (post : Bool → MH → Prop) : Prop := ∀ es, wfTs ts c.nm c.sc es = true → IB c m op (reTs ts c.nm es) H post
def TV (c : Cx) (m : ML) (t : CT) (H : MH) (post : MV → MH → Prop) : Prop := ∀ e, nonPlain t = true → wfT t c.nm c.sc e = true → EV c m (reT t c.nm e) H post
def TS (c : Cx) (m : ML) (a : CS) (H : MH) (post : Fl → ML → MH → Prop) : Prop := ∀ st, wfS a c.nm c.sc st = true → X1 c m (reS a c.nm st) H post
def TB (c : Cx) (m : ML) (b : CSs) (H : MH) (post : Fl → ML → MH → Prop) : Prop := ∀ ss, wfSs b c.nm c.sc ss = true → EX c m (reSs b c.nm ss) H post
section
variable {c : Cx} {m : ML} {H : MH} {G : Gx} {d : Nat}
theorem TE.mono {a : CE} {p q : MV → MH → Prop} (h : TE c m a H p) (hp : ∀ v H', p v H' → q v H') : TE c m a H q := fun e he => (h e he).mono hp
theorem TB.mono {a : CSs} {p q : Fl → ML → MH → Prop} (h : TB c m a H p) (hp : ∀ f m' H', p f m' H' → q f m' H') : TB c m a H q :=
  fun st hs mr ρ s Q E S l k kx => h st hs mr ρ s Q E S l (fun t f fr m' mr' H' h' tk hv => k t f fr m' mr' H' h' tk (hp _ _ _ hv)) kx
theorem and2 {a b : Bool} (h : (a && b) = true) : a = true ∧ b = true := (Bool.and_eq_true a b).mp h
theorem and3 {a b c : Bool} (h : (a && b && c) = true) : a = true ∧ b = true ∧ c = true := ⟨(and2 (and2 h).1).1, (and2 (and2 h).1).2, (and2 h).2⟩
theorem TE.int {i : Int} {post : MV → MH → Prop} (h : post (.int i) H) : TE c m (.int i) H post := by
  intro e he mr ρ s Q E S l k kx
  exact wpAny_Constant_int (k [] (.int i) _ H s.heap _ h ⟨_, rfl⟩ (nil_of S))
theorem TE.str {x : Str} {post : MV → MH → Prop} (h : post (.str x) H) : TE c m (.str x) H post := by
  intro e he mr ρ s Q E S l k kx
  exact wpAny_Constant_str (k [] (.str x) _ H s.heap _ h ⟨_, rfl⟩ (nil_of S))
theorem TE.none {post : MV → MH → Prop} (h : post .none H) : TE c m .none H post := by
  intro e he mr ρ s Q E S l k kx
  exact wpAny_Constant_none (k [] .none _ H s.heap s.toks h rfl (nil_of S))
theorem TE.loc (ok : Ok G c d) {i : Nat} {v : MV} {post : MV → MH → Prop} (hm : m[i]? = some (some v)) (h : post v H) : TE c m (.loc i) H post := by
  intro e he mr ρ s Q E S l k kx
  obtain ⟨h1, h2⟩ := and2 he
  obtain ⟨vr, h3, h4⟩ := l.2 _ _ _ (beq_iff_eq.mp h1) hm
  exact read ok S h2 h4 (k [] v vr H s.heap s.toks h (by rw [List.append_nil]; exact h3) (nil_of S))
theorem nameG (ok : Ok G c d) {mr : Str → Option Value} {ρ : List Addr} {s : Shared} {x : Str} {pos : Pos} {v : Value} {Q E} (S : St c mr ρ H s.heap) (hx : glb c.sc x = true) (hg : nsIn G.K mainGlobals x = some (some v)) (h : Q v s) :
    wpAny (model c.prog c.w) c.A (eval (.Name x pos) c.env) Q E s := by
  unfold glb at hx
  simp only [Bool.and_eq_true, beq_iff_eq, bne_iff_ne, ne_eq] at hx
  have hd' : (x == ("__debug__" : Str)) = false := by simpa using hx.1
  have hk := kcl3 ((ok.kd x).trans hx.2)
  exact Name_function_global ok.fn hk (loadGlobal_global (env := c.env) (by rw [ok.gl]; exact ok.top.g.keeps S.keep) (mg_of ok.kin ok.top.g hg) h) hd'
theorem nameB (ok : Ok G c d) {mr : Str → Option Value} {ρ : List Addr} {s : Shared} {x : Str} {pos : Pos} {v : Value} {Q E} (S : St c mr ρ H s.heap) (hx : glb c.sc x = true) (hg : nsIn G.K mainGlobals x = some Option.none)
    (hb : bootBuiltins x = some v) (hn : x ≠ "__name__") (h : Q v s) : wpAny (model c.prog c.w) c.A (eval (.Name x pos) c.env) Q E s := by
  unfold glb at hx
  simp only [Bool.and_eq_true, beq_iff_eq, bne_iff_ne, ne_eq] at hx
  have hd' : (x == ("__debug__" : Str)) = false := by simpa using hx.1
  have hk := kcl3 ((ok.kd x).trans hx.2)
  have T := topRead_of ok.top
  exact Name_function_global ok.fn hk (loadGlobal_builtin (env := c.env) (by rw [ok.gl]; exact T.g.keeps S.keep) (mg_none_of ok.kin T.g hg) (by rw [ok.bi]; exact T.b.keeps S.keep) ((T.builtins x hn).trans hb) h) hd'
theorem TE.glob (ok : Ok G c d) {x : Str} {v : MV} {vr : Value} {post : MV → MH → Prop} (hg : nsIn G.K mainGlobals x = some (some vr)) (hv : VR [] v vr) (h : post v H) : TE c m (.glob x) H post := by
  intro e he mr ρ s Q E S l k kx
  exact nameG ok S he hg (k [] v vr H s.heap s.toks h (by rw [List.append_nil]; have := hv.mono (t := ρ); rwa [List.nil_append] at this) (nil_of S))
theorem fm {a p : Int} (h : 0 < p) : a.fmod p = a % p := Int.fmod_eq_emod_of_nonneg _ (by omega)
inductive BinI : Operator → MV → MV → MV → Prop where
  | add {x y : Int} : BinI .Add (.int x) (.int y) (.int (x + y))
  | sub {x y : Int} : BinI .Sub (.int x) (.int y) (.int (x - y))
  | mul {x y : Int} (h : IntMulOk x y) : BinI .Mult (.int x) (.int y) (.int (x * y))
  | mod {x y : Int} (h : y ≠ 0) : BinI .Mod (.int x) (.int y) (.int (x.fmod y))
  | modP {x y : Int} (h : 0 < y) : BinI .Mod (.int x) (.int y) (.int (x % y))
  | div {x y : Int} (h : y ≠ 0) (h2 : y.natAbs < 1073741824) : BinI .FloorDiv (.int x) (.int y) (.int (x.fdiv y))
  | band {x y : Int} : BinI .BitAnd (.int x) (.int y) (.int (Builtin.bitAnd x y))
  | shr {x y : Int} (h : 0 ≤ y) : BinI .RShift (.int x) (.int y) (.int (x.fdiv (2 ^ y.toNat)))
  | pow {x y : Int} (h0 : 0 ≤ y) (h1 : y ≤ 1000000) (h2 : x.natAbs < 2 ^ 64) : BinI .Pow (.int x) (.int y) (.int (x ^ y.toNat))
  | shl {x y : Int} (h0 : 0 ≤ y) (h1 : y ≤ 1000000) (h2 : x.natAbs < 2 ^ 64) : BinI .LShift (.int x) (.int y) (.int (x * 2 ^ y.toNat))
  | smul {x : Str} {n : Int} (h : MulOk x n) : BinI .Mult (.str x) (.int n) (.str (Txt.mul x n))
  | cat {x y : Str} (h : x.length + y.length ≤ 1000000) : BinI .Add (.str x) (.str y) (.str (x ++ y))
theorem bin_ok {op : Operator} {a b v : MV} {x y : Value} {ρ : List Addr} {s : Shared} {Q E} (hh : c.A.handled = Option.none) (hb : BinI op a b v) (ha : VR ρ a x) (hy : VR ρ b y) (k : ∀ z tk, VR ρ v z → Q z { s with toks := tk }) :
    wpAny (model c.prog c.w) c.A (binaryOp op x y) Q E s := by
  cases hb <;> obtain ⟨t, rfl⟩ := ha <;> obtain ⟨u, rfl⟩ := hy
  case add => exact add_int (k _ _ ⟨_, rfl⟩)
  case sub => exact sub_int (k _ _ ⟨_, rfl⟩)
  case mul h => exact mul_int (k _ _ ⟨_, rfl⟩) h
  case mod h => exact mod_int' h (k _ _ ⟨_, rfl⟩)
  case modP h => exact mod_int' (Int.ne_of_gt h) (by rw [fm h]; exact k _ _ ⟨_, rfl⟩)
  case div h h2 => exact floordiv_int h (k _ _ ⟨_, rfl⟩) (.inl (PyProof.noPylong_small h2))
  case band => exact and_int (k _ _ ⟨_, rfl⟩)
  case shr h => exact rshift_int_or hh (fun hn => absurd hn (Int.not_lt.mpr h)) fun _ => k _ _ ⟨_, rfl⟩
  case pow h0 h1 h2 => exact pow_int_small h0 h1 h2 (k _ _ ⟨_, rfl⟩)
  case shl h0 h1 h2 => exact lshift_int_small h0 h1 h2 (k _ _ ⟨_, rfl⟩)
  case smul h => exact SB.mul h fun _ _ => k _ _ ⟨_, rfl⟩
  case cat h => exact add_str (fun _ _ => k _ _ ⟨_, rfl⟩) (Nat.le_trans h (by decide))
theorem TE.op (ok : Ok G c d) {op : Operator} {a b : CE} {post : MV → MH → Prop} (h : TE c m a H (fun x H1 => TE c m b H1 (fun y H2 => ∃ v, BinI op x y v ∧ post v H2))) : TE c m (.bin op a b) H post := by
  intro e he mr ρ s Q E S l k kx
  obtain ⟨h2, h3⟩ := and2 he
  refine wpAny_BinOp ?_
  refine h _ h2 mr ρ s _ E S l ?_ kx
  intro t x xr H1 hp1 tk1 hr hx S1
  refine hr _ h3 mr (ρ ++ t) _ _ E S1 l.mono ?_ kx.mono
  rintro t' y yr H2 hp2 tk2 ⟨v, hv, hp⟩ hy S2
  refine bin_ok ok.hh hv hx.mono hy ?_
  intro z tk hz
  rw [List.append_assoc] at hz S2
  exact k (t ++ t') v z H2 hp2 tk hp hz S2
end
noncomputable def Cq (c : Cx) (op : CmpOp) (H : MH) (a b : MV) (r : Bool) : Prop :=
  ∀ (mr : Str → Option Value) (ρ : List Addr) (s : Shared) (Q : Value → Shared → Prop) (E : Value → Shared → Prop) (va vb : Value), St c mr ρ H s.heap → VR ρ a va → VR ρ b vb →
    (∀ h' tk, St c mr ρ H h' → Q (.bool r) { s with heap := h', toks := tk }) → wpAny (model c.prog c.w) c.A (compareOp op va vb) Q E s
noncomputable def cmpN (op : CmpOp) (x y : Int) : Option Bool := match op with
  | .Lt => some (decide (x < y))
  | .LtE => some (decide (x ≤ y))
  | .Gt => some (decide (y < x))
  | .GtE => some (decide (y ≤ x))
  | .Eq => some (decide (x = y))
  | .NotEq => some (!decide (x = y))
  | _ => none
noncomputable def cmpQ (op : CmpOp) (e : Bool) : Option Bool := match op with
  | .Eq => some e
  | .NotEq => some (!e)
  | _ => none
noncomputable def cmpZ (op : CmpOp) (e : Bool) : Option Bool := match op with
  | .Is => some e
  | .IsNot => some (!e)
  | _ => none
noncomputable def cmpV (op : CmpOp) : MV → MV → Option Bool
  | .int x, .int y => cmpN op x y
  | .str x, .str y => cmpQ op (decide (x = y))
  | .bool x, .bool y => cmpQ op (x == y)
  | .none, .none => cmpZ op true
  | .ref _, .none => cmpZ op false
  | _, _ => none
noncomputable def Cmp (op : CmpOp) (a b : MV) (r : Bool) : Prop := match cmpV op a b with
  | some s => r = s
  | none => False
section
variable {c : Cx} {m : ML} {H : MH} {G : Gx} {d : Nat}
theorem cq_of {op : CmpOp} {a b : MV} {r : Bool} (h : Cmp op a b r) : Cq c op H a b r := by
  intro mr ρ s Q E va vb S ha hb k
  have k' := k s.heap s.toks S
  cases a with
  | int x =>
    cases b with
    | int y =>
      obtain ⟨t, rfl⟩ := ha
      obtain ⟨u, rfl⟩ := hb
      cases op with
      | Lt => have e : r = _ := h; subst e; exact lt_int k'
      | LtE => have e : r = _ := h; subst e; exact le_int k'
      | Gt => have e : r = _ := h; subst e; exact gt_int k'
      | GtE => have e : r = _ := h; subst e; exact ge_int k'
      | Eq => have e : r = _ := h; subst e; exact PyProof.Rows.eq_int (by rw [show (x == y) = decide (x = y) from rfl]; exact k')
      | NotEq => have e : r = _ := h; subst e; exact PyProof.Rows.ne_int (by rw [show (x != y) = !decide (x = y) from rfl]; exact k')
      | _ => exact False.elim h
    | _ => exact False.elim h
  | str x =>
    cases b with
    | str y =>
      obtain ⟨t, rfl⟩ := ha
      obtain ⟨u, rfl⟩ := hb
      cases op with
      | Eq => have e : r = _ := h; subst e; exact PyProof.Rows.eq_str (by rw [show (x == y) = decide (x = y) from rfl]; exact k')
      | NotEq => have e : r = _ := h; subst e; exact PyProof.Rows.ne_str (by rw [show (x != y) = !decide (x = y) from rfl]; exact k')
      | _ => exact False.elim h
    | _ => exact False.elim h
  | bool x =>
    cases b with
    | bool y =>
      cases ha
      cases hb
      cases op with
      | Eq => have e : r = _ := h; subst e; exact PyProof.Rows.eq_bool k'
      | NotEq => have e : r = _ := h; subst e; exact PyProof.Rows.ne_bool k'
      | _ => exact False.elim h
    | _ => exact False.elim h
  | none =>
    cases b with
    | none =>
      cases ha
      cases hb
      cases op with
      | Is => have e : r = _ := h; subst e; exact is_none_none k'
      | IsNot => have e : r = _ := h; subst e; exact isnot_none_none k'
      | _ => exact False.elim h
    | _ => exact False.elim h
  | ref i =>
    cases b with
    | none =>
      obtain ⟨x, _, rfl⟩ := ha
      cases hb
      cases op with
      | Is => have e : r = _ := h; subst e; exact is_none_ne (by intro q; cases q) k'
      | IsNot => have e : r = _ := h; subst e; exact isnot_none_ne (by intro q; cases q) k'
      | _ => exact False.elim h
    | _ => exact False.elim h
  | glob i => exact False.elim h
theorem re_marks {a : CE} {nm : List Str} {sc : Scope} {e : PySem.Expr} {op : CmpOp} (h : wfE a nm sc e = true) : behindInMarks op (reE a nm e) = false := by
  cases a with
  | tst t =>
    have h1 : (nonPlain t && wfT t nm sc e) = true := h
    have h2 := (and2 h1).1
    cases t <;> first | rfl | cases h2
  | _ => rfl
theorem TT.cq {op : CmpOp} {a b : CE} {post : Bool → MH → Prop} (h : TE c m a H (fun x H1 => TE c m b H1 (fun y H2 => ∃ r, Cq c op H2 x y r ∧ post r H2))) : TT c m (.cmp op a b) H post := by
  intro e he
  obtain ⟨h2, h3⟩ := and2 he
  intro wh mr ρ s Q E _ S l k kx
  refine wpAny_isTrue_Compare1 ?_ (re_marks h3)
  refine h _ h2 mr ρ s _ E S l ?_ kx
  intro t x xr H1 hp1 tk1 hr hx S1
  refine hr _ h3 mr (ρ ++ t) _ _ E S1 l.mono ?_ kx.mono
  rintro t' y yr H2 hp2 tk2 ⟨r, hq, hp⟩ hy S2
  refine hq mr _ _ _ E _ _ S2 hx.mono hy ?_
  intro h' tk S3
  refine wpAny_truthy_bool ?_
  rw [List.append_assoc] at S3
  exact k (t ++ t') r H2 h' tk hp S3
theorem TT.cmp {op : CmpOp} {a b : CE} {post : Bool → MH → Prop} (h : TE c m a H (fun x H1 => TE c m b H1 (fun y H2 => ∃ r, Cmp op x y r ∧ post r H2))) : TT c m (.cmp op a b) H post :=
  TT.cq (h.mono fun x H1 h1 => h1.mono fun y H2 ⟨r, hr, hp⟩ => ⟨r, cq_of hr, hp⟩)
theorem TV.cq {op : CmpOp} {a b : CE} {post : MV → MH → Prop} (h : TE c m a H (fun x H1 => TE c m b H1 (fun y H2 => ∃ r, Cq c op H2 x y r ∧ post (.bool r) H2))) : TV c m (.cmp op a b) H post := by
  intro e _ he
  obtain ⟨h2, h3⟩ := and2 he
  intro mr ρ s Q E S l k kx
  refine wpAny_Compare1 ?_ (re_marks h3)
  refine h _ h2 mr ρ s _ E S l ?_ kx
  intro t x xr H1 hp1 tk1 hr hx S1
  refine hr _ h3 mr (ρ ++ t) _ _ E S1 l.mono ?_ kx.mono
  rintro t' y yr H2 hp2 tk2 ⟨r, hq, hp⟩ hy S2
  refine hq mr _ _ _ E _ _ S2 hx.mono hy ?_
  intro h' tk S3
  rw [List.append_assoc] at S3
  exact k (t ++ t') (.bool r) _ H2 h' tk hp rfl S3
theorem TV.cmp {op : CmpOp} {a b : CE} {post : MV → MH → Prop} (h : TE c m a H (fun x H1 => TE c m b H1 (fun y H2 => ∃ r, Cmp op x y r ∧ post (.bool r) H2))) : TV c m (.cmp op a b) H post :=
  TV.cq (h.mono fun x H1 h1 => h1.mono fun y H2 ⟨r, hr, hp⟩ => ⟨r, cq_of hr, hp⟩)
theorem TE.tst {t : CT} {post : MV → MH → Prop} (h : TV c m t H post) : TE c m (.tst t) H post := by
  intro e he
  exact h e (and2 he).1 (and2 he).2
theorem TTs.andNil {post : Bool → MH → Prop} (h : post true H) : TTs c m .And .nil H post := by
  intro es he
  intro mr ρ s Q E S l k kx
  refine wpAny_pure ?_
  exact k [] true H s.heap s.toks h (nil_of S)
theorem TTs.orNil {post : Bool → MH → Prop} (h : post false H) : TTs c m .Or .nil H post := by
  intro es he
  intro mr ρ s Q E S l k kx
  refine wpAny_pure ?_
  exact k [] false H s.heap s.toks h (nil_of S)
theorem TTs.and {t : CT} {r : CTs} {post : Bool → MH → Prop} (h : TT c m t H (fun b H1 => (b = false → post false H1) ∧ (b = true → TTs c m .And r H1 post))) : TTs c m .And (.cons t r) H post := by
  intro es he
  have he := and2 he
  intro mr ρ s Q E S l k kx
  refine isTrue_and (whole := Sem.pure .none) (pos := ⟨0, 0, 0, 0⟩) ?_
  refine h _ he.1 _ mr ρ s _ E (fun _ => rfl) S l ?_ kx
  intro t b H1 h1 tk1 hp S1
  cases b with
  | false => exact k t false H1 h1 tk1 (hp.1 rfl) S1
  | true =>
    refine hp.2 rfl _ he.2 mr (ρ ++ t) _ _ E S1 l.mono ?_ kx.mono
    intro t' b H2 h2 tk2 hp2 S2
    rw [List.append_assoc] at S2
    exact k (t ++ t') b H2 h2 tk2 hp2 S2
theorem TTs.or {t : CT} {r : CTs} {post : Bool → MH → Prop} (h : TT c m t H (fun b H1 => (b = true → post true H1) ∧ (b = false → TTs c m .Or r H1 post))) : TTs c m .Or (.cons t r) H post := by
  intro es he
  have he := and2 he
  intro mr ρ s Q E S l k kx
  refine isTrue_or (whole := Sem.pure .none) (pos := ⟨0, 0, 0, 0⟩) ?_
  refine h _ he.1 _ mr ρ s _ E (fun _ => rfl) S l ?_ kx
  intro t b H1 h1 tk1 hp S1
  cases b with
  | true => exact k t true H1 h1 tk1 (hp.1 rfl) S1
  | false =>
    refine hp.2 rfl _ he.2 mr (ρ ++ t) _ _ E S1 l.mono ?_ kx.mono
    intro t' b H2 h2 tk2 hp2 S2
    rw [List.append_assoc] at S2
    exact k (t ++ t') b H2 h2 tk2 hp2 S2
theorem TT.and {ts : CTs} {post : Bool → MH → Prop} (h : TTs c m .And ts H post) : TT c m (.and ts) H post := by
  intro e he
  intro wh mr ρ s Q E _ S l k kx
  exact h _ he mr ρ s Q E S l k kx
theorem TT.or {ts : CTs} {post : Bool → MH → Prop} (h : TTs c m .Or ts H post) : TT c m (.or ts) H post := by
  intro e he
  intro wh mr ρ s Q E _ S l k kx
  exact h _ he mr ρ s Q E S l k kx
theorem TE.ite {t : CT} {a b : CE} {post : MV → MH → Prop} (h : TT c m t H (fun r H1 => (r = true → TE c m a H1 post) ∧ (r = false → TE c m b H1 post))) : TE c m (.ite t a b) H post := by
  intro e he
  have he := and3 he
  intro mr ρ s Q E S l k kx
  refine wpAny_IfExp ?_
  refine h _ he.1 _ mr ρ s _ E (fun _ => rfl) S l ?_ kx
  intro t b' H1 h1 tk1 hp S1
  have fin : ∀ e, EV c m e H1 post → wpAny (model c.prog c.w) c.A (eval e c.env) Q E { s with heap := h1, toks := tk1 } := by
    intro e he
    refine he mr (ρ ++ t) _ _ E S1 l.mono ?_ kx.mono
    intro t' v vr H2 h2 tk2 hp2 hv S2
    rw [List.append_assoc] at hv S2
    exact k (t ++ t') v vr H2 h2 tk2 hp2 hv S2
  cases b' with
  | true => exact fin _ (hp.1 rfl _ he.2.1)
  | false => exact fin _ (hp.2 rfl _ he.2.2)
end
section
variable {c : Cx} {m : ML} {H : MH} {G : Gx} {d : Nat}
theorem star_cons {e : PySem.Expr} {es : List PySem.Expr} {env : Env} (h : notStar e = true) : starEach (e :: es) env = (false, eval e env) :: starEach es env := by
  cases e with
  | Starred _ _ => cases h
  | _ => rfl
theorem tst_of {t : CT} {nm : List Str} {sc : Scope} {e : PySem.Expr} (h : wfE (.tst t) nm sc e = true) : nonPlain t = true := by
  have h1 : (nonPlain t && wfT t nm sc e) = true := h
  exact (and2 h1).1
theorem star_re {a : CE} {nm : List Str} {sc : Scope} {e : PySem.Expr} (h : wfE a nm sc e = true) : notStar (reE a nm e) = true := by
  cases a with
  | tst t => have h2 := tst_of h; cases t <;> first | rfl | cases h2
  | _ => rfl
theorem slice_re {a : CE} {nm : List Str} {sc : Scope} {e : PySem.Expr} (h : wfE a nm sc e = true) : notSlice (reE a nm e) = true := by
  cases a with
  | tst t => have h2 := tst_of h; cases t <;> first | rfl | cases h2
  | _ => rfl
theorem comp_re {a : CE} {nm : List Str} {sc : Scope} {e : PySem.Expr} (h : wfE a nm sc e = true) (hn : isComp a = false) : notComp (reE a nm e) = true := by
  cases a with
  | tst t => have h2 := tst_of h; cases t <;> first | rfl | cases h2
  | comp _ _ _ _ => cases hn
  | _ => rfl
theorem star_plain {nm : List Str} {sc : Scope} {pos : Pos} {env : Env} : ∀ {as : CEs} {es : List PySem.Expr}, wfEs as nm sc es = true → (backTo pos (starEach (reEs as nm es) env)).any (·.1) = false
  | .nil, es, h => rfl
  | .cons a r, es, h => by
    have h := and2 h
    have := star_plain (pos := pos) (env := env) h.2
    show (backTo pos (starEach (reE a nm (nth 0 es) :: reEs r nm es.tail) env)).any (·.1) = false
    rw [star_cons (star_re h.1)]
    unfold backTo at this ⊢
    simp only [List.map_cons, List.any_cons, Bool.false_or]
    exact this
theorem TEs.nil {post : List MV → MH → Prop} (h : post [] H) : TEs c m .nil H post := by
  intro es pos he
  intro mr ρ s Q E S l k kx
  refine args_nil ?_
  exact k [] [] [] H s.heap s.toks h rfl (nil_of S)
theorem TEs.cons {a : CE} {r : CEs} {post : List MV → MH → Prop} (h : TE c m a H (fun v H1 => TEs c m r H1 (fun vs H2 => post (v :: vs) H2))) : TEs c m (.cons a r) H post := by
  intro es pos he
  obtain ⟨h2, h3⟩ := and2 he
  intro mr ρ s Q E S l k kx
  refine args_cons ?_ (star_cons (star_re h2))
  refine h _ h2 mr ρ s _ E S l ?_ kx
  intro t v vr H1 hp1 tk1 hr hv S1
  refine hr _ pos h3 mr (ρ ++ t) _ _ E S1 l.mono ?_ kx.mono
  intro t' vs vrs H2 hp2 tk2 hp hvs S2
  have hv' := hv.mono (t := t')
  rw [List.append_assoc] at hvs S2 hv'
  exact k (t ++ t') (v :: vs) (vr :: vrs) H2 hp2 tk2 hp ⟨vr, vrs, rfl, hv', hvs⟩ S2
theorem TE.list {as : CEs} {post : MV → MH → Prop} (h : TEs c m as H (fun vs H1 => vs.length ≤ 1000 ∧ post (.ref H1.length) (H1 ++ [.list vs]))) : TE c m (.list as) H post := by
  intro e he
  intro mr ρ s Q E S lr k kx
  refine List_ ?_
  refine h _ _ he mr ρ s _ E S lr ?_ kx
  rintro t vs vrs H1 h1 tk1 ⟨hsz, hp⟩ hvs S1
  obtain ⟨ml, xs, ⟨F, os, a1, a2, a3, N, a5⟩, back⟩ := S1.open
  refine newList_K F N ?_ (by rw [hvs.length]; exact Nat.le_trans hsz (by decide))
  intro l h' F' N' hl
  have := k (t ++ [l]) (.ref H1.length) (.ref l) _ h' tk1 hp
  rw [← List.append_assoc] at this
  exact this ⟨l, last_get a2, rfl⟩ (back _ _ _ (Led.alloc a1 a2 a3 a5 F' N' (fun p hp => Nat.ne_of_lt (hl p hp)) ⟨vrs, 0, hvs.mono, rfl⟩))
theorem TE.tup {as : CEs} {post : MV → MH → Prop} (h : TEs c m as H (fun vs H1 => vs.length ≤ 1000 ∧ post (.ref H1.length) (H1 ++ [.tup vs]))) : TE c m (.tup as) H post := by
  intro e he
  intro mr ρ s Q E S lr k kx
  refine Tuple_ ?_
  refine h _ _ he mr ρ s _ E S lr ?_ kx
  rintro t vs vrs H1 h1 tk1 ⟨hsz, hp⟩ hvs S1
  obtain ⟨ml, xs, ⟨F, os, a1, a2, a3, N, a5⟩, back⟩ := S1.open
  refine newTuple_N F N ?_ (by rw [hvs.length]; exact Nat.le_trans hsz (by decide))
  intro h' F' N'
  have := k (t ++ [h1.objs.size]) (.ref H1.length) (.ref h1.objs.size) _ h' tk1 hp
  rw [← List.append_assoc] at this
  exact this ⟨_, last_get a2, rfl⟩ (back _ _ _ (Led.alloc a1 a2 a3 a5 F' N' (fun p hp => Nat.ne_of_lt (Heap.lt_size (N p hp).1)) ⟨vrs, 0, hvs.mono, rfl⟩))
theorem isList_of {h₀ h : Heap} {L a : Addr} {vs : List Value} {n : Nat} (N : News h₀ L h [(a, listOf vs.toArray n)]) : h.IsList a vs.toArray := ⟨_, (N _ (.head _)).1, rfl, n, rfl⟩
theorem St.list {mr : Str → Option Value} {ρ : List Addr} {h : Heap} (S : St c mr ρ H h) {i : Nat} {xs : List MV} (hi : H[i]? = some (.list xs)) {x : Addr} (hx : ρ[i]? = some x) :
    ∃ vs n, VRs ρ xs vs ∧ News c.h₀ c.L h [(x, listOf vs.toArray n)] := by
  obtain ⟨y, o, hy, ⟨vs, n, hvs, rfl⟩, No⟩ := S.get hi
  rw [hx] at hy
  cases hy
  exact ⟨vs, n, hvs, No⟩
theorem St.tup {mr : Str → Option Value} {ρ : List Addr} {h : Heap} (S : St c mr ρ H h) {i : Nat} {xs : List MV} (hi : H[i]? = some (.tup xs)) {x : Addr} (hx : ρ[i]? = some x) :
    ∃ vs, VRs ρ xs vs ∧ IsTup h x vs.toArray := by
  obtain ⟨y, o, hy, ⟨vs, n, hvs, rfl⟩, No⟩ := S.get hi
  rw [hx] at hy
  cases hy
  exact ⟨vs, hvs, _, (No _ (.head _)).1, rfl, n, rfl⟩
noncomputable def At (xs : List MV) (n : Int) (v : MV) : Prop := xs.length ≤ 1000000 ∧ ((0 ≤ n ∧ xs[n.toNat]? = some v) ∨ (n < 0 ∧ -(xs.length : Int) ≤ n ∧ xs[(n + xs.length).toNat]? = some v))
theorem subscripted_of {nm : List Str} {sc : Scope} {i : PySem.Expr} (h : notSlice i = true) (a : Value) (k : Value) : subscripted i false a k = operate [a, k] (getItem a k) := by
  cases i with
  | Slice _ _ _ _ => cases h
  | _ => rfl
noncomputable def Sq (c : Cx) (H : MH) (o i v : MV) : Prop :=
  ∀ (mr : Str → Option Value) (ρ : List Addr) (s : Shared) (Q : Value → Shared → Prop) (E : Value → Shared → Prop) (vo vi : Value) (base sl : PySem.Expr), notSlice sl = true → St c mr ρ H s.heap → VR ρ o vo → VR ρ i vi →
    (∀ vr tk, VR ρ v vr → Q vr { s with toks := tk }) → wpAny (model c.prog c.w) c.A (subscriptTail base sl vo vi) Q E s
theorem TE.sq {o i : CE} {post : MV → MH → Prop} (h : TE c m o H (fun x H1 => TE c m i H1 (fun y H2 => ∃ v, Sq c H2 x y v ∧ post v H2))) : TE c m (.sub o i) H post := by
  intro e he
  obtain ⟨h2, h3⟩ := and2 he
  have h1 := slice_re h3
  intro mr ρ s Q E S lr k kx
  refine Subscript_ ?_
  refine h _ h2 mr ρ s _ E S lr ?_ kx
  intro t x xr H1 hp1 tk1 hr hx S1
  refine hr _ h3 mr (ρ ++ t) _ _ E S1 lr.mono ?_ kx.mono
  rintro t' y yr H2 hp2 tk2 ⟨v, hq, hp⟩ hy S2
  refine hq mr _ _ _ E _ _ _ _ h1 S2 hx.mono hy ?_
  intro vr tk hv
  rw [List.append_assoc] at hv S2
  exact k (t ++ t') v vr H2 hp2 tk hp hv S2
theorem Sq.list {a : Nat} {xs : List MV} {n : Int} {v : MV} (ha : H[a]? = some (.list xs)) (hn : At xs n v) : Sq c H (.ref a) (.int n) v := by
  rintro mr ρ s Q E _ _ base sl hsl S ⟨x, hx, rfl⟩ ⟨u, rfl⟩ k
  obtain ⟨vs, ep, hvs, No⟩ := S.list ha hx
  have L := isList_of No
  obtain ⟨hsz, hn⟩ := hn
  rcases hn with ⟨h0, hv⟩ | ⟨h0, h3, hv⟩
  · obtain ⟨vr, e1, e2⟩ := hvs.get hv
    have hlt := (List.getElem?_eq_some_iff.mp hv).1
    exact tail_any L.typeIs slot_list_getitem.lookup (wpAny_getItem_list L h0 (by omega) (by simpa using e1) (k vr _ e2)) (subscripted_of (nm := []) (sc := c.sc) hsl _ _)
  · obtain ⟨vr, e1, e2⟩ := hvs.get hv
    have hlen : vs.toArray.size = xs.length := by rw [List.size_toArray, hvs.length]
    exact tail_any L.typeIs slot_list_getitem.lookup (wpAny_getItem_list_neg L h0 (by rw [hlen]; exact h3) (by omega) (by rw [hlen]; simpa using e1) (k vr _ e2)) (subscripted_of (nm := []) (sc := c.sc) hsl _ _)
theorem Sq.glob {a : Addr} {vs : List Value} {n : Int} {i : Int} {t : Tok} (ha : c.h₀.IsList a vs.toArray) (h0 : 0 ≤ n) (hsz : vs.length ≤ 1000000) (hv : vs[n.toNat]? = some (.int i t)) : Sq c H (.glob a) (.int n) (.int i) := by
  rintro mr ρ s Q E _ _ base sl hsl S rfl ⟨u, rfl⟩ k
  have L : s.heap.IsList a vs.toArray := ha.at fun o e => S.keep _ o e
  have hlt := (List.getElem?_eq_some_iff.mp hv).1
  exact tail_any L.typeIs slot_list_getitem.lookup (wpAny_getItem_list L h0 (by omega) (by simpa using hv) (k _ _ ⟨t, rfl⟩)) (subscripted_of (nm := []) (sc := c.sc) hsl _ _)
theorem TB.nil {post : Fl → ML → MH → Prop} (h : post .next m H) : TB c m .nil H post := by
  intro ss hs
  intro mr ρ s Q E S l k kx
  refine wpAny_execs_nil ?_
  exact k [] .next .next m mr H s.heap s.toks h rfl (nil_of S) (by rw [List.append_nil]; exact l)
theorem TB.cons {a : CS} {r : CSs} {post : Fl → ML → MH → Prop} (h : TS c m a H (fun f m1 H1 => match f with | .next => TB c m1 r H1 post | f => post f m1 H1)) : TB c m (.cons a r) H post := by
  intro ss hs
  have hs := and2 hs
  intro mr ρ s Q E S l k kx
  refine wpAny_execs_cons ?_
  refine h _ hs.1 mr ρ s _ E S l ?_ kx
  intro t f fr m1 mr1 H1 h1 tk1 hp hf S1 l1
  cases f with
  | next =>
    subst hf
    refine hp _ hs.2 mr1 (ρ ++ t) _ _ E S1 l1 ?_ kx.mono
    intro t' f fr m2 mr2 H2 h2 tk2 hp2 hf2 S2 l2
    rw [List.append_assoc] at hf2 S2 l2
    exact k (t ++ t') f fr m2 mr2 H2 h2 tk2 hp2 hf2 S2 l2
  | brk => subst hf; exact k t .brk .brk m1 mr1 H1 h1 tk1 hp rfl S1 l1
  | cont => subst hf; exact k t .cont .cont m1 mr1 H1 h1 tk1 hp rfl S1 l1
  | ret v =>
    obtain ⟨vr, rfl, hv⟩ := hf
    exact k t (.ret v) (.ret vr) m1 mr1 H1 h1 tk1 hp ⟨vr, rfl, hv⟩ S1 l1
theorem TS.ret {a : CE} {post : Fl → ML → MH → Prop} (h : TE c m a H (fun v H1 => post (.ret v) m H1)) : TS c m (.ret a) H post := by
  intro st hs
  intro mr ρ s Q E S l k kx
  refine wpAny_Return_some ?_
  refine h _ hs mr ρ s _ E S l ?_ kx
  intro t v vr H1 h1 tk1 hp hv S1
  exact k t (.ret v) (.ret vr) m mr H1 h1 tk1 hp ⟨vr, rfl, hv⟩ S1 l.mono
theorem swaps_not {v : PySem.Expr} {t : Option PySem.Expr} {n : Nat} {env : Env} (h : notComp v = true) : swapsWith v t n env = pure false := by
  cases v <;> first | rfl | cases h
theorem TS.assign (ok : Ok G c d) (hfm : c.fm = none) {i : Nat} {a : CE} {post : Fl → ML → MH → Prop} (hn : isComp a = false) (h : TE c m a H (fun v H1 => post .next (m.set i (some v)) H1)) : TS c m (.assign i a) H post := by
  intro st hs
  obtain ⟨h1, h2, h3⟩ := and3 hs
  have h1 := beq_iff_eq.mp h1
  intro mr ρ s Q E S l k kx
  refine wpAny_Assign_Name ?_ (swaps_not (comp_re h3 hn))
  refine h _ h3 mr ρ s _ E S l ?_ kx
  intro t v vr H1 hp1 tk1 hp hv S1
  refine store ok S1 hfm h2 ?_
  intro h' tk S2
  exact k t .next .next _ _ H1 h' tk hp rfl S2 (l.mono.set h1 hv)
theorem TS.ite {t : CT} {a b : CSs} {post : Fl → ML → MH → Prop} (h : TT c m t H (fun r H1 => (r = true → TB c m a H1 post) ∧ (r = false → TB c m b H1 post))) : TS c m (.ite t a b) H post := by
  intro st hs
  have hs := and3 hs
  intro mr ρ s Q E S l k kx
  refine wpAny_If ?_
  refine h _ hs.1 _ mr ρ s _ E (fun _ => rfl) S l ?_ kx
  intro t b H1 h1 tk1 hp S1
  have fin : ∀ ss, EX c m ss H1 post → wpAny (model c.prog c.w) c.A (execs ss c.env) Q E { s with heap := h1, toks := tk1 } := by
    intro ss hss
    refine hss mr (ρ ++ t) _ _ E S1 l.mono ?_ kx.mono
    intro t' f fr m2 mr2 H2 h2 tk2 hp2 hf2 S2 l2
    rw [List.append_assoc] at hf2 S2 l2
    exact k (t ++ t') f fr m2 mr2 H2 h2 tk2 hp2 hf2 S2 l2
  cases b with
  | true => exact fin _ (hp.1 rfl _ hs.2.1)
  | false => exact fin _ (hp.2 rfl _ hs.2.2)
theorem TS.expr (hi : interactive c.env = false) {a : CE} {post : Fl → ML → MH → Prop} (h : TE c m a H (fun _ H1 => post .next m H1)) : TS c m (.expr a) H post := by
  intro st hs
  have hs := and2 hs
  intro mr ρ s Q E S l k kx
  refine wpAny_Expr_any ?_ hi (swaps_not (comp_re hs.2 (by simpa using hs.1)))
  refine h _ hs.2 mr ρ s _ E S l ?_ kx
  intro t v vr H1 h1 tk1 hp hv S1
  exact k t .next .next m mr H1 h1 tk1 hp rfl S1 l.mono
theorem swaps_attr {v o : PySem.Expr} {x : Str} {p : Pos} {n : Nat} {env : Env} : swapsWith v (some (.Attribute o x p)) n env = pure false := by
  cases v <;> rfl
end
noncomputable def Cx.wx (c : Cx) (xt : List (Addr × Obj)) : Cx := { c with xt := xt }
theorem Ok.wx {G : Gx} {c : Cx} {d : Nat} (ok : Ok G c d) (xt : List (Addr × Obj)) : Ok G (c.wx xt) d :=
  ⟨ok.frames, ok.kin, ok.top, ok.hh, ok.dep, ok.uni, ok.fn, ok.gl, ok.bi, ok.ap, ok.kd, ok.fs, ok.ex⟩
section
variable {c : Cx} {m : ML} {H : MH} {G : Gx} {d : Nat}
theorem TS.while (ok : Ok G c d) (hfm : c.fm = none) {t : CT} {b : CSs} {post : Fl → ML → MH → Prop} (I : Nat → ML → MH → Prop) (n : Nat) (h0 : I n m H)
    (turn : ∀ k m1 H1, I k m1 H1 → TT c m1 t H1 (fun r H2 => (r = true → TB c m1 b H2 (fun f m3 H3 => match f with
        | .next => ∃ j, j < k ∧ I j m3 H3
        | .cont => ∃ j, j < k ∧ I j m3 H3
        | .brk => post .next m3 H3
        | .ret v => post (.ret v) m3 H3)) ∧ (r = false → post .next m1 H2))) : TS c m (.while t b) H post := by
  intro st hs
  have hs := and2 hs
  intro mr ρ s Q E S lr k kx
  refine wpAny_While ?_
  let J : Nat → Shared → Prop := fun j s' => ∃ t m1 mr1 H1 h' tk, s' = { s with heap := h', toks := tk } ∧ I j m1 H1 ∧ St c mr1 (ρ ++ t) H1 h' ∧ LR mr1 c.nm (ρ ++ t) m1
  refine codeAny_whileLoop J ?_ n ⟨[], m, mr, H, s.heap, s.toks, rfl, h0, nil_of S, by rw [List.append_nil]; exact lr⟩
  rintro j _ ⟨t, m1, mr1, H1, h1, tk1, rfl, hI, S1, l1⟩
  have kx1 := (kx.mono (t := t) (h := h1) (tk := tk1)).pass (M := model c.prog c.w) (A := c.A) (A' := c.A) ok hfm rfl
  refine turn j m1 H1 hI _ hs.1 _ mr1 (ρ ++ t) _ _ _ (fun _ => rfl) S1 l1 ?_ kx1
  intro t' b H2 h2 tk2 hb S2
  have l2 := l1.mono (t := t')
  cases b with
  | false =>
    refine wpAny_execs_nil ?_
    have := k (t ++ t') .next .next m1 mr1 H2 h2 tk2 (hb.2 rfl) rfl
    rw [← List.append_assoc] at this
    exact this S2 l2
  | true =>
    refine hb.1 rfl _ hs.2 mr1 (ρ ++ t ++ t') _ _ _ S2 l2 ?_ kx1.mono
    intro t'' f fr m3 mr3 H3 h3 tk3 hp hf S3 l3
    have e : ρ ++ t ++ t' ++ t'' = ρ ++ (t ++ (t' ++ t'')) := by simp only [List.append_assoc]
    rw [e] at S3 l3 hf
    cases f with
    | next =>
      subst hf
      obtain ⟨i, hi, hI'⟩ := hp
      exact ⟨i, hi, _, m3, mr3, H3, h3, tk3, rfl, hI', S3, l3⟩
    | cont =>
      subst hf
      obtain ⟨i, hi, hI'⟩ := hp
      exact ⟨i, hi, _, m3, mr3, H3, h3, tk3, rfl, hI', S3, l3⟩
    | brk =>
      subst hf
      exact k _ .next .next m3 mr3 H3 h3 tk3 hp rfl S3 l3
    | ret v =>
      obtain ⟨vr, rfl, hv⟩ := hf
      exact k _ (.ret v) (.ret vr) m3 mr3 H3 h3 tk3 hp ⟨vr, rfl, hv⟩ S3 l3
theorem Led.addX {h₀ h : Heap} {L : Addr} {prog : Program} {w : World} {ml : Str → Option Value} {fr xt ex : List (Addr × Obj)} {ρ : List Addr} {o : Obj} (S : Led h₀ L prog w ml (fr ++ (xt ++ ex)) ρ H h) (ho : o.isFreed = false) :
    Led h₀ L prog w ml (fr ++ (((h.objs.size, o) :: xt) ++ ex)) ρ H (h.push o) := by
  obtain ⟨F, os, a1, a2, a3, N, a5⟩ := S
  have hn : h.objs.size ∉ (fr ++ (xt ++ ex)).map (·.1) ++ ρ := fun q => by
    obtain ⟨p, hp, e⟩ := led_addr (os := os) a1 a2 q
    have := Heap.lt_size (N p hp).1
    rw [e] at this
    exact Nat.lt_irrefl _ this
  refine ⟨F.push o, os, a1, a2, a3, fun p hp => N.push F o ho p ?_, ?_⟩
  · simp only [List.cons_append, List.mem_append, List.mem_cons] at hp ⊢
    rcases hp with (hp | hp | hp | hp) | hp <;> simp [hp]
  · have hp : ((fr ++ (((h.objs.size, o) :: xt) ++ ex)).map (·.1) ++ ρ).Perm (h.objs.size :: ((fr ++ (xt ++ ex)).map (·.1) ++ ρ)) := by
      simp only [List.map_append, List.map_cons, List.cons_append, List.append_assoc]
      exact List.perm_middle
    rw [hp.nodup_iff]
    exact List.nodup_cons.mpr ⟨hn, a5⟩
theorem St.addX {mr : Str → Option Value} {ρ : List Addr} {h : Heap} {o : Obj} (S : St c mr ρ H h) (ho : o.isFreed = false) : St (c.wx ((h.objs.size, o) :: c.xt)) mr ρ H (h.push o) := by
  obtain ⟨ml, fr, ex, own, u, l⟩ := S
  exact ⟨ml, fr, ex, own, u, l.addX ho⟩
theorem St.dropX {mr : Str → Option Value} {ρ : List Addr} {h : Heap} {p : Addr × Obj} (S : St (c.wx (p :: c.xt)) mr ρ H h) : St c mr ρ H h := by
  obtain ⟨ml, fr, ex, own, u, F, os, a1, a2, a3, N, a5⟩ := S
  refine ⟨ml, fr, ex, ?_, u, F, os, a1, a2, a3, fun q hq => N q ?_, ?_⟩
  · exact own
  · show q ∈ (fr ++ ((p :: c.xt) ++ ex)) ++ ρ.zip os
    simp only [List.cons_append, List.mem_append, List.mem_cons] at hq ⊢
    rcases hq with (hp | hp | hp) | hp <;> simp [hp]
  · replace a5 : ((fr ++ ((p :: c.xt) ++ ex)).map (·.1) ++ ρ).Nodup := a5
    refine List.Nodup.sublist ?_ a5
    simp only [List.map_append, List.map_cons, List.cons_append, List.append_assoc]
    exact List.Sublist.append (List.Sublist.refl _) (List.sublist_cons_self _ _)
theorem St.itr {mr : Str → Option Value} {ρ : List Addr} {h : Heap} {p : Addr × Obj} (S : St (c.wx (p :: c.xt)) mr ρ H h) : h.get? p.1 = some p.2 ∧ p.1 ≠ c.L ∧ c.h₀.get? p.1 = none := by
  obtain ⟨ml, fr, ex, own, u, F, os, a1, a2, a3, N, a5⟩ := S
  exact N p (List.mem_append_left _ (List.mem_append_right _ (List.mem_append_left _ (.head _))))
theorem St.turnX {mr : Str → Option Value} {ρ : List Addr} {h h' : Heap} {I : Addr} {o o' : Obj} (S : St (c.wx ((I, o) :: c.xt)) mr ρ H h) (hI : h'.get? I = some o')
    (hk : ∀ b x, b ≠ I → h.get? b = some x → h'.get? b = some x) : St (c.wx ((I, o') :: c.xt)) mr ρ H h' := by
  have nI := S.itr
  obtain ⟨ml, fr, ex, own, u, F, os, a1, a2, a3, N, a5⟩ := S
  replace N : News c.h₀ c.L h ((fr ++ (((I, o) :: c.xt) ++ ex)) ++ ρ.zip os) := N
  replace a5 : ((fr ++ (((I, o) :: c.xt) ++ ex)).map (·.1) ++ ρ).Nodup := a5
  have hne : ∀ b x, c.h₀.get? b = some x → b ≠ I := fun b x e q => by
    have := nI.2.2
    rw [q] at e
    have e' : c.h₀.get? I = none := this
    rw [e'] at e
    cases e
  refine ⟨ml, fr, ex, ?_, u, ⟨F.ns.at' fun x e => hk _ x (fun q => nI.2.1 q.symm) e, fun b x e => hk b x (hne b x e) (F.keep b x e), F.above⟩, os, a1, a2, a3, ?_, (by show ((fr ++ (((I, o') :: c.xt) ++ ex)).map (·.1) ++ ρ).Nodup; simpa [List.map_append] using a5)⟩
  · exact own
  · show News c.h₀ c.L h' ((fr ++ (((I, o') :: c.xt) ++ ex)) ++ ρ.zip os)
    have hp : ((fr ++ (((I, o) :: c.xt) ++ ex)).map (·.1) ++ ρ).Perm (I :: ((fr ++ (c.xt ++ ex)).map (·.1) ++ ρ)) := by
      simp only [List.map_append, List.map_cons, List.cons_append, List.append_assoc]
      exact List.perm_middle
    have hnd := List.nodup_cons.mp (hp.nodup_iff.mp a5)
    intro p hp
    have hsplit : p = (I, o') ∨ p ∈ (fr ++ (c.xt ++ ex)) ++ ρ.zip os := by
      simp only [List.cons_append, List.mem_append, List.mem_cons] at hp ⊢
      rcases hp with (hp | hp | hp | hp) | hp <;> simp [hp]
    rcases hsplit with rfl | hq
    · exact ⟨hI, nI.2⟩
    · have P := N p (by
        simp only [List.cons_append, List.mem_append, List.mem_cons] at hq ⊢
        rcases hq with (hp | hp | hp) | hp <;> simp [hp])
      refine ⟨hk _ _ (fun e => ?_) P.1, P.2⟩
      refine hnd.1 ?_
      rw [← e]
      rcases List.mem_append.mp hq with hq | hq
      · exact List.mem_append_left _ (List.mem_map_of_mem hq)
      · exact List.mem_append_right _ (List.of_mem_zip (show (p.1, p.2) ∈ _ from hq)).1
theorem St.endX {mr : Str → Option Value} {ρ : List Addr} {h h' : Heap} {I : Addr} {o : Obj} (S : St (c.wx ((I, o) :: c.xt)) mr ρ H h)
    (hk : ∀ b x, b ≠ I → h.get? b = some x → h'.get? b = some x) : St c mr ρ H h' := by
  have nI := S.itr
  obtain ⟨ml, fr, ex, own, u, F, os, a1, a2, a3, N, a5⟩ := S
  replace N : News c.h₀ c.L h ((fr ++ (((I, o) :: c.xt) ++ ex)) ++ ρ.zip os) := N
  replace a5 : ((fr ++ (((I, o) :: c.xt) ++ ex)).map (·.1) ++ ρ).Nodup := a5
  have hne : ∀ b x, c.h₀.get? b = some x → b ≠ I := fun b x e q => by
    have := nI.2.2
    rw [q] at e
    have e' : c.h₀.get? I = none := this
    rw [e'] at e
    cases e
  have hp : ((fr ++ (((I, o) :: c.xt) ++ ex)).map (·.1) ++ ρ).Perm (I :: ((fr ++ (c.xt ++ ex)).map (·.1) ++ ρ)) := by
    simp only [List.map_append, List.map_cons, List.cons_append, List.append_assoc]
    exact List.perm_middle
  have hnd := List.nodup_cons.mp (hp.nodup_iff.mp a5)
  refine ⟨ml, fr, ex, ?_, u, ⟨F.ns.at' fun x e => hk _ x (fun q => nI.2.1 q.symm) e, fun b x e => hk b x (hne b x e) (F.keep b x e), F.above⟩, os, a1, a2, a3, ?_, hnd.2⟩
  · exact own
  · intro p hq
    have P := N p (by
      simp only [List.cons_append, List.mem_append, List.mem_cons] at hq ⊢
      rcases hq with (hp | hp | hp) | hp <;> simp [hp])
    refine ⟨hk _ _ (fun e => ?_) P.1, P.2⟩
    refine hnd.1 ?_
    rw [← e]
    rcases List.mem_append.mp hq with hq | hq
    · exact List.mem_append_left _ (List.mem_map_of_mem hq)
    · exact List.mem_append_right _ (List.of_mem_zip (show (p.1, p.2) ∈ _ from hq)).1
theorem Fly.dropX {mr : Str → Option Value} {ρ : List Addr} {h : Heap} {p : Addr × Obj} {C : Addr} {as : List MV} {e : Addr} (f : Fly (c.wx (p :: c.xt)) mr ρ H C as e h) : Fly c mr ρ H C as e h := by
  obtain ⟨hB, t, vs, b, x⟩ := f.split
  exact FlyB.fly (c := c) ⟨b.st.dropX, b.vr, b.en, b.tn, b.tup, b.up, b.stay⟩ x
theorem Kx.addX {ρ : List Addr} {s : Shared} {E : Value → Shared → Prop} {p : Addr × Obj} (k : Kx c ρ s E) : Kx (c.wx (p :: c.xt)) ρ s E :=
  fun t C as e m' mr' H' h' tk hX hF hL => k t C as e m' mr' H' h' tk hX (hF.dropX) hL
end
noncomputable def setAll : List Nat → List MV → ML → ML
  | i :: is, v :: vs, m => setAll is vs (m.set i (some v))
  | _, _, m => m
noncomputable def Parts (H : MH) : List Nat → MV → List MV → Prop
  | [_], v, vs => vs = [v]
  | is, v, vs => 1 < is.length ∧ vs.length = is.length ∧ ∃ a, v = .ref a ∧ H[a]? = some (.tup vs)
noncomputable def okT (nm : List Str) (sc : Scope) (is : List Nat) : Bool := is.all (fun i => okSlot nm i && stb sc (nm.getD i ""))
section
variable {c : Cx} {m : ML} {H : MH} {G : Gx} {d : Nat}
theorem each_length {nm : List Str} {env : Env} : ∀ (is : List Nat) (es : List PySem.Expr), (assignEach (reNames (atNm nm is) es) env).length = is.length ∧ (assignEach (reNames (atNm nm is) es) env).findIdx? (·.1) = none
  | [], _ => ⟨rfl, rfl⟩
  | i :: is, es => by
    obtain ⟨h1, h2⟩ := each_length (nm := nm) (env := env) is es.tail
    refine ⟨?_, ?_⟩
    · show ((false, _) :: assignEach (reNames (atNm nm is) es.tail) env).length = _
      simp [h1]
    · show ((false, _) :: assignEach (reNames (atNm nm is) es.tail) env).findIdx? (·.1) = none
      rw [List.findIdx?_cons]
      simp [h2]
theorem assignIn (ok : Ok G c d) (hfm : c.fm = none) {Q : Unit → Shared → Prop} {E : Value → Shared → Prop} {ρ : List Addr} : ∀ {is : List Nat} {ts : List PySem.Expr} {vs : List MV} {vrs : List Value} {m : ML} {mr : Str → Option Value} {s : Shared},
    okT c.nm c.sc is = true → VRs ρ vs vrs → vs.length = is.length → St c mr ρ H s.heap → LR mr c.nm ρ m →
    (∀ mr' h' tk, St c mr' ρ H h' → LR mr' c.nm ρ (setAll is vs m) → Q () { s with heap := h', toks := tk }) →
    wpAny (model c.prog c.w) c.A (assignInOrder ((assignEach (reNames (atNm c.nm is) ts) c.env).map (·.2)) vrs) Q E s
  | [], ts, vs, vrs, m, mr, s, _, hv, hl, S, l, k => by
    cases vs with
    | nil =>
      have e : vrs = [] := hv
      subst e
      exact wpAny_pure (k mr s.heap s.toks S l)
    | cons _ _ => simp at hl
  | i :: is, ts, vs, vrs, m, mr, s, h, hv, hl, S, l, k => by
    have h1 : (okSlot c.nm i && stb c.sc (c.nm.getD i "") && okT c.nm c.sc is) = true := h
    obtain ⟨h1, h2, h3⟩ := and3 h1
    cases vs with
    | nil => simp at hl
    | cons v vs =>
      obtain ⟨vr, r, rfl, hv1, hv2⟩ := hv
      show wpAny _ _ (do holding r (assign (.Name (c.nm.getD i "") (nth 0 ts).pos) c.env vr); assignInOrder ((assignEach (reNames (atNm c.nm is) ts.tail) c.env).map (·.2)) r) Q E s
      refine wpAny_bind (wpAny_holding (wpAny_assign_Name ?_))
      refine store ok S hfm h2 ?_
      intro h' tk S2
      refine assignIn ok hfm (s := { s with heap := h', toks := tk }) h3 hv2 (by simpa using hl) S2 (l.set (beq_iff_eq.mp h1) hv1) ?_
      intro mr' h'' tk' S3 l3
      exact k mr' h'' tk' S3 l3
theorem ext_grow {h h' : Heap} (he : Heap.ExtBut h.objs.size h h') : ∀ b o, h.get? b = some o → h'.get? b = some o := fun b o e => he b o (Nat.ne_of_lt (Heap.lt_size e)) e
theorem assignTup (ok : Ok G c d) (hfm : c.fm = none) {Q : Unit → Shared → Prop} {E : Value → Shared → Prop} {ρ : List Addr} {is : List Nat} {ts : List PySem.Expr} {n : Nat} {p : Pos} {v : MV} {vr : Value} {vs : List MV} {mr : Str → Option Value} {s : Shared}
    (ht : okT c.nm c.sc is = true) (h1 : 1 < is.length) (hv : VR ρ v vr) (hp : Parts H is v vs) (S : St c mr ρ H s.heap) (l : LR mr c.nm ρ m)
    (k : ∀ mr' h' tk, St c mr' ρ H h' → LR mr' c.nm ρ (setAll is vs m) → Q () { s with heap := h', toks := tk }) : wpAny (model c.prog c.w) c.A (assign (.Tuple (reNames (atNm c.nm is) ts) n p) c.env vr) Q E s := by
  have hp' : 1 < is.length ∧ vs.length = is.length ∧ ∃ a, v = .ref a ∧ H[a]? = some (.tup vs) := by
    cases is with
    | nil => simp at h1
    | cons i r =>
      cases r with
      | nil => simp at h1
      | cons _ _ => exact hp
  obtain ⟨_, hl, a, rfl, ha⟩ := hp'
  obtain ⟨x, hx, rfl⟩ := hv
  obtain ⟨ws, hws, T⟩ := S.tup ha hx
  obtain ⟨q1, q2⟩ := each_length (nm := c.nm) (env := c.env) is ts
  refine assign_Tuple_tuple ok.hh T (by rw [q1, List.size_toArray, hws.length, hl]) q2 ?_
  intro h' he
  refine assignIn ok hfm (s := { s with heap := h' }) ht (by simpa using hws) hl (S.grow (ext_grow he)) l ?_
  intro mr' h'' tk' S3 l3
  exact k mr' h'' tk' S3 l3
theorem assignTg (ok : Ok G c d) (hfm : c.fm = none) {Q : Unit → Shared → Prop} {E : Value → Shared → Prop} {ρ : List Addr} {is : List Nat} {e : PySem.Expr} {v : MV} {vr : Value} {vs : List MV} {mr : Str → Option Value} {s : Shared}
    (h0 : is.isEmpty = false) (ht : okT c.nm c.sc is = true) (hv : VR ρ v vr) (hp : Parts H is v vs) (S : St c mr ρ H s.heap) (l : LR mr c.nm ρ m)
    (k : ∀ mr' h' tk, St c mr' ρ H h' → LR mr' c.nm ρ (setAll is vs m) → Q () { s with heap := h', toks := tk }) : wpAny (model c.prog c.w) c.A (assign (reTg (atNm c.nm is) e) c.env vr) Q E s := by
  cases is with
  | nil => cases h0
  | cons i r =>
    cases r with
    | nil =>
      have h1 : (okSlot c.nm i && stb c.sc (c.nm.getD i "") && true) = true := ht
      obtain ⟨h1, h2, _⟩ := and3 h1
      have e : vs = [v] := hp
      subst e
      refine wpAny_assign_Name (store ok S hfm h2 ?_)
      intro h' tk S2
      exact k _ h' tk S2 (l.set (beq_iff_eq.mp h1) hv)
    | cons j r =>
      have q : reTg (atNm c.nm (i :: j :: r)) e = .Tuple (reNames (atNm c.nm (i :: j :: r)) (kids e)) (numOf e) e.pos := rfl
      rw [q]
      exact assignTup ok hfm ht (by simp) hv hp S l k
noncomputable def NX (c : Cx) (I : Addr) (T : Nat → Obj → Prop) (good : MH → Prop) (item : Nat → MH → Option MV) (ρ₀ : List Addr) : Prop :=
  ∀ (i : Nat) (oI : Obj) (mr : Str → Option Value) (t : List Addr) (H : MH) (s : Shared) (Q : Option Value → Shared → Prop) (E : Value → Shared → Prop), T i oI → good H → St (c.wx ((I, oI) :: c.xt)) mr (ρ₀ ++ t) H s.heap →
    (∀ mv vr oI' h' tk, item i H = some mv → VR (ρ₀ ++ t) mv vr → T (i + 1) oI' → h'.get? I = some oI' → (∀ b o, b ≠ I → s.heap.get? b = some o → h'.get? b = some o) → Q (some vr) { s with heap := h', toks := tk }) →
    (∀ h' tk, item i H = none → (∀ b o, b ≠ I → s.heap.get? b = some o → h'.get? b = some o) → Q none { s with heap := h', toks := tk }) →
    wpAny (model c.prog c.w) c.A (pyNext (.ref I)) Q E s
noncomputable def GoOk (T : Nat → Obj → Prop) : Prop := ∀ i o, T i o → ∃ n vs, o.cls = .type n ∧ o.data = .fields vs ∧ ["enumerate", "zip", "dict_itemiterator", "dict_reverseitemiterator", "odict_iterator", "itertools.zip_longest", "itertools.pairwise"].contains n = false
theorem letOwned {T : Nat → Obj → Prop} (g : GoOk T) {i : Nat} {o : Obj} (hT : T i o) {I : Addr} {target : PySem.Expr} {v : Value} {s : Shared} {Q : Unit → Shared → Prop} {E : Value → Shared → Prop} {M : Model} {A : Around} (hI : s.heap.get? I = some o) (h : Q () s) :
    wpAny M A (letOwnedTupleGo target (.ref I) v) Q E s := by
  obtain ⟨n, vs, h1, h2, h3⟩ := g i o hT
  have key : wpAny M A (do
    let (.ref r, .ref a) := (Value.ref I, v) | return
    let o ← load r
    match o.cls, o.data with
    | .type n, .fields vs =>
      if ["enumerate", "zip", "dict_itemiterator", "dict_reverseitemiterator", "odict_iterator", "itertools.zip_longest", "itertools.pairwise"].contains n && vs[0]? == some (rawInt a) then
        rule "for.unpacks-the-owned-tuple"
        updateField r 0 .none
    | _, _ => pure ()) Q E s := by
    cases v with
    | ref a =>
      refine wpAny_bind (wpAny_load hI ?_)
      simp only [h1, h2, h3, Bool.false_and, Bool.false_eq_true, if_false]
      exact wpAny_pure h
    | _ => exact wpAny_pure h
  cases target with
  | Tuple _ _ _ => exact key
  | List _ _ => exact key
  | _ => exact wpAny_pure h
theorem forCore (ok : Ok G c d) (hfm : c.fm = none) {is : List Nat} {e : PySem.Expr} {b : CSs} {body : List Stmt} {post : Fl → ML → MH → Prop} (he : is.isEmpty = false) (ht : okT c.nm c.sc is = true) (hb : wfSs b c.nm c.sc body = true)
    {I : Addr} {T : Nat → Obj → Prop} {good : MH → Prop} {item : Nat → MH → Option MV} {ρ : List Addr} (nx : NX c I T good item ρ) (go : GoOk T)
    (J : Nat → ML → MH → Prop) (B : Nat) (h0 : J 0 m H) (hB : ∀ i m H, J i m H → i ≤ B ∧ good H)
    (turn : ∀ i m1 H1 v xt, J i m1 H1 → item i H1 = some v → ∃ vs, Parts H1 is v vs ∧ TB (c.wx xt) (setAll is vs m1) b H1 (fun f m2 H2 => match f with
      | .next => J (i + 1) m2 H2
      | .cont => J (i + 1) m2 H2
      | .brk => post .next m2 H2
      | .ret v => post (.ret v) m2 H2))
    (done : ∀ i m1 H1, J i m1 H1 → item i H1 = none → post .next m1 H1)
    {mr : Str → Option Value} {s : Shared} {Q : Flow → Shared → Prop} {E : Value → Shared → Prop} {oI : Obj} (hT : T 0 oI) (S : St (c.wx ((I, oI) :: c.xt)) mr ρ H s.heap) (lr : LR mr c.nm ρ m)
    (k : ∀ t f fr m' mr' H' h' tk, post f m' H' → FlR (ρ ++ t) f fr → St c mr' (ρ ++ t) H' h' → LR mr' c.nm (ρ ++ t) m' → Q fr { s with heap := h', toks := tk }) (kx : Kx c ρ s E) :
    codeAny (model c.prog c.w) c.A (.forLoop (reTg (atNm c.nm is) e) (.ref I) (reSs b c.nm body) [] c.env) (fun r s' => match r with | .ok f => Q f s' | .error e => cameBackBy (model c.prog c.w) c.A c.env E e s') s := by
  let L : Nat → Shared → Prop := fun n s' => ∃ i t m1 mr1 H1 h' tk o, s' = { s with heap := h', toks := tk } ∧ n = B + 1 - i ∧ J i m1 H1 ∧ T i o ∧ St (c.wx ((I, o) :: c.xt)) mr1 (ρ ++ t) H1 h' ∧ LR mr1 c.nm (ρ ++ t) m1
  refine codeAny_forLoop_any L ?_ (B + 1) ⟨0, [], m, mr, H, s.heap, s.toks, oI, rfl, rfl, h0, hT, nil_of S, by rw [List.append_nil]; exact lr⟩
  rintro n _ ⟨i, t, m1, mr1, H1, h1, tk1, o, rfl, rfl, hJ, hTi, S1, l1⟩
  have kx1 := (kx.mono (t := t) (h := h1) (tk := tk1)).pass (M := model c.prog c.w) (A := c.A) (A' := c.A) ok hfm rfl
  refine nx i o mr1 t H1 _ _ _ hTi (hB i m1 H1 hJ).2 S1 ?_ ?_
  · intro mv vr oI' h2 tk2 hi hv hT' hI hkeep
    have S2 := S1.turnX hI hkeep
    refine letOwned go hT' hI ?_
    obtain ⟨vs, hp, hturn⟩ := turn i m1 H1 mv ((I, oI') :: c.xt) hJ hi
    refine assignTg (c := c.wx ((I, oI') :: c.xt)) (s := { s with heap := h2, toks := tk2 }) (ok.wx _) hfm he ht hv hp S2 l1 ?_
    intro mr3 h3 tk3 S3 l3
    refine hturn _ hb mr3 (ρ ++ t) { s with heap := h3, toks := tk3 } _ _ S3 l3 ?_ ?_
    · intro t' f fr m4 mr4 H4 h4 tk4 hp4 hf S4 l4
      rw [List.append_assoc] at hf S4 l4
      cases f with
      | next =>
        subst hf
        have := (hB _ _ _ hp4).1
        exact ⟨B + 1 - (i + 1), by omega, i + 1, t ++ t', m4, mr4, H4, h4, tk4, oI', rfl, rfl, hp4, hT', S4, l4⟩
      | cont =>
        subst hf
        have := (hB _ _ _ hp4).1
        exact ⟨B + 1 - (i + 1), by omega, i + 1, t ++ t', m4, mr4, H4, h4, tk4, oI', rfl, rfl, hp4, hT', S4, l4⟩
      | brk =>
        subst hf
        exact k (t ++ t') .next .next m4 mr4 H4 h4 tk4 hp4 rfl (S4.dropX) l4
      | ret v =>
        obtain ⟨vr', rfl, hv'⟩ := hf
        exact k (t ++ t') (.ret v) (.ret vr') m4 mr4 H4 h4 tk4 hp4 ⟨vr', rfl, hv'⟩ (S4.dropX) l4
    · exact Kx.addX (c := c) (p := (I, oI')) fun t' C as e m' mr' H' h' tk hX hF hL => kx1 t' C as e m' mr' H' h' tk hX hF hL
  · intro h2 tk2 hi hkeep
    refine wpAny_execs_nil ?_
    have S2 : St c mr1 (ρ ++ t) H1 h2 := S1.endX hkeep
    exact k t .next .next m1 mr1 H1 h2 tk2 (done i m1 H1 hJ hi) rfl S2 l1
end
section
variable {c : Cx} {m : ML} {H : MH} {G : Gx} {d : Nat}
theorem and4 {a b c d : Bool} (h : (a && b && c && d) = true) : a = true ∧ b = true ∧ c = true ∧ d = true := ⟨(and3 (and2 h).1).1, (and3 (and2 h).1).2.1, (and3 (and2 h).1).2.2, (and2 h).2⟩
theorem ne_of {is : List Nat} (h : (!is.isEmpty) = true) : is.isEmpty = false := by simpa using h
theorem folded_of {nm : List Str} {sc : Scope} {a : CE} {e : PySem.Expr} {env : Env} (h : wfE a nm sc e = true) (v : Value) : foldedSetIterable (reE a nm e) env v = pure v := by
  cases a with
  | tst t => have h2 := tst_of h; cases t <;> first | rfl | cases h2
  | _ => rfl
theorem callType (ok : Ok G c d) {g : Str} {T : String} {as : CEs} {e : PySem.Expr} (hg : nsIn G.K mainGlobals g = some Option.none) (hb : bootBuiltins g = some (.type T)) (hn : g ≠ "__name__")
    (he : wfE (.call g as) c.nm c.sc e = true) (hne : as ≠ .nil) {mr : Str → Option Value} {ρ : List Addr} {s : Shared} {Q : Value → Shared → Prop} {E : Value → Shared → Prop} {p : List MV → MH → Prop} (S : St c mr ρ H s.heap) (l : LR mr c.nm ρ m) (kx : Kx c ρ s E)
    (h : TEs c m as H p) (k : ∀ t vs vrs H' h' tk, p vs H' → VRs (ρ ++ t) vs vrs → St c mr (ρ ++ t) H' h' → wpAny (model c.prog c.w) c.A (call (.type T) vrs) Q E { s with heap := h', toks := tk }) :
    wpAny (model c.prog c.w) c.A (eval (reE (.call g as) c.nm e) c.env) Q E s := by
  obtain ⟨h2, h3⟩ := and2 he
  refine Call_ ?_ rfl
  refine nameB ok S h2 hg hb hn ?_
  cases as with
  | nil => exact absurd rfl hne
  | cons a r =>
    have h4 := and2 h3
    refine PyProof.Rows.callWith_type1 ?_ (star_cons (star_re h4.1)) (star_plain h4.2)
    refine h _ _ h3 mr ρ s _ E S l ?_ kx
    intro t vs vrs H' h' tk hp hv S'
    exact k t vs vrs H' h' tk hp hv S'
theorem callBuiltin (ok : Ok G c d) {g : Str} {T : String} {as : CEs} {e : PySem.Expr} (hg : nsIn G.K mainGlobals g = some Option.none) (hb : bootBuiltins g = some (.builtin T)) (hn : g ≠ "__name__")
    (he : wfE (.call g as) c.nm c.sc e = true) (hne : as ≠ .nil) {mr : Str → Option Value} {ρ : List Addr} {s : Shared} {Q : Value → Shared → Prop} {E : Value → Shared → Prop} {p : List MV → MH → Prop} (S : St c mr ρ H s.heap) (l : LR mr c.nm ρ m) (kx : Kx c ρ s E)
    (h : TEs c m as H p) (k : ∀ t vs vrs H' h' tk, p vs H' → VRs (ρ ++ t) vs vrs → St c mr (ρ ++ t) H' h' → wpAny (model c.prog c.w) c.A (call (.builtin T) vrs) Q E { s with heap := h', toks := tk }) :
    wpAny (model c.prog c.w) c.A (eval (reE (.call g as) c.nm e) c.env) Q E s := by
  obtain ⟨h2, h3⟩ := and2 he
  refine Call_ ?_ rfl
  refine nameB ok S h2 hg hb hn ?_
  cases as with
  | nil => exact absurd rfl hne
  | cons a r =>
    have h4 := and2 h3
    refine PyProof.Rows.callWith_builtin1 ?_ (star_cons (star_re h4.1)) (star_plain h4.2)
    refine h _ _ h3 mr ρ s _ E S l ?_ kx
    intro t vs vrs H' h' tk hp hv S'
    exact k t vs vrs H' h' tk hp hv S'
theorem TEs.one {a : CE} {p : MV → MH → Prop} (h : TE c m a H p) : TEs c m (.cons a .nil) H (fun vs H1 => ∃ v, vs = [v] ∧ p v H1) := TEs.cons (h.mono fun v H1 h1 => TEs.nil ⟨v, rfl, h1⟩)
end
theorem Ok.le {G : Gx} {c : Cx} {d d' : Nat} (h : d ≤ d') (ok : Ok G c d') : Ok G c d :=
  ⟨ok.frames, ok.kin, ok.top, ok.hh, by have := ok.dep; omega, by have := ok.uni; omega, ok.fn, ok.gl, ok.bi, ok.ap, ok.kd, ok.fs, ok.ex⟩
theorem CL.le {G : Gx} {prog : Program} {w : World} {d d' : Nat} {f : Addr} {args : List MV} {H : MH} {p : MV → MH → Prop} {xp : Addr → List MV → MH → Prop} (h : d ≤ d') (q : CL G prog w d f args H p xp) : CL G prog w d' f args H p xp :=
  fun c mr ρ s Q E vs e1 e2 ok S l k kx => q c mr ρ s Q E vs e1 e2 (ok.le h) S l k kx
structure GFn (G : Gx) (g : Str) (f : Addr) : Prop where
  ns : nsIn G.K mainGlobals g = some (some (.ref f))
  keep : keepIn G.K (.ref f) = true
structure GCls (G : Gx) (g : Str) (C fI : Addr) : Prop extends GFn G g C where
  makes : makesIn G.K C = true
  init : findIn G.K (.ref C) "__init__" = some (some (.ref fI))
  fn : isFn G.K (.ref fI) = true
structure GAtt (G : Gx) (C : Addr) (name : Str) : Prop where
  plain : plainGet G.K C name = true
  dict : hasDictIn G.K C = true
  find : findIn G.K (.ref C) name = some none
structure GSto (G : Gx) (C : Addr) (name : Str) : Prop where
  set : findIn G.K (.ref C) "__setattr__" = some (some (.builtin "object.__setattr__"))
  over : plainOver G.K C = true
  taker : takerIn G.K C name = some none
  dict : hasDictIn G.K C = true
structure GMth (G : Gx) (C : Addr) (name : Str) (f : Addr) : Prop where
  plain : plainGet G.K C name = true
  find : findIn G.K (.ref C) name = some (some (.ref f))
  fn : isFn G.K (.ref f) = true
  keep : keepIn G.K (.ref f) = true
noncomputable def GDef (G : Gx) (f : Addr) (names nm : List Str) (b : CSs) (dm : List MV) : Prop :=
  ∃ (name qual : Str) (params : Arguments) (body : List Stmt) (scope : Scope) (dV kV doc pm cdv ct oc : Value) (an od : Option Addr) (osl : Array (Option Value)) (dv : List Value),
    G.K.lookup f = some ⟨oc, od, .func (fnOf name qual params body scope dV kV doc pm an cdv ct), osl⟩ ∧ codeIn G.K cdv qual = true ∧
    (∀ (s : Shared) (vs : List Value), G.K.In s.heap → vs.length + dm.length = names.length → BindsTo s (fnOf name qual params body scope dV kV doc pm an cdv ct) ⟨vs, []⟩ (names.zip (vs ++ dv))) ∧
    VRs [] dm dv ∧ fnb scope names nm = true ∧ wfSs b nm scope body = true ∧ reSs b nm body = body
theorem GDef.cl {G : Gx} {prog : Program} {w : World} {d : Nat} {f : Addr} {names nm : List Str} {b : CSs} {dm args : List MV} {H : MH} {post : MV → MH → Prop} {xp : Addr → List MV → MH → Prop}
    (D : GDef G f names nm b dm) (hl : args.length + dm.length = names.length)
    (h : ∀ c : Cx, c.prog = prog → c.w = w → Ok G c d → c.fm = none → interactive c.env = false → c.nm = nm → c.X = (fun C as _ H => xp C as H) → TB c (start nm (args ++ dm)) b H (fun fl _ H' => post (retv fl) H')) :
    CL G prog w (d + 1) f args H post xp := by
  obtain ⟨name, qual, params, body, scope, dV, kV, doc, pm, cdv, ct, oc, an, od, osl, dv, h1, h2, h3, h4, h5, h6, h7⟩ := D
  refine CL.body (names := names) (nm := nm) h1 h2 (fun s vs X hv => h3 s vs X (by rw [hv]; exact hl)) h4 (by rw [List.length_append]; exact hl) h5 ?_
  intro c e1 e2 ok e3 e4 e5 e6
  have hb := h c e1 e2 ok e3 ?_ e4 e6 body (by rw [e4, e5]; exact h6)
  · rw [e4, h7] at hb
    exact hb
  have := ok.fn
  unfold interactive
  rw [this]
  rfl
section
variable {c : Cx} {m : ML} {H : MH} {G : Gx} {d : Nat}
theorem runCL {f : Addr} {vs : List MV} {vrs : List Value} {mr : Str → Option Value} {ρ t : List Addr} {s : Shared} {Q : Value → Shared → Prop} {E : Value → Shared → Prop} {H1 : MH} {h1 : Heap} {tk1 : Nat} {post : MV → MH → Prop} (ok : Ok G c d)
    (hcl : CL G c.prog c.w d f vs H1 post (fun C as H' => c.X C as m H')) (S1 : St c mr (ρ ++ t) H1 h1) (hvs : VRs (ρ ++ t) vs vrs) (l : LR mr c.nm ρ m)
    (k : ∀ t v vr H' h' tk, post v H' → VR (ρ ++ t) v vr → St c mr (ρ ++ t) H' h' → Q vr { s with heap := h', toks := tk }) (kx : Kx c ρ s E) :
    wpAny (model c.prog c.w) c.A (call (.ref f) vrs) Q E { s with heap := h1, toks := tk1 } := by
  refine wpAny_call ?_
  refine hcl c mr (ρ ++ t) _ _ E vrs rfl rfl ok S1 hvs ?_ ?_
  · intro t' v vr H2 h2 tk2 hp hv S2
    rw [List.append_assoc] at hv S2
    exact k (t ++ t') v vr H2 h2 tk2 hp hv S2
  · intro t' C as e H2 h2 tk2 hx hF
    rw [List.append_assoc] at hF
    exact kx (t ++ t') C as e m mr H2 h2 tk2 hx hF l.mono
theorem TE.call (ok : Ok G c d) {g : Str} {f : Addr} {a : CE} {r : CEs} {post : MV → MH → Prop} (hg : GFn G g f) (h : TEs c m (.cons a r) H (fun vs H1 => CL G c.prog c.w d f vs H1 post (fun C as H' => c.X C as m H'))) : TE c m (.call g (.cons a r)) H post := by
  intro e he
  obtain ⟨h2, h3⟩ := and2 he
  intro mr ρ s Q E S l k kx
  refine Call_ ?_ rfl
  refine nameG ok S h2 hg.ns ?_
  have h4 := and2 h3
  refine callWith_K ok.kin hg.keep ?_ (star_cons (star_re h4.1)) (star_plain h4.2)
  refine h _ _ h3 mr ρ s _ E S l ?_ kx
  intro t vs vrs H1 h1 tk1 hcl hvs S1
  exact ⟨ok.kin.keeps S1.keep, runCL ok hcl S1 hvs l k kx⟩
theorem NR.find {P : Params} {ρ : List Addr} {x : Str} {mv : MV} : ∀ {fs : List (Str × MV)} {es : List DictEntry}, NR P ρ fs es → fs.lookup x = some mv →
    ∃ e : DictEntry, es.find? (·.key.isStr x) = some e ∧ VR ρ mv e.val
  | [], _, _, h => by simp at h
  | (y, m) :: fs, _, ⟨t, v, r, e, h1, h2⟩, h => by
    subst e
    by_cases hx : x = y
    · subst hx
      simp only [List.lookup, beq_self_eq_true] at h
      cases h
      exact ⟨⟨PyData.keyHash P x, .str x t, v⟩, by simp [List.find?, Value.isStr], h1⟩
    · have hb : (x == y) = false := by simpa using hx
      have hb' : (y == x) = false := by simpa using fun e => hx e.symm
      simp only [List.lookup, hb] at h
      obtain ⟨e, h3, h4⟩ := h2.find h
      exact ⟨e, by simp only [List.find?, Value.isStr, hb']; exact h3, h4⟩
theorem NR.get {P : Params} {ρ : List Addr} {x : Str} {mv : MV} {fs : List (Str × MV)} {es : List DictEntry} (h : NR P ρ fs es) (hx : fs.lookup x = some mv) :
    ∃ v, getL x es = some (some v) ∧ VR ρ mv v := by
  obtain ⟨e, h1, h2⟩ := h.find hx
  exact ⟨e.val, by unfold getL; rw [h1], h2⟩
theorem NR.miss {P : Params} {ρ : List Addr} {x : Str} : ∀ {fs : List (Str × MV)} {es : List DictEntry}, NR P ρ fs es → fs.lookup x = none → es.find? (·.key.isStr x) = none ∧ es.any (·.refKey) = false
  | [], _, h, _ => by rw [h]; exact ⟨rfl, rfl⟩
  | (y, m) :: fs, _, ⟨t, v, r, e, h1, h2⟩, h => by
    subst e
    by_cases hx : x = y
    · subst hx
      simp only [List.lookup, beq_self_eq_true] at h
      cases h
    · have hb : (x == y) = false := by simpa using hx
      have hb' : (y == x) = false := by simpa using fun e => hx e.symm
      simp only [List.lookup, hb] at h
      obtain ⟨h3, h4⟩ := h2.miss h
      refine ⟨by simp only [List.find?, Value.isStr, hb']; exact h3, ?_⟩
      rw [List.any_cons, h4, Bool.or_false]
      rfl
theorem NR.none' {P : Params} {ρ : List Addr} {x : Str} {fs : List (Str × MV)} {es : List DictEntry} (h : NR P ρ fs es) (hx : fs.lookup x = none) : getL x es = some none := by
  obtain ⟨h1, h2⟩ := h.miss hx
  unfold getL
  rw [h1]
  simp only [h2]
  rfl
theorem NR.length {P : Params} {ρ : List Addr} : ∀ {fs : List (Str × MV)} {es : List DictEntry}, NR P ρ fs es → es.length = fs.length
  | [], _, h => by rw [h]; rfl
  | (_, _) :: _, _, ⟨_, _, _, e, _, h2⟩ => by rw [e, List.length_cons, List.length_cons, h2.length]
noncomputable def putF (x : Str) (v : MV) : List (Str × MV) → List (Str × MV)
  | [] => [(x, v)]
  | p :: r => if p.1 = x then (x, v) :: r else p :: putF x v r
theorem NR.put {P : Params} {ρ : List Addr} {x : Str} {mv : MV} {v : Value} {t : Tok} (hv : VR ρ mv v) : ∀ {fs : List (Str × MV)} {es : List DictEntry}, NR P ρ fs es →
    NR P ρ (putF x mv fs) (putL x (PyData.keyHash P x) (.str x t) v es)
  | [], _, h => by
    rw [h]
    exact ⟨t, v, [], rfl, hv, rfl⟩
  | (y, m) :: fs, _, ⟨u, w, r, e, h1, h2⟩ => by
    subst e
    unfold putF putL
    by_cases hy : y = x
    · subst hy
      have hb : Value.isStr (.str y u) y = true := by simp [Value.isStr]
      simp only [hb, if_true]
      exact ⟨u, v, r, rfl, hv, h2⟩
    · have hb : Value.isStr (.str y u) x = false := by simpa [Value.isStr] using hy
      simp only [if_neg hy, hb, Bool.false_eq_true, if_false]
      exact ⟨u, w, _, rfl, h1, h2.put hv⟩
theorem NR.some {P : Params} {ρ : List Addr} {x : Str} {fs : List (Str × MV)} {es : List DictEntry} (h : NR P ρ fs es) : (getL x es).isSome = true := by
  cases hx : fs.lookup x with
  | none => rw [h.none' hx]; rfl
  | some v => obtain ⟨u, e, _⟩ := h.get hx; rw [e]; rfl
theorem putF_length (x : Str) (v : MV) : ∀ m : List (Str × MV), (putF x v m).length ≤ m.length + 1
  | [] => Nat.le_refl _
  | p :: r => by
    unfold putF
    split
    · simp
    · have := putF_length x v r
      simp only [List.length_cons]
      omega
theorem VR.handed {ρ : List Addr} {m : MV} {v : Value} (h : VR ρ m v) : handedIn v = true := by
  cases m with
  | none => rw [show v = .none from h]; rfl
  | bool b => rw [show v = .bool b from h]; rfl
  | int i => obtain ⟨t, rfl⟩ := h; rfl
  | str x => obtain ⟨t, rfl⟩ := h; rfl
  | ref a => obtain ⟨x, _, rfl⟩ := h; rfl
  | glob a => rw [show v = .ref a from h]; rfl
noncomputable def Ins (H : MH) (i : Nat) (C : Addr) (k : Nat) (fs : List (Str × MV)) : Prop := H[i]? = some (.inst C k) ∧ H[k]? = some (.ns fs)
theorem St.inst {mr : Str → Option Value} {ρ : List Addr} {h : Heap} (S : St c mr ρ H h) {i k : Nat} {C : Addr} {fs : List (Str × MV)} (hi : Ins H i C k fs) :
    ∃ x dx es n, ρ[i]? = some x ∧ ρ[k]? = some dx ∧ NR c.w.params ρ fs es ∧ InstAt h x (instObj C dx) C (some (dictOf es n)) ∧ h.get? dx = some (dictOf es n) := by
  obtain ⟨x, o, hx, ⟨dx, hdx, rfl⟩, Nx⟩ := S.get hi.1
  obtain ⟨dx', o', hdx', ⟨es, n, hes, rfl⟩, Nd⟩ := S.get hi.2
  rw [hdx] at hdx'
  cases hdx'
  exact ⟨x, dx, es, n, hx, hdx, hes, ⟨(Nx _ (.head _)).1, rfl, rfl, (Nd _ (.head _)).1⟩, (Nd _ (.head _)).1⟩
theorem base_of {o : PySem.Expr} {name : Str} {env : Env} {wh : Sem Value} (h : notSup o = true) : attributeBase o name env wh = wh := by
  unfold attributeBase
  split
  · rename_i id p pos
    cases h
  · rfl
theorem sup_re {a : CE} {nm : List Str} {sc : Scope} {e : PySem.Expr} (h : wfE a nm sc e = true) (hs : nsup a = true) : notSup (reE a nm e) = true := by
  cases a with
  | tst t => have h2 := tst_of h; cases t <;> first | rfl | cases h2
  | call g as => cases as <;> first | rfl | cases hs
  | _ => rfl
theorem TE.attr (ok : Ok G c d) {o : CE} {name : Str} {post : MV → MH → Prop}
    (h : TE c m o H (fun l H1 => ∃ a C k fs v, l = .ref a ∧ Ins H1 a C k fs ∧ fs.lookup name = some v ∧ GAtt G C name ∧ post v H1)) : TE c m (.attr o name) H post := by
  intro e he
  obtain ⟨h2', h3⟩ := and2 he
  have h2 := sup_re (nm := c.nm) (e := kid 0 e) h3 h2'
  let ob := reE o c.nm (kid 0 e)
  let pos := e.pos
  intro mr ρ s Q E S l k kx
  have hev : eval (.Attribute ob name pos) c.env = (do
    let o ← eval ob c.env
    standAt pos.atName
    let r ← holding [o] (getAttr o name true)
    letTemporaryGo ob o r
    pure r) := by
    show (do
      let o ← attributeBase ob name c.env (eval ob c.env)
      standAt pos.atName
      let r ← holding [o] (getAttr o name true)
      letTemporaryGo ob o r
      pure r) = _
    rw [base_of h2]
  refine Attribute_any_ ?_ hev
  refine h _ h3 mr ρ s _ E S l ?_ kx
  rintro t lv lr H1 h1 tk1 ⟨a, C, kk, fs, v, rfl, hi, hv, ga, hp⟩ ⟨x, hx, rfl⟩ S1
  obtain ⟨x', dx, es, n, hx', hdx, hes, I, _⟩ := S1.inst hi
  rw [hx] at hx'
  cases hx'
  obtain ⟨vr, hg, hvr⟩ := hes.get hv
  obtain ⟨ml, xs, led, _⟩ := S1.open
  exact get_own led.1 ok.kin I ga.plain ga.dict ga.find rfl hg hvr.handed (k t v vr H1 h1 _ hp hvr S1)
theorem star_all {nm : List Str} {sc : Scope} {pos : Pos} {env : Env} : ∀ {as : CEs} {es : List PySem.Expr}, wfEs as nm sc es = true → (backTo pos (starEach (reEs as nm es) env)).all (!·.1) = true
  | .nil, es, h => rfl
  | .cons a r, es, h => by
    have h := and2 h
    have := star_all (pos := pos) (env := env) h.2
    show (backTo pos (starEach (reE a nm (nth 0 es) :: reEs r nm es.tail) env)).all (!·.1) = true
    rw [star_cons (star_re h.1)]
    unfold backTo at this ⊢
    simp only [List.map_cons, List.all_cons, Bool.not_false, Bool.true_and]
    exact this
theorem len_re {nm : List Str} : ∀ (as : CEs) (es : List PySem.Expr), (reEs as nm es).length = lenEs as
  | .nil, _ => rfl
  | .cons a r, es => by
    show (reE a nm (nth 0 es) :: reEs r nm es.tail).length = lenEs r + 1
    rw [List.length_cons, len_re r]
theorem meth_eval {ob : PySem.Expr} {name : Str} {apos pos : Pos} {args : List PySem.Expr} {as : CEs} {es : List PySem.Expr} (ha : args = reEs as c.nm es) (h1 : notSup ob = true) (h2 : (apos.endLine == pos.line) = true) (h3 : args.length < 30) (h4 : wfEs as c.nm c.sc es = true) :
    eval (.Call (.Attribute ob name apos) args [] pos) c.env = (do
      let ov ← eval ob c.env
      standAt apos.atName
      let (f, first) ← holding [ov] (getMethod ov name (do return (← importBound ob c.env).getD true))
      callWith pos f first (backTo pos (starEach args c.env)) []) := by
  show (do
    let ov ← attributeBase ob name c.env (eval ob c.env)
    standAt apos.atName
    methodCall ob name apos pos c.env ov (args.length + 0) (backTo pos (starEach args c.env)) []) = _
  rw [base_of h1]
  have hf : methodCallForm (args.length + 0) (backTo pos (starEach args c.env)) [] = true := by
    unfold methodCallForm
    rw [ha, star_all h4, ← ha]
    simpa using h3
  unfold methodCall methodCallPos calleeOf
  simp only [hf, h2, Bool.not_true, Bool.false_or, if_true]
  rfl
end
section
variable {c : Cx} {m : ML} {H : MH} {G : Gx} {d : Nat}
noncomputable def MCall (c : Cx) (m : ML) (H : MH) (l : MV) (name : Str) (as : CEs) (post : MV → MH → Prop) : Prop :=
  ∀ (mr : Str → Option Value) (ρ : List Addr) (s : Shared) (Q : Value → Shared → Prop) (E : Value → Shared → Prop) (vr : Value) (pl : Sem Bool) (pos : Pos) (args : List PySem.Expr), St c mr ρ H s.heap → LR mr c.nm ρ m → VR ρ l vr →
    wfEs as c.nm c.sc args = true →
    (∀ t v vr H' h' tk, post v H' → VR (ρ ++ t) v vr → St c mr (ρ ++ t) H' h' → Q vr { s with heap := h', toks := tk }) → Kx c ρ s E →
    wpAny (model c.prog c.w) c.A (getMethod vr name pl) (fun fx s₂ => wpAny (model c.prog c.w) c.A (callWith pos fx.1 fx.2 (backTo pos (starEach (reEs as c.nm args) c.env)) []) Q E s₂) E s
theorem TE.mcall {o : CE} {name : Str} {as : CEs} {post : MV → MH → Prop} (h : TE c m o H (fun l H1 => MCall c m H1 l name as post)) : TE c m (.meth o name as) H post := by
  intro e he
  obtain ⟨he, h6⟩ := and2 he
  obtain ⟨h2, h3, h4, h5⟩ := and4 he
  intro mr ρ s Q E S l k kx
  refine MethodCall_ ?_ (meth_eval rfl (sup_re h5 h2) h3 (by rw [len_re]; exact of_decide_eq_true h4) h6)
  refine h _ h5 mr ρ s _ E S l ?_ kx
  intro t lv lr H1 hp1 tk1 hm hl S1
  refine hm mr (ρ ++ t) { s with heap := hp1, toks := tk1 } Q E lr _ e.pos (kids e).tail S1 l.mono hl h6 ?_ kx.mono
  intro t' v vr H2 h2 tk2 hp hv S2
  rw [List.append_assoc] at hv S2
  exact k (t ++ t') v vr H2 h2 tk2 hp hv S2
theorem MCall.own (ok : Ok G c d) {a : Nat} {C : Addr} {kk : Nat} {fs : List (Str × MV)} {name : Str} {f : Addr} {x : CE} {r : CEs} {post : MV → MH → Prop} (hi : Ins H a C kk fs) (hno : fs.lookup name = none) (gm : GMth G C name f)
    (h : TEs c m (.cons x r) H (fun vs H1 => CL G c.prog c.w d f (.ref a :: vs) H1 post (fun C as H' => c.X C as m H'))) : MCall c m H (.ref a) name (.cons x r) post := by
  rintro mr ρ s Q E _ pl pos args S l ⟨y, hy, rfl⟩ hes k kx
  obtain ⟨x', dx, ens, n, hx', hdx, hen, I, _⟩ := S.inst hi
  rw [hy] at hx'
  cases hx'
  obtain ⟨ml, xs, led, _⟩ := S.open
  refine method_inst led.1 ok.kin I gm.plain gm.find gm.fn (hen.none' hno) ?_
  have h4 := and2 hes
  refine callWith_K ok.kin gm.keep ?_ (star_cons (star_re h4.1)) (star_plain h4.2)
  refine h _ _ hes mr ρ s _ E S l ?_ kx
  intro t vs vrs H1 h1 tk1 hcl hvs S1
  refine ⟨ok.kin.keeps S1.keep, ?_⟩
  exact runCL ok hcl S1 ⟨_, _, rfl, VR.mono ⟨y, hy, rfl⟩, hvs⟩ l k kx
theorem MCall.own0 (ok : Ok G c d) {a : Nat} {C : Addr} {kk : Nat} {fs : List (Str × MV)} {name : Str} {f : Addr} {post : MV → MH → Prop} (hi : Ins H a C kk fs) (hno : fs.lookup name = none) (gm : GMth G C name f)
    (h : CL G c.prog c.w d f [.ref a] H post (fun C as H' => c.X C as m H')) : MCall c m H (.ref a) name .nil post := by
  rintro mr ρ s Q E _ pl pos args S l ⟨y, hy, rfl⟩ hes k kx
  obtain ⟨x', dx, ens, n, hx', hdx, hen, I, _⟩ := S.inst hi
  rw [hy] at hx'
  cases hx'
  obtain ⟨ml, xs, led, _⟩ := S.open
  refine method_inst led.1 ok.kin I gm.plain gm.find gm.fn (hen.none' hno) ?_
  · refine callWith_K0 (ok.kin.keeps S.keep) gm.keep ?_
    exact runCL (t := []) (tk1 := s.toks) (h1 := s.heap) ok h (nil_of S) ⟨_, _, rfl, VR.mono ⟨y, hy, rfl⟩, rfl⟩ l k kx
theorem TE.meth (ok : Ok G c d) {o : CE} {name : Str} {x : CE} {r : CEs} {post : MV → MH → Prop} (h : TE c m o H (fun l H1 => ∃ a C kk fs f, l = .ref a ∧ Ins H1 a C kk fs ∧ fs.lookup name = Option.none ∧ GMth G C name f ∧
      TEs c m (.cons x r) H1 (fun vs H2 => CL G c.prog c.w d f (.ref a :: vs) H2 post (fun C as H' => c.X C as m H')))) : TE c m (.meth o name (.cons x r)) H post :=
  TE.mcall (h.mono fun l H1 ⟨a, C, kk, fs, f, e, hi, hno, gm, hA⟩ => e ▸ MCall.own ok hi hno gm hA)
theorem TE.meth0 (ok : Ok G c d) {o : CE} {name : Str} {post : MV → MH → Prop} (h : TE c m o H (fun l H1 => ∃ a C kk fs f, l = .ref a ∧ Ins H1 a C kk fs ∧ fs.lookup name = Option.none ∧ GMth G C name f ∧
      CL G c.prog c.w d f [.ref a] H1 post (fun C as H' => c.X C as m H'))) : TE c m (.meth o name .nil) H post :=
  TE.mcall (h.mono fun l H1 ⟨a, C, kk, fs, f, e, hi, hno, gm, hA⟩ => e ▸ MCall.own0 ok hi hno gm hA)
theorem TE.append {o x : CE} {post : MV → MH → Prop} (h : TE c m o H (fun l H1 => ∃ a xs, l = .ref a ∧ H1[a]? = some (.list xs) ∧
      TE c m x H1 (fun v H2 => ∃ ys, H2[a]? = some (.list ys) ∧ ys.length ≤ 1000000 ∧ post .none (H2.set a (.list (ys ++ [v])))))) : TE c m (.meth o "append" (.cons x .nil)) H post := by
  refine TE.mcall (h.mono ?_)
  rintro l H1 ⟨a, xs, rfl, ha, hx⟩ mr ρ s Q E _ pl pos args S lr ⟨y, hy, rfl⟩ hes k kx
  obtain ⟨vs, ep, hvs, No⟩ := S.list ha hy
  refine PySem.Calls.getMethod_list_append (No _ (.head _)).1 rfl rfl ?_
  have h4 := and2 hes
  refine callWith_method1 ?_ (star_cons (star_re h4.1)) (star_plain h4.2)
  refine (TEs.one hx) _ _ hes mr ρ s _ E S lr ?_ kx
  rintro t vs vrs H2 h2 tk2 ⟨v, rfl, ys, hy2, hsz, hp⟩ ⟨vr, r, rfl, hv, hr⟩ S2
  have hr' : r = [] := hr
  subst hr'
  obtain ⟨ws, ep2, hws, No2⟩ := S2.list hy2 (get_mono hy)
  refine append_at (No2 _ (.head _)).1 (fun h' hs' hg => ?_) (by rw [List.size_toArray, hws.length]; exact Nat.le_trans hsz (by decide))
  have S3 := S2.upd (o' := .list (ys ++ [v])) hy2 (get_mono hy) hs' hg ⟨ws ++ [vr], ep2 + 1, hws.append ⟨vr, [], rfl, hv, rfl⟩, by simp⟩
  exact k t .none .none _ h' tk2 hp rfl S3
theorem upd_mk {d : Addr} {o o' : Obj} {post : List (Addr × Obj)} (h2 : ∀ p ∈ post, p.1 ≠ d) : ∀ {pre : List (Addr × Obj)}, (∀ p ∈ pre, p.1 ≠ d) → Upd d o o' (pre ++ (d, o) :: post) (pre ++ (d, o') :: post)
  | [], _ => .head h2
  | p :: _, h => .tail (h p (.head _)) (upd_mk h2 fun q hq => h q (.tail _ hq))
theorem upd_zip {xt : List (Addr × Obj)} {ρ : List Addr} {os : List Obj} {i : Nat} {a : Addr} {x x' : Obj} (hn : (xt.map (·.1) ++ ρ).Nodup) (ha : ρ[i]? = some a) (hx : os[i]? = some x) :
    Upd a x x' (xt ++ ρ.zip os) (xt ++ ρ.zip (os.set i x')) := by
  rw [List.nodup_append] at hn
  obtain ⟨_, hn2, hn3⟩ := hn
  have key : ∀ (ρ : List Addr) (os : List Obj) (i : Nat), ρ.Nodup → ρ[i]? = some a → os[i]? = some x →
      ∃ pre post, ρ.zip os = pre ++ (a, x) :: post ∧ ρ.zip (os.set i x') = pre ++ (a, x') :: post ∧ (∀ p ∈ pre, p.1 ≠ a) ∧ ∀ p ∈ post, p.1 ≠ a := by
    intro ρ
    induction ρ with
    | nil => intro os i _ h; simp at h
    | cons b ρ ih =>
      intro os i hnd h1 h2
      cases os with
      | nil => simp at h2
      | cons y os =>
        cases i with
        | zero =>
          simp at h1 h2
          subst h1 h2
          refine ⟨[], ρ.zip os, rfl, rfl, ?_, ?_⟩
          · intro p hp
            cases hp
          · intro p hp e
            exact (List.nodup_cons.mp hnd).1 (e ▸ (List.of_mem_zip (show (p.1, p.2) ∈ _ from hp)).1)
        | succ i =>
          simp at h1 h2
          obtain ⟨pre, post, e1, e2, e3, e4⟩ := ih os i (List.nodup_cons.mp hnd).2 h1 h2
          refine ⟨(b, y) :: pre, post, by simp [e1], by simp [e2], ?_, e4⟩
          intro p hp
          rcases List.mem_cons.mp hp with rfl | hp
          · intro e
            exact (List.nodup_cons.mp hnd).1 (by rw [show b = a from e]; exact List.mem_of_getElem? h1)
          · exact e3 p hp
  obtain ⟨pre, post, e1, e2, e3, e4⟩ := key ρ os i hn2 ha hx
  rw [e1, e2, ← List.append_assoc, ← List.append_assoc]
  refine upd_mk e4 ?_
  intro p hp
  rcases List.mem_append.mp hp with hp | hp
  · exact fun e => hn3 p.1 (List.mem_map_of_mem hp) a (List.mem_of_getElem? ha) e
  · exact e3 p hp
theorem TS.setAttr (ok : Ok G c d) {o a : CE} {name : Str} {post : Fl → ML → MH → Prop} (h : TE c m a H (fun v H1 => TE c m o H1 (fun l H2 => ∃ x C kk fs, l = .ref x ∧ Ins H2 x C kk fs ∧ fs.length ≤ 900 ∧ GSto G C name ∧
      post .next m (H2.set kk (.ns (putF name v fs)))))) : TS c m (.setAttr o name a) H post := by
  intro st hs
  obtain ⟨h2, h3⟩ := and2 hs
  intro mr ρ s Q E S lr k kx
  refine plainObj_wpAny_Assign_Attribute ?_ swaps_attr
  refine h _ h3 mr ρ s _ E S lr ?_ kx
  intro t v vr H1 h1 tk1 h12 hv S1
  refine h12 _ h2 mr _ _ _ E S1 lr.mono ?_ kx.mono
  rintro t' l lv H2 h2 tk2 ⟨a, C, dd, fs, rfl, hi, hsz, gs, hp⟩ ⟨x, hx, rfl⟩ S2
  obtain ⟨x', dx, es, n, hx', hdx, hes, I, hdo⟩ := S2.inst hi
  rw [hx] at hx'
  cases hx'
  obtain ⟨ml, xs, ⟨F, os, a1, a2, a3, N, a5⟩, back⟩ := S2.open
  have hv' := hv.mono (t := t')
  obtain ⟨ob, hob, hor⟩ := a3 dd _ hi.2
  have hobe : ob = dictOf es n := by
    have h1 := (N _ (List.mem_append_right _ (mem_zip_of hdx hob))).1
    rw [hdo] at h1
    exact (Option.some.inj h1).symm
  subst hobe
  have hlen : (putL name (PyData.keyHash c.w.params name) (.str name (tk2 + 1)) vr es).length ≤ 1000 := by
    rw [(hes.put (x := name) (t := tk2 + 1) hv').length]
    have := putF_length name v fs
    omega
  refine set_dict F ok.kin N I rfl gs.set gs.over gs.taker gs.dict hes.some (e := rfl) (upd_zip a5 hdx hob) hlen ?_
  intro h' F' N'
  have hlt : dd < H2.length := (List.getElem?_eq_some_iff.mp hi.2).1
  have S3 : St c mr (ρ ++ t ++ t') (H2.set dd (.ns (putF name v fs))) h' := by
    refine back _ _ _ ⟨F', os.set dd _, by rw [List.length_set, List.length_set]; exact a1, by rw [List.length_set]; exact a2, ?_, N', a5⟩
    intro j o1 hj
    by_cases ej : dd = j
    · subst ej
      rw [List.getElem?_set_self hlt] at hj
      cases hj
      exact ⟨_, List.getElem?_set_self (by rw [a1]; exact hlt), _, _, hes.put hv', rfl⟩
    · rw [List.getElem?_set_ne ej] at hj
      obtain ⟨y, hy, hr⟩ := a3 j o1 hj
      exact ⟨y, by rw [List.getElem?_set_ne ej]; exact hy, hr⟩
  rw [List.append_assoc] at S3
  exact k (t ++ t') .next .next m mr _ h' (tk2 + 2) hp rfl S3 lr.mono
theorem TE.new (ok : Ok G c (d + 1)) {g : Str} {C fI : Addr} {a : CE} {r : CEs} {post : MV → MH → Prop} (hg : GCls G g C fI)
    (h : TEs c m (.cons a r) H (fun vs H1 => CL G c.prog c.w d fI (.ref (H1.length + 1) :: vs) (H1 ++ [.ns []] ++ [.inst C H1.length]) (fun v H2 => v = .none ∧ post (.ref (H1.length + 1)) H2) (fun C as H' => c.X C as m H'))) :
    TE c m (.call g (.cons a r)) H post := by
  intro e he
  obtain ⟨h2, h3⟩ := and2 he
  intro mr ρ s Q E S l k kx
  refine Call_ ?_ rfl
  refine nameG ok S h2 hg.ns ?_
  have h4 := and2 h3
  · skip
    refine callWith_K ok.kin hg.keep ?_ (star_cons (star_re h4.1)) (star_plain h4.2)
    refine h _ _ h3 mr ρ s _ E S l ?_ kx
    intro t vs vrs H1 h1 tk1 hcl hvs S1
    refine ⟨ok.kin.keeps S1.keep, ?_⟩
    obtain ⟨ml, xs, ⟨F, os, a1, a2, a3, N, a5⟩, back⟩ := S1.open
    refine call_cls F ok.kin N hg.makes hg.init hg.fn ?_
    intro x dx h' F' N' hlt hdx
    have N1 : News c.h₀ c.L h' ((dx, dictOf [] 0) :: (xs ++ (ρ ++ t).zip os)) := fun p hp => N' p (.tail _ hp)
    have SA : Led c.h₀ c.L c.prog c.w ml xs (ρ ++ t ++ [dx]) (H1 ++ [.ns []]) h' := Led.alloc a1 a2 a3 a5 F' N1 (fun p hp => Nat.ne_of_lt (hlt p hp)) ⟨[], 0, rfl, rfl⟩
    obtain ⟨_, os2, b1, b2, b3, NB, b5⟩ := id SA
    have NB' : News c.h₀ c.L h' ((x, instObj C dx) :: (xs ++ (ρ ++ t ++ [dx]).zip os2)) := fun p hp => by
      rcases List.mem_cons.mp hp with rfl | hp
      · exact N' _ (.head _)
      · exact NB p hp
    have hltx : ∀ p ∈ xs ++ (ρ ++ t ++ [dx]).zip os2, p.1 ≠ x := by
      intro p hp
      refine Nat.ne_of_lt ?_
      rcases List.mem_append.mp hp with hp | hp
      · exact Nat.lt_trans (hlt p (List.mem_append_left _ hp)) hdx
      · have hm := (List.of_mem_zip (show (p.1, p.2) ∈ _ from hp)).1
        rcases List.mem_append.mp hm with hm | hm
        · obtain ⟨i, hi, e⟩ := List.getElem_of_mem hm
          have hi' : i < os.length := by rw [a1, ← a2]; exact hi
          have := hlt ((ρ ++ t)[i], os[i]) (List.mem_append_right _ (mem_zip_of (List.getElem?_eq_getElem hi) (List.getElem?_eq_getElem hi')))
          rw [← e]
          exact Nat.lt_trans this hdx
        · rw [List.mem_singleton.mp hm]; exact hdx
    have SB := back _ _ _ (Led.alloc b1 b2 b3 b5 F' NB' hltx (o := .inst C H1.length) ⟨dx, get_mono (last_get a2), rfl⟩)
    have hself : (ρ ++ t ++ [dx] ++ [x])[H1.length + 1]? = some x := by
      have hl : (ρ ++ t ++ [dx]).length = H1.length + 1 := by rw [List.length_append, a2]; rfl
      rw [List.getElem?_append_right (by rw [hl]; exact Nat.le_refl _), hl, Nat.sub_self]; rfl
    let c' : Cx := { c with A := c.A.under (.builtin "type.__call__" ⟨.ref C :: vrs, []⟩) }
    have ok' : Ok G c' d := by
      refine ⟨ok.frames, ok.kin, ok.top, ok.hh, ?_, ?_, ok.fn, ok.gl, ok.bi, ok.ap, ok.kd, ok.fs, ok.ex⟩
      · have := ok.dep
        show c.A.depth + 1 + d < recursionLimit
        omega
      · have h9 := ok.uni
        have hu : (c.A.under (.builtin "type.__call__" ⟨.ref C :: vrs, []⟩)).units ≤ c.A.units + 8 := by
          show c.A.units + Code.cUnits _ ≤ c.A.units + 8
          exact Nat.add_le_add_left (Nat.le_of_ble_eq_true rfl) _
        show (c.A.under (.builtin "type.__call__" ⟨.ref C :: vrs, []⟩)).units + 8 * d + 64 < cLine
        omega
    have e0 : ∀ t', ρ ++ t ++ [dx] ++ [x] ++ t' = ρ ++ (t ++ ([dx] ++ ([x] ++ t'))) := fun t' => by simp only [List.append_assoc]
    refine codeAny_mono (hcl c' mr _ _ (fun v s' => v = .none ∧ Q (.ref x) s') E (.ref x :: vrs) rfl rfl ok' SB ⟨_, _, rfl, ⟨x, hself, rfl⟩, (hvs.mono).mono⟩ ?_ ?_) ?_
    · rintro t' v vr H2 h2 tk2 ⟨rfl, hp⟩ hv S2
      refine ⟨hv, ?_⟩
      have S2' : St c mr (ρ ++ t ++ [dx] ++ [x] ++ t') H2 h2 := S2
      rw [e0] at S2'
      refine k _ (.ref (H1.length + 1)) (.ref x) H2 h2 tk2 hp ⟨x, ?_, rfl⟩ S2'
      rw [← e0]
      exact get_mono hself
    · intro t' C' as e H2 h2 tk2 hx hF
      have hF' : Fly c mr (ρ ++ t ++ [dx] ++ [x] ++ t') H2 C' as e h2 := hF
      rw [e0] at hF'
      exact kx _ C' as e m mr H2 h2 tk2 hx hF' l.mono
    · intro r s' hr
      cases r with
      | error e => exact hr
      | ok f =>
        cases f with
        | ret v => exact hr
        | _ => exact hr
end
section
variable {c : Cx} {m : ML} {H : MH} {G : Gx} {d : Nat}
noncomputable def BC (c : Cx) (f : Value) (args : List MV) (H : MH) (post : MV → MH → Prop) : Prop :=
  ∀ (mr : Str → Option Value) (ρ : List Addr) (s : Shared) (Q : Value → Shared → Prop) (E : Value → Shared → Prop) (vs : List Value), St c mr ρ H s.heap → VRs ρ args vs →
    (∀ t v vr H' h' tk, post v H' → VR (ρ ++ t) v vr → St c mr (ρ ++ t) H' h' → Q vr { s with heap := h', toks := tk }) →
    wpAny (model c.prog c.w) c.A (PySem.call f vs) Q E s
theorem TE.bc (ok : Ok G c d) {g : Str} {T : String} {a : CE} {r : CEs} {post : MV → MH → Prop} (hg : nsIn G.K mainGlobals g = some Option.none) (hb : bootBuiltins g = some (.builtin T)) (hn : g ≠ "__name__")
    (h : TEs c m (.cons a r) H (fun vs H1 => BC c (.builtin T) vs H1 post)) : TE c m (.call g (.cons a r)) H post := by
  intro e he mr ρ s Q E S l k kx
  refine callBuiltin ok hg hb hn he (by intro q; cases q) S l kx h ?_
  intro t vs vrs H1 h1 tk1 hbc hv S1
  refine hbc mr (ρ ++ t) _ Q E vrs S1 hv ?_
  intro t' v vr H2 h2 tk2 hp hv S2
  rw [List.append_assoc] at hv S2
  exact k (t ++ t') v vr H2 h2 tk2 hp hv S2
theorem one_of {ρ : List Addr} {a : MV} {vs : List Value} (h : VRs ρ [a] vs) : ∃ v, vs = [v] ∧ VR ρ a v := by
  obtain ⟨v, r, rfl, h1, h2⟩ := h
  have : r = [] := h2
  subst this
  exact ⟨v, rfl, h1⟩
theorem BC.len {a : Nat} {xs : List MV} {post : MV → MH → Prop} (ha : H[a]? = some (.list xs)) (hsz : xs.length ≤ 1000000) (h : post (.int xs.length) H) : BC c (.builtin "len") [.ref a] H post := by
  intro mr ρ s Q E vs S hv k
  obtain ⟨v, rfl, x, hx, rfl⟩ := one_of hv
  obtain ⟨ws, ep, hws, No⟩ := S.list ha hx
  have hlen : ws.toArray.size = xs.length := by rw [List.size_toArray, hws.length]
  refine len_list (isList_of No) (by rw [hlen]; omega) ?_
  rw [hlen]
  exact k [] (.int xs.length) (.int xs.length (s.toks + 1)) H s.heap (s.toks + 1 + 1) h ⟨_, rfl⟩ (nil_of S)
theorem BC.lenS {x : Str} {post : MV → MH → Prop} (hsz : x.length ≤ 1000000) (h : post (.int x.length) H) : BC c (.builtin "len") [.str x] H post := by
  intro mr ρ s Q E vs S hv k
  obtain ⟨v, rfl, t, rfl⟩ := one_of hv
  refine PyProof.Rows.len_str (by omega) ?_
  exact k [] (.int x.length) (.int x.length (s.toks + 1)) H s.heap (s.toks + 1 + 1) h ⟨_, rfl⟩ (nil_of S)
theorem BC.lenG {a : Addr} {vs : List Value} {post : MV → MH → Prop} (hl : c.h₀.IsList a vs.toArray) (hsz : vs.length ≤ 1000000) (h : post (.int vs.length) H) : BC c (.builtin "len") [.glob a] H post := by
  intro mr ρ s Q E ws S hv k
  obtain ⟨v, rfl, e⟩ := one_of hv
  have e' : v = .ref a := e
  subst e'
  have hlen : vs.toArray.size = vs.length := List.size_toArray ..
  refine len_list (hl.at fun o e => S.keep _ o e) (by rw [hlen]; omega) ?_
  rw [hlen]
  exact k [] (.int vs.length) (.int vs.length (s.toks + 1)) H s.heap (s.toks + 1 + 1) h ⟨_, rfl⟩ (nil_of S)
noncomputable def tyOf : MV → Option String
  | .int _ => some "int"
  | .str _ => some "str"
  | .bool _ => some "bool"
  | _ => none
theorem tyIs {v : MV} {T : String} {ρ : List Addr} {vr : Value} {s : Shared} (h : tyOf v = some T) (hv : VR ρ v vr) : s.TypeIs vr T := by
  cases v <;> simp only [tyOf] at h <;> cases h
  · rw [show vr = _ from hv]; exact PySem.typeIs_bool ..
  · obtain ⟨t, rfl⟩ := hv; exact typeIs_int ..
  · obtain ⟨t, rfl⟩ := hv; exact typeIs_str ..
theorem TT.tyAny (ok : Ok G c d) (hg : nsIn G.K mainGlobals "type" = some Option.none) {op : CmpOp} {neg : Bool} (hop : (op = .Is ∧ neg = false) ∨ (op = .IsNot ∧ neg = true)) {a : CE} {N : Str} {T' : String} (hgN : nsIn G.K mainGlobals N = some Option.none) (hbN : bootBuiltins N = some (.type T')) (hnN : N ≠ "__name__") {post : Bool → MH → Prop}
    (h : TE c m a H (fun v H1 => ∃ T, tyOf v = some T ∧ post (if neg then !decide (T = T') else decide (T = T')) H1)) : TT c m (.cmp op (.call "type" (.cons a .nil)) (.glob N)) H post := by
  intro e he
  obtain ⟨h2, h3⟩ := and2 he
  intro wh mr ρ s Q E _ S lr k kx
  refine wpAny_isTrue_Compare1 ?_ (re_marks h3)
  refine callType ok (T := "type") hg PyProof.Rows.boot_type (by decide) h2 (by intro q; cases q) S lr kx (TEs.one h) ?_
  rintro t vs vrs H1 hp1 tk1 ⟨v, rfl, T, hT, hp⟩ hv S1
  obtain ⟨vr, rfl, hvr⟩ := one_of hv
  refine call_type_of (tyIs hT hvr) ?_ ?_
  · cases v <;> simp only [tyOf] at hT <;> cases hT <;> decide
  · refine nameB (s := { s with heap := hp1, toks := tk1 }) ok S1 h3 hgN hbN hnN ?_
    have hbe : ∀ T T' : String, (Value.type T == Value.type T') = decide (T = T') := fun T T' => by
      by_cases q : T = T'
      · subst q; simp
      · have : (Value.type T == Value.type T') = false := by simpa using q
        rw [this, decide_eq_false q]
    rcases hop with ⟨rfl, rfl⟩ | ⟨rfl, rfl⟩
    · refine wpAny_pure (a := Value.bool (Value.type T == Value.type T')) ?_
      refine wpAny_truthy_bool ?_
      rw [hbe]
      exact k t _ H1 hp1 tk1 hp S1
    · refine isnot_type ?_
      refine wpAny_truthy_bool ?_
      rw [hbe]
      exact k t _ H1 hp1 tk1 hp S1
end
section
variable {c : Cx} {m : ML} {H : MH} {G : Gx} {d : Nat}
end
section
variable {c : Cx} {m : ML} {H : MH} {G : Gx} {d : Nat}
end
section
variable {c : Cx} {m : ML} {H : MH} {G : Gx} {d : Nat}
end
section
variable {c : Cx} {m : ML} {H : MH} {G : Gx} {d : Nat}
end
section
variable {c : Cx} {m : ML} {H : MH} {G : Gx} {d : Nat}
end
noncomputable def GExc (G : Gx) (g : Str) (C : Addr) (bm : List Value) : Prop :=
  nsIn G.K mainGlobals g = some (some (.ref C)) ∧ ∃ (Bn newId inN : String) (bmN : List Value) (B nid initId : String), ExcBaseFacts Bn newId inN bmN ∧ bm.contains (.type Bn) = true ∧ ExcBaseFacts B nid initId bm ∧ excIn G.K C bm newId = true
section
variable {c : Cx} {m : ML} {H : MH} {G : Gx} {d : Nat}
theorem fly_new {mr : Str → Option Value} {ρ : List Addr} {h h' : Heap} {C e : Addr} {as : List MV} {vs : List Value} (S : St c mr ρ H h) (hv : VRs ρ as vs) (hx : Heap.MadeExcOf h h' e (.ref C) vs) : Fly c mr ρ H C as e h' := by
  obtain ⟨t, h1, h2, h3⟩ := hx.there
  exact ⟨h, t, vs, S, hv, hx.new, h2, ⟨_, _, h3, rfl, rfl⟩, Heap.UpToSlots.of_keeps hx.keeps, fun b o q => hx.keeps b o (TI.gone_some q).2, .inl ⟨_, _, h1, rfl, rfl, rfl, rfl⟩⟩
theorem TS.raise (ok : Ok G c d) {g : Str} {C : Addr} {bm : List Value} {a : CE} {r : CEs} {post : Fl → ML → MH → Prop} (hg : GExc G g C bm) (h : TEs c m (.cons a r) H (fun vs H1 => vs.length ≤ 1000 ∧ c.X C vs m H1)) : TS c m (.raise g (.cons a r)) H post := by
  intro st hs
  obtain ⟨h2, h3⟩ := and2 hs
  intro mr ρ s Q E S l k kx
  obtain ⟨hns, Bn, newId, inN, bmN, B, nid, initId, Fn, hBn, FB, hexc⟩ := hg
  have O := own_of_in ok.kin (topRead_of ok.top) hns hexc
  obtain ⟨tl, N, nm, q, bs, hdct, sn, sub, ab, col, dd, k0, k1, k2, k3, k5, mN, hC, hN, hni, T⟩ := O.obj
  have h4 := and2 h3
  have hst : starEach (reEs (.cons a r) c.nm (kids (ex 0 st)).tail) c.env = (false, eval (reE a c.nm (nth 0 (kids (ex 0 st)).tail)) c.env) :: starEach (reEs r c.nm (kids (ex 0 st)).tail.tail) c.env := star_cons (star_re h4.1)
  refine wpAny_Raise_call_subU (C := C) (nm := nm) (q := q) (N := N) (bs := bs) (bm := tl) (hdct := hdct) (sn := sn) (sub := sub) (ab := ab) (col := col) (dd := dd) (k0 := k0) (k1 := k1) (k2 := k2) (k3 := k3) (k5 := k5)
    Fn hBn FB (mN := mN) (T.hasType FB.hasBase) ok.hh (star_plain h3) hni ?_
  refine nameG ok S h2 hns ⟨rfl, ?_⟩
  rw [hst]
  refine Calls.evalArgs_plain ?_
  have hA := h _ (ex 0 st).pos h3 mr ρ s (fun vs s₂ => vs.length ≤ sizeLine ∧ (∀ b o, c.h₀.get? b = some o → s₂.heap.get? b = some o) ∧ ∀ h' e, Heap.MadeExcOf s₂.heap h' e (.ref C) vs → E (.ref e) { s₂ with heap := h' }) E S l ?_ kx
  · rw [hst] at hA
    exact wpAny_mono hA (fun vs s₂ h₂ => ⟨rfl, h₂.1, h₂.2.1 _ _ hC, hN.keeps h₂.2.1, T.keeps h₂.2.1, h₂.2.2⟩) fun _ _ y => y
  · rintro t vs vrs H1 h1 tk1 ⟨hl, hX⟩ hv S1
    refine ⟨by rw [hv.length]; exact Nat.le_trans hl (by decide), S1.keep, fun h' e hx => ?_⟩
    exact kx t C vs e m mr H1 h' tk1 hX (fly_new S1 hv hx) l.mono
noncomputable def Cx.wX (c : Cx) (X : Addr → List MV → ML → MH → Prop) : Cx := { c with X := X }
theorem Ok.wX {G : Gx} {c : Cx} {d : Nat} (ok : Ok G c d) (X : Addr → List MV → ML → MH → Prop) : Ok G (c.wX X) d :=
  ⟨ok.frames, ok.kin, ok.top, ok.hh, ok.dep, ok.uni, ok.fn, ok.gl, ok.bi, ok.ap, ok.kd, ok.fs, ok.ex⟩
noncomputable def Takes (G : Gx) (g : Str) (C : Addr) : Prop := ∃ (y : Str) (bm : List Value), GExc G y C bm ∧
  ((∃ T' : String, nsIn G.K mainGlobals g = some none ∧ bootBuiltins g = some (.type T') ∧ g ≠ "__name__" ∧ isSubtype (.type T') (.type "BaseException") = pure true ∧
      isSubtype (.type ((Manifest.find? T').elim "type" fun y => y.metatype)) (.type "tuple") = pure false ∧ bm.contains (.type T') = true) ∨
   (g = y ∧ bm.contains (.type "BaseException") = true))
theorem FlyH.st (ok : Ok G c d) {mr : Str → Option Value} {ρ : List Addr} {C : Addr} {as : List MV} {e : Addr} {h : Heap} (f : FlyH c mr ρ H C as e .none h) : St c mr ρ H h := (f.fly (.inl rfl)).st ok
theorem takes_test (ok : Ok G c d) {g : Str} {np : Pos} {mr : Str → Option Value} {ρ : List Addr} {C : Addr} {as : List MV} {e : Addr} {s : Shared} {A : Around} {Q : Bool → Shared → Prop} {E : Value → Shared → Prop} (hT : Takes G g C) (hx : glb c.sc g = true) (hA : A.handled = c.A.handled ∨ True)
    (f : FlyH c mr ρ H C as e .none s.heap) (k : Q true s) : wpAny (model c.prog c.w) A (eval (.Name g np) c.env) (fun cv s₁ => wpAny (model c.prog c.w) A (excMatches (.ref e) cv) Q E s₁) E s := by
  have S := f.st ok
  let c' : Cx := { c with A := A }
  have T := topRead_of ok.top
  unfold glb at hx
  simp only [Bool.and_eq_true, beq_iff_eq, bne_iff_ne, ne_eq] at hx
  have hd' : (g == ("__debug__" : Str)) = false := by simpa using hx.1
  have hk := kcl3 ((ok.kd g).trans hx.2)
  obtain ⟨hB, t, vs, b, x⟩ := f
  obtain ⟨oe, ws, T', oT, ts, q1, q2, q3, q4, q5, q6, q7, q8, q9⟩ := x
  obtain ⟨y, bm, ⟨hns, Bn, newId, inN, bmN, B, nid, initId, Fn, hBn, FB, hexc⟩, hcase⟩ := hT
  have O := (own_of_in ok.kin T hns hexc).keeps S.keep
  obtain ⟨tl, N, nm, q, bs, hdct, sn, sub, ab, col, dd, k0, k1, k2, k3, k5, mN, hC, hN, hni, TL⟩ := O.obj
  obtain ⟨hp, gs, dr, tk, os⟩ := s
  rcases hcase with ⟨T'', e1, e2, e3, e4, e5, e6⟩ | ⟨rfl, e2⟩
  · refine Name_function_global ok.fn hk (loadGlobal_builtin (env := c.env) (by rw [ok.gl]; exact T.g.keeps S.keep) (mg_none_of ok.kin T.g e1) (by rw [ok.bi]; exact T.b.keeps S.keep) ((T.builtins g e3).trans e2) ?_) hd'
    refine wpAny_excMatches_sub_type hC q1 q2.1 e4 e5 ?_
    rw [TL.hasType e6]
    exact k
  · refine Name_function_global ok.fn hk (loadGlobal_global (env := c.env) (by rw [ok.gl]; exact T.g.keeps S.keep) (mg_of ok.kin T.g hns) ?_) hd'
    exact wpAny_excMatches_sub_self hC q1 q2.1 (TL.hasType e2) k
theorem TS.tryA (ok : Ok G c d) (hfm : c.fm = none) {b : CSs} {g : Str} {i : Nat} {x : Str} {post : Fl → ML → MH → Prop}
    (h : TB (c.wX fun C as m1 H1 => Takes G g C ∧ post .next (m1.set i (some (.str x))) H1) m b H post) : TS c m (.try b (.cons g none (.cons (.assign i (.str x)) .nil) .nil)) H post := by
  intro st hs
  obtain ⟨h1, h2⟩ := and2 hs
  obtain ⟨h2, h8⟩ := and2 h2
  obtain ⟨h4, h5, h6, h7⟩ := and4 h2
  intro mr ρ s Q E S l k kx
  show wpAny _ _ (exec (.Try (reSs b c.nm (bl0 st)) [.ExceptHandler (some (.Name g (hTy (nthH (hsOf st))))) none [reS (.assign i (.str x)) c.nm (nthS (hBody (nthH (hsOf st))))] (hPos (nthH (hsOf st)))] [] [] st.pos) c.env) _ _ _
  rw [arm_exec_Try]
  refine wpAny_bind (wpAny_standAt (wpAny_tryStmt_except ?_))
  refine h _ h1 mr ρ s _ _ S l ?_ ?_
  · intro t fl fr m' mr' H' h' tk hp hf S' l'
    cases fl with
    | next => subst hf; exact wpAny_execs_nil (k t .next .next m' mr' H' h' tk hp rfl S' l')
    | brk => subst hf; exact k t .brk .brk m' mr' H' h' tk hp rfl S' l'
    | cont => subst hf; exact k t .cont .cont m' mr' H' h' tk hp rfl S' l'
    | ret v => obtain ⟨vr, rfl, hv⟩ := hf; exact k t (.ret v) (.ret vr) m' mr' H' h' tk hp ⟨vr, rfl, hv⟩ S' l'
  · rintro t C as e m' mr' H' h' tk ⟨hT, hp⟩ hF hL
    have hF' : Fly c mr' (ρ ++ t) H' C as e h' := hF
    refine Fly.note (s := { s with heap := h', toks := tk }) ok hfm rfl hF' fun h2 f2 => ?_
    refine FlyH.flight (s := { s with heap := h2, toks := tk }) none f2 fun h3 f3 => ?_
    refine wpAny_handleBy_cons (codeAny_handlers_test ?_) (by intro q; cases q)
    refine takes_test (s := { s with heap := h3, toks := tk }) ok hT h4 (.inr trivial) f3 ?_
    refine codeAny_handlers_suite ?_
    refine FlyH.flight (s := { s with heap := h3, toks := tk }) none f3 fun h5' f5 => ?_
    have S5 := f5.st ok
    let c' : Cx := { c with A := c.A.mark (some (.ref e)) }
    have hTB : TB c' m' (.cons (.assign i (.str x)) .nil) H' (fun fl m2 H2 => fl = .next ∧ m2 = m'.set i (some (.str x)) ∧ H2 = H') := by
      refine TB.cons ?_
      intro st hst
      obtain ⟨g1, g2, g3⟩ := and3 hst
      have g1 := beq_iff_eq.mp g1
      intro mr ρ s Q E S l k kx
      refine wpAny_Assign_Name ?_ (swaps_not (comp_re g3 rfl))
      refine (TE.str (c := c') (m := m') (post := fun v H1 => v = .str x ∧ H1 = H') ⟨rfl, rfl⟩) _ g3 mr ρ s _ E S l ?_ kx
      rintro t v vr H1 hp1 tk1 ⟨rfl, rfl⟩ hv S1
      refine store' (c := c') ok.ap ok.fn ok.fs S1 hfm g2 ?_
      intro h' tk S2
      exact k t .next .next _ _ H1 h' tk (TB.nil ⟨rfl, rfl, rfl⟩) rfl S2 (l.mono.set g1 hv)
    refine hTB _ h7 mr' (ρ ++ t) { s with heap := h5', toks := tk } _ _ S5 hL ?_ ?_
    · rintro t' fl fr m2 mr2 H2 h6' tk2 ⟨rfl, rfl, rfl⟩ hf S6 l6
      subst hf
      rw [List.append_assoc] at S6 l6
      exact k (t ++ t') .next .next _ mr2 H2 h6' tk2 hp rfl S6 l6
    · intro t' C' as' e' m2 mr2 H2 h6' tk2 hX hF2 hL2
      have hX' : c.X C' as' m2 H2 := hX
      rw [List.append_assoc] at hF2 hL2
      exact (Kx.pass (M := model c.prog c.w) (A := c.A.mark (some (.ref e))) (A' := c.A) ok hfm rfl kx) (t ++ t') C' as' e' m2 mr2 H2 h6' tk2 hX' hF2 hL2
end
theorem law_entry {G : Gx} (d : Nat) (hdd : d ≤ 600) {prog : Program} {w : World} {s : Shared} {fa sa : Addr} {o : Obj} {fd : FuncData} {body : List Stmt} {x : Str} {nm : List Str} {k : CSs} {R : Result → Shared → Prop}
    (kin : G.K.In s.heap) (hex : G.ex s.heap) (T : Top G.p G.loose G.mean G.mg G.mb s.heap) (ho : s.heap.get? fa = some o) (hd : o.data = .func fd) (hcd : s.heap.CodeRec fd.code fd.qualname)
    (hbody : fd.body = .stmts body) (hgl : fd.globals = mainGlobals) (hcl : fd.closure = []) (hbi : fd.builtins = builtinsNs)
    (hb : BindsTo s fd ⟨[.ref sa], []⟩ [(x, .ref sa)]) (hfn : fnb fd.scope [x] nm = true) (hwf : wfSs k nm fd.scope body = true) (hre : reSs k nm body = body)
    (h : ∀ c : Cx, c.prog = prog → c.w = w → c.h₀ = s.heap → Ok G c d → c.fm = none → interactive c.env = false → c.nm = nm → c.X = (fun _ _ _ _ => False) → TB c (start nm [.glob sa]) k [] (fun fl _ _ => retv fl = .bool true))
    (hR : ∀ L m h' tk, Fr s.heap L h' m → R (.ok (.ret (.bool true))) { s with heap := h', toks := tk }) :
    codeAny (model prog w) callerA (.call (.ref fa) ⟨[.ref sa], []⟩) R s := by
  unfold fnb at hfn
  simp only [Bool.and_eq_true, beq_iff_eq, decide_eq_true_eq, Bool.not_eq_true', List.all_eq_true] at hfn
  obtain ⟨⟨⟨⟨⟨⟨⟨hn1, hn2⟩, hn3⟩, hco⟩, hgen⟩, hk⟩, hnd⟩, hnf⟩ := hfn
  have hnf' : fd.scope.names.all (fun p => p.2 != .free) = true := List.all_eq_true.mpr hnf
  have hmemn : ∀ y ∈ [(x, Value.ref sa)], fd.scope.names.lookup y.1 = some .local ∨ fd.scope.names.lookup y.1 = some .cell := fun y hy => by
    have := hn3 y.1 (by rw [List.mem_singleton] at hy; subst hy; exact .head _)
    unfold stb at this
    simpa using this
  refine codeAny_call_function (by decide) ho hd hco hgen hbody hcd (hb _ _ _ _ ?_)
  rw [hgl, hcl, hbi]
  refine wpAny_newFunctionEnv_cells hk (fun x hx => (hmemn x hx).imp id fun q => ⟨q, cellsFrom_some _ _ _ (.inl q)⟩) fun env' he s' x' => ?_
  subst he
  refine ⟨T.nolimit.keeps x'.toInCall.keep, codeAny_func ?_⟩
  obtain ⟨h₁, tk, rfl, hk₁⟩ := x'.done
  obtain ⟨cells, NC, Y⟩ := Cl.news (h₀ := s.heap) (Nat.le_refl _) fun n c hm => ⟨x'.cell n c (lookup_of_mem_nodup (cellsFrom_names fd.scope.names 0 (s.heap.objs.size + 1) [] [] rfl ▸ hnd) hm), x'.above n c hm⟩
  let env' : Env := envOfC fd.qualname fd.scope s.heap.objs.size fa fd.code
  let mr' : Str → Option Value := fun y => if env'.kindOf y = some .local then bindL env'.kindOf [(x, .ref sa)] (fun _ => none) y else bindC env'.kindOf [(x, .ref sa)] (fun _ => none) y
  let c' : Cx := { prog := prog, w := w, A := callerA.deeper env', env := env', h₀ := s.heap, L := s.heap.objs.size, fm := none, fr := [], xt := [], X := fun _ _ _ _ => False, nm := nm, sc := fd.scope }
  have ok' : Ok G c' d := by
    refine ⟨⟨env', [], Around.frames_deeper rfl, rfl, hk, trivial, fun _ => rfl⟩, kin, T, rfl, ?_, ?_, hk, rfl, rfl, fun _ => x'.apart, fun _ => rfl, fun _ => rfl, hex⟩
    · show 1 + claimMargin + 1 + d < recursionLimit
      exact Nat.lt_of_le_of_lt (Nat.add_le_add_left hdd _) (by decide)
    · show 4 + 3 + 8 * d + 64 < cLine
      exact Nat.lt_of_le_of_lt (Nat.add_le_add_right (Nat.add_le_add_left (Nat.mul_le_mul_left 8 hdd) _) 64) (by decide)
  have S' : St c' mr' [] [] h₁ := by
    refine ⟨bindL env'.kindOf [(x, .ref sa)] (fun _ => none), [], cells, ?_, trivial, ⟨x'.toInCall.ns, fun b o e => hk₁ b o e, Nat.le_refl _⟩, [], rfl, rfl, ?_, ?_, ?_⟩
    · refine ⟨rfl, fun y hy => ?_, fun y hy => ?_⟩
      · show _ = if env'.kindOf y = some .local then _ else _
        rw [if_pos hy]
      · rcases hy with hy | hy
        · have hs : ((cellsFrom (s.heap.objs.size + 1) fd.scope.names []).lookup y).isSome = true := cellsFrom_some _ _ _ (.inl hy)
          obtain ⟨a, ha⟩ := Option.isSome_iff_exists.mp hs
          obtain ⟨o, h1, h2⟩ := cells_get Y ha
          refine ⟨a, o, ha, h1, h2.trans ?_⟩
          have hnl : ¬ env'.kindOf y = some .local := by
            intro q
            have q' : env'.kindOf y = some .cell := hy
            rw [q] at q'
            cases q'
          show _ = Data.cell (if env'.kindOf y = some .local then _ else _)
          rw [if_neg hnl]
          rfl
        · exact absurd hy (nofree hnf')
    · intro i o e
      simp at e
    · intro p hp
      replace hp : p ∈ (([] : List (Addr × Obj)) ++ ([] ++ cells)) ++ ([] : List Addr).zip [] := hp
      simp only [List.nil_append, List.zip_nil_left, List.append_nil] at hp
      exact NC p hp
    · have hcnd : (cells.map (·.1)).Nodup := by
        rw [cells_addrs Y]
        exact List.pairwise_map.mpr x'.apart
      show ((([] : List (Addr × Obj)) ++ ([] ++ cells)).map (fun p : Addr × Obj => p.1) ++ ([] : List Addr)).Nodup
      simpa using hcnd
  have l' : LR mr' nm [] (start nm [.glob sa]) := by
    have hle : 1 ≤ nm.length := by
      have := congrArg List.length hn1
      simp only [List.length_take, List.length_singleton] at this
      omega
    refine ⟨by unfold start; rw [List.length_append, List.length_map, List.length_replicate, List.length_singleton]; omega, fun i y v e1 e2 => ?_⟩
    unfold start at e2
    by_cases hi : i < 1
    · have h0 : i = 0 := by omega
      subst h0
      simp at e2
      subst e2
      have hy : x = y := by
        have := slot_get e1
        cases nm with
        | nil => simp at this
        | cons z zs =>
          simp at this hn1
          rw [hn1, this]
      subst hy
      refine ⟨.ref sa, rfl, ?_⟩
      show (if env'.kindOf x = some .local then _ else _) = _
      split
      · rename_i q; exact bindL_at (names := [x]) (vals := [.ref sa]) (i := 0) q (by simp) rfl rfl
      · rename_i q; exact bindC_at (names := [x]) (vals := [.ref sa]) (i := 0) q (by simp) rfl rfl
    · rw [List.getElem?_append_right (by rw [List.length_map, List.length_singleton]; omega), List.getElem?_replicate] at e2
      split at e2 <;> cases e2
  have hni : interactive env' = false := by
    unfold interactive
    rw [show env'.scope.kind = .function from hk]
    rfl
  have hb2 : EX c' (start nm [.glob sa]) (reSs k nm body) [] (fun fl _ _ => retv fl = .bool true) := h c' rfl rfl rfl ok' rfl hni rfl rfl body hwf
  rw [hre] at hb2
  refine hb2 mr' [] { s with heap := h₁, toks := tk } _ _ S' l' ?_ ?_
  · intro t fl fr' m' mr'' H' h' tk' hp hfl S2 _
    obtain ⟨ml, xs, led, _⟩ := S2.open
    cases fl with
    | ret v =>
      obtain ⟨vr, rfl, hv⟩ := hfl
      have e : v = .bool true := hp
      subst e
      have e2 : vr = .bool true := hv
      subst e2
      exact hR _ ml h' tk' led.1
    | next => cases hp
    | brk => cases hp
    | cont => cases hp
  · intro t C as e m' mr'' H' h' tk' hX hF hL'
    exact False.elim hX
theorem zip_lookup {x : Str} {v : Value} : ∀ {names : List Str} {vs : List Value}, names.length = vs.length → x ∈ names → ((names.zip vs).lookup x).isSome = true
  | [], _, _, h => by cases h
  | _ :: _, [], h, _ => by cases h
  | y :: ns, u :: us, hl, h => by
    rw [List.zip_cons_cons, List.lookup_cons]
    by_cases e : x = y
    · subst e
      simp
    · have hb : (x == y) = false := by simpa using e
      rw [hb]
      rcases List.mem_cons.mp h with q | q
      · exact absurd q e
      · exact zip_lookup (v := v) (by simpa using hl) q
theorem fm_congr {α β : Type} {f g : α → Option β} : ∀ {l : List α}, (∀ x ∈ l, f x = g x) → l.filterMap f = l.filterMap g
  | [], _ => rfl
  | a :: l, h => by rw [List.filterMap_cons, List.filterMap_cons, h a (.head _), fm_congr fun x hx => h x (.tail _ hx)]
theorem zip_filterMap : ∀ {names : List Str} {vs : List Value}, names.Nodup → names.length = vs.length → (names.filterMap fun n => ((names.zip vs).lookup n).map (n, ·)) = names.zip vs
  | [], _, _, _ => rfl
  | _ :: _, [], _, h => by cases h
  | y :: ns, u :: us, hn, hl => by
    rw [List.nodup_cons] at hn
    rw [List.zip_cons_cons, List.filterMap_cons]
    have h0 : ((y, u) :: ns.zip us).lookup y = some u := by simp [List.lookup]
    rw [h0]
    simp only [Option.map_some]
    congr 1
    have : (ns.filterMap fun n => (((y, u) :: ns.zip us).lookup n).map (n, ·)) = (ns.filterMap fun n => ((ns.zip us).lookup n).map (n, ·)) := by
      refine fm_congr fun n hnm => ?_
      have hb : (n == y) = false := by
        have : n ≠ y := fun e => hn.1 (e ▸ hnm)
        simpa using this
      rw [List.lookup_cons, hb]
    rw [this, zip_filterMap hn.2 (by simpa using hl)]
noncomputable def plainPar (p : Arguments) : Bool := p.posonlyargs.isEmpty && p.vararg.isNone && p.kwonlyargs.isEmpty && p.kwarg.isNone
theorem bind_plain {fd : FuncData} {vs : List Value} (hp : plainPar fd.params = true) (hdf : fd.defaults = .none) (hn : (fd.params.args.map (·.arg)).Nodup) (hl : vs.length = (fd.params.args.map (·.arg)).length) :
    bindArgs fd ⟨vs, []⟩ = pure ((fd.params.args.map (·.arg)).zip vs) := by
  unfold plainPar at hp
  simp only [Bool.and_eq_true, List.isEmpty_iff, Option.isNone_iff_eq_none] at hp
  obtain ⟨⟨⟨h1, h2⟩, h3⟩, h4⟩ := hp
  unfold bindArgs
  have hseq : seqItems? Value.none = pure none := rfl
  have hmiss : ((fd.params.args.map (·.arg)).filter fun n => (((fd.params.args.map (·.arg)).zip vs).lookup n).isNone) = [] := by
    rw [List.filter_eq_nil_iff]
    intro n hnm
    have := zip_lookup (v := .none) hl.symm hnm
    rw [Option.isSome_iff_ne_none] at this
    simpa [Option.isNone_iff_eq_none] using this
  have hz := zip_filterMap hn hl.symm
  obtain ⟨N, hN⟩ : ∃ N, fd.params.args.map (·.arg) = N := ⟨_, rfl⟩
  rw [hN] at hmiss hz hl hn ⊢
  simp only [h1, h2, h3, h4, hdf, hseq, List.map_nil, List.nil_append, List.append_nil, pure_bind, Option.getD_none, hN, hl]
  simp [hmiss, hz]
noncomputable def bodyAt (K : Frag) (f : Addr) : List Stmt := match K.lookup f with
  | some ⟨_, _, .func fd, _⟩ => match fd.body with
    | .stmts body => body
    | _ => []
  | _ => []
noncomputable def defb (K : Frag) (f : Addr) (names nm : List Str) (b : CSs) : Bool :=
  match K.lookup f with
  | some ⟨_, _, .func fd, _⟩ =>
    (match fd.body with
    | .stmts body => wfSs b nm fd.scope body
    | _ => false) && fd.globals == mainGlobals && fd.closure.isEmpty && fd.builtins == builtinsNs && (match fd.defaults with | .none => true | _ => false) &&
      plainPar fd.params && (names == fd.params.args.map (·.arg)) && codeIn K fd.code fd.qualname && fnb fd.scope names nm
  | _ => false
theorem GDef.of {G : Gx} {f : Addr} {names nm : List Str} {b : CSs} (h : defb G.K f names nm b = true) (hre : reSs b nm (bodyAt G.K f) = bodyAt G.K f) : GDef G f names nm b [] := by
  unfold defb at h
  unfold bodyAt at hre
  cases hk : G.K.lookup f with
  | none => rw [hk] at h; cases h
  | some ob =>
    obtain ⟨oc, od, dat, osl⟩ := ob
    rw [hk] at h hre
    cases dat with
    | func fd =>
      simp only [Bool.and_eq_true, beq_iff_eq, List.isEmpty_iff] at h hre
      obtain ⟨⟨⟨⟨⟨⟨⟨⟨h1, h2⟩, h3⟩, h4⟩, h5⟩, h6⟩, h7⟩, h8⟩, h9⟩ := h
      obtain ⟨name, qual, params, bd, scope, gl, cl, df, kd, doc, pm, an, cd, ct, bi⟩ := fd
      cases bd with
      | stmts body =>
        simp only at h1 h2 h3 h4 h5 h6 h7 h8 h9 hre
        subst h2 h3 h4
        cases df with
        | none =>
          refine ⟨name, qual, params, body, scope, .none, kd, doc, pm, cd, ct, oc, an, od, osl, [], hk, h8, ?_, rfl, h9, h1, hre⟩
          intro s vs X hl
          refine BindsTo.of_eq ?_
          rw [List.append_nil]
          have hnn : names.Nodup := by
            unfold fnb at h9
            simp only [Bool.and_eq_true, beq_iff_eq, decide_eq_true_eq] at h9
            rw [h9.1.1.1.1.1.1.1]
            exact (List.take_sublist _ _).nodup h9.1.1.1.1.1.1.2
          subst h7
          exact bind_plain (fd := fnOf name qual params body scope .none kd doc pm an cd ct) h6 rfl hnn (by simpa using hl)
        | _ => cases h5
      | _ => cases h1
    | _ => cases h
noncomputable def isSomeRef (f : Addr) : Option (Option Value) → Bool
  | some (some (.ref g)) => g == f
  | _ => false
theorem isSomeRef_eq {f : Addr} {o : Option (Option Value)} (h : isSomeRef f o = true) : o = some (some (.ref f)) := by
  unfold isSomeRef at h
  split at h
  · rw [beq_iff_eq.mp h]
  · cases h
noncomputable def isSomeNone : Option (Option Value) → Bool
  | some none => true
  | _ => false
theorem isSomeNone_eq {o : Option (Option Value)} (h : isSomeNone o = true) : o = some none := by
  unfold isSomeNone at h
  split at h
  · rfl
  · cases h
noncomputable def fnk (K : Frag) (g : Str) (f : Addr) : Bool := isSomeRef f (nsIn K mainGlobals g) && keepIn K (.ref f)
theorem GFn.of {G : Gx} {g : Str} {f : Addr} (h : fnk G.K g f = true) : GFn G g f := by
  unfold fnk at h
  simp only [Bool.and_eq_true] at h
  exact ⟨isSomeRef_eq h.1, h.2⟩
noncomputable def clsk (K : Frag) (g : Str) (C fI : Addr) : Bool := fnk K g C && makesIn K C && isSomeRef fI (findIn K (.ref C) "__init__") && isFn K (.ref fI)
theorem GCls.of {G : Gx} {g : Str} {C fI : Addr} (h : clsk G.K g C fI = true) : GCls G g C fI := by
  unfold clsk at h
  simp only [Bool.and_eq_true] at h
  exact ⟨GFn.of h.1.1.1, h.1.1.2, isSomeRef_eq h.1.2, h.2⟩
noncomputable def attk (K : Frag) (C : Addr) (name : Str) : Bool := plainGet K C name && hasDictIn K C && isSomeNone (findIn K (.ref C) name)
theorem GAtt.of {G : Gx} {C : Addr} {name : Str} (h : attk G.K C name = true) : GAtt G C name := by
  unfold attk at h
  simp only [Bool.and_eq_true] at h
  exact ⟨h.1.1, h.1.2, isSomeNone_eq h.2⟩
noncomputable def stok (K : Frag) (C : Addr) (name : Str) : Bool :=
  (match findIn K (.ref C) "__setattr__" with | some (some (.builtin x)) => x == "object.__setattr__" | _ => false) && plainOver K C && isSomeNone (takerIn K C name) && hasDictIn K C
theorem GSto.of {G : Gx} {C : Addr} {name : Str} (h : stok G.K C name = true) : GSto G C name := by
  unfold stok at h
  simp only [Bool.and_eq_true] at h
  obtain ⟨⟨⟨h1, h2⟩, h3⟩, h4⟩ := h
  split at h1
  · rename_i x hx
    rw [beq_iff_eq] at h1
    subst h1
    exact ⟨hx, h2, isSomeNone_eq h3, h4⟩
  · cases h1
noncomputable def mthk (K : Frag) (C : Addr) (name : Str) (f : Addr) : Bool := plainGet K C name && isSomeRef f (findIn K (.ref C) name) && isFn K (.ref f) && keepIn K (.ref f)
theorem GMth.of {G : Gx} {C : Addr} {name : Str} {f : Addr} (h : mthk G.K C name f = true) : GMth G C name f := by
  unfold mthk at h
  simp only [Bool.and_eq_true] at h
  exact ⟨h.1.1.1, isSomeRef_eq h.1.1.2, h.1.2, h.2⟩
section
variable {c : Cx} {m : ML} {H : MH} {G : Gx} {d : Nat}
end
noncomputable def Ext (H H' : MH) : Prop := ∀ (i : Nat) (o : MO), H[i]? = some o → H'[i]? = some o
theorem Ext.refl (H : MH) : Ext H H := fun _ _ h => h
theorem get_app {H t : MH} {i : Nat} {o : MO} (h : H[i]? = some o) : (H ++ t)[i]? = some o := by
  rw [List.getElem?_append_left (List.getElem?_eq_some_iff.mp h).1]; exact h
theorem Ext.app {H H' : MH} (h : Ext H H') (t : MH) : Ext H (H' ++ t) := fun i o e => get_app (h i o e)
theorem Ext.set {H H' : MH} {a : Nat} {o : MO} (h : Ext H H') (ha : H.length ≤ a) : Ext H (H'.set a o) := fun i x e => by
  have := (List.getElem?_eq_some_iff.mp e).1
  rw [List.getElem?_set_ne (by omega)]
  exact h i x e
theorem Ext.ins {H H' : MH} (h : Ext H H') {i k : Nat} {C : Addr} {fs : List (Str × MV)} (x : Ins H i C k fs) : Ins H' i C k fs := ⟨h _ _ x.1, h _ _ x.2⟩
theorem get_end {H : MH} {o : MO} : (H ++ [o])[H.length]? = some o := by simp
theorem CL.use {G : Gx} {prog : Program} {w : World} {d d' : Nat} {f : Addr} {args : List MV} {H : MH} {p q : MV → MH → Prop} {xp : Addr → List MV → MH → Prop} (h : CL G prog w d f args H p xp) (hd : d ≤ d') (hp : ∀ v H', p v H' → q v H') :
    CL G prog w d' f args H q xp := (h.le hd).mono hp fun _ _ _ x => x
theorem set_end {H : MH} {a b : MO} : (H ++ [a]).set H.length b = H ++ [b] := by simp
noncomputable def isSomeInt (i : Int) : Option (Option Value) → Bool
  | some (some (.int j _)) => i == j
  | _ => false
theorem isSomeInt_eq {i : Int} {o : Option (Option Value)} (h : isSomeInt i o = true) : ∃ t, o = some (some (.int i t)) := by
  unfold isSomeInt at h
  split at h
  · rw [beq_iff_eq.mp h]; exact ⟨_, rfl⟩
  · cases h
theorem bb_len : bootBuiltins "len" = some (.builtin "len") := by kernel_rfl
structure Bs (G : Gx) : Prop where
  len : nsIn G.K mainGlobals "len" = some none
  max : nsIn G.K mainGlobals "max" = some none
  min : nsIn G.K mainGlobals "min" = some none
  sum : nsIn G.K mainGlobals "sum" = some none
  list : nsIn G.K mainGlobals "list" = some none
  range : nsIn G.K mainGlobals "range" = some none
  reversed : nsIn G.K mainGlobals "reversed" = some none
  type : nsIn G.K mainGlobals "type" = some none
  int : nsIn G.K mainGlobals "int" = some none
  str : nsIn G.K mainGlobals "str" = some none
noncomputable def bmV : List Value := [.type "ValueError", .type "Exception", .type "BaseException", .type "object"]
noncomputable def excK (K : Frag) (g : Str) (C : Addr) : Bool := isSomeRef C (nsIn K mainGlobals g) && excIn K C bmV "ValueError.__new__"
theorem GExc.of {G : Gx} {g : Str} {C : Addr} (h : excK G.K g C = true) : GExc G g C bmV := by
  unfold excK at h
  simp only [Bool.and_eq_true] at h
  exact ⟨isSomeRef_eq h.1, "ValueError", "ValueError.__new__", "ValueError.__init__", bmV, "ValueError", "ValueError.__new__", "ValueError.__init__", PySem.F.excBase_ValueError, by decide +kernel, PySem.F.excBase_ValueError, h.2⟩
noncomputable def Scr (c : Cx) (a : Addr) (ns : List Int) : Prop := ∃ vs : List Value, c.h₀.IsList a vs.toArray ∧ IntsAre vs ns ∧ ns.length ≤ 63
theorem ints_len {vs : List Value} {ns : List Int} (h : IntsAre vs ns) : vs.length = ns.length := by
  induction h with
  | nil => rfl
  | cons _ _ _ ih => simp [ih]
theorem ints_at {vs : List Value} {ns : List Int} (h : IntsAre vs ns) : ∀ n, n < ns.length → ∃ t, vs[n]? = some (.int (ns.getD n 0) t) := by
  induction h with
  | nil => intro n hn; simp at hn
  | cons i t _ ih =>
    intro n hn
    cases n with
    | zero => exact ⟨t, rfl⟩
    | succ n => exact ih n (by simpa using hn)
theorem Scr.len {c : Cx} {H : MH} {a : Addr} {ns : List Int} (S : Scr c a ns) {post : MV → MH → Prop} (h : post (.int ns.length) H) : BC c (.builtin "len") [.glob a] H post := by
  obtain ⟨vs, h1, h2, h3⟩ := S
  have := ints_len h2
  exact BC.lenG h1 (by omega) (by rw [this]; exact h)
theorem Scr.at {c : Cx} {H : MH} {a : Addr} {ns : List Int} (S : Scr c a ns) {n : Int} (h0 : 0 ≤ n) (h : n < ns.length) : Sq c H (.glob a) (.int n) (.int (ns.getD n.toNat 0)) := by
  obtain ⟨vs, h1, h2, h3⟩ := S
  have hl := ints_len h2
  obtain ⟨t, ht⟩ := ints_at h2 n.toNat (by omega)
  exact Sq.glob h1 h0 (by omega) ht
noncomputable def ScrG (G : Gx) (a : Addr) (ns : List Int) : Prop := ∀ h, G.ex h → ∃ vs : List Value, h.IsList a vs.toArray ∧ IntsAre vs ns ∧ ns.length ≤ 63
theorem ScrG.scr {G : Gx} {a : Addr} {ns : List Int} {c : Cx} {d : Nat} (S : ScrG G a ns) (ok : Ok G c d) : Scr c a ns := S _ ok.ex
section
variable {c : Cx} {m : ML} {H : MH} {G : Gx} {d : Nat}
theorem TE.len (ok : Ok G c d) (b : Bs G) {a : CE} {post : MV → MH → Prop} (h : TE c m a H (fun v H1 => BC c (.builtin "len") [v] H1 post)) : TE c m (.call "len" (.cons a .nil)) H post :=
  TE.bc ok b.len bb_len (by decide) (TEs.cons (h.mono fun _ _ x => TEs.nil x))
end
theorem bb_str : bootBuiltins "str" = some (.type "str") := by kernel_rfl
theorem CL.use2 {G : Gx} {prog : Program} {w : World} {d d' : Nat} {f : Addr} {args : List MV} {H : MH} {p q : MV → MH → Prop} {xp xq : Addr → List MV → MH → Prop} (h : CL G prog w d f args H p xp) (hd : d ≤ d') (hp : ∀ v H', p v H' → q v H')
    (hx : ∀ C as H', xp C as H' → xq C as H') : CL G prog w d' f args H q xq := (h.le hd).mono hp hx
section
variable {c : Cx} {m : ML} {H : MH} {G : Gx} {d : Nat}
theorem TT.cqIn {a b : CE} {post : Bool → MH → Prop} (h : TE c m a H (fun x H1 => TE c m b H1 (fun y H2 => ∃ r, Cq c .In H2 x y r ∧ post r H2))) : TT c m (.cmp .In a b) H post := TT.cq h
theorem TT.cqNI {a b : CE} {post : Bool → MH → Prop} (h : TE c m a H (fun x H1 => TE c m b H1 (fun y H2 => ∃ r, Cq c .NotIn H2 x y r ∧ post r H2))) : TT c m (.cmp .NotIn a b) H post := TT.cq h
end
abbrev strL (ys : List Str) : List MV := ys.map MV.str
theorem strL_are {ρ : List Addr} : ∀ {ys : List Str} {vs : List Value}, VRs ρ (strL ys) vs → StrsAre vs ys
  | [], _, h => by rw [show _ = [] from h]; exact .nil
  | n :: ns, _, ⟨v, r, e, ⟨t, h1⟩, h2⟩ => by
    subst e h1
    exact .cons _ _ (strL_are h2)
noncomputable def isSomeStr (x : Str) : Option (Option Value) → Bool
  | some (some (.str y _)) => x == y
  | _ => false
theorem isSomeStr_eq {x : Str} {o : Option (Option Value)} (h : isSomeStr x o = true) : ∃ t, o = some (some (.str x t)) := by
  unfold isSomeStr at h
  split at h
  · rw [beq_iff_eq.mp h]; exact ⟨_, rfl⟩
  · cases h
section
variable {c : Cx} {m : ML} {H : MH} {G : Gx} {d : Nat}
theorem Sq.str {x : Str} {n : Int} {ch : Nat} (h0 : 0 ≤ n) (hl : x.length ≤ 1000000) (hc : x.cps[n.toNat]? = some ch) : Sq c H (.str x) (.int n) (.str ⟨#[ch]⟩) := by
  rintro mr ρ s Q E _ _ base sl hsl S ⟨t, rfl⟩ ⟨u, rfl⟩ k
  have hlt : n.toNat < x.cps.size := (Array.getElem?_eq_some_iff.mp hc).1
  have hx : x.length = x.cps.size := rfl
  refine tail_any (typeIs_str s x t) PyProof.Rows.slot_str_getitem.lookup (PyProof.Rows.getItem_str (c := ch) ?_ ?_ (k _ _ ⟨_, rfl⟩)) (subscripted_of (nm := []) (sc := c.sc) hsl _ _)
  · have h1 : ¬ n < -(2 ^ 63 : Int) := by omega
    have h2 : ¬ n ≥ 2 ^ 63 := by omega
    rw [decide_eq_false h1, decide_eq_false h2]
    rfl
  · unfold seqIndex?
    have h1 : ¬ n < 0 := by omega
    have h2 : (decide (0 ≤ n) && decide (n < (x.length : Int))) = true := by simp; omega
    simp only [if_neg h1, h2, if_true]
    exact hc
theorem Cq.inS {ch : Nat} {x : Str} : Cq c .In H (.str ⟨#[ch]⟩) (.str x) (decide (ch ∈ x.cps.toList)) := by
  rintro mr ρ s Q E _ _ S ⟨t, rfl⟩ ⟨u, rfl⟩ k
  refine PyProof.Rows.in_str ?_
  rw [empty_one]
  simpa using k s.heap s.toks S
theorem Cq.ninS {ch : Nat} {x : Str} : Cq c .NotIn H (.str ⟨#[ch]⟩) (.str x) (!decide (ch ∈ x.cps.toList)) := by
  rintro mr ρ s Q E _ _ S ⟨t, rfl⟩ ⟨u, rfl⟩ k
  refine PyProof.Rows.notIn_str ?_
  rw [empty_one]
  simpa using k s.heap s.toks S
theorem Cq.inTS {a : Nat} {ys : List Str} {x : Str} (ha : H[a]? = some (.tup (strL ys))) : Cq c .In H (.str x) (.ref a) (ys.any (· == x)) := by
  rintro mr ρ s Q E _ _ S ⟨t, rfl⟩ ⟨y, hy, rfl⟩ k
  obtain ⟨vs, hv, T⟩ := S.tup ha hy
  exact in_tuple_strs T (by simpa using strL_are hv) (k s.heap s.toks S)
theorem NX.str {I : Addr} {x : Str} {t : Tok} {ρ : List Addr} (hh : c.A.handled = none) :
    NX c I (fun i o => o.cls = .type "str_ascii_iterator" ∧ o.data = .fields #[.str x t, .int i 0]) (fun _ => True) (fun i _ => (x.cps[i]?).map fun ch => .str ⟨#[ch]⟩) ρ := by
  rintro i oI mr t' H s Q E ⟨hc, hd⟩ _ S k1 k2
  have hit : s.heap.IsStrIter I "str_ascii_iterator" x t i := ⟨oI, S.itr.1, hc, hd⟩
  cases hx : x.cps[i]? with
  | some ch =>
    refine wpAny_pyNext_ascii_item hit hx fun h' hit' hs' => ?_
    obtain ⟨o', ho', hc', hd'⟩ := hit'
    exact k1 (.str ⟨#[ch]⟩) _ o' h' _ (by show Option.map _ x.cps[i]? = _; rw [hx]; rfl) ⟨_, rfl⟩ ⟨hc', hd'⟩ ho' fun b o hb e => (hs'.2 b hb).trans e
  | none => exact wpAny_pyNext_ascii_end hh hit hx fun h' he' => k2 h' s.toks (by show Option.map _ x.cps[i]? = _; rw [hx]; rfl) fun b o hb e => he' b o hb e
theorem TS.forS (ok : Ok G c d) (hfm : c.fm = none) {i0 : Nat} {it : CE} {b : CSs} {post : Fl → ML → MH → Prop}
    (h : TE c m it H (fun v H1 => ∃ x : Str, v = .str x ∧ x.cps.all (· < 128) = true ∧ ∃ (J : Nat → ML → MH → Prop), J 0 m H1 ∧
      (∀ i m1 H2 ch xt, J i m1 H2 → x.cps[i]? = some ch → TB (c.wx xt) (setAll [i0] [.str ⟨#[ch]⟩] m1) b H2 (fun f m2 H3 => match f with
        | .next => J (i + 1) m2 H3
        | .cont => J (i + 1) m2 H3
        | .brk => post .next m2 H3
        | .ret v => post (.ret v) m2 H3)) ∧
      (∀ m1 H2, J x.cps.size m1 H2 → post .next m1 H2))) : TS c m (.for [i0] it b) H post := by
  intro st hs
  obtain ⟨h0, h1, h2, h3⟩ := and4 hs
  have h0 := ne_of h0
  intro mr ρ s Q E S lr k kx
  refine wpAny_For ?_ (folded_of h2)
  refine h _ h2 mr ρ s _ E S lr ?_ kx
  rintro t l lv H1 hp1 tk1 ⟨x, rfl, hasc, J, hJ0, turn, done⟩ ⟨u, rfl⟩ S1
  refine wpAny_pyIter_ascii hasc ?_
  refine forCore (post := post) ok hfm h0 h1 h3 (NX.str (x := x) (t := u) ok.hh) (fun i o hT => ⟨_, _, hT.1, hT.2, rfl⟩) (fun i m2 H2 => i ≤ x.cps.size ∧ J i m2 H2) x.cps.size ⟨Nat.zero_le _, hJ0⟩ (fun i m2 H2 q => ⟨q.1, trivial⟩) ?_ ?_ (mr := mr) ⟨rfl, rfl⟩ (S1.addX rfl) lr.mono ?_ kx.mono
  · intro i m1 H2 v xt q hi
    cases hx : x.cps[i]? with
    | none => replace hi : Option.map _ x.cps[i]? = _ := hi; rw [hx] at hi; cases hi
    | some ch =>
      replace hi : Option.map _ x.cps[i]? = _ := hi
      rw [hx] at hi
      cases hi
      have hlt := (Array.getElem?_eq_some_iff.mp hx).1
      refine ⟨[.str ⟨#[ch]⟩], rfl, (turn i m1 H2 ch xt q.2 hx).mono fun f m2 H3 hf => ?_⟩
      cases f with
      | next => exact ⟨hlt, hf⟩
      | cont => exact ⟨hlt, hf⟩
      | brk => exact hf
      | ret v => exact hf
  · intro i m1 H2 q hi
    cases hx : x.cps[i]? with
    | some ch => replace hi : Option.map _ x.cps[i]? = _ := hi; rw [hx] at hi; cases hi
    | none =>
      have : i = x.cps.size := Nat.le_antisymm q.1 (Array.getElem?_eq_none_iff.mp hx)
      exact done m1 H2 (this ▸ q.2)
  · intro t' f fr m' mr' H' h' tk hp hf S' l'
    rw [List.append_assoc] at hf S' l'
    exact k (t ++ t') f fr m' mr' H' h' tk hp hf S' l'
end
theorem bool_index : typeLookup (.type "bool") "__index__" = pure (some (.builtin "int.__index__")) := by rw [typeLookup_type, builtinLookup_eq_fast]; kernel_rfl
theorem getItem_list_bool {prog : Program} {w : World} {A : Around} {E : Value → Shared → Prop} {s : Shared} {l : Addr} {items : Array Value} {b : Bool} {x : Value} {Q : Value → Shared → Prop} (hl : s.heap.IsList l items)
    (hx : items[b.toNat]? = some x) (h : Q x s) : wpAny (model prog w) A (getItem (.ref l) (.bool b)) Q E s := by
  obtain ⟨o, ho, hc, ne, hd⟩ := id hl
  unfold getItem
  try with_reducible refine wpAny_holding ?_
  first | refine wpAny_bind (wpAny_pure ?_) | skip
  refine wpAny_bind (wpAny_sequenceKey hl.typeIs (by decide) ?_)
  refine wpAny_bind (wpAny_callSpecial?_slot (name := Str.ofString "__getitem__") hl.typeIs slot_list_getitem
    (wpAny_call_entry slot_list_getitem hl.typeIs entry_list_getitem ?_ (args_list_getitem _ _)))
  show wpAny _ _ (Builtin.List.listSubscript? (.bool b) >>= _) _ _ s
  have key : ∀ A' (E' : Value → Shared → Prop), wpAny (model prog w) A' (Builtin.List.listSubscript? (.bool b)) (fun r s' => r = some (b.toNat : Int) ∧ s' = s) E' s := by
    intro A' E'
    unfold Builtin.List.listSubscript?
    refine wpAny_bind (wpAny_specialOf (T := "bool") (PySem.typeIs_bool s b) bool_index ?_)
    show wpAny _ _ (asIndex (.bool b) >>= _) _ _ s
    cases b
    · refine wpAny_bind (wpAny_of_eq (a := 0) rfl ?_)
      exact wpAny_pure ⟨rfl, rfl⟩
    · refine wpAny_bind (wpAny_of_eq (a := 1) rfl ?_)
      exact wpAny_pure ⟨rfl, rfl⟩
  refine wpAny_bind (wpAny_mono (key _ _) ?_ fun _ _ x => x)
  rintro _ _ ⟨rfl, rfl⟩
  show wpAny _ _ ((seqItemAt l b.toNat >>= fun r => pure (r.map (b.toNat, ·))) >>= _) _ _ _
  refine wpAny_bind (wpAny_bind (wpAny_seqItemAt ho hd (wpAny_pure ?_)))
  rw [hx]
  first
    | exact wpAny_bind (wpAny_pure (wpAny_pure ⟨x, rfl, wpAny_pure h⟩))
    | exact wpAny_pure ⟨x, rfl, wpAny_pure h⟩
inductive RD (H : MH) : MV → PyData → Prop where
  | none : RD H .none .none
  | bool {b : Bool} : RD H (.bool b) (.bool b)
  | int {i : Int} : RD H (.int i) (.int i)
  | str {x : Str} : RD H (.str x) (.str x)
  | list {a : Nat} {xs : List MV} {ds : List PyData} (h : H[a]? = some (.list xs)) (hl : xs.length = ds.length) (hd : ∀ (k : Nat) (v : MV) (d : PyData), xs[k]? = some v → ds[k]? = some d → RD H v d) : RD H (.ref a) (.list ds)
  | tup {a : Nat} {xs : List MV} {ds : List PyData} (h : H[a]? = some (.tup xs)) (hl : xs.length = ds.length) (hd : ∀ (k : Nat) (v : MV) (d : PyData), xs[k]? = some v → ds[k]? = some d → RD H v d) : RD H (.ref a) (.tuple ds)
theorem readsAll_of {h : Heap} {ρ : List Addr} : ∀ {xs : List MV} {vs : List Value} {ds : List PyData}, VRs ρ xs vs → xs.length = ds.length → (∀ (k : Nat) (v : MV) (d : PyData) (vr : Value), xs[k]? = some v → ds[k]? = some d → VR ρ v vr → ∃ as, Reads h vr d as) → ∃ as, ReadsAll h vs ds as
  | [], vs, [], hv, _, _ => ⟨[], by rw [show vs = [] from hv]; exact .nil⟩
  | [], _, _ :: _, _, hl, _ => by simp at hl
  | _ :: _, _, [], _, hl, _ => by simp at hl
  | x :: xs, _, d :: ds, ⟨v, r, e, h1, h2⟩, hl, hk => by
    subst e
    obtain ⟨as, ha⟩ := hk 0 x d v rfl rfl h1
    obtain ⟨bs, hb⟩ := readsAll_of h2 (by simpa using hl) fun k v d vr e1 e2 h3 => hk (k + 1) v d vr (by simpa using e1) (by simpa using e2) h3
    exact ⟨_, .cons ha hb⟩
section
variable {c : Cx} {m : ML} {H : MH} {G : Gx} {d : Nat}
theorem RD.reads {v : MV} {dt : PyData} (hr : RD H v dt) {mr : Str → Option Value} {ρ : List Addr} {h : Heap} (S : St c mr ρ H h) : ∀ {vr : Value}, VR ρ v vr → ∃ as, Reads h vr dt as := by
  induction hr with
  | none => intro vr hv; rw [show vr = _ from hv]; exact ⟨_, .none⟩
  | bool => intro vr hv; rw [show vr = _ from hv]; exact ⟨_, .bool _⟩
  | int => rintro _ ⟨t, rfl⟩; exact ⟨_, .int _ _⟩
  | str => rintro _ ⟨t, rfl⟩; exact ⟨_, .str _ _⟩
  | list ha hl hd ih =>
    rintro _ ⟨x, hx, rfl⟩
    obtain ⟨vs, n, hvs, No⟩ := S.list ha hx
    obtain ⟨as, hA⟩ := readsAll_of (h := h) hvs hl fun k v d vr e1 e2 h3 => ih k v d e1 e2 h3
    exact ⟨_, .list (No _ (.head _)).1 rfl rfl hA⟩
  | tup ha hl hd ih =>
    rintro _ ⟨x, hx, rfl⟩
    obtain ⟨vs, hvs, o, ho, hc, n, hdat⟩ := S.tup ha hx
    obtain ⟨as, hA⟩ := readsAll_of (h := h) hvs hl fun k v d vr e1 e2 h3 => ih k v d e1 e2 h3
    exact ⟨_, .tuple ho hc hdat hA⟩
theorem Cq.eqD (ok : Ok G c d) {a b : MV} {da db : PyData} (ha : RD H a da) (hb : RD H b db) (sa : PySem.SeqAt.shaped da = true) (sb : PySem.SeqAt.shaped db = true) : Cq c .Eq H a b (PyData.eqv da db) := by
  intro mr ρ s Q E va vb S h1 h2 k
  obtain ⟨as, r1⟩ := ha.reads S h1
  obtain ⟨bs, r2⟩ := hb.reads S h2
  exact eq_dataH r1 r2 sa sb (by have := ok.uni; omega) (k s.heap s.toks S)
theorem Sq.listB {a : Nat} {xs : List MV} {b : Bool} {v : MV} (ha : H[a]? = some (.list xs)) (hv : xs[b.toNat]? = some v) : Sq c H (.ref a) (.bool b) v := by
  rintro mr ρ s Q E _ vi base sl hsl S ⟨x, hx, rfl⟩ hb k
  rw [show vi = .bool b from hb]
  obtain ⟨vs, ep, hvs, No⟩ := S.list ha hx
  obtain ⟨vr, e1, e2⟩ := hvs.get hv
  exact tail_any (isList_of No).typeIs slot_list_getitem.lookup (getItem_list_bool (isList_of No) (by simpa using e1) (k vr _ e2)) (subscripted_of (nm := []) (sc := c.sc) hsl _ _)
noncomputable def TO (c : Cx) (m : ML) (a : CO) (H : MH) (post : Option Int → MH → Prop) : Prop := match a with
  | .none => post Option.none H
  | .some e => TE c m e H (fun v H1 => ∃ i, v = .int i ∧ post (some i) H1)
theorem part_of {a : CO} {e : PySem.Expr} {post : Option Int → MH → Prop} {mr : Str → Option Value} {ρ : List Addr} {s : Shared} {Q : Value → Shared → Prop} {E : Value → Shared → Prop} (h : TO c m a H post) (he : wfO a c.nm c.sc e = true) (S : St c mr ρ H s.heap) (l : LR mr c.nm ρ m) (kx : Kx c ρ s E)
    (k : ∀ t o vr H' h' tk, post o H' → IsPart vr o → St c mr (ρ ++ t) H' h' → Q vr { s with heap := h', toks := tk }) : wpAny (model c.prog c.w) c.A (evalPart (reO a c.nm e) c.env) Q E s := by
  cases a with
  | none => exact wpAny_pure (k [] Option.none _ H s.heap s.toks h .none (nil_of S))
  | some a =>
    refine h _ he mr ρ s _ E S l ?_ kx
    rintro t _ _ H1 h1 tk1 ⟨i, rfl, hp⟩ ⟨u, rfl⟩ S1
    exact k t (some i) _ H1 h1 tk1 hp (.int i u) S1
theorem TE.sliceQ {o : CE} {lo hi : CO} {post : MV → MH → Prop} (h : TE c m o H (fun x H1 => TO c m lo H1 (fun l H2 => TO c m hi H2 (fun u H3 =>
      ∀ (mr : Str → Option Value) (ρ : List Addr) (s : Shared) (Q : Value → Shared → Prop) (E : Value → Shared → Prop) (vo vl vu : Value) (base : PySem.Expr) (lw up : Option PySem.Expr) (p : Pos), St c mr ρ H3 s.heap → VR ρ x vo → IsPart vl l → IsPart vu u →
        (∀ t v vr H' h' tk, post v H' → VR (ρ ++ t) v vr → St c mr (ρ ++ t) H' h' → Q vr { s with heap := h', toks := tk }) →
        wpAny (model c.prog c.w) c.A (subscriptTail base (.Slice lw up Option.none p) vo (.ref s.heap.objs.size)) Q E { s with heap := s.heap.push { cls := .type "slice", data := .fields #[vl, vu, .none] } })))) : TE c m (.slice o lo hi) H post := by
  intro e he
  obtain ⟨h1, h2, h3⟩ := and3 he
  intro mr ρ s Q E S l k kx
  refine Subscript_ ?_
  refine h _ h1 mr ρ s _ E S l ?_ kx
  intro t x xr H1 hp1 tk1 h12 hx S1
  refine wpAny_Slice ?_
  refine part_of (s := { s with heap := hp1, toks := tk1 }) h12 h2 S1 l.mono kx.mono ?_
  intro t2 lo' vl H2 hp2 tk2 h23 pl S2
  refine part_of (s := { s with heap := hp2, toks := tk2 }) h23 h3 S2 l.mono.mono kx.mono.mono ?_
  intro t3 hi' vu H3 hp3 tk3 h34 pu S3
  refine wpAny_pure ?_
  refine h34 mr _ { s with heap := hp3, toks := tk3 } _ E _ vl vu _ _ _ _ S3 hx.mono.mono pl pu ?_
  intro t4 v vr H' h' tk hp hv S4
  have e1 : ρ ++ t ++ t2 ++ t3 ++ t4 = ρ ++ (t ++ (t2 ++ (t3 ++ t4))) := by simp only [List.append_assoc]
  rw [e1] at hv S4
  exact k _ v vr H' h' tk hp hv S4
theorem TE.sliceS {o : CE} {lo hi : CE} {post : MV → MH → Prop} (h : TE c m o H (fun x H1 => TE c m lo H1 (fun l H2 => ∃ i, l = .int i ∧ TE c m hi H2 (fun u H3 => ∃ j, u = .int j ∧ ∃ t : Str, x = .str t ∧ 0 ≤ i ∧ i ≤ j ∧ j ≤ t.cps.toList.length ∧ t.length ≤ 1000000 ∧
      post (.str ⟨((t.cps.toList.drop i.toNat).take (j - i).toNat).toArray⟩) H3)))) : TE c m (.slice o (.some lo) (.some hi)) H post := by
  refine TE.sliceQ (h.mono fun x H1 h1 => TE.mono (a := lo) h1 fun l H2 ⟨i, e1, h2⟩ => ⟨i, e1, TE.mono (a := hi) h2 fun u H3 ⟨j, e2, h3⟩ => ⟨j, e2, ?_⟩⟩)
  obtain ⟨t, rfl, i0, i1, i2, hl, hp⟩ := h3
  rintro mr ρ s Q E _ vl vu base lw up p S ⟨tt, rfl⟩ pl pu k
  cases pl with
  | int i ti =>
    cases pu with
    | int j tj =>
      refine tail_any (typeIs_str _ t tt) PyProof.Rows.slot_str_getitem.lookup (wpAny_getItem_str_slice (l := some (i, ti)) (u := some (j, tj)) (st := Option.none) ⟨_, Heap.get?_push_size _ rfl, rfl, rfl⟩ rfl
        (post_val_or_str ⟨Nat.le_trans (Txt.slice_le t _ _) (Nat.le_trans hl (by decide)), fun t' tk => ?_⟩)) rfl
      have e : Txt.slice t (some i) (some j) = ⟨((t.cps.toList.drop i.toNat).take (j - i).toNat).toArray⟩ := beq_iff_eq.mp (slice_closes ⟨i0, i1, i2⟩)
      show Q (.str (Txt.slice t (some i) (some j)) t') _
      rw [e]
      exact k [] _ _ H3 _ _ hp ⟨t', rfl⟩ (nil_of (S.grow fun b o q => Heap.get?_push_of_some _ q))
end
/- one step: walk_at "s" -/
local macro_rules | `(tactic| walk_at "s") => `(tactic| with_reducible first
  | refine TB.cons ?_
  | refine TB.nil ?_
  | refine TS.ret ?_
  | refine TS.assign (by assumption) (by assumption) (by with_unfolding_all rfl) ?_
  | refine TS.expr (by assumption) ?_
  | refine TS.ite ?_
  | refine TS.setAttr (by assumption) ?_
  | refine TS.setItem ?_
  | refine TE.loc (by assumption) (by with_unfolding_all rfl) ?_
  | refine TE.int ?_
  | refine TE.str ?_
  | refine TE.bool ?_
  | refine TE.none ?_
  | refine TE.op (by assumption) ?_
  | refine TE.attr (by assumption) ?_
  | refine TE.pop ?_
  | refine TE.append ?_
  | refine TE.meth (by assumption) ?_
  | refine TE.meth0 (by assumption) ?_
  | refine TE.sq ?_
  | refine TE.len (by assumption) (by assumption) ?_
  | refine TE.max (by assumption) (by assumption) ?_
  | refine TE.min (by assumption) (by assumption) ?_
  | refine TE.sum (by assumption) (by assumption) ?_
  | refine TE.blist (by assumption) (by assumption) ?_
  | refine TE.bstr (by assumption) (by assumption) ?_
  | refine TE.call (by assumption) (by assumption) ?_
  | refine TE.ite ?_
  | refine TE.list ?_
  | refine TE.tup ?_
  | refine TE.tst ?_
  | refine TE.negI ?_
  | refine TEs.nil ?_
  | refine TEs.cons ?_
  | refine TT.not ?_
  | refine TT.and ?_
  | refine TT.or ?_
  | refine TTs.andNil ?_
  | refine TTs.orNil ?_
  | refine TTs.and ?_
  | refine TTs.or ?_
  | refine TT.cqNI ?_
  | refine TT.cqIn ?_
  | refine TT.cmp ?_
  | refine TT.cmp2 ?_
  | refine TV.cmp2 ?_
  | refine TT.plain ?_
  | refine BC.lenI (by assumption) (by omega) ?_
  | refine Scr.len (by assumption) ?_
  | refine ⟨_, NegI.mk, ?_⟩
  | refine ⟨_, BinI.add, ?_⟩
  | refine ⟨_, BinI.sub, ?_⟩
  | refine ⟨_, BinI.band, ?_⟩
  | refine ⟨_, BinI.shr (by decide), ?_⟩
  | refine ⟨_, BinI.modP (by omega), ?_⟩
  | refine ⟨_, BinI.shl (by decide) (by decide) (by decide), ?_⟩
  | refine ⟨_, BinI.pow (by decide) (by decide) (by decide), ?_⟩
  | refine ⟨_, BinI.mul (mulL (by omega) (by omega)), ?_⟩
  | refine ⟨_, BinI.mul (mulR (by omega) (by omega)), ?_⟩
  | refine ⟨_, _, _, _, rfl, by assumption, by with_unfolding_all exact Nat.le_of_ble_eq_true rfl, by assumption, ?_⟩
  | refine ⟨_, _, _, _, _, rfl, by (first | assumption | exact Ext.ins (by assumption) (by assumption)), by with_unfolding_all rfl, by assumption, ?_⟩
  | fail)
local macro_rules | `(tactic| walk_at "w") => `(tactic| repeat walk_at "s")
noncomputable def k_need_name_nm : List Str := ["text", "sign"]
noncomputable def k_need_name : CSs := (.cons (.ite (.or (.cons (.cmp .IsNot (.call "type" (.cons (.loc 0) .nil)) (.glob "str")) (.cons (.cmp .Eq (.loc 0) (.str "")) (.cons (.cmp .Gt (.call "len" (.cons (.loc 0) .nil)) (.int 12)) (.cons (.cmp .NotIn (.sub (.loc 0) (.int 0)) (.glob "LETTERS")) .nil))))) (.cons (.raise "ShareError" (.cons (.bin .Add (.str "no name: ") (.call "shown" (.cons (.loc 0) .nil))) .nil))
  .nil) .nil)
  (.cons (.for [1] (.loc 0) (.cons (.ite (.and (.cons (.cmp .NotIn (.loc 1) (.glob "LETTERS")) (.cons (.cmp .NotIn (.loc 1) (.glob "DIGITS")) .nil))) (.cons (.raise "ShareError" (.cons (.bin .Add (.str "no name: ") (.call "shown" (.cons (.loc 0) .nil))) .nil))
  .nil) .nil)
  .nil))
  (.cons (.ret (.loc 0))
  .nil)))
noncomputable def k_name_nm : List Str := ["text"]
noncomputable def k_name : CSs := (.cons (.ite (.cmp .In (.loc 0) (.tup (.cons (.str "and") (.cons (.str "or") (.cons (.str "of") .nil))))) (.cons (.raise "ShareError" (.cons (.bin .Add (.str "a word of rules: ") (.loc 0)) .nil))
  .nil) .nil)
  (.cons (.ret (.tup (.cons (.str "name") (.cons (.call "need_name" (.cons (.loc 0) .nil)) .nil))))
  .nil))
noncomputable def LETS : Str := "abcdefghijklmnopqrstuvwxyzABCDEFGHIJKLMNOPQRSTUVWXYZ"
noncomputable def DIGS : Str := "0123456789"
noncomputable def okN (x : Str) : Bool := decide (x.length ≤ 12) && x.cps.all (· < 128) && (match x.cps[0]? with | some ch => decide (ch ∈ LETS.cps.toList) | none => false) && x.cps.toList.all fun ch => decide (ch ∈ LETS.cps.toList) || decide (ch ∈ DIGS.cps.toList)
structure NameK (G : Gx) : Prop where
  bs : Bs G
  le : ∃ t, nsIn G.K mainGlobals "LETTERS" = some (some (.str LETS t))
  di : ∃ t, nsIn G.K mainGlobals "DIGITS" = some (some (.str DIGS t))
  nn : ∃ f, GFn G "need_name" f ∧ GDef G f ["text"] k_need_name_nm k_need_name []
theorem need_name_cl {G : Gx} {prog : Program} {w : World} {f : Addr} {x : Str} {H : MH} {xp : Addr → List MV → MH → Prop} (D : GDef G f ["text"] k_need_name_nm k_need_name []) (K : NameK G) (hx : okN x = true) :
    CL G prog w 1 f [.str x] H (fun v H' => v = .str x ∧ H' = H) xp := by
  have bs := K.bs
  obtain ⟨t1, gL⟩ := K.le
  obtain ⟨t2, gD⟩ := K.di
  unfold okN at hx
  obtain ⟨h1, h2, h3, h4⟩ := and4 hx
  have h1 : x.length ≤ 12 := of_decide_eq_true h1
  cases hc : x.cps[0]? with
  | none => rw [hc] at h3; cases h3
  | some ch =>
    rw [hc] at h3
    have h3 : ch ∈ LETS.cps.toList := of_decide_eq_true h3
    have hpos : 0 < x.cps.size := (Array.getElem?_eq_some_iff.mp hc).1
    have hne : x ≠ "" := by
      rintro rfl
      exact absurd hpos (by decide +kernel)
    refine D.cl rfl ?_
    intro c e1 e2 ok hfm hint hnm hX
    show TB c [some (.str x), none] _ _ _
    unfold k_need_name
    refine TB.cons (TS.ite (TT.or (TTs.or (TT.tyAny (N := "str") (T' := "str") ok bs.type (.inr ⟨rfl, rfl⟩) bs.str bb_str (by decide) ?_))))
    walk_at "w"
    refine ⟨"str", rfl, fun h => (by cases h), fun _ => ?_⟩
    walk_at "w"
    refine ⟨false, by show false = decide _; simp [hne], fun h => (by cases h), fun _ => ?_⟩
    walk_at "w"
    refine BC.lenS (by omega) ?_
    walk_at "w"
    refine ⟨false, by show false = decide _; simp; omega, fun h => (by cases h), fun _ => ?_⟩
    walk_at "w"
    refine ⟨_, Sq.str (by decide) (by omega) hc, ?_⟩
    refine TE.glob ok gL (v := .str LETS) ⟨t1, rfl⟩ ?_
    refine ⟨_, Cq.ninS, fun h => (by simp [h3] at h), fun _ => ?_⟩
    walk_at "w"
    refine ⟨fun h => (by cases h), fun _ => ?_⟩
    refine TB.nil (TB.cons (TS.forS ok hfm ?_))
    walk_at "w"
    refine ⟨x, rfl, h2, fun j m1 H2 => ∃ o1, m1 = [some (.str x), o1] ∧ H2 = H, ⟨none, rfl, rfl⟩, ?_, ?_⟩
    · rintro j m1 H2 ch' xt ⟨o1, rfl, rfl⟩ hj
      have okx := ok.wx xt
      have hfx : (c.wx xt).fm = none := hfm
      have hm : ch' ∈ x.cps.toList := by
        rw [Array.mem_toList_iff]
        exact Array.mem_of_getElem? hj
      have hq := List.all_eq_true.mp h4 ch' hm
      show TB (c.wx xt) [some (.str x), some (.str ⟨#[ch']⟩)] _ _ _
      walk_at "w"
      refine TE.glob okx gL (v := .str LETS) ⟨t1, rfl⟩ ?_
      refine ⟨_, Cq.ninS, fun h => ?_, fun h => ?_⟩
      · refine ⟨fun h => (by cases h), fun _ => ?_⟩
        walk_at "w"
        exact ⟨_, rfl, rfl⟩
      · walk_at "w"
        refine TE.glob okx gD (v := .str DIGS) ⟨t2, rfl⟩ ?_
        have hnl : ¬ ch' ∈ LETS.cps.toList := by simpa using h
        have hdg : ch' ∈ DIGS.cps.toList := by
          rcases (Bool.or_eq_true _ _).mp hq with q | q
          · exact absurd (of_decide_eq_true q) hnl
          · exact of_decide_eq_true q
        refine ⟨_, Cq.ninS, fun h => ⟨fun h => (by cases h), fun _ => ?_⟩, fun h => (by simp [hdg] at h)⟩
        walk_at "w"
        exact ⟨_, rfl, rfl⟩
    · rintro m1 H2 ⟨o1, rfl, rfl⟩
      walk_at "w"
      exact ⟨rfl, rfl⟩
noncomputable def NameAt (H : MH) (r : Nat) (x : Str) : Prop := H[r]? = some (.tup [.str "name", .str x])
theorem name_cl {G : Gx} {prog : Program} {w : World} {f : Addr} {x : Str} {H : MH} {xp : Addr → List MV → MH → Prop} (D : GDef G f ["text"] k_name_nm k_name []) (K : NameK G) (hx : okN x = true) (hw : ([("and" : Str), "or", "of"].any (· == x)) = false) :
    CL G prog w 2 f [.str x] H (fun v H' => ∃ z, v = .ref z ∧ Ext H H' ∧ H.length ≤ z ∧ NameAt H' z x) xp := by
  obtain ⟨fN, gN, dN⟩ := K.nn
  refine D.cl rfl ?_
  intro c e1 e2 ok hfm hint hnm hX
  subst e1 e2
  show TB c [some (.str x)] _ _ _
  unfold k_name
  walk_at "w"
  refine ⟨by decide, ?_⟩
  refine ⟨_, Cq.inTS (ys := ["and", "or", "of"]) get_end, fun h => (by rw [hw] at h; cases h), fun _ => ?_⟩
  walk_at "w"
  refine (need_name_cl dN K hx).use (Nat.le_refl _) ?_
  rintro _ _ ⟨rfl, rfl⟩
  walk_at "w"
  refine ⟨Nat.le_of_ble_eq_true rfl, _, rfl, ((Ext.refl H).app _).app _, by simp, get_end⟩
section
variable {G : Gx} {prog : Program} {w : World} {f : Addr} {H : MH} {xp : Addr → List MV → MH → Prop}
end
noncomputable def k_Reader_init_nm : List Str := ["self", "text"]
noncomputable def k_Reader_init : CSs := (.cons (.ite (.or (.cons (.cmp .IsNot (.call "type" (.cons (.loc 1) .nil)) (.glob "str")) (.cons (.cmp .Gt (.call "len" (.cons (.loc 1) .nil)) (.glob "LONGEST")) .nil))) (.cons (.raise "ShareError" (.cons (.str "no rule, or one too long") .nil))
  .nil) .nil)
  (.cons (.setAttr (.loc 0) "words" (.call "_words" (.cons (.loc 1) .nil)))
  (.cons (.setAttr (.loc 0) "at" (.int 0))
  .nil)))
noncomputable def k_Reader_peek_nm : List Str := ["self"]
noncomputable def k_Reader_peek : CSs := (.cons (.ret (.ite (.cmp .Lt (.attr (.loc 0) "at") (.call "len" (.cons (.attr (.loc 0) "words") .nil))) (.sub (.attr (.loc 0) "words") (.attr (.loc 0) "at")) (.str "")))
  .nil)
noncomputable def k_Reader_take_nm : List Str := ["self", "word"]
noncomputable def k_Reader_take : CSs := (.cons (.assign 1 (.meth (.loc 0) "peek" .nil))
  (.cons (.setAttr (.loc 0) "at" (.bin .Add (.attr (.loc 0) "at") (.int 1)))
  (.cons (.ret (.loc 1))
  .nil)))
noncomputable def k_Reader_need_nm : List Str := ["self", "word"]
noncomputable def k_Reader_need : CSs := (.cons (.ite (.cmp .NotEq (.meth (.loc 0) "take" .nil) (.loc 1)) (.cons (.raise "ShareError" (.cons (.bin .Add (.bin .Add (.str "a ") (.loc 1)) (.str " is wanted")) .nil))
  .nil) .nil)
  .nil)
noncomputable def k_u_words_nm : List Str := ["text", "out", "k", "end"]
noncomputable def k_u_words : CSs := (.cons (.assign 1 (.list .nil))
  (.cons (.assign 2 (.int 0))
  (.cons (.while (.cmp .Lt (.loc 2) (.call "len" (.cons (.loc 0) .nil))) (.cons (.ite (.cmp .In (.sub (.loc 0) (.loc 2)) (.str "(),")) (.cons (.expr (.meth (.loc 1) "append" (.cons (.sub (.loc 0) (.loc 2)) .nil)))
  (.cons (.assign 2 (.bin .Add (.loc 2) (.int 1)))
  .nil)) (.cons (.ite (.or (.cons (.cmp .In (.sub (.loc 0) (.loc 2)) (.glob "LETTERS")) (.cons (.cmp .In (.sub (.loc 0) (.loc 2)) (.glob "DIGITS")) .nil))) (.cons (.assign 3 (.loc 2))
  (.cons (.while (.and (.cons (.cmp .Lt (.loc 3) (.call "len" (.cons (.loc 0) .nil))) (.cons (.or (.cons (.cmp .In (.sub (.loc 0) (.loc 3)) (.glob "LETTERS")) (.cons (.cmp .In (.sub (.loc 0) (.loc 3)) (.glob "DIGITS")) .nil))) .nil))) (.cons (.assign 3 (.bin .Add (.loc 3) (.int 1)))
  .nil))
  (.cons (.expr (.meth (.loc 1) "append" (.cons (.slice (.loc 0) (.some (.loc 2)) (.some (.loc 3))) .nil)))
  (.cons (.assign 2 (.loc 3))
  .nil)))) (.cons (.ite (.cmp .In (.sub (.loc 0) (.loc 2)) (.str " \t\n")) (.cons (.assign 2 (.bin .Add (.loc 2) (.int 1)))
  .nil) (.cons (.raise "ShareError" (.cons (.bin .Add (.str "a sign of no meaning: ") (.sub (.loc 0) (.loc 2))) .nil))
  .nil))
  .nil))
  .nil))
  .nil))
  (.cons (.ret (.loc 1))
  .nil))))
noncomputable def k_read_nm : List Str := ["text", "source", "out"]
noncomputable def k_read : CSs := (.cons (.assign 1 (.call "Reader" (.cons (.loc 0) .nil)))
  (.cons (.assign 2 (.call "_either" (.cons (.loc 1) (.cons (.int 0) .nil))))
  (.cons (.ite (.cmp .NotEq (.meth (.loc 1) "peek" .nil) (.str "")) (.cons (.raise "ShareError" (.cons (.bin .Add (.str "more words than a rule: ") (.call "shown" (.cons (.meth (.loc 1) "peek" .nil) .nil))) .nil))
  .nil) .nil)
  (.cons (.ret (.loc 2))
  .nil))))
noncomputable def k_u_either_nm : List Str := ["source", "deep", "parts"]
noncomputable def k_u_either : CSs := (.cons (.ite (.cmp .Gt (.loc 1) (.glob "NESTED")) (.cons (.raise "ShareError" (.cons (.str "a rule nested too deep") .nil))
  .nil) .nil)
  (.cons (.assign 2 (.list (.cons (.call "_both" (.cons (.loc 0) (.cons (.loc 1) .nil))) .nil)))
  (.cons (.while (.cmp .Eq (.meth (.loc 0) "peek" .nil) (.str "or")) (.cons (.expr (.meth (.loc 0) "take" .nil))
  (.cons (.expr (.meth (.loc 2) "append" (.cons (.call "_both" (.cons (.loc 0) (.cons (.loc 1) .nil))) .nil)))
  .nil)))
  (.cons (.ret (.ite (.cmp .Eq (.call "len" (.cons (.loc 2) .nil)) (.int 1)) (.sub (.loc 2) (.int 0)) (.call "either" (.cons (.loc 2) .nil))))
  .nil))))
noncomputable def k_u_both_nm : List Str := ["source", "deep", "parts"]
noncomputable def k_u_both : CSs := (.cons (.assign 2 (.list (.cons (.call "_one" (.cons (.loc 0) (.cons (.loc 1) .nil))) .nil)))
  (.cons (.while (.cmp .Eq (.meth (.loc 0) "peek" .nil) (.str "and")) (.cons (.expr (.meth (.loc 0) "take" .nil))
  (.cons (.expr (.meth (.loc 2) "append" (.cons (.call "_one" (.cons (.loc 0) (.cons (.loc 1) .nil))) .nil)))
  .nil)))
  (.cons (.ret (.ite (.cmp .Eq (.call "len" (.cons (.loc 2) .nil)) (.int 1)) (.sub (.loc 2) (.int 0)) (.call "both" (.cons (.loc 2) .nil))))
  .nil)))
noncomputable def k_u_one_nm : List Str := ["source", "deep", "word", "out", "sign", "parts"]
noncomputable def k_u_one : CSs := (.cons (.assign 2 (.meth (.loc 0) "take" .nil))
  (.cons (.ite (.cmp .Eq (.loc 2) (.str "(")) (.cons (.assign 3 (.call "_either" (.cons (.loc 0) (.cons (.bin .Add (.loc 1) (.int 1)) .nil))))
  (.cons (.expr (.meth (.loc 0) "need" (.cons (.str ")") .nil)))
  (.cons (.ret (.loc 3))
  .nil))) .nil)
  (.cons (.ite (.and (.cons (.cmp .NotEq (.loc 2) (.str "")) (.cons (.cmp .In (.sub (.loc 2) (.int 0)) (.glob "DIGITS")) .nil))) (.cons (.for [4] (.loc 2) (.cons (.ite (.or (.cons (.cmp .NotIn (.loc 4) (.glob "DIGITS")) (.cons (.cmp .Gt (.call "len" (.cons (.loc 2) .nil)) (.int 3)) .nil))) (.cons (.raise "ShareError" (.cons (.bin .Add (.str "no number: ") (.call "shown" (.cons (.loc 2) .nil))) .nil))
  .nil) .nil)
  .nil))
  (.cons (.expr (.meth (.loc 0) "need" (.cons (.str "of") .nil)))
  (.cons (.expr (.meth (.loc 0) "need" (.cons (.str "(") .nil)))
  (.cons (.assign 5 (.list (.cons (.call "_either" (.cons (.loc 0) (.cons (.bin .Add (.loc 1) (.int 1)) .nil))) .nil)))
  (.cons (.while (.cmp .Eq (.meth (.loc 0) "peek" .nil) (.str ",")) (.cons (.expr (.meth (.loc 0) "take" .nil))
  (.cons (.expr (.meth (.loc 5) "append" (.cons (.call "_either" (.cons (.loc 0) (.cons (.bin .Add (.loc 1) (.int 1)) .nil))) .nil)))
  .nil)))
  (.cons (.expr (.meth (.loc 0) "need" (.cons (.str ")") .nil)))
  (.cons (.ret (.call "gate" (.cons (.call "int" (.cons (.loc 2) .nil)) (.cons (.loc 5) .nil))))
  .nil))))))) .nil)
  (.cons (.ret (.call "name" (.cons (.loc 2) .nil)))
  .nil))))
noncomputable def brk (m : Nat) (x : Str) : List Nat := List.replicate m 40 ++ (x.cps.toList ++ List.replicate m 41)
noncomputable def tok (m : Nat) (x : Str) : List Str := List.replicate m ⟨#[40]⟩ ++ ([x] ++ List.replicate m ⟨#[41]⟩)
theorem brk_len {m : Nat} {x : Str} : (brk m x).length = m + x.cps.toList.length + m := by simp [brk]; omega
theorem brk_lo {m i : Nat} {x : Str} (h : i < m) : (brk m x)[i]? = some 40 := by
  unfold brk
  rw [List.getElem?_append_left (by simpa using h), List.getElem?_replicate, if_pos h]
theorem brk_mid {m j : Nat} {x : Str} (h : j < x.cps.toList.length) : (brk m x)[m + j]? = x.cps.toList[j]? := by
  unfold brk
  rw [List.getElem?_append_right (by simp), List.length_replicate, Nat.add_sub_cancel_left, List.getElem?_append_left h]
theorem brk_hi {m i : Nat} {x : Str} (h : i < m) : (brk m x)[m + x.cps.toList.length + i]? = some 41 := by
  unfold brk
  rw [Nat.add_assoc, List.getElem?_append_right (by simp), List.length_replicate, Nat.add_sub_cancel_left, List.getElem?_append_right (by omega), Nat.add_sub_cancel_left, List.getElem?_replicate, if_pos h]
theorem brk_cut {m : Nat} {x : Str} : (⟨(((brk m x).drop m).take x.cps.toList.length).toArray⟩ : Str) = x := by
  unfold brk
  rw [List.drop_append_of_le_length (by simp), List.drop_of_length_le (by simp), List.nil_append, List.take_append_of_le_length (Nat.le_refl _), List.take_length]
theorem cps_at {t : Str} {k : Nat} : t.cps[k]? = t.cps.toList[k]? := by rw [Array.getElem?_toList]
theorem par_in40 : (decide (40 ∈ ("()," : Str).cps.toList)) = true := by decide +kernel
theorem par_in41 : (decide (41 ∈ ("()," : Str).cps.toList)) = true := by decide +kernel
theorem par_let : ∀ ch ∈ LETS.cps.toList, ¬ ch ∈ ("()," : Str).cps.toList := by decide +kernel
theorem no41L : ¬ 41 ∈ LETS.cps.toList := by decide +kernel
theorem no41D : ¬ 41 ∈ DIGS.cps.toList := by decide +kernel
theorem words_cl {G : Gx} {prog : Program} {w : World} {f : Addr} {t x : Str} {m : Nat} {H : MH} {xp : Addr → List MV → MH → Prop} (D : GDef G f ["text"] k_u_words_nm k_u_words []) (K : NameK G) (hx : okN x = true) (ht : t.cps.toList = brk m x) (m1 : 1 ≤ m) (m2 : m ≤ 150) :
    CL G prog w 1 f [.str t] H (fun v H' => v = .ref H.length ∧ H' = H ++ [.list (strL (tok m x))]) xp := by
  have bs := K.bs
  obtain ⟨t1, gL⟩ := K.le
  obtain ⟨t2, gD⟩ := K.di
  unfold okN at hx
  obtain ⟨h1, h2, h3, h4⟩ := and4 hx
  have h1 : x.length ≤ 12 := of_decide_eq_true h1
  have hxl : x.length = x.cps.toList.length := rfl
  have htl : t.length = m + x.cps.toList.length + m := by
    show t.cps.size = _
    rw [← Array.length_toList, ht, brk_len]
  cases hc : x.cps[0]? with
  | none => rw [hc] at h3; cases h3
  | some ch =>
    rw [hc] at h3
    have h3 : ch ∈ LETS.cps.toList := of_decide_eq_true h3
    have hpos : 0 < x.cps.toList.length := by
      rw [Array.length_toList]
      exact (Array.getElem?_eq_some_iff.mp hc).1
    refine D.cl rfl ?_
    intro c e1 e2 ok hfm hint hnm hX
    show TB c [some (.str t), none, none, none] _ _ _
    unfold k_u_words
    walk_at "w"
    refine ⟨by decide, ?_⟩
    walk_at "w"
    refine TS.while ok hfm (fun n m1 H1 => ∃ (k : Nat) (out : List Str) (oe : Option MV), m1 = [some (.str t), some (.ref H.length), some (.int (k : Int)), oe] ∧ H1 = H ++ [.list (strL out)] ∧ k ≤ t.length ∧ n = t.length - k ∧
      ((∃ i, i ≤ m ∧ k = i ∧ out = List.replicate i ⟨#[40]⟩) ∨ (∃ i, i ≤ m ∧ k = m + x.cps.toList.length + i ∧ out = List.replicate m ⟨#[40]⟩ ++ ([x] ++ List.replicate i ⟨#[41]⟩)))) t.length
      ⟨0, [], none, rfl, rfl, by omega, by omega, .inl ⟨0, by omega, rfl, rfl⟩⟩ ?_
    rintro n m1 H1 ⟨k, out, oe, rfl, rfl, hk, hn, hph⟩
    have hol : out.length ≤ 1000 := by
      rcases hph with ⟨i, hi, _, rfl⟩ | ⟨i, hi, _, rfl⟩ <;> simp <;> omega
    walk_at "w"
    refine BC.lenS (by omega) ?_
    refine ⟨_, rfl, fun h => ?_, fun h => ?_⟩
    · have h : k < t.length := by simpa using h
      have tokPar : ∀ cc : Nat, t.cps[k]? = some cc → (decide (cc ∈ ("()," : Str).cps.toList)) = true → ∀ post : Fl → ML → MH → Prop, post .next [some (.str t), some (.ref H.length), some (.int ((k : Int) + 1)), oe] (H ++ [.list (strL (out ++ [⟨#[cc]⟩]))]) →
          ∀ b2, TB c [some (.str t), some (.ref H.length), some (.int (k : Int)), oe] (.cons (.ite (.cmp .In (.sub (.loc 0) (.loc 2)) (.str "(),")) (.cons (.expr (.meth (.loc 1) "append" (.cons (.sub (.loc 0) (.loc 2)) .nil))) (.cons (.assign 2 (.bin .Add (.loc 2) (.int 1))) .nil)) b2) .nil) (H ++ [.list (strL out)]) post := by
        intro cc hcc hin post hp b2
        have hq : t.cps[(k : Int).toNat]? = some cc := by simpa using hcc
        walk_at "w"
        refine ⟨_, Sq.str (by omega) (by omega) hq, ?_⟩
        walk_at "w"
        refine ⟨_, Cq.inS, fun _ => ?_, fun h => (by rw [hin] at h; cases h)⟩
        walk_at "w"
        refine ⟨_, _, rfl, get_end, ?_⟩
        walk_at "w"
        refine ⟨_, Sq.str (by omega) (by omega) hq, ?_⟩
        refine ⟨_, get_end, by rw [List.length_map]; omega, ?_⟩
        rw [set_end]
        walk_at "w"
        have e : strL out ++ [MV.str ⟨#[cc]⟩] = strL (out ++ [⟨#[cc]⟩]) := by simp [strL]
        rw [e]
        exact hp
      rcases hph with ⟨i, hi, rfl, rfl⟩ | ⟨i, hi, rfl, rfl⟩
      · by_cases him : k < m
        · refine tokPar 40 (by rw [cps_at, ht, brk_lo him]) par_in40 _ ?_ _
          refine ⟨t.length - (k + 1), by omega, k + 1, _, _, by rfl, rfl, by omega, rfl, .inl ⟨k + 1, by omega, rfl, ?_⟩⟩
          rw [List.replicate_succ']
        · have hkm : k = m := by omega
          subst hkm
          have hcc : t.cps[(k : Int).toNat]? = some ch := by
            have e0 : (k : Int).toNat = k + 0 := by omega
            rw [e0, cps_at, ht, brk_mid hpos, ← cps_at, hc]
          walk_at "w"
          refine ⟨_, Sq.str (by omega) (by omega) hcc, ?_⟩
          walk_at "w"
          refine ⟨_, Cq.inS, fun h => (by simp [par_let ch h3] at h), fun _ => ?_⟩
          walk_at "w"
          refine ⟨_, Sq.str (by omega) (by omega) hcc, ?_⟩
          refine TE.glob ok gL (v := .str LETS) ⟨t1, rfl⟩ ?_
          refine ⟨_, Cq.inS, fun _ => ?_, fun h => (by simp [h3] at h)⟩
          refine ⟨fun _ => ?_, fun h => (by cases h)⟩
          walk_at "w"
          refine TS.while ok hfm (fun n m1 H1 => ∃ j : Nat, m1 = [some (.str t), some (.ref H.length), some (.int (k : Int)), some (.int ((k + j : Nat) : Int))] ∧ H1 = H ++ [.list (strL (List.replicate k ⟨#[40]⟩))] ∧ j ≤ x.cps.toList.length ∧ n = x.cps.toList.length - j) x.cps.toList.length
            ⟨0, rfl, rfl, by omega, by omega⟩ ?_
          rintro n2 m2' H2 ⟨j, rfl, rfl, hj, hn2⟩
          walk_at "w"
          refine BC.lenS (by omega) ?_
          refine ⟨true, by show true = decide _; simp; omega, fun h => (by cases h), fun _ => ?_⟩
          by_cases hjx : j < x.cps.toList.length
          · obtain ⟨c2, hc2⟩ : ∃ c2, x.cps.toList[j]? = some c2 := ⟨_, List.getElem?_eq_getElem hjx⟩
            have hq : t.cps[((k + j : Nat) : Int).toNat]? = some c2 := by
              have e0 : ((k + j : Nat) : Int).toNat = k + j := by omega
              rw [e0, cps_at, ht, brk_mid hjx, hc2]
            have hal := List.all_eq_true.mp h4 c2 (List.mem_of_getElem? hc2)
            have go : TB c [some (.str t), some (.ref H.length), some (.int (k : Int)), some (.int ((k + j : Nat) : Int))] (.cons (.assign 3 (.bin .Add (.loc 3) (.int 1))) .nil) (H ++ [.list (strL (List.replicate k ⟨#[40]⟩))])
                (fun f m3 H3 => match f with
                  | .next => ∃ i, i < n2 ∧ ∃ j : Nat, m3 = [some (.str t), some (.ref H.length), some (.int (k : Int)), some (.int ((k + j : Nat) : Int))] ∧ H3 = H ++ [.list (strL (List.replicate k ⟨#[40]⟩))] ∧ j ≤ x.cps.toList.length ∧ i = x.cps.toList.length - j
                  | .cont => ∃ i, i < n2 ∧ ∃ j : Nat, m3 = [some (.str t), some (.ref H.length), some (.int (k : Int)), some (.int ((k + j : Nat) : Int))] ∧ H3 = H ++ [.list (strL (List.replicate k ⟨#[40]⟩))] ∧ j ≤ x.cps.toList.length ∧ i = x.cps.toList.length - j
                  | .brk => True
                  | .ret v => True) := by
              walk_at "w"
              exact ⟨x.cps.toList.length - (j + 1), by omega, j + 1, rfl, rfl, by omega, rfl⟩
            have go2 := go
            walk_at "w"
            refine ⟨_, Sq.str (by omega) (by omega) hq, ?_⟩
            refine TE.glob ok gL (v := .str LETS) ⟨t1, rfl⟩ ?_
            refine ⟨_, Cq.inS, fun _ => ?_, fun hb => ?_⟩
            · refine ⟨fun h => (by cases h), fun _ => ?_⟩
              walk_at "w"
              refine ⟨fun _ => ?_, fun h => (by cases h)⟩
              walk_at "w"
              exact ⟨x.cps.toList.length - (j + 1), by omega, j + 1, rfl, rfl, by omega, rfl⟩
            · walk_at "w"
              refine ⟨_, Sq.str (by omega) (by omega) hq, ?_⟩
              refine TE.glob ok gD (v := .str DIGS) ⟨t2, rfl⟩ ?_
              have hnl : ¬ c2 ∈ LETS.cps.toList := by simpa using hb
              have hdg : c2 ∈ DIGS.cps.toList := by
                rcases (Bool.or_eq_true _ _).mp hal with q | q
                · exact absurd (of_decide_eq_true q) hnl
                · exact of_decide_eq_true q
              refine ⟨_, Cq.inS, fun _ => ?_, fun h => (by simp [hdg] at h)⟩
              refine ⟨fun h => (by cases h), fun _ => ?_⟩
              walk_at "w"
              refine ⟨fun _ => ?_, fun h => (by cases h)⟩
              walk_at "w"
              exact ⟨x.cps.toList.length - (j + 1), by omega, j + 1, rfl, rfl, by omega, rfl⟩
          · have hjx : j = x.cps.toList.length := by omega
            have hq : t.cps[((k + j : Nat) : Int).toNat]? = some 41 := by
              have e0 : ((k + j : Nat) : Int).toNat = k + x.cps.toList.length + 0 := by omega
              rw [e0, cps_at, ht, brk_hi (by omega)]
            walk_at "w"
            refine ⟨_, Sq.str (by omega) (by omega) hq, ?_⟩
            refine TE.glob ok gL (v := .str LETS) ⟨t1, rfl⟩ ?_
            refine ⟨_, Cq.inS, fun h => absurd (of_decide_eq_true h) no41L, fun _ => ?_⟩
            walk_at "w"
            refine ⟨_, Sq.str (by omega) (by omega) hq, ?_⟩
            refine TE.glob ok gD (v := .str DIGS) ⟨t2, rfl⟩ ?_
            refine ⟨_, Cq.inS, fun h => absurd (of_decide_eq_true h) no41D, fun _ => ?_⟩
            walk_at "w"
            refine ⟨fun _ => ⟨fun h => (by cases h), fun _ => ?_⟩, fun h => (by cases h)⟩
            refine TB.cons (TS.expr hint (TE.append ?_))
            walk_at "w"
            refine ⟨_, _, rfl, get_end, ?_⟩
            refine TE.sliceS ?_
            walk_at "w"
            refine ⟨_, rfl, ?_⟩
            walk_at "w"
            refine ⟨_, rfl, t, rfl, by omega, by omega, by rw [ht, brk_len]; omega, by omega, ?_⟩
            have e0 : (k : Int).toNat = k := by omega
            have e1 : (((k + j : Nat) : Int) - (k : Int)).toNat = x.cps.toList.length := by omega
            rw [e0, e1, ht, brk_cut]
            refine ⟨_, get_end, by simp; omega, ?_⟩
            rw [set_end]
            walk_at "w"
            refine ⟨t.length - (k + x.cps.toList.length), by omega, k + x.cps.toList.length, List.replicate k ⟨#[40]⟩ ++ ([x] ++ List.replicate 0 ⟨#[41]⟩), some (.int ((k + j : Nat) : Int)), ?_, by simp [strL], by omega, rfl, .inr ⟨0, by omega, rfl, rfl⟩⟩
            rw [hjx]
            rfl
      · have him : i < m := by omega
        refine tokPar 41 (by rw [cps_at, ht, brk_hi him]) par_in41 _ ?_ _
        refine ⟨t.length - (m + x.cps.toList.length + i + 1), by omega, m + x.cps.toList.length + i + 1, _, _, by rfl, rfl, by omega, rfl, .inr ⟨i + 1, by omega, by omega, ?_⟩⟩
        rw [List.replicate_succ']
        simp
    · have h : t.length ≤ k := by simpa using h
      walk_at "w"
      refine ⟨rfl, ?_⟩
      rcases hph with ⟨i, hi, rfl, rfl⟩ | ⟨i, hi, rfl, rfl⟩
      · omega
      · have : i = m := by omega
        subst this
        rfl
noncomputable abbrev rdF (w : Nat) (a : Int) : List (Str × MV) := [("words", .ref w), ("at", .int a)]
noncomputable def ExtB (k : Nat) (H H' : MH) : Prop := ∀ (i : Nat) (o : MO), i ≠ k → H[i]? = some o → H'[i]? = some o
theorem ExtB.trans {k : Nat} {A B C : MH} (h : ExtB k A B) (g : ExtB k B C) : ExtB k A C := fun i o hi e => g i o hi (h i o hi e)
theorem ExtB.set {k : Nat} {H : MH} {o : MO} : ExtB k H (H.set k o) := fun i x hi e => by rw [List.getElem?_set_ne (fun q => hi q.symm)]; exact e
theorem ExtB.of {k : Nat} {H H' : MH} (h : Ext H H') : ExtB k H H' := fun i o _ e => h i o e
structure RdK (G : Gx) (C : Addr) : Prop where
  bs : Bs G
  a1 : GAtt G C "words"
  a2 : GAtt G C "at"
  s1 : GSto G C "words"
  s2 : GSto G C "at"
  pk : ∃ f, GMth G C "peek" f ∧ GDef G f ["self"] k_Reader_peek_nm k_Reader_peek []
  tk : ∃ f, GMth G C "take" f ∧ GDef G f ["self"] k_Reader_take_nm k_Reader_take []
  nd : ∃ f, GMth G C "need" f ∧ GDef G f ["self", "word"] k_Reader_need_nm k_Reader_need []
section
variable {G : Gx} {prog : Program} {w : World} {f C : Addr} {i kk q : Nat} {a : Nat} {ws : List Str} {H : MH} {xp : Addr → List MV → MH → Prop}
theorem strL_at {ns : List Str} {n : Nat} (h : n < ns.length) : (strL ns)[n]? = some (.str (ns.getD n "")) := by
  rw [List.getElem?_map, List.getElem?_eq_getElem h, List.getD_eq_getElem?_getD, List.getElem?_eq_getElem h]
  rfl
theorem peek_cl (K : RdK G C) (D : GDef G f ["self"] k_Reader_peek_nm k_Reader_peek []) (hR : Ins H i C kk (rdF q (a : Nat))) (hq : H[q]? = some (.list (strL ws))) (hl : ws.length ≤ 1000) :
    CL G prog w 1 f [.ref i] H (fun v H' => v = .str (ws.getD a "") ∧ H' = H) xp := by
  have bs := K.bs
  have a1 := K.a1
  have a2 := K.a2
  refine D.cl rfl ?_
  intro c e1 e2 ok hfm hint hnm hX
  show TB c [some (.ref i)] _ _ _
  unfold k_Reader_peek
  walk_at "w"
  refine BC.len hq (by rw [List.length_map]; omega) ?_
  rw [List.length_map]
  refine ⟨_, rfl, fun h => ?_, fun h => ?_⟩
  · have h : a < ws.length := by simpa using h
    walk_at "w"
    refine ⟨_, Sq.list hq ⟨by rw [List.length_map]; omega, .inl ⟨by omega, strL_at (by omega)⟩⟩, ?_⟩
    refine ⟨?_, rfl⟩
    have : (a : Int).toNat = a := by omega
    rw [this]
    rfl
  · have h : ws.length ≤ a := by simpa using h
    walk_at "w"
    refine ⟨?_, rfl⟩
    show MV.str "" = _
    rw [List.getD_eq_getElem?_getD, List.getElem?_eq_none h]
    rfl
theorem take_cl (K : RdK G C) (D : GDef G f ["self"] k_Reader_take_nm k_Reader_take []) (hR : Ins H i C kk (rdF q (a : Nat))) (hq : H[q]? = some (.list (strL ws))) (hl : ws.length ≤ 1000) :
    CL G prog w 2 f [.ref i] H (fun v H' => v = .str (ws.getD a "") ∧ H' = H.set kk (.ns (rdF q ((a + 1 : Nat) : Int)))) xp := by
  have a1 := K.a1
  have a2 := K.a2
  have s2 := K.s2
  obtain ⟨fP, gP, dP⟩ := K.pk
  refine D.cl rfl ?_
  intro c e1 e2 ok hfm hint hnm hX
  subst e1 e2
  show TB c [some (.ref i), none] _ _ _
  unfold k_Reader_take
  walk_at "w"
  refine (peek_cl K dP hR hq hl).use (Nat.le_refl _) ?_
  rintro _ H1 ⟨rfl, rfl⟩
  walk_at "w"
  exact ⟨rfl, rfl⟩
theorem need_cl11 {x : Str} (K : RdK G C) (D : GDef G f ["self", "word"] k_Reader_need_nm k_Reader_need []) (hR : Ins H i C kk (rdF q (a : Nat))) (hq : H[q]? = some (.list (strL ws))) (hl : ws.length ≤ 1000) (hx : ws.getD a "" = x) :
    CL G prog w 3 f [.ref i, .str x] H (fun v H' => H' = H.set kk (.ns (rdF q ((a + 1 : Nat) : Int)))) xp := by
  obtain ⟨fT, gT, dT⟩ := K.tk
  refine D.cl rfl ?_
  intro c e1 e2 ok hfm hint hnm hX
  subst e1 e2
  show TB c [some (.ref i), some (.str x)] _ _ _
  unfold k_Reader_need
  walk_at "w"
  refine (take_cl K dT hR hq hl).use (Nat.le_refl _) ?_
  rintro _ H1 ⟨rfl, e⟩
  walk_at "w"
  refine ⟨false, by show false = !decide _; rw [decide_eq_true hx]; rfl, fun h => (by cases h), fun _ => ?_⟩
  walk_at "w"
  exact e
end
theorem tok_len {m : Nat} {x : Str} : (tok m x).length = 2 * m + 1 := by simp [tok]; omega
theorem tok_lo {m i : Nat} {x : Str} (h : i < m) : (tok m x).getD i "" = ⟨#[40]⟩ := by
  unfold tok
  rw [List.getD_eq_getElem?_getD, List.getElem?_append_left (by simpa using h), List.getElem?_replicate, if_pos h]
  rfl
theorem tok_mid {m : Nat} {x : Str} : (tok m x).getD m "" = x := by
  unfold tok
  rw [List.getD_eq_getElem?_getD, List.getElem?_append_right (by simp)]
  simp
theorem tok_hi {m i : Nat} {x : Str} (h : m < i) (h2 : i ≤ 2 * m) : (tok m x).getD i "" = ⟨#[41]⟩ := by
  unfold tok
  rw [List.getD_eq_getElem?_getD, List.getElem?_append_right (by simp; omega), List.length_replicate, List.getElem?_append_right (by simp; omega), List.getElem?_replicate, if_pos (by simp; omega)]
  rfl
theorem tok_end {m i : Nat} {x : Str} (h : 2 * m < i) : (tok m x).getD i "" = "" := by
  rw [List.getD_eq_getElem?_getD, List.getElem?_eq_none (by rw [tok_len]; omega)]
  rfl
theorem tok_after {m i : Nat} {x : Str} (h : m < i) : (tok m x).getD i "" ≠ "and" ∧ (tok m x).getD i "" ≠ "or" := by
  by_cases h2 : i ≤ 2 * m
  · rw [tok_hi h h2]; decide +kernel
  · rw [tok_end (by omega)]; decide +kernel
structure PrsK (G : Gx) (C CE : Addr) : Prop extends RdK G C where
  N : NameK G
  na : ∃ f, GFn G "name" f ∧ GDef G f ["text"] k_name_nm k_name []
  ei : ∃ f, GFn G "_either" f ∧ GDef G f ["source", "deep"] k_u_either_nm k_u_either []
  bo : ∃ f, GFn G "_both" f ∧ GDef G f ["source", "deep"] k_u_both_nm k_u_both []
  on : ∃ f, GFn G "_one" f ∧ GDef G f ["source", "deep"] k_u_one_nm k_u_one []
  ne : ∃ t, nsIn G.K mainGlobals "NESTED" = some (some (.int 100 t))
  ex : GExc G "ShareError" CE bmV
structure Rd (H : MH) (i : Nat) (C : Addr) (kk q : Nat) (a : Nat) (ws : List Str) : Prop where
  ins : Ins H i C kk (rdF q (a : Int))
  lst : H[q]? = some (.list (strL ws))
theorem Rd.ne {H : MH} {i kk q a : Nat} {C : Addr} {ws : List Str} (h : Rd H i C kk q a ws) : i ≠ kk ∧ q ≠ kk := by
  refine ⟨?_, ?_⟩
  · rintro rfl
    have := h.ins.1.symm.trans h.ins.2
    cases this
  · rintro rfl
    have := h.lst.symm.trans h.ins.2
    cases this
theorem ins_set11 {H : MH} {i kk : Nat} {C : Addr} {fs gs : List (Str × MV)} (h : Ins H i C kk fs) : Ins (H.set kk (.ns gs)) i C kk gs := by
  have hne : kk ≠ i := by
    rintro rfl
    have := h.1.symm.trans h.2
    cases this
  refine ⟨?_, ?_⟩
  · rw [List.getElem?_set_ne hne]; exact h.1
  · rw [List.getElem?_set_self']; rw [h.2]; rfl
theorem Rd.step {H : MH} {i kk q a b : Nat} {C : Addr} {ws : List Str} (h : Rd H i C kk q a ws) : Rd (H.set kk (.ns (rdF q (b : Int)))) i C kk q b ws :=
  ⟨ins_set11 h.ins, by rw [List.getElem?_set_ne (fun e => h.ne.2 e.symm)]; exact h.lst⟩
theorem Rd.ext {H H' : MH} {i kk q a : Nat} {C : Addr} {ws : List Str} (h : Rd H i C kk q a ws) (e : Ext H H') : Rd H' i C kk q a ws := ⟨e.ins h.ins, e _ _ h.lst⟩
section
variable {G : Gx} {prog : Program} {w : World} {C CE : Addr} {i kk q m : Nat} {x : Str} {xp : Addr → List MV → MH → Prop}
noncomputable def Reads11 (G : Gx) (prog : Program) (w : World) (xp : Addr → List MV → MH → Prop) (C : Addr) (i kk q m : Nat) (x : Str) (dd : Nat) (f : Addr) (d : Nat) : Prop :=
  ∀ H, Rd H i C kk q d (tok m x) → CL G prog w dd f [.ref i, .int (d : Int)] H (fun v H' => ∃ z, v = .ref z ∧ NameAt H' z x ∧ z ≠ kk ∧ ExtB kk H H' ∧ Rd H' i C kk q (2 * m + 1 - d) (tok m x)) xp
theorem both_of {fO fB : Addr} {d dd : Nat} (K : PrsK G C CE) (m2 : m ≤ 150) (gO : GFn G "_one" fO) (dB : GDef G fB ["source", "deep"] k_u_both_nm k_u_both []) (hd : d ≤ m) (hdd : 2 ≤ dd) (h : Reads11 G prog w xp C i kk q m x dd fO d) : Reads11 G prog w xp C i kk q m x (dd + 1) fB d := by
  intro H R
  obtain ⟨fP, gP, dP⟩ := K.pk
  have bs := K.bs
  refine dB.cl rfl ?_
  intro c e1 e2 ok hfm hint hnm hX
  subst e1 e2
  show TB c [some (.ref i), some (.int (d : Int)), none] _ _ _
  unfold k_u_both
  walk_at "w"
  refine (h H R).use2 (Nat.le_refl _) ?_ (fun C' as H' q => by rw [hX]; exact q)
  rintro _ H1 ⟨z, rfl, hz, hzk, E1, R1⟩
  walk_at "w"
  refine ⟨by simp, ?_⟩
  have E2 : Ext H1 (H1 ++ [MO.list [.ref z]]) := (Ext.refl H1).app _
  have R2 := R1.ext E2
  have i2 := R2.ins
  walk_at "w"
  refine TS.while ok hfm (fun n m1 H2 => m1 = [some (.ref i), some (.int (d : Int)), some (.ref H1.length)] ∧ H2 = H1 ++ [MO.list [.ref z]]) 0 ⟨rfl, rfl⟩ ?_
  rintro n m1 H2 ⟨rfl, rfl⟩
  walk_at "w"
  refine (peek_cl K.toRdK dP i2 R2.lst (by rw [tok_len]; omega)).use (by omega) ?_
  rintro _ H3 ⟨rfl, e3⟩
  walk_at "w"
  refine ⟨false, (decide_eq_false (tok_after (x := x) (show m < 2 * m + 1 - d by omega)).1).symm, fun h => (by cases h), fun _ => ?_⟩
  subst e3
  have kl : (H1 ++ [MO.list [.ref z]])[H1.length]? = some (.list [.ref z]) := get_end
  walk_at "w"
  refine BC.len kl (by simp) ?_
  walk_at "w"
  refine ⟨true, rfl, fun _ => ?_, fun h => (by cases h)⟩
  walk_at "w"
  refine ⟨.ref z, Sq.list kl ⟨by simp, .inl ⟨by decide, rfl⟩⟩, ?_⟩
  exact ⟨z, rfl, E2 _ _ hz, hzk, E1.trans (ExtB.of E2), R2⟩
theorem either_of {fB fE : Addr} {d dd : Nat} (K : PrsK G C CE) (m2 : m ≤ 100) (gB : GFn G "_both" fB) (dE : GDef G fE ["source", "deep"] k_u_either_nm k_u_either []) (hd : d ≤ m) (hdd : 2 ≤ dd) (h : Reads11 G prog w xp C i kk q m x dd fB d) : Reads11 G prog w xp C i kk q m x (dd + 1) fE d := by
  intro H R
  obtain ⟨fP, gP, dP⟩ := K.pk
  obtain ⟨t1, gN⟩ := K.ne
  have bs := K.bs
  refine dE.cl rfl ?_
  intro c e1 e2 ok hfm hint hnm hX
  subst e1 e2
  show TB c [some (.ref i), some (.int (d : Int)), none] _ _ _
  unfold k_u_either
  walk_at "w"
  refine TE.glob ok gN (v := .int 100) ⟨t1, rfl⟩ ?_
  refine ⟨false, by show false = decide _; simp; omega, fun h => (by cases h), fun _ => ?_⟩
  walk_at "w"
  refine (h H R).use2 (Nat.le_refl _) ?_ (fun C' as H' q => by rw [hX]; exact q)
  rintro _ H1 ⟨z, rfl, hz, hzk, E1, R1⟩
  walk_at "w"
  refine ⟨by simp, ?_⟩
  have E2 : Ext H1 (H1 ++ [MO.list [.ref z]]) := (Ext.refl H1).app _
  have R2 := R1.ext E2
  have i2 := R2.ins
  walk_at "w"
  refine TS.while ok hfm (fun n m1 H2 => m1 = [some (.ref i), some (.int (d : Int)), some (.ref H1.length)] ∧ H2 = H1 ++ [MO.list [.ref z]]) 0 ⟨rfl, rfl⟩ ?_
  rintro n m1 H2 ⟨rfl, rfl⟩
  walk_at "w"
  refine (peek_cl K.toRdK dP i2 R2.lst (by rw [tok_len]; omega)).use (by omega) ?_
  rintro _ H3 ⟨rfl, e3⟩
  walk_at "w"
  refine ⟨false, (decide_eq_false (tok_after (x := x) (show m < 2 * m + 1 - d by omega)).2).symm, fun h => (by cases h), fun _ => ?_⟩
  subst e3
  have kl : (H1 ++ [MO.list [.ref z]])[H1.length]? = some (.list [.ref z]) := get_end
  walk_at "w"
  refine BC.len kl (by simp) ?_
  walk_at "w"
  refine ⟨true, rfl, fun _ => ?_, fun h => (by cases h)⟩
  walk_at "w"
  refine ⟨.ref z, Sq.list kl ⟨by simp, .inl ⟨by decide, rfl⟩⟩, ?_⟩
  exact ⟨z, rfl, E2 _ _ hz, hzk, E1.trans (ExtB.of E2), R2⟩
theorem one_deep {fE fO : Addr} {d dd : Nat} (K : PrsK G C CE) (m2 : m ≤ 150) (gE : GFn G "_either" fE) (dO : GDef G fO ["source", "deep"] k_u_one_nm k_u_one []) (hd : d < m) (hdd : 3 ≤ dd) (h : Reads11 G prog w xp C i kk q m x dd fE (d + 1)) : Reads11 G prog w xp C i kk q m x (dd + 1) fO d := by
  intro H R
  obtain ⟨fT, gT, dT⟩ := K.tk
  obtain ⟨fN, gN, dN⟩ := K.nd
  refine dO.cl rfl ?_
  intro c e1 e2 ok hfm hint hnm hX
  subst e1 e2
  show TB c [some (.ref i), some (.int (d : Int)), none, none, none, none] _ _ _
  unfold k_u_one
  have i1 := R.ins
  walk_at "w"
  refine (take_cl K.toRdK dT i1 R.lst (by rw [tok_len]; omega)).use (by omega) ?_
  rintro _ H1 ⟨rfl, rfl⟩
  have R1 := R.step (b := d + 1)
  rw [tok_lo hd]
  walk_at "w"
  refine ⟨true, by show true = decide _; decide +kernel, fun _ => ?_, fun h => (by cases h)⟩
  walk_at "w"
  have e1 : (d : Int) + 1 = ((d + 1 : Nat) : Int) := by omega
  rw [e1]
  refine (h _ R1).use2 (Nat.le_refl _) ?_ (fun C' as H' q => by rw [hX]; exact q)
  rintro _ H2 ⟨z, rfl, hz, hzk, E2, R2⟩
  have i2 := R2.ins
  walk_at "w"
  refine (need_cl11 K.toRdK dN i2 R2.lst (by rw [tok_len]; omega) ((tok_hi (by omega) (by omega)).trans (by decide +kernel))).use (by omega) ?_
  rintro _ H3 rfl
  walk_at "w"
  refine ⟨z, rfl, ?_, hzk, (ExtB.set.trans E2).trans ExtB.set, ?_⟩
  · exact (ExtB.set (k := kk)) z _ hzk hz
  · have e2 : 2 * m + 1 - (d + 1) + 1 = 2 * m + 1 - d := by omega
    rw [e2]
    exact R2.step
theorem one_end {fO : Addr} (K : PrsK G C CE) (m2 : m ≤ 150) (hx : okN x = true) (hw : ([("and" : Str), "or", "of"].any (· == x)) = false) (dO : GDef G fO ["source", "deep"] k_u_one_nm k_u_one []) : Reads11 G prog w xp C i kk q m x 4 fO m := by
  intro H R
  obtain ⟨fT, gT, dT⟩ := K.tk
  obtain ⟨fA, gA, dA⟩ := K.na
  obtain ⟨t2, gD⟩ := K.N.di
  have hx' := hx
  unfold okN at hx'
  obtain ⟨h1, h2, h3, h4⟩ := and4 hx'
  have h1 : x.length ≤ 12 := of_decide_eq_true h1
  cases hc : x.cps[0]? with
  | none => rw [hc] at h3; cases h3
  | some ch =>
    rw [hc] at h3
    have h3 : ch ∈ LETS.cps.toList := of_decide_eq_true h3
    have hpos : 0 < x.cps.size := (Array.getElem?_eq_some_iff.mp hc).1
    have hne : x ≠ "" := by
      rintro rfl
      exact absurd hpos (by decide +kernel)
    have hnp : x ≠ "(" := by
      rintro rfl
      have e0 : ("(" : Str).cps[0]? = some 40 := by decide +kernel
      rw [e0] at hc
      cases hc
      exact absurd h3 (by decide +kernel)
    have hnd : ¬ ch ∈ DIGS.cps.toList := (show ∀ ch ∈ LETS.cps.toList, ¬ ch ∈ DIGS.cps.toList by decide +kernel) ch h3
    refine dO.cl rfl ?_
    intro c e1 e2 ok hfm hint hnm hX
    subst e1 e2
    show TB c [some (.ref i), some (.int (m : Int)), none, none, none, none] _ _ _
    unfold k_u_one
    have i1 := R.ins
    walk_at "w"
    refine (take_cl K.toRdK dT i1 R.lst (by rw [tok_len]; omega)).use (by omega) ?_
    rintro _ H1 ⟨rfl, rfl⟩
    have R1 := R.step (b := m + 1)
    rw [tok_mid]
    walk_at "w"
    refine ⟨false, by show false = decide _; simp [hnp], fun h => (by cases h), fun _ => ?_⟩
    walk_at "w"
    refine ⟨true, by show true = !decide _; simp [hne], fun h => (by cases h), fun _ => ?_⟩
    walk_at "w"
    refine ⟨_, Sq.str (by decide) (by omega) hc, ?_⟩
    refine TE.glob ok gD (v := .str DIGS) ⟨t2, rfl⟩ ?_
    refine ⟨_, Cq.inS, fun _ => ?_, fun h => absurd (of_decide_eq_true h) hnd⟩
    refine ⟨fun h => (by cases h), fun _ => ?_⟩
    walk_at "w"
    refine (name_cl dA K.N hx hw).use (by omega) ?_
    rintro _ H2 ⟨z, rfl, E2, hz, hN⟩
    have e2 : 2 * m + 1 - m = m + 1 := by omega
    have hlt : kk < H.length := (List.getElem?_eq_some_iff.mp R.ins.2).1
    rw [List.length_set] at hz
    exact ⟨z, rfl, hN, by omega, ExtB.set.trans (ExtB.of E2), by rw [e2]; exact R1.ext E2⟩
theorem either_all (K : PrsK G C CE) (m2 : m ≤ 100) (hx : okN x = true) (hw : ([("and" : Str), "or", "of"].any (· == x)) = false) {fE : Addr} (gE : GFn G "_either" fE) (dE : GDef G fE ["source", "deep"] k_u_either_nm k_u_either []) :
    ∀ n, n ≤ m → Reads11 G prog w xp C i kk q m x (3 * n + 6) fE (m - n) := by
  obtain ⟨fB, gB, dB⟩ := K.bo
  obtain ⟨fO, gO, dO⟩ := K.on
  intro n
  induction n with
  | zero => intro _; exact either_of K m2 gB dE (by omega) (by omega) (both_of K (by omega) gO dB (by omega) (by omega) (one_end K (by omega) hx hw dO))
  | succ n ih =>
    intro hn
    have h1 := ih (by omega)
    have e : m - n = m - (n + 1) + 1 := by omega
    rw [e] at h1
    have e2 : 3 * (n + 1) + 6 = 3 * n + 6 + 1 + 1 + 1 := by omega
    rw [e2]
    exact either_of K m2 gB dE (by omega) (by omega) (both_of K (by omega) gO dB (by omega) (by omega) (one_deep K (by omega) gE dO (by omega) (by omega) h1))
end
abbrev cf (l : List Int) (k : Nat) : Int := l.getD k 0
theorem cf_out {l : List Int} {k : Nat} (h : l.length ≤ k) : cf l k = 0 := by
  unfold cf
  rw [List.getD_eq_getElem?_getD, List.getElem?_eq_none h]; rfl
noncomputable def cell (ns : List Int) (k : Nat) : Int := ns.getD k 0
noncomputable def k_law_cell_nm : List Str := ["script", "k"]
noncomputable def k_law_cell : CSs := (.cons (.ite (.cmp .Lt (.loc 1) (.call "len" (.cons (.loc 0) .nil))) (.cons (.ret (.sub (.loc 0) (.loc 1)))
  .nil) .nil)
  (.cons (.ret (.int 0))
  .nil))
theorem law_cell_cl {G : Gx} {prog : Program} {w : World} {f sa : Addr} {ns : List Int} {k : Int} {H : MH} {xp : Addr → List MV → MH → Prop} (D : GDef G f ["script", "k"] k_law_cell_nm k_law_cell [])
    (bs : Bs G) (S : ScrG G sa ns) (hk : 0 ≤ k) : CL G prog w 1 f [.glob sa, .int k] H (fun v H' => v = .int (cell ns k.toNat) ∧ H' = H) xp := by
  refine D.cl rfl ?_
  intro c e1 e2 ok hfm hint hnm hX
  have Sc := S.scr ok
  show TB c [some (.glob sa), some (.int k)] _ _ _
  unfold k_law_cell
  walk_at "w"
  refine ⟨_, rfl, fun h => ?_, fun h => ?_⟩
  · have h : k < ns.length := by simpa using h
    walk_at "w"
    refine ⟨_, Sc.at hk h, ?_⟩
    exact ⟨rfl, rfl⟩
  · have h : ¬ k < ns.length := by simpa using h
    walk_at "w"
    refine ⟨?_, rfl⟩
    show MV.int 0 = MV.int (cell ns k.toNat)
    congr 1
    exact (cf_out (by omega)).symm
structure LawK (G : Gx) (sa : Addr) (ns : List Int) : Prop where
  bs : Bs G
  scr : ScrG G sa ns
  cell : ∃ f, GFn G "_law_cell" f ∧ GDef G f ["script", "k"] k_law_cell_nm k_law_cell []
inductive CellI : MV → Int → Prop where
  | mk {k : Int} (h : 0 ≤ k) : CellI (.int k) k
theorem TE.cell {c : Cx} {m : ML} {H : MH} {G : Gx} {d : Nat} {sa : Addr} {ns : List Int} (ok : Ok G c d) (hd : 1 ≤ d) (L : LawK G sa ns) {i : Nat} {e : CE} {post : MV → MH → Prop} (hm : m[i]? = some (some (.glob sa)))
    (h : TE c m e H (fun v H1 => ∃ k, CellI v k ∧ post (.int (cell ns k.toNat)) H1)) : TE c m (.call "_law_cell" (.cons (.loc i) (.cons e .nil))) H post := by
  obtain ⟨f, g, D⟩ := L.cell
  refine TE.call ok g (TEs.cons (TE.loc ok hm (TEs.cons (h.mono ?_))))
  rintro _ H1 ⟨k, ⟨hk⟩, hp⟩
  refine TEs.nil ?_
  refine (law_cell_cl D L.bs L.scr hk).use hd ?_
  rintro _ _ ⟨rfl, rfl⟩
  exact hp
local macro_rules | `(tactic| walk_at "s") => `(tactic| with_reducible first
  | refine TE.cell (by assumption) (by decide) (by assumption) (by with_unfolding_all rfl) ?_
  | refine ⟨_, CellI.mk (by omega), ?_⟩
  | fail)
noncomputable def k11_law_nm : List Str := ["script", "many", "word", "why", "rule"]
noncomputable def k11_law : CSs := (.cons (.assign 1 (.bin .Add (.int 95) (.bin .Mod (.call "_law_cell" (.cons (.loc 0) (.cons (.int 0) .nil))) (.int 10))))
  (.cons (.assign 2 (.sub (.list (.cons (.str "a") (.cons (.str "b") (.cons (.str "cd") .nil)))) (.bin .Mod (.call "_law_cell" (.cons (.loc 0) (.cons (.int 1) .nil))) (.int 3))))
  (.cons (.assign 3 (.str ""))
  (.cons (.assign 4 CE.none)
  (.cons (.try (.cons (.assign 4 (.call "read" (.cons (.bin .Add (.bin .Add (.bin .Mult (.str "(") (.loc 1)) (.loc 2)) (.bin .Mult (.str ")") (.loc 1))) .nil)))
  .nil) (.cons "ShareError" none (.cons (.assign 3 (.str "refused"))
  .nil) .nil))
  (.cons (.ite (.cmp .NotEq (.tst (.cmp .Eq (.loc 3) (.str "refused"))) (.tst (.cmp .Gt (.loc 1) (.int 100)))) (.cons (.ret (.bool false))
  .nil) .nil)
  (.cons (.ret (.tst (.cmp .Eq (.loc 4) (.sub (.list (.cons (.call "name" (.cons (.loc 2) .nil)) (.cons CE.none .nil))) (.tst (.cmp .Gt (.loc 1) (.int 100)))))))
  .nil)))))))
section
variable {G : Gx} {prog : Program} {w : World} {C CE : Addr} {i kk q m : Nat} {x : Str}
noncomputable def Fails11 (G : Gx) (prog : Program) (w : World) (C CE : Addr) (i kk q m : Nat) (x : Str) (dd : Nat) (f : Addr) (d : Nat) : Prop :=
  ∀ H, Rd H i C kk q d (tok m x) → CL G prog w dd f [.ref i, .int (d : Int)] H (fun _ _ => False) (fun C' _ _ => C' = CE)
theorem either_x0 {fE : Addr} {d dd : Nat} (K : PrsK G C CE) (dE : GDef G fE ["source", "deep"] k_u_either_nm k_u_either []) (hd : 100 < d) : Fails11 G prog w C CE i kk q m x (dd + 1) fE d := by
  intro H R
  obtain ⟨t1, gN⟩ := K.ne
  refine dE.cl rfl ?_
  intro c e1 e2 ok hfm hint hnm hX
  subst e1 e2
  show TB c [some (.ref i), some (.int (d : Int)), none] _ _ _
  unfold k_u_either
  walk_at "w"
  refine TE.glob ok gN (v := .int 100) ⟨t1, rfl⟩ ?_
  refine ⟨true, by show true = decide _; simp; omega, fun _ => ?_, fun h => (by cases h)⟩
  refine TB.cons (TS.raise ok K.ex ?_)
  walk_at "w"
  rw [hX]
  exact ⟨by simp, rfl⟩
theorem either_x1 {fB fE : Addr} {d dd : Nat} (K : PrsK G C CE) (gB : GFn G "_both" fB) (dE : GDef G fE ["source", "deep"] k_u_either_nm k_u_either []) (hd : d ≤ 100) (h : Fails11 G prog w C CE i kk q m x dd fB d) : Fails11 G prog w C CE i kk q m x (dd + 1) fE d := by
  intro H R
  obtain ⟨t1, gN⟩ := K.ne
  refine dE.cl rfl ?_
  intro c e1 e2 ok hfm hint hnm hX
  subst e1 e2
  show TB c [some (.ref i), some (.int (d : Int)), none] _ _ _
  unfold k_u_either
  walk_at "w"
  refine TE.glob ok gN (v := .int 100) ⟨t1, rfl⟩ ?_
  refine ⟨false, by show false = decide _; simp; omega, fun h => (by cases h), fun _ => ?_⟩
  walk_at "w"
  exact (h H R).use2 (Nat.le_refl _) (fun _ _ h => h.elim) (fun C' as H' q => by rw [hX]; exact q)
theorem both_x {fO fB : Addr} {d dd : Nat} (gO : GFn G "_one" fO) (dB : GDef G fB ["source", "deep"] k_u_both_nm k_u_both []) (h : Fails11 G prog w C CE i kk q m x dd fO d) : Fails11 G prog w C CE i kk q m x (dd + 1) fB d := by
  intro H R
  refine dB.cl rfl ?_
  intro c e1 e2 ok hfm hint hnm hX
  subst e1 e2
  show TB c [some (.ref i), some (.int (d : Int)), none] _ _ _
  unfold k_u_both
  walk_at "w"
  exact (h H R).use2 (Nat.le_refl _) (fun _ _ h => h.elim) (fun C' as H' q => by rw [hX]; exact q)
theorem one_x {fE fO : Addr} {d dd : Nat} (K : PrsK G C CE) (m2 : m ≤ 150) (gE : GFn G "_either" fE) (dO : GDef G fO ["source", "deep"] k_u_one_nm k_u_one []) (hd : d < m) (hdd : 2 ≤ dd) (h : Fails11 G prog w C CE i kk q m x dd fE (d + 1)) : Fails11 G prog w C CE i kk q m x (dd + 1) fO d := by
  intro H R
  obtain ⟨fT, gT, dT⟩ := K.tk
  refine dO.cl rfl ?_
  intro c e1 e2 ok hfm hint hnm hX
  subst e1 e2
  show TB c [some (.ref i), some (.int (d : Int)), none, none, none, none] _ _ _
  unfold k_u_one
  have i1 := R.ins
  walk_at "w"
  refine (take_cl K.toRdK dT i1 R.lst (by rw [tok_len]; omega)).use (by omega) ?_
  rintro _ H1 ⟨rfl, rfl⟩
  have R1 := R.step (b := d + 1)
  rw [tok_lo hd]
  walk_at "w"
  refine ⟨true, by show true = decide _; decide +kernel, fun _ => ?_, fun h => (by cases h)⟩
  walk_at "w"
  have e1 : (d : Int) + 1 = ((d + 1 : Nat) : Int) := by omega
  rw [e1]
  exact (h _ R1).use2 (Nat.le_refl _) (fun _ _ h => h.elim) (fun C' as H' q => by rw [hX]; exact q)
theorem either_xall (K : PrsK G C CE) (m1 : 101 ≤ m) (m2 : m ≤ 150) {fE : Addr} (gE : GFn G "_either" fE) (dE : GDef G fE ["source", "deep"] k_u_either_nm k_u_either []) :
    ∀ n, n ≤ 101 → Fails11 G prog w C CE i kk q m x (3 * n + 6) fE (101 - n) := by
  obtain ⟨fB, gB, dB⟩ := K.bo
  obtain ⟨fO, gO, dO⟩ := K.on
  intro n
  induction n with
  | zero => intro _; exact either_x0 K dE (by omega)
  | succ n ih =>
    intro hn
    have h1 := ih (by omega)
    have e : 101 - n = 101 - (n + 1) + 1 := by omega
    rw [e] at h1
    have e2 : 3 * (n + 1) + 6 = 3 * n + 6 + 1 + 1 + 1 := by omega
    rw [e2]
    exact either_x1 K gB dE (by omega) (both_x gO dB (one_x K m2 gE dO (by omega) (by omega) h1))
noncomputable abbrev rdF1 (w : Nat) : List (Str × MV) := [("words", .ref w)]
structure ReadK (G : Gx) (C CE : Addr) : Prop extends PrsK G C CE where
  cl : ∃ f, GCls G "Reader" C f ∧ GDef G f ["self", "text"] k_Reader_init_nm k_Reader_init []
  wo : ∃ f, GFn G "_words" f ∧ GDef G f ["text"] k_u_words_nm k_u_words []
  lo : ∃ t, nsIn G.K mainGlobals "LONGEST" = some (some (.int 400 t))
theorem reader_cl {f : Addr} {t : Str} {H : MH} {xp : Addr → List MV → MH → Prop} (K : ReadK G C CE) (D : GDef G f ["self", "text"] k_Reader_init_nm k_Reader_init []) (hI : Ins H i C kk []) (hx : okN x = true) (ht : t.cps.toList = brk m x) (m1 : 1 ≤ m) (m2 : m ≤ 150) :
    CL G prog w 2 f [.ref i, .str t] H (fun v H' => v = .none ∧ H' = (H ++ [MO.list (strL (tok m x))] : MH).set kk (.ns (rdF H.length 0))) xp := by
  have bs := K.bs
  have s1 := K.s1
  have s2 := K.s2
  obtain ⟨fW, gW, dW⟩ := K.wo
  obtain ⟨t1, gL⟩ := K.lo
  have hxl : x.length ≤ 12 := by
    unfold okN at hx
    exact of_decide_eq_true (and4 hx).1
  have htl : t.length = m + x.cps.toList.length + m := by
    show t.cps.size = _
    rw [← Array.length_toList, ht, brk_len]
  have hxl2 : x.length = x.cps.toList.length := rfl
  refine D.cl rfl ?_
  intro c e1 e2 ok hfm hint hnm hX
  subst e1 e2
  show TB c [some (.ref i), some (.str t)] _ _ _
  unfold k_Reader_init
  refine TB.cons (TS.ite (TT.or (TTs.or (TT.tyAny (N := "str") (T' := "str") ok bs.type (.inr ⟨rfl, rfl⟩) bs.str bb_str (by decide) ?_))))
  walk_at "w"
  refine ⟨"str", rfl, fun h => (by cases h), fun _ => ?_⟩
  walk_at "w"
  refine BC.lenS (by omega) ?_
  refine TE.glob ok gL (v := .int 400) ⟨t1, rfl⟩ ?_
  refine ⟨false, by show false = decide _; simp; omega, fun h => (by cases h), fun _ => ?_⟩
  walk_at "w"
  refine ⟨fun h => (by cases h), fun _ => ?_⟩
  walk_at "w"
  refine (words_cl dW K.N hx ht m1 m2).use (Nat.le_refl _) ?_
  rintro _ H1 ⟨rfl, e1⟩
  have E1 : Ext H H1 := by rw [e1]; exact (Ext.refl H).app _
  have i1 := E1.ins hI
  walk_at "w"
  have i2 : Ins (H1.set kk (.ns (rdF1 H.length))) i C kk (rdF1 H.length) := ins_set11 i1
  have p1 : putF "words" (.ref H.length) [] = rdF1 H.length := rfl
  rw [p1]
  walk_at "w"
  refine ⟨rfl, ?_⟩
  rw [List.set_set, e1]
  rfl
theorem read_ok {f : Addr} {t : Str} {H : MH} {xp : Addr → List MV → MH → Prop} (K : ReadK G C CE) (D : GDef G f ["text"] k_read_nm k_read []) (hx : okN x = true) (hw : ([("and" : Str), "or", "of"].any (· == x)) = false) (ht : t.cps.toList = brk m x) (m1 : 1 ≤ m) (m2 : m ≤ 100) :
    CL G prog w 400 f [.str t] H (fun v H' => ∃ z, v = .ref z ∧ NameAt H' z x ∧ Ext H H') xp := by
  obtain ⟨fI, gI, dI⟩ := K.cl
  obtain ⟨fE, gE, dE⟩ := K.ei
  obtain ⟨fP, gP, dP⟩ := K.pk
  refine D.cl rfl ?_
  intro c e1 e2 ok hfm hint hnm hX
  subst e1 e2
  show TB c [some (.str t), none, none] _ _ _
  unfold k_read
  refine TB.cons (TS.assign ok hfm rfl (TE.new (d := 2) (ok.le (by decide)) gI ?_))
  walk_at "w"
  refine (reader_cl (kk := H.length) K dI ⟨by simp, by simp⟩ hx ht m1 (by omega)).use (Nat.le_refl _) ?_
  rintro _ H1 ⟨rfl, e1⟩
  refine ⟨rfl, ?_⟩
  have hl2 : (H ++ [MO.ns []] ++ [MO.inst C H.length]).length = H.length + 2 := by simp
  rw [hl2] at e1
  have R1 : Rd H1 (H.length + 1) C H.length (H.length + 2) 0 (tok m x) := by
    rw [e1]
    refine ⟨ins_set11 (fs := []) ⟨?_, ?_⟩, ?_⟩
    · simp
    · simp
    · rw [List.getElem?_set_ne (by omega), ← hl2]
      exact get_end
  have E1 : Ext H H1 := by
    rw [e1]
    exact (((Ext.refl H).app _).app _ |>.app _).set (Nat.le_refl _)
  walk_at "w"
  have h0 := either_all (prog := c.prog) (w := c.w) (xp := xp) (i := H.length + 1) (kk := H.length) (q := H.length + 2) K.toPrsK m2 hx hw gE dE m (Nat.le_refl _)
  rw [Nat.sub_self] at h0
  refine (h0 H1 R1).use2 (by omega) ?_ (fun C' as H' q => by rw [hX]; exact q)
  rintro _ H2 ⟨z, rfl, hz, hzk, E2, R2⟩
  have i2 := R2.ins
  walk_at "w"
  refine (peek_cl K.toRdK dP i2 R2.lst (by rw [tok_len]; omega)).use (by decide) ?_
  rintro _ H3 ⟨rfl, e3⟩
  rw [tok_end (by omega)]
  walk_at "w"
  refine ⟨false, rfl, fun h => (by cases h), fun _ => ?_⟩
  subst e3
  walk_at "w"
  refine ⟨z, rfl, hz, fun j o e => ?_⟩
  have hj := (List.getElem?_eq_some_iff.mp e).1
  exact E2 j o (by omega) (E1 j o e)
theorem read_x {f : Addr} {t : Str} {H : MH} (K : ReadK G C CE) (D : GDef G f ["text"] k_read_nm k_read []) (hx : okN x = true) (ht : t.cps.toList = brk m x) (m1 : 101 ≤ m) (m2 : m ≤ 150) :
    CL G prog w 400 f [.str t] H (fun _ _ => False) (fun C' _ _ => C' = CE) := by
  obtain ⟨fI, gI, dI⟩ := K.cl
  obtain ⟨fE, gE, dE⟩ := K.ei
  refine D.cl rfl ?_
  intro c e1 e2 ok hfm hint hnm hX
  subst e1 e2
  show TB c [some (.str t), none, none] _ _ _
  unfold k_read
  refine TB.cons (TS.assign ok hfm rfl (TE.new (d := 2) (ok.le (by decide)) gI ?_))
  walk_at "w"
  refine (reader_cl (kk := H.length) K dI ⟨by simp, by simp⟩ hx ht (by omega) m2).use (Nat.le_refl _) ?_
  rintro _ H1 ⟨rfl, e1⟩
  refine ⟨rfl, ?_⟩
  have hl2 : (H ++ [MO.ns []] ++ [MO.inst C H.length]).length = H.length + 2 := by simp
  rw [hl2] at e1
  have R1 : Rd H1 (H.length + 1) C H.length (H.length + 2) 0 (tok m x) := by
    rw [e1]
    refine ⟨ins_set11 (fs := []) ⟨?_, ?_⟩, ?_⟩
    · simp
    · simp
    · rw [List.getElem?_set_ne (by omega), ← hl2]
      exact get_end
  walk_at "w"
  have h0 := either_xall (prog := c.prog) (w := c.w) (x := x) (i := H.length + 1) (kk := H.length) (q := H.length + 2) K.toPrsK m1 m2 gE dE 101 (Nat.le_refl _)
  exact (h0 H1 R1).use2 (by omega) (fun _ _ h => h.elim) (fun C' as H' q => by rw [hX]; exact q)
end
theorem takesE {G : Gx} {g : Str} {C : Addr} (h : GExc G g C bmV) : Takes G g C := ⟨g, bmV, h, .inr ⟨rfl, by decide +kernel⟩⟩
structure K11 (G : Gx) (C CE : Addr) : Prop extends ReadK G C CE where
  re : ∃ f, GFn G "read" f ∧ GDef G f ["text"] k_read_nm k_read []
theorem mulOk1 {ch : Nat} {n : Int} (h0 : 0 ≤ n) (h1 : n ≤ 1000) : MulOk ⟨#[ch]⟩ n := by
  refine ⟨?_, fun _ _ => ?_, fun _ _ => ?_⟩
  · have h1 : ¬ n < -(2 ^ 63 : Int) := by omega
    have h2 : ¬ n ≥ 2 ^ 63 := by omega
    rw [decide_eq_false h1, decide_eq_false h2]
    rfl
  · show ¬ ((1 : Nat) : Int) > (2 ^ 63 - 1) / n
    intro q
    have : (2 ^ 63 - 1 : Int) / n ≥ (2 ^ 63 - 1 : Int) / 1000 := by
      rcases Int.lt_or_eq_of_le h0 with h | h
      · have h5 : (2 ^ 63 - 1 : Int) / 1000 * n ≤ 2 ^ 63 - 1 := by
          have := Int.mul_le_mul_of_nonneg_left h1 (show (0 : Int) ≤ (2 ^ 63 - 1 : Int) / 1000 by decide)
          have e : (2 ^ 63 - 1 : Int) / 1000 * 1000 ≤ 2 ^ 63 - 1 := by decide
          omega
        exact (Int.le_ediv_iff_mul_le h).mpr h5
      · omega
    have e2 : (2 ^ 63 - 1 : Int) / 1000 > 1 := by decide
    omega
  · show Builtin.Str.tooLong (1 * n.toNat) = false
    unfold Builtin.Str.tooLong
    have e : sizeLine = 16777216 := rfl
    simp
    omega
theorem law11 {G : Gx} {c : Cx} {sa C CE : Addr} {ns : List Int} (ok : Ok G c 600) (hfm : c.fm = none) (hint : interactive c.env = false) (L : LawK G sa ns) (K : K11 G C CE) :
    TB c (start k11_law_nm [.glob sa]) k11_law [] (fun fl _ _ => retv fl = .bool true) := by
  have bs := L.bs
  obtain ⟨fR, gR, dR⟩ := K.re
  obtain ⟨fA, gA, dA⟩ := K.na
  show TB c [some (.glob sa), none, none, none, none] _ _ _
  unfold k11_law
  walk_at "w"
  obtain ⟨m, hm, m1, m2⟩ : ∃ m : Nat, 95 + cell ns (0 : Int).toNat % 10 = (m : Int) ∧ 95 ≤ m ∧ m ≤ 104 := ⟨(95 + cell ns (0 : Int).toNat % 10).toNat, by omega, by omega, by omega⟩
  rw [hm]
  refine ⟨by decide, ?_⟩
  walk_at "w"
  obtain ⟨x, hx, hw, hsh, hat⟩ : ∃ x : Str, okN x = true ∧ ([("and" : Str), "or", "of"].any (· == x)) = false ∧ PySem.SeqAt.shaped (.tuple [.str "name", .str x]) = true ∧ At [.str "a", .str "b", .str "cd"] (cell ns (1 : Int).toNat % 3) (.str x) := by
    have : cell ns (1 : Int).toNat % 3 = 0 ∨ cell ns (1 : Int).toNat % 3 = 1 ∨ cell ns (1 : Int).toNat % 3 = 2 := by omega
    rcases this with e | e | e <;> rw [e]
    · exact ⟨"a", by decide +kernel, by decide +kernel, by decide +kernel, by decide, .inl ⟨by decide, rfl⟩⟩
    · exact ⟨"b", by decide +kernel, by decide +kernel, by decide +kernel, by decide, .inl ⟨by decide, rfl⟩⟩
    · exact ⟨"cd", by decide +kernel, by decide +kernel, by decide +kernel, by decide, .inl ⟨by decide, rfl⟩⟩
  refine ⟨_, Sq.list get_end hat, ?_⟩
  walk_at "w"
  refine TS.tryA ok hfm ?_
  generalize hX : (fun (C_1 : Addr) (as : List MV) (m1 : ML) (H1_1 : MH) => _) = X
  have okX := ok.wX X
  have hfX : (c.wX X).fm = none := hfm
  show TB (c.wX X) [some (.glob sa), some (.int (m : Int)), some (.str x), some (.str ""), some .none] _ _ _
  have e40 : ("(" : Str) = ⟨#[40]⟩ := by decide +kernel
  have e41 : (")" : Str) = ⟨#[41]⟩ := by decide +kernel
  have hxl : x.length ≤ 12 := by
    unfold okN at hx
    exact of_decide_eq_true (and4 hx).1
  have l40 : (Txt.mul ⟨#[40]⟩ (m : Int)).length = m := by
    show (Txt.mul ⟨#[40]⟩ (m : Int)).cps.size = m
    rw [← Array.length_toList, mul_one_list]
    simp
  have l41 : (Txt.mul ⟨#[41]⟩ (m : Int)).length = m := by
    show (Txt.mul ⟨#[41]⟩ (m : Int)).cps.size = m
    rw [← Array.length_toList, mul_one_list]
    simp
  have ht : (Txt.mul ⟨#[40]⟩ (m : Int) ++ x ++ Txt.mul ⟨#[41]⟩ (m : Int)).cps.toList = brk m x := by
    show ((Txt.mul ⟨#[40]⟩ (m : Int)).cps ++ x.cps ++ (Txt.mul ⟨#[41]⟩ (m : Int)).cps).toList = _
    rw [Array.toList_append, Array.toList_append, mul_one_list, mul_one_list]
    unfold brk
    simp
  have hla : (Txt.mul ⟨#[40]⟩ (m : Int) ++ x).length = m + x.length := by
    have : (Txt.mul ⟨#[40]⟩ (m : Int) ++ x).length = (Txt.mul ⟨#[40]⟩ (m : Int)).length + x.length := Str.length_append ..
    omega
  refine TB.cons (TS.assign okX hfX rfl ?_)
  walk_at "w"
  rw [e40]
  refine ⟨_, BinI.smul (mulOk1 (by omega) (by omega)), ?_⟩
  walk_at "w"
  refine ⟨_, BinI.cat (by omega), ?_⟩
  walk_at "w"
  rw [e41]
  refine ⟨_, BinI.smul (mulOk1 (by omega) (by omega)), ?_⟩
  refine ⟨_, BinI.cat (by omega), ?_⟩
  walk_at "w"
  have tl : ∀ (b : Bool) (why : Str) (rl : MV) (H1 : MH), (b = decide (100 < m)) → why = (if b then "refused" else "") → (b = false → ∃ z, rl = .ref z ∧ NameAt H1 z x) → (b = true → rl = .none) →
      TB c [some (.glob sa), some (.int (m : Int)), some (.str x), some (.str why), some rl] (.cons (.ite (.cmp .NotEq (.tst (.cmp .Eq (.loc 3) (.str "refused"))) (.tst (.cmp .Gt (.loc 1) (.int 100)))) (.cons (.ret (.bool false)) .nil) .nil)
        (.cons (.ret (.tst (.cmp .Eq (.loc 4) (.sub (.list (.cons (.call "name" (.cons (.loc 2) .nil)) (.cons Mine.CE.none .nil))) (.tst (.cmp .Gt (.loc 1) (.int 100))))))) .nil)) H1 (fun fl _ _ => retv fl = .bool true) := by
    intro b why rl H1 hb hwhy hr1 hr2
    have hgt : decide ((100 : Int) < (m : Int)) = b := by rw [hb]; exact decide_eq_decide.mpr (by omega)
    walk_at "w"
    refine TV.cmp ?_
    walk_at "w"
    refine ⟨b, by show b = decide _; subst hwhy; cases b <;> decide +kernel, ?_⟩
    refine TE.tst (TV.cmp ?_)
    walk_at "w"
    refine ⟨b, by show b = decide _; exact hgt.symm, ?_⟩
    refine ⟨false, by show false = !(b == b); simp, fun h => (by cases h), fun _ => ?_⟩
    refine TB.nil (TB.cons (TS.ret (TE.tst (TV.cq ?_))))
    walk_at "w"
    refine (name_cl dA K.N hx hw).use (d' := 600) (by decide) ?_
    rintro _ H2 ⟨z2, rfl, E2, _, hn2⟩
    walk_at "w"
    refine ⟨Nat.le_of_ble_eq_true rfl, ?_⟩
    refine TE.tst (TV.cmp ?_)
    walk_at "w"
    refine ⟨b, by show b = decide _; exact hgt.symm, ?_⟩
    have rdN : ∀ {Hx : MH} {z : Nat}, NameAt Hx z x → RD Hx (.ref z) (.tuple [.str "name", .str x]) := by
      intro Hx z h
      refine RD.tup h rfl ?_
      intro k v d e1 e2
      cases k with
      | zero => cases e1; cases e2; exact .str
      | succ k =>
        cases k with
        | zero => cases e1; cases e2; exact .str
        | succ k => simp at e1
    cases b with
    | false =>
      obtain ⟨z, rfl, hz⟩ := hr1 rfl
      refine ⟨.ref z2, Sq.listB get_end rfl, ?_⟩
      refine ⟨_, Cq.eqD ok (rdN (get_app (E2 _ _ hz))) (rdN (get_app hn2)) hsh hsh, ?_⟩
      simp [PyData.eqv, PyData.eqvAll, retv]
    | true =>
      rw [hr2 rfl]
      refine ⟨.none, Sq.listB get_end rfl, ?_⟩
      exact ⟨_, Cq.eqD ok .none .none rfl rfl, rfl⟩
  by_cases hbig : 100 < m
  · refine (read_x K.toReadK dR hx ht (by omega) (by omega)).use2 (d' := 600) (by decide) (fun _ _ h => h.elim) ?_
    rintro C' as H' rfl
    subst hX
    refine ⟨takesE K.ex, ?_⟩
    exact tl true "refused" .none H' (by simp [hbig]) rfl (fun h => by cases h) fun _ => rfl
  · refine (read_ok K.toReadK dR hx hw ht (by omega) (by omega)).use (d' := 600) (by decide) ?_
    rintro _ H1 ⟨z, rfl, hz, E1⟩
    refine TB.nil ?_
    exact tl false "" (.ref z) H1 (by simp [hbig]) rfl (fun _ => ⟨z, rfl, hz⟩) fun h => by cases h
noncomputable def scrEx (a : Addr) (ns : List Int) : Heap → Prop := fun h => ∃ vs : List Value, h.IsList a vs.toArray ∧ IntsAre vs ns ∧ ns.length ≤ 63
section
variable {G : Gx} {P : Params} (h : G.K = _root_.Mine.hd.heap_39 P)
include h
theorem z_bs : Bs G := by
  constructor <;> (rw [h]; kernel_rfl)
theorem z_f_need_name : ∃ f, GFn G "need_name" f ∧ GDef G f ["text"] k_need_name_nm k_need_name [] := by
  refine ⟨41, GFn.of ?_, GDef.of ?_ ?_⟩
  all_goals (rw [h]; kernel_rfl)
theorem z_f_name : ∃ f, GFn G "name" f ∧ GDef G f ["text"] k_name_nm k_name [] := by
  refine ⟨48, GFn.of ?_, GDef.of ?_ ?_⟩
  all_goals (rw [h]; kernel_rfl)
theorem z_f_words : ∃ f, GFn G "_words" f ∧ GDef G f ["text"] k_u_words_nm k_u_words [] := by
  refine ⟨130, GFn.of ?_, GDef.of ?_ ?_⟩
  all_goals (rw [h]; kernel_rfl)
theorem z_f_read : ∃ f, GFn G "read" f ∧ GDef G f ["text"] k_read_nm k_read [] := by
  refine ⟨137, GFn.of ?_, GDef.of ?_ ?_⟩
  all_goals (rw [h]; kernel_rfl)
theorem z_f_either : ∃ f, GFn G "_either" f ∧ GDef G f ["source", "deep"] k_u_either_nm k_u_either [] := by
  refine ⟨144, GFn.of ?_, GDef.of ?_ ?_⟩
  all_goals (rw [h]; kernel_rfl)
theorem z_f_both : ∃ f, GFn G "_both" f ∧ GDef G f ["source", "deep"] k_u_both_nm k_u_both [] := by
  refine ⟨151, GFn.of ?_, GDef.of ?_ ?_⟩
  all_goals (rw [h]; kernel_rfl)
theorem z_f_one : ∃ f, GFn G "_one" f ∧ GDef G f ["source", "deep"] k_u_one_nm k_u_one [] := by
  refine ⟨158, GFn.of ?_, GDef.of ?_ ?_⟩
  all_goals (rw [h]; kernel_rfl)
theorem z_f_law_cell : ∃ f, GFn G "_law_cell" f ∧ GDef G f ["script", "k"] k_law_cell_nm k_law_cell [] := by
  refine ⟨165, GFn.of ?_, GDef.of ?_ ?_⟩
  all_goals (rw [h]; kernel_rfl)
theorem z_m_Reader_peek : ∃ f, GMth G 119 "peek" f ∧ GDef G f ["self"] k_Reader_peek_nm k_Reader_peek [] := by
  refine ⟨102, GMth.of ?_, GDef.of ?_ ?_⟩
  all_goals (rw [h]; kernel_rfl)
theorem z_m_Reader_take : ∃ f, GMth G 119 "take" f ∧ GDef G f ["self"] k_Reader_take_nm k_Reader_take [] := by
  refine ⟨109, GMth.of ?_, GDef.of ?_ ?_⟩
  all_goals (rw [h]; kernel_rfl)
theorem z_m_Reader_need : ∃ f, GMth G 119 "need" f ∧ GDef G f ["self", "word"] k_Reader_need_nm k_Reader_need [] := by
  refine ⟨116, GMth.of ?_, GDef.of ?_ ?_⟩
  all_goals (rw [h]; kernel_rfl)
theorem z_c_Reader : ∃ f, GCls G "Reader" 119 f ∧ GDef G f ["self", "text"] k_Reader_init_nm k_Reader_init [] := by
  refine ⟨95, GCls.of ?_, GDef.of ?_ ?_⟩
  all_goals (rw [h]; kernel_rfl)
theorem z_a_Reader_words : GAtt G 119 "words" := GAtt.of (by rw [h]; kernel_rfl)
theorem z_s_Reader_words : GSto G 119 "words" := GSto.of (by rw [h]; kernel_rfl)
theorem z_a_Reader_at : GAtt G 119 "at" := GAtt.of (by rw [h]; kernel_rfl)
theorem z_s_Reader_at : GSto G 119 "at" := GSto.of (by rw [h]; kernel_rfl)
theorem z_e_ShareError : GExc G "ShareError" 24 bmV := GExc.of (by rw [h]; kernel_rfl)
theorem z_i_NESTED : ∃ t, nsIn G.K mainGlobals "NESTED" = some (some (.int 100 t)) := isSomeInt_eq (by rw [h]; kernel_rfl)
theorem z_i_LONGEST : ∃ t, nsIn G.K mainGlobals "LONGEST" = some (some (.int 400 t)) := isSomeInt_eq (by rw [h]; kernel_rfl)
theorem z_t_LETTERS : ∃ t, nsIn G.K mainGlobals "LETTERS" = some (some (.str LETS t)) := isSomeStr_eq (by rw [h]; kernel_rfl)
theorem z_t_DIGITS : ∃ t, nsIn G.K mainGlobals "DIGITS" = some (some (.str DIGS t)) := isSomeStr_eq (by rw [h]; kernel_rfl)
theorem z_law {sa : Addr} {ns : List Int} (e : G.ex = scrEx sa ns) : LawK G sa ns := ⟨z_bs h, fun h x => by rw [e] at x; exact x, z_f_law_cell h⟩
theorem z_name : NameK G := ⟨z_bs h, z_t_LETTERS h, z_t_DIGITS h, z_f_need_name h⟩
theorem z_rd : RdK G 119 := ⟨z_bs h, z_a_Reader_words h, z_a_Reader_at h, z_s_Reader_words h, z_s_Reader_at h, z_m_Reader_peek h, z_m_Reader_take h, z_m_Reader_need h⟩
theorem z_K : K11 G 119 24 := ⟨⟨⟨z_rd h, z_name h, z_f_name h, z_f_either h, z_f_both h, z_f_one h, z_i_NESTED h, z_e_ShareError h⟩, z_c_Reader h, z_f_words h, z_i_LONGEST h⟩, z_f_read h⟩
end
end Mine
theorem PySem.Challenge.cw_ui0506_11_holds : PySem.Challenge.rw_ui0506_11.Holds := by
  refine _root_.Mine.hd ?_
  intro w s₀ s₁ mg mb G Y fa o pm cd doc dV kV ho hd hcd hD hmg hg args vals as hpre hlay hrd hwl hlo
  have KX := kIn_of Y
  refine Ground.open G ?_
  intro T B D TE TW
  wrow_args hpre hlay hrd hwl hlo
  refine enter_call ?_
  have e0 := hD.none rfl
  subst e0
  refine Mine.law_entry 600 (by decide) (G := ⟨_root_.Mine.hd.heap_39 w.params, _, _, _, mg, mb, Mine.scrEx _ _⟩) (x := "script") (nm := Mine.k11_law_nm) (k := Mine.k11_law) KX ⟨_, by assumption, by assumption, by omega⟩ T ho hd hcd rfl rfl rfl rfl ?_ ?_ ?_ ?_ ?_ ?_
  · exact BindsTo.of_eq (Mine.bind_plain rfl rfl (show List.Nodup [("script" : Str)] by simp) rfl)
  · kernel_rfl
  · kernel_rfl
  · kernel_rfl
  · intro c e1 e2 e3 ok hfm hint hnm hX
    exact Mine.law11 ok hfm hint (Mine.z_law rfl rfl) (Mine.z_K rfl)
  · intro L m h' tk F
    exact GoodW.toG (goodW_bool F hg (fun cls => rfl) (postW_of rfl rfl (by simp [W.same])))
