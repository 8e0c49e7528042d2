import PyProof.Rows.All
import Wide.All
import OpenK.AllK
import Wide.FinOn
import KE.BitLaws
import KE.KEqSeq
import PyProof.ExcBaseAll.ValueError
import Lean
import PySem.Challenge.RW_ui0506_13
open PySem PySem.W PyProof.Rows PySem.Calls PySem.Spec
set_option Elab.async false
set_option linter.unusedVariables false
set_option maxRecDepth 100000
set_option maxHeartbeats 8000000
set_option genSizeOf false
set_option genInjectivity false
namespace Mine
noncomputable def runQ (p : Program) (w : World) (n₀ : Nat) (ann : Option Value) : Nat → SharedT → Thread → Option SharedT
  | 0, _, _ => none
  | n + 1, s, t => match through t with
    | true => some s
    | false => match Fast.tw6613529449190102663 n₀ ann t with
      | false => none
      | true => match Fast.tw10156331382660048174 (Fast.tw11892475500146522536 Fast.tw14364793385576792824) p w s t with
        | some (s', t') => runQ p w n₀ ann n s' t'
        | none => none
theorem q_den : denote treeTable = Fast.tw11892475500146522536 Fast.tw14364793385576792824 := by
  rw [← Fast.te11892475500146522536, ← Fast.te14364793385576792824]
theorem runQ_of {p : Program} {w : World} {n₀ : Nat} {ann : Option Value} : ∀ {n : Nat} {s s' : SharedT} {t : Thread}, runQ p w n₀ ann n s t = some s' → topRun treeTable p w n₀ ann n s.abs t = some s'.abs
  | 0, _, _, _, h => by cases h
  | n + 1, s, s', t, h => by
    unfold runQ at h
    unfold topRun
    rw [← q_den, ← Fast.te6613529449190102663, ← Fast.te10156331382660048174] at h
    cases ht : through t with
    | true => rw [ht] at h; cases h; rfl
    | false =>
      rw [ht] at h
      cases hk : stepOk n₀ ann t with
      | false => rw [hk] at h; cases h
      | true =>
        rw [hk] at h
        cases hs : stepT (denote treeTable) p w s t with
        | none => rw [hs] at h; cases h
        | some r => obtain ⟨s₂, t₂⟩ := r; rw [hs] at h; rw [stepT_spec hs]; exact runQ_of h
noncomputable def build : List Obj → Nat → BT → Option BT
  | [], _, t => some t
  | o :: r, n, t => match ((t.ins n o).get n).isSome with
    | true => build r (n + 1) (t.ins n o)
    | false => none
theorem build_abs {life : Life} : ∀ {l pre : List Obj} {n : Nat} {t t' : BT}, build l n t = some t' → absHeap t n life = ⟨pre.toArray, life⟩ → absHeap t' (n + l.length) life = ⟨(pre ++ l).toArray, life⟩
  | [], pre, n, t, t', h, e => by cases h; simpa using e
  | o :: r, pre, n, t, t', h, e => by
    unfold build at h
    cases hk : ((t.ins n o).get n).isSome with
    | false => rw [hk] at h; cases h
    | true =>
      rw [hk] at h
      have h1 := absHeap_ins (life := life) hk
      rw [e] at h1
      have h2 := build_abs (pre := pre ++ [o]) h (h1.trans (by simp [Heap.push]))
      have e1 : n + 1 + r.length = n + (o :: r).length := by simp; omega
      rw [e1] at h2
      rw [h2]
      simp
theorem build_heap {h : Heap} {t : BT} (e : build h.objs.toList 0 .nil = some t) : absHeap t h.objs.size h.life = h := by
  have := build_abs (life := h.life) (pre := []) e (by simp [absHeap, BT.list])
  simpa using this
theorem left_quick {p q : Program} {loose : List Str} {Xt : Shared → Bool} {α : Type} {Yf : Shared → α} {Ya : World → α} {N : Nat} {g0 : Bool}
    (h : ∀ w : World, ((Fast.tw10274390034422433532 Fast.tw14364793385576792824 (opening p) w N (Fast.tw1435165496053646825 (opening p)).1 (Fast.tw1435165496053646825 (opening p)).2).bind (Fast.tw14289696077712309145 p)).bind (fun s₀ =>
      match s₀.heap.isNs mainGlobals && s₀.gens.size == 0 with
      | true => (build s₀.heap.objs.toList 0 .nil).bind fun T => (runQ p w s₀.heap.objs.size (Fast.tw8920871248978507458 s₀.heap mainGlobals "__annotations__") N ⟨T, s₀.heap.objs.size, s₀.heap.life, s₀.gens, s₀.drawn, s₀.toks, s₀.os⟩ (topStub p)).bind fun S₁ =>
        match staticsOk (Fast.tw5923862056798008813 p.main.body) s₀.heap S₁.abs.heap && namesBound p S₁.abs.heap && gensDone S₁.abs && laidKept s₀.heap S₁.abs.heap with
        | true => some (Fast.tw4187177175401517315 q loose (Fast.tw5923862056798008813 p.main.body) Xt g0 S₁.abs, Yf S₁.abs)
        | false => none
      | false => none) = some (openGood q loose, Ya w)) : LeftO p q loose Xt Yf Ya N g0 := by
  intro w
  have h := h w
  rw [← Fast.te10274390034422433532, ← Fast.te14364793385576792824, ← Fast.te1435165496053646825, ← Fast.te14289696077712309145, ← Fast.te8920871248978507458, ← Fast.te5923862056798008813, ← Fast.te4187177175401517315] at h
  obtain ⟨s₀, h0, h⟩ := Option.bind_eq_some_iff.mp h
  unfold openEnds fencedOpening
  rw [h0]
  show Option.map _ (topFrom treeTable p w N s₀) = _
  unfold topFrom
  cases hg : s₀.heap.isNs mainGlobals && s₀.gens.size == 0 with
  | false => rw [hg] at h; cases h
  | true =>
    rw [hg] at h
    obtain ⟨T, hT, h⟩ := Option.bind_eq_some_iff.mp h
    obtain ⟨S₁, hS, h⟩ := Option.bind_eq_some_iff.mp h
    have e := runQ_of hS
    have ea : (SharedT.mk T s₀.heap.objs.size s₀.heap.life s₀.gens s₀.drawn s₀.toks s₀.os).abs = s₀ := by
      unfold SharedT.abs
      rw [build_heap hT]
    rw [ea] at e
    rw [e]
    show Option.map _ (match staticsOk (importedModules p.main.body) s₀.heap S₁.abs.heap && namesBound p S₁.abs.heap && gensDone S₁.abs && laidKept s₀.heap S₁.abs.heap with | true => some S₁.abs | false => none) = _
    cases hk : staticsOk (importedModules p.main.body) s₀.heap S₁.abs.heap && namesBound p S₁.abs.heap && gensDone S₁.abs && laidKept s₀.heap S₁.abs.heap with
    | false => rw [hk] at h; cases h
    | true => rw [hk] at h; exact h
noncomputable def qv : Program := view PySem.Challenge.pw_ui0506_13 [0, 2, 3, 4, 6, 7, 8, 9, 10, 11, 12, 13, 15, 16, 17, 18, 19, 20, 21, 22, 23, 25, 27, 28]
noncomputable def qlo : List PySem.Str := ["GREATEST"]
noncomputable def qlv : List (PySem.Str × WData) := [("GREATEST", .int 1048576)]
set_option hygiene false in
local macro_rules | `(tactic| o_head $H) => `(tactic| (
  refine PySem.W.holds_open (q := Mine.qv) (loose := Mine.qlo) (Xt := fun s => xlAt Mine.qv Mine.qlv s && recOk [] s) (XP := XL Mine.qv Mine.qlv) (Yf := Hook.obs $H) (Ya := Hook.val $H) (YP := Hook.says $H) (N := 3342) ?hl (Hook.of $H) (Hook.keeps $H) (fun s e => xl_of s (Bool.and_eq_true_iff.mp e).1) XL.keeps (by rfl) (by rfl) (by rfl) (fun s e => recFacts_of (Bool.and_eq_true_iff.mp e).2) (by rfl) (by first | assumption | decide +kernel) (by decide +kernel) ⟨rfl, rfl, rfl, rfl, rfl, by decide +kernel⟩ ?hw ?hc
  (case hl => (refine Mine.left_quick ?_; intro w; kernel_rfl))))
open_top hd for PySem.Challenge.rw_ui0506_13
inductive MV where
  | none
  | bool (b : Bool)
  | int (i : Int)
  | str (x : Str)
  | ref (a : Nat)
  | glob (a : Addr)
inductive MO where
  | list (xs : List MV)
  | tup (xs : List MV)
  | inst (c : Addr) (d : Nat)
  | ns (fs : List (Str × MV))
  | dI (es : List (Int × MV))
  | dS (es : List (Str × MV))
  | exc (c : Addr) (t : Nat)
  | setN (n : Nat)
  | junk
abbrev MH := List MO
abbrev ML := List (Option MV)
noncomputable def VR (ρ : List Addr) : MV → Value → Prop
  | .none, v => v = .none
  | .bool b, v => v = .bool b
  | .int i, v => ∃ t, v = .int i t
  | .str x, v => ∃ t, v = .str x t
  | .ref a, v => ∃ x, ρ[a]? = some x ∧ v = .ref x
  | .glob a, v => v = .ref a
noncomputable def VRs (ρ : List Addr) : List MV → List Value → Prop
  | [], vs => vs = []
  | m :: ms, vs => ∃ v r, vs = v :: r ∧ VR ρ m v ∧ VRs ρ ms r
noncomputable def NR (P : Params) (ρ : List Addr) : List (Str × MV) → List DictEntry → Prop
  | [], es => es = []
  | (x, m) :: fs, es => ∃ t v r, es = ⟨PyData.keyHash P x, .str x t, v⟩ :: r ∧ VR ρ m v ∧ NR P ρ fs r
noncomputable def PR {K : Type} (ρ : List Addr) : List (K × MV) → List (K × Value) → Prop
  | [], es => es = []
  | (k, m) :: fs, es => ∃ v r, es = (k, v) :: r ∧ VR ρ m v ∧ PR ρ fs r
noncomputable def OR (prog : Program) (w : World) (ρ : List Addr) : MO → Obj → Prop
  | .list xs, o => ∃ vs n, VRs ρ xs vs ∧ o = listOf vs.toArray n
  | .tup xs, o => ∃ vs n, VRs ρ xs vs ∧ o = { cls := .type "tuple", data := .seq vs.toArray n }
  | .inst c d, o => ∃ x, ρ[d]? = some x ∧ o = instObj c x
  | .ns fs, o => ∃ es n, NR w.params ρ fs es ∧ o = dictOf es n
  | .dI fs, o => ∃ kvs, PR ρ fs kvs ∧ o.IsDictOf (intKind prog w) kvs
  | .dS fs, o => ∃ kvs, PR ρ fs kvs ∧ o.IsDictOf (strKind prog w) kvs
  | .exc c d, o => ∃ x vs, ρ[d]? = some x ∧ o.cls = .ref c ∧ o.data = .fields vs ∧ vs[0]? = some (.ref x)
  | .setN n, o => ∃ S, o.SetObjOf (intKind prog w) S n
  | .junk, _ => True
theorem get_mono {ρ t : List Addr} {a : Nat} {x : Addr} (h : ρ[a]? = some x) : (ρ ++ t)[a]? = some x := by
  rw [List.getElem?_append_left (List.getElem?_eq_some_iff.mp h).1]; exact h
theorem VR.mono {ρ t : List Addr} {m : MV} {v : Value} (h : VR ρ m v) : VR (ρ ++ t) m v := by
  cases m <;> try exact h
  obtain ⟨x, hx, e⟩ := h
  exact ⟨x, get_mono hx, e⟩
theorem VRs.mono {ρ t : List Addr} : ∀ {ms : List MV} {vs : List Value}, VRs ρ ms vs → VRs (ρ ++ t) ms vs
  | [], _, h => h
  | _ :: _, _, ⟨v, r, e, h1, h2⟩ => ⟨v, r, e, h1.mono, h2.mono⟩
theorem NR.mono {P : Params} {ρ t : List Addr} : ∀ {fs : List (Str × MV)} {es : List DictEntry}, NR P ρ fs es → NR P (ρ ++ t) fs es
  | [], _, h => h
  | (_, _) :: _, _, ⟨k, v, r, e, h1, h2⟩ => ⟨k, v, r, e, h1.mono, h2.mono⟩
theorem PR.mono {K : Type} {ρ t : List Addr} : ∀ {fs : List (K × MV)} {es : List (K × Value)}, PR ρ fs es → PR (ρ ++ t) fs es
  | [], _, h => h
  | (_, _) :: _, _, ⟨v, r, e, h1, h2⟩ => ⟨v, r, e, h1.mono, h2.mono⟩
theorem OR.mono {prog : Program} {w : World} {ρ t : List Addr} {m : MO} {o : Obj} (h : OR prog w ρ m o) : OR prog w (ρ ++ t) m o := by
  cases m with
  | list xs => obtain ⟨vs, n, h, e⟩ := h; exact ⟨vs, n, h.mono, e⟩
  | tup xs => obtain ⟨vs, n, h, e⟩ := h; exact ⟨vs, n, h.mono, e⟩
  | inst c d => obtain ⟨x, hx, e⟩ := h; exact ⟨x, get_mono hx, e⟩
  | ns fs => obtain ⟨es, n, h, e⟩ := h; exact ⟨es, n, h.mono, e⟩
  | dI fs => obtain ⟨es, h, e⟩ := h; exact ⟨es, h.mono, e⟩
  | dS fs => obtain ⟨es, h, e⟩ := h; exact ⟨es, h.mono, e⟩
  | exc c d => obtain ⟨x, vs, h, e⟩ := h; exact ⟨x, vs, get_mono h, e⟩
  | setN n => exact h
  | junk => trivial
theorem VRs.length {ρ : List Addr} : ∀ {ms : List MV} {vs : List Value}, VRs ρ ms vs → vs.length = ms.length
  | [], _, h => by rw [h]; rfl
  | _ :: _, _, ⟨v, r, e, _, h2⟩ => by rw [e, List.length_cons, List.length_cons, h2.length]
theorem VRs.get {ρ : List Addr} : ∀ {ms : List MV} {vs : List Value} {i : Nat} {m : MV}, VRs ρ ms vs → ms[i]? = some m → ∃ v, vs[i]? = some v ∧ VR ρ m v
  | [], _, _, _, _, e => by simp at e
  | a :: ms, _, 0, m, ⟨v, r, e, h1, _⟩, hi => by
    subst e
    simp at hi
    subst hi
    exact ⟨v, rfl, h1⟩
  | a :: ms, _, i + 1, m, ⟨v, r, e, _, h2⟩, hi => by
    subst e
    simp at hi
    obtain ⟨u, hu, hr⟩ := h2.get hi
    exact ⟨u, by simpa using hu, hr⟩
theorem VRs.set {ρ : List Addr} {m : MV} {v : Value} (hv : VR ρ m v) : ∀ {ms : List MV} {vs : List Value} {i : Nat}, VRs ρ ms vs → VRs ρ (ms.set i m) (vs.set i v)
  | [], _, _, h => by rw [h]; rfl
  | _ :: _, _, 0, ⟨_, r, e, _, h2⟩ => by subst e; exact ⟨v, r, rfl, hv, h2⟩
  | _ :: _, _, i + 1, ⟨u, r, e, h1, h2⟩ => by subst e; exact ⟨u, r.set i v, rfl, h1, h2.set hv⟩
theorem VRs.append {ρ : List Addr} : ∀ {ms ms' : List MV} {vs vs' : List Value}, VRs ρ ms vs → VRs ρ ms' vs' → VRs ρ (ms ++ ms') (vs ++ vs')
  | [], _, _, _, h, h' => by rw [h]; exact h'
  | _ :: _, _, _, _, ⟨u, r, e, h1, h2⟩, h' => by subst e; exact ⟨u, r ++ _, rfl, h1, h2.append h'⟩
theorem VRs.concat {ρ : List Addr} {m : MV} : ∀ {ms : List MV} {vs : List Value}, VRs ρ (ms ++ [m]) vs → ∃ ws v, vs = ws ++ [v] ∧ VRs ρ ms ws ∧ VR ρ m v
  | [], _, ⟨v, r, e, h1, h2⟩ => by
    have hr : r = [] := h2
    subst hr
    exact ⟨[], v, e, rfl, h1⟩
  | a :: ms, _, ⟨u, r, e, h1, h2⟩ => by
    obtain ⟨ws, v, e2, h3, h4⟩ := VRs.concat (ms := ms) h2
    subst e2
    exact ⟨u :: ws, v, e, ⟨u, ws, rfl, h1, h3⟩, h4⟩
structure Cx where
  prog : Program
  w : World
  A : Around
  env : Env
  h₀ : Heap
  L : Addr
  /-- in a comprehension: what the frame's names hold, and the cells and names around it -/
  fm : Option ((Str → Option Value) × List (Addr × Obj))
  /-- the frames below: their names' objects, up to slots -/
  fr : List (Addr × Obj)
  /-- further objects that stay -/
  xt : List (Addr × Obj)
  /-- what must hold where an exception leaves -/
  X : Addr → List MV → ML → MH → Prop
  /-- the names, by their places; the scope that says their kinds -/
  nm : List Str
  sc : Scope
noncomputable def Led (h₀ : Heap) (L : Addr) (prog : Program) (w : World) (ml : Str → Option Value) (xs : List (Addr × Obj)) (ρ : List Addr) (H : MH) (h : Heap) : Prop :=
  Fr h₀ L h ml ∧ ∃ os : List Obj, os.length = H.length ∧ ρ.length = H.length ∧
    (∀ (i : Nat) (o : MO), H[i]? = some o → ∃ x, os[i]? = some x ∧ OR prog w ρ o x) ∧
    News h₀ L h (xs ++ ρ.zip os) ∧ (xs.map (·.1) ++ ρ).Nodup
noncomputable def Own (c : Cx) (mr ml : Str → Option Value) (ex : List (Addr × Obj)) : Prop :=
  match c.fm with
  | none => c.env.locals = c.L ∧ (∀ x, c.env.kindOf x = some .local → ml x = mr x) ∧
      ∀ x, c.env.kindOf x = some .cell ∨ c.env.kindOf x = some .free → ∃ a o, c.env.cells.lookup x = some a ∧ (a, o) ∈ ex ∧ o.data = .cell (mr x)
  | some (f, ox) => ml = f ∧ (∃ oC mC, ex = (c.env.locals, oC) :: ox ∧ LCg.NsObj oC mC ∧ ∀ x, c.env.kindOf x = some .local → mC x = mr x) ∧
      ∀ x, c.env.kindOf x = some .cell ∨ c.env.kindOf x = some .free → ∃ a o, c.env.cells.lookup x = some a ∧ (a, o) ∈ ox ∧ o.data = .cell (mr x)
noncomputable def St (c : Cx) (mr : Str → Option Value) (ρ : List Addr) (H : MH) (h : Heap) : Prop :=
  ∃ ml fr ex, Own c mr ml ex ∧ TI.SameUp c.fr fr ∧ Led c.h₀ c.L c.prog c.w ml (fr ++ (c.xt ++ ex)) ρ H h
theorem St.open {c : Cx} {mr : Str → Option Value} {ρ : List Addr} {H : MH} {h : Heap} (S : St c mr ρ H h) :
    ∃ ml xs, Led c.h₀ c.L c.prog c.w ml xs ρ H h ∧ ∀ ρ' H' h', Led c.h₀ c.L c.prog c.w ml xs ρ' H' h' → St c mr ρ' H' h' := by
  obtain ⟨ml, fr, ex, o, u, l⟩ := S
  exact ⟨ml, _, l, fun ρ' H' h' l' => ⟨ml, fr, ex, o, u, l'⟩⟩
theorem St.keep {c : Cx} {mr : Str → Option Value} {ρ : List Addr} {H : MH} {h : Heap} (S : St c mr ρ H h) : ∀ b o, c.h₀.get? b = some o → h.get? b = some o := by
  obtain ⟨ml, xs, l, _⟩ := S.open
  exact l.1.keep
noncomputable def slot : List Str → Str → Option Nat
  | [], _ => none
  | y :: r, x => match slot r x with
    | some i => some (i + 1)
    | none => if y == x then some 0 else none
theorem slot_get : ∀ {nm : List Str} {x : Str} {i : Nat}, slot nm x = some i → nm[i]? = some x
  | [], _, _, h => by cases h
  | y :: r, x, i, h => by
    unfold slot at h
    cases e : slot r x with
    | some j =>
      rw [e] at h
      cases h
      simpa using slot_get e
    | none =>
      rw [e] at h
      simp only at h
      split at h
      · rename_i q
        cases h
        simpa using q
      · cases h
noncomputable def LR (mr : Str → Option Value) (nm : List Str) (ρ : List Addr) (m : ML) : Prop :=
  m.length = nm.length ∧ ∀ i x v, slot nm x = some i → m[i]? = some (some v) → ∃ vr, VR ρ v vr ∧ mr x = some vr
theorem LR.mono {mr : Str → Option Value} {nm : List Str} {ρ t : List Addr} {m : ML} (h : LR mr nm ρ m) : LR mr nm (ρ ++ t) m :=
  ⟨h.1, fun i x v e1 e2 => let ⟨vr, h1, h2⟩ := h.2 i x v e1 e2; ⟨vr, h1.mono, h2⟩⟩
theorem LR.set {mr : Str → Option Value} {nm : List Str} {ρ : List Addr} {m : ML} (h : LR mr nm ρ m) {x : Str} {i : Nat} {v : MV} {vr : Value} (hs : slot nm x = some i) (hv : VR ρ v vr) :
    LR (fun y => if y = x then some vr else mr y) nm ρ (m.set i (some v)) := by
  refine ⟨by rw [List.length_set]; exact h.1, fun j y u e1 e2 => ?_⟩
  by_cases e : y = x
  · subst e
    rw [hs] at e1
    cases e1
    rw [List.getElem?_set_self'] at e2
    cases hm : m[i]? with
    | none => rw [hm] at e2; cases e2
    | some o =>
      rw [hm] at e2
      cases e2
      exact ⟨vr, hv, by simp⟩
  · have hij : i ≠ j := by
      rintro rfl
      have h1 := slot_get hs
      have h2 := slot_get e1
      rw [h1] at h2
      cases h2
      exact e rfl
    rw [List.getElem?_set_ne hij] at e2
    obtain ⟨w, h1, h2⟩ := h.2 j y u e1 e2
    exact ⟨w, h1, by simp [e, h2]⟩
noncomputable def Fly (c : Cx) (mr : Str → Option Value) (ρ : List Addr) (H : MH) (C : Addr) (as : List MV) (e : Addr) (h : Heap) : Prop :=
  ∃ (hB : Heap) (t : Addr) (vs : List Value), St c mr ρ H hB ∧ VRs ρ as vs ∧ hB.get? e = none ∧ hB.get? t = none ∧ h.TupAt t vs ∧ hB.UpToSlots h ∧
    (TI.gone hB (c.L :: c.fr.map (·.1))).StaysIn h ∧
    ((∃ oe ws, h.get? e = some oe ∧ oe.cls = .ref C ∧ oe.data = .fields ws ∧ ws[0]? = some (.ref t) ∧ ws[1]? = some .none) ∨
     ∃ fl, h.TracedAtW (TI.gone hB (c.L :: c.fr.map (·.1))) e (.ref C) (.ref t) fl ∧ (fl = .none ∨ fl = rawInt c.L))
noncomputable def Kx (c : Cx) (ρ : List Addr) (s : Shared) (E : Value → Shared → Prop) : Prop :=
  ∀ t C as e m' mr' H' h' tk, c.X C as m' H' → Fly c mr' (ρ ++ t) H' C as e h' → LR mr' c.nm (ρ ++ t) m' → E (.ref e) { s with heap := h', toks := tk }
theorem Kx.mono {c : Cx} {ρ t : List Addr} {s : Shared} {E : Value → Shared → Prop} {h : Heap} {tk : Nat} (k : Kx c ρ s E) : Kx c (ρ ++ t) { s with heap := h, toks := tk } E := by
  intro t' C as e m' mr' H' h' tk' hX hF hL
  rw [List.append_assoc] at hF hL
  exact k (t ++ t') C as e m' mr' H' h' tk' hX hF hL
noncomputable def EV (c : Cx) (m : ML) (e : PySem.Expr) (H : MH) (post : MV → MH → Prop) : Prop :=
  ∀ (mr : Str → Option Value) (ρ : List Addr) (s : Shared) (Q : Value → Shared → Prop) (E : Value → Shared → Prop), St c mr ρ H s.heap → LR mr c.nm ρ m →
    (∀ t v vr H' h' tk, post v H' → VR (ρ ++ t) v vr → St c mr (ρ ++ t) H' h' → Q vr { s with heap := h', toks := tk }) → Kx c ρ s E →
    wpAny (model c.prog c.w) c.A (eval e c.env) Q E s
theorem EV.mono {c : Cx} {m : ML} {e : PySem.Expr} {H : MH} {p q : MV → MH → Prop} (h : EV c m e H p) (hp : ∀ v H', p v H' → q v H') : EV c m e H q :=
  fun mr ρ s Q E S l k kx => h mr ρ s Q E S l (fun t v vr H' h' tk hv => k t v vr H' h' tk (hp _ _ hv)) kx
theorem nil_of {c : Cx} {mr : Str → Option Value} {ρ : List Addr} {H : MH} {h : Heap} (S : St c mr ρ H h) : St c mr (ρ ++ []) H h := by rw [List.append_nil]; exact S
theorem ns_of {oC : Obj} {mC : Str → Option Value} {h : Heap} {C : Addr} (hC : LCg.NsObj oC mC) (e : h.get? C = some oC) : h.Ns C mC := hC.ns e
noncomputable def kcl : Option NameKind → Nat
  | some .local => 1
  | some .cell => 2
  | some .free => 2
  | some .globalImplicit => 3
  | _ => 0
noncomputable def rdb (sc : Scope) (x : Str) : Bool := (x != ("__debug__" : Str)) && (x != ("__classdict__" : Str)) && (kcl (sc.names.lookup x) == 1 || kcl (sc.names.lookup x) == 2)
noncomputable def glb (sc : Scope) (x : Str) : Bool := (x != ("__debug__" : Str)) && kcl (sc.names.lookup x) == 3
theorem kcl1 {k : Option NameKind} (h : kcl k = 1) : k = some .local := by
  unfold kcl at h
  split at h <;> first | rfl | cases h
theorem kcl2 {k : Option NameKind} (h : kcl k = 2) : k = some .cell ∨ k = some .free := by
  unfold kcl at h
  split at h <;> first | (exact .inl rfl) | (exact .inr rfl) | cases h
theorem kcl3 {k : Option NameKind} (h : kcl k = 3) : k = some .globalImplicit := by
  unfold kcl at h
  split at h <;> first | rfl | cases h
structure Gx where
  K : Frag
  p : Program
  loose : List Str
  mean : ExcName → Option Value
  mg : Str → Option Value
  mb : Str → Option Value
  /-- what else stands in the heap -/
  ex : Heap → Prop
structure Ok (G : Gx) (c : Cx) (d : Nat) : Prop where
  frames : ∃ env₀ outer, c.A.frames = some (env₀ :: outer) ∧ env₀.frame = some c.L ∧ env₀.scope.kind = .function ∧ TI.Frs outer c.fr ∧ (c.fm = none → env₀ = c.env)
  kin : G.K.In c.h₀
  top : Top G.p G.loose G.mean G.mg G.mb c.h₀
  hh : c.A.handled = none
  dep : c.A.depth + d < recursionLimit
  uni : c.A.units + 8 * d + 64 < cLine
  fn : c.env.scope.kind = .function
  gl : c.env.globals = mainGlobals
  bi : c.env.builtins = builtinsNs
  ap : c.fm = none → c.env.cells.Pairwise fun x y => x.2 ≠ y.2
  kd : ∀ x, kcl (c.env.kindOf x) = kcl (c.sc.names.lookup x)
  fs : c.fm = none → c.env.scope = c.sc
  ex : G.ex c.h₀
theorem read {G : Gx} {c : Cx} {d : Nat} (ok : Ok G c d) {mr : Str → Option Value} {ρ : List Addr} {H : MH} {s : Shared} {x : Str} {pos : Pos} {v : Value} {Q E} (S : St c mr ρ H s.heap) (hx : rdb c.sc x = true) (hv : mr x = some v) (h : Q v s) :
    wpAny (model c.prog c.w) c.A (eval (.Name x pos) c.env) Q E s := by
  unfold rdb at hx
  simp only [Bool.and_eq_true, Bool.or_eq_true, beq_iff_eq, bne_iff_ne, ne_eq] at hx
  obtain ⟨⟨hd, hcd⟩, hx⟩ := hx
  rw [← ok.kd] at hx
  have hd' : (x == ("__debug__" : Str)) = false := by simpa using hd
  have hcd' : (x == ("__classdict__" : Str)) = false := by simpa using hcd
  have hk := ok.fn
  refine wpAny_Name ?_ hd'
  obtain ⟨ml, fr, ex, o, u, F, os, a1, a2, a3, N, a5⟩ := S
  unfold Own at o
  have cellRead : ∀ a o, c.env.cells.lookup x = some a → (a, o) ∈ fr ++ (c.xt ++ ex) → o.data = .cell (mr x) → (c.env.kindOf x = some .cell ∨ c.env.kindOf x = some .free) → wpAny (model c.prog c.w) c.A (loadName c.env x) Q E s := by
    intro a o e1 e2 e3 hk'
    rw [hv] at e3
    have hc : s.heap.IsCell a (some v) := ⟨o, (N _ (List.mem_append_left _ e2)).1, e3⟩
    rcases hk' with hk' | hk'
    · exact wpAny_loadName_cell hk hk' e1 hc h
    · exact wpAny_loadName_free hk hk' e1 hc h hcd'
  cases hf : c.fm with
  | none =>
    rw [hf] at o
    obtain ⟨oL, o1, o2⟩ := o
    rcases hx with hx | hx
    · exact wpAny_loadName_local hk (kcl1 hx) (by rw [oL]; exact F.ns) ((o1 x (kcl1 hx)).trans hv) h
    · obtain ⟨a, ob, e1, e2, e3⟩ := o2 x (kcl2 hx)
      exact cellRead a ob e1 (List.mem_append_right _ (List.mem_append_right _ e2)) e3 (kcl2 hx)
  | some f =>
    obtain ⟨f, ox⟩ := f
    rw [hf] at o
    obtain ⟨rfl, ⟨oC, mC, q1, q2, q3⟩, o2⟩ := o
    have hox : ∀ p ∈ ox, p ∈ fr ++ (c.xt ++ ex) := fun p hp => List.mem_append_right _ (List.mem_append_right _ (by rw [q1]; exact .tail _ hp))
    rcases hx with hx | hx
    · exact wpAny_loadName_local hk (kcl1 hx) (ns_of q2 (N _ (List.mem_append_left _ (List.mem_append_right _ (List.mem_append_right _ (by rw [q1]; exact .head _))))).1) ((q3 x (kcl1 hx)).trans hv) h
    · obtain ⟨a, ob, e1, e2, e3⟩ := o2 x (kcl2 hx)
      exact cellRead a ob e1 (hox _ e2) e3 (kcl2 hx)
theorem mem_zip_of {ρ : List Addr} {os : List Obj} {i : Nat} {a : Addr} {x : Obj} (h1 : ρ[i]? = some a) (h2 : os[i]? = some x) : (a, x) ∈ ρ.zip os := by
  have : (ρ.zip os)[i]? = some (a, x) := by
    rw [List.getElem?_zip_eq_some]
    exact ⟨h1, h2⟩
  exact List.mem_of_getElem? this
section
variable {h₀ h h' : Heap} {L : Addr} {prog : Program} {w : World} {ml : Str → Option Value} {xs : List (Addr × Obj)} {ρ : List Addr} {H : MH}
theorem Led.get (S : Led h₀ L prog w ml xs ρ H h) {i : Nat} {o : MO} (hi : H[i]? = some o) : ∃ a x, ρ[i]? = some a ∧ OR prog w ρ o x ∧ News h₀ L h [(a, x)] := by
  obtain ⟨F, os, a1, a2, a3, N, a5⟩ := S
  obtain ⟨x, hx, hr⟩ := a3 i o hi
  have hlt : i < ρ.length := by rw [a2]; exact (List.getElem?_eq_some_iff.mp hi).1
  refine ⟨ρ[i], x, List.getElem?_eq_getElem hlt, hr, fun p hp => ?_⟩
  rw [List.mem_singleton.mp hp]
  exact N _ (List.mem_append_right _ (mem_zip_of (List.getElem?_eq_getElem hlt) hx))
theorem zip_append_one {os : List Obj} {l : Addr} {x : Obj} (h : ρ.length = os.length) : (ρ ++ [l]).zip (os ++ [x]) = ρ.zip os ++ [(l, x)] := by
  rw [List.zip_append h]
  rfl
theorem led_addr {os : List Obj} (a1 : os.length = H.length) (a2 : ρ.length = H.length) {a : Addr} (ha : a ∈ xs.map (·.1) ++ ρ) : ∃ p ∈ xs ++ ρ.zip os, p.1 = a := by
  rcases List.mem_append.mp ha with ha | ha
  · obtain ⟨p, hp, rfl⟩ := List.mem_map.mp ha
    exact ⟨p, List.mem_append_left _ hp, rfl⟩
  · obtain ⟨i, hi, rfl⟩ := List.getElem_of_mem ha
    have hi' : i < os.length := by rw [a1, ← a2]; exact hi
    exact ⟨(ρ[i], os[i]), List.mem_append_right _ (mem_zip_of (List.getElem?_eq_getElem hi) (List.getElem?_eq_getElem hi')), rfl⟩
theorem Led.alloc {os : List Obj} {l : Addr} {x : Obj} {o : MO}
    (a1 : os.length = H.length) (a2 : ρ.length = H.length) (a3 : ∀ (i : Nat) (o : MO), H[i]? = some o → ∃ x, os[i]? = some x ∧ OR prog w ρ o x)
    (a5 : (xs.map (·.1) ++ ρ).Nodup)
    (F : Fr h₀ L h' ml) (N : News h₀ L h' ((l, x) :: (xs ++ ρ.zip os))) (hl : ∀ p ∈ xs ++ ρ.zip os, p.1 ≠ l) (ho : OR prog w (ρ ++ [l]) o x) :
    Led h₀ L prog w ml xs (ρ ++ [l]) (H ++ [o]) h' := by
  refine ⟨F, os ++ [x], by simp [a1], by simp [a2], ?_, ?_, ?_⟩
  · intro i o' hi
    by_cases hlt : i < H.length
    · rw [List.getElem?_append_left hlt] at hi
      obtain ⟨y, hy, hr⟩ := a3 i o' hi
      exact ⟨y, by rw [List.getElem?_append_left (by rw [a1]; exact hlt)]; exact hy, hr.mono⟩
    · rw [List.getElem?_append_right (Nat.le_of_not_lt hlt)] at hi
      have hz : i - H.length = 0 := by
        have := (List.getElem?_eq_some_iff.mp hi).1
        simp at this
        omega
      rw [hz] at hi
      simp at hi
      subst hi
      refine ⟨x, ?_, ho⟩
      rw [List.getElem?_append_right (by rw [a1]; exact Nat.le_of_not_lt hlt), a1, hz]
      rfl
  · intro p hp
    rw [zip_append_one (by rw [a1, a2])] at hp
    refine N p ?_
    rw [← List.append_assoc] at hp
    rcases List.mem_append.mp hp with hp | hp
    · exact .tail _ hp
    · rw [List.mem_singleton.mp hp]; exact .head _
  · rw [← List.append_assoc, List.nodup_append]
    refine ⟨a5, by simp, ?_⟩
    intro a ha b hb e
    rw [List.mem_singleton.mp hb] at e
    obtain ⟨p, hp, e2⟩ := led_addr (os := os) a1 a2 ha
    exact hl p hp (e2.trans e)
theorem Led.upd (S : Led h₀ L prog w ml xs ρ H h) {i : Nat} {o o' : MO} {a : Addr} {x' : Obj} (hi : H[i]? = some o) (ha : ρ[i]? = some a)
    (hs : Heap.SameBut a h h') (hx : h'.get? a = some x') (ho : OR prog w ρ o' x') : Led h₀ L prog w ml xs ρ (H.set i o') h' := by
  obtain ⟨F, os, a1, a2, a3, N, a5⟩ := S
  obtain ⟨x, hx0, _⟩ := a3 i o hi
  have hm : (a, x) ∈ ρ.zip os := mem_zip_of ha hx0
  have na := N _ (List.mem_append_right _ hm)
  have hlt : i < H.length := (List.getElem?_eq_some_iff.mp hi).1
  refine ⟨F.change hs na.2.1 na.2.2, os.set i x', by simp [a1], by simp [a2], ?_, ?_, a5⟩
  · intro j o1 hj
    by_cases e : i = j
    · subst e
      rw [List.getElem?_set_self hlt] at hj
      cases hj
      exact ⟨x', List.getElem?_set_self (by rw [a1]; exact hlt), ho⟩
    · rw [List.getElem?_set_ne e] at hj
      obtain ⟨y, hy, hr⟩ := a3 j o1 hj
      exact ⟨y, by rw [List.getElem?_set_ne e]; exact hy, hr⟩
  · intro p hp
    rw [List.nodup_append] at a5
    rcases List.mem_append.mp hp with hp | hp
    · have P := N p (List.mem_append_left _ hp)
      have hne : p.1 ≠ a := fun e => a5.2.2 p.1 (List.mem_map_of_mem hp) a (List.mem_of_getElem? ha) e
      exact ⟨(hs.2 _ hne).trans P.1, P.2⟩
    · obtain ⟨j, hj, e⟩ := List.getElem_of_mem hp
      obtain ⟨b, y⟩ := p
      have e' : (ρ.zip (os.set i x'))[j]? = some (b, y) := by rw [List.getElem?_eq_getElem hj, e]
      rw [List.getElem?_zip_eq_some] at e'
      by_cases eij : i = j
      · subst eij
        rw [ha, List.getElem?_set_self (by rw [a1]; exact hlt)] at e'
        obtain ⟨e1, e2⟩ := e'
        cases e1; cases e2
        exact ⟨hx, na.2⟩
      · rw [List.getElem?_set_ne eij] at e'
        have P := N _ (List.mem_append_right _ (mem_zip_of e'.1 e'.2))
        have hne : b ≠ a := by
          intro e3
          subst e3
          have l1 := (List.getElem?_eq_some_iff.mp ha).1
          exact eij ((List.getElem?_inj l1 a5.2.1).mp (ha.trans e'.1.symm))
        exact ⟨(hs.2 _ hne).trans P.1, P.2⟩
theorem Led.grow (S : Led h₀ L prog w ml xs ρ H h) (hk : ∀ b o, h.get? b = some o → h'.get? b = some o) : Led h₀ L prog w ml xs ρ H h' := by
  obtain ⟨F, os, a1, a2, a3, N, a5⟩ := S
  exact ⟨F.keeps hk, os, a1, a2, a3, N.grown hk, a5⟩
end
theorem St.get {c : Cx} {mr : Str → Option Value} {ρ : List Addr} {H : MH} {h : Heap} (S : St c mr ρ H h) {i : Nat} {o : MO} (hi : H[i]? = some o) :
    ∃ a x, ρ[i]? = some a ∧ OR c.prog c.w ρ o x ∧ News c.h₀ c.L h [(a, x)] := by
  obtain ⟨ml, xs, l, _⟩ := S.open
  exact l.get hi
theorem St.upd {c : Cx} {mr : Str → Option Value} {ρ : List Addr} {H : MH} {h h' : Heap} (S : St c mr ρ H h) {i : Nat} {o o' : MO} {a : Addr} {x' : Obj} (hi : H[i]? = some o) (ha : ρ[i]? = some a)
    (hs : Heap.SameBut a h h') (hx : h'.get? a = some x') (ho : OR c.prog c.w ρ o' x') : St c mr ρ (H.set i o') h' := by
  obtain ⟨ml, xs, l, back⟩ := S.open
  exact back _ _ _ (l.upd hi ha hs hx ho)
theorem St.grow {c : Cx} {mr : Str → Option Value} {ρ : List Addr} {H : MH} {h h' : Heap} (S : St c mr ρ H h) (hk : ∀ b o, h.get? b = some o → h'.get? b = some o) : St c mr ρ H h' := by
  obtain ⟨ml, xs, l, back⟩ := S.open
  exact back _ _ _ (l.grow hk)
theorem last_get {ρ : List Addr} {H : MH} {l : Addr} (a2 : ρ.length = H.length) : (ρ ++ [l])[H.length]? = some l := by
  rw [List.getElem?_append_right (by rw [a2]; exact Nat.le_refl _), a2, Nat.sub_self]
  rfl
noncomputable def stb (sc : Scope) (x : Str) : Bool := sc.names.lookup x == some .local || sc.names.lookup x == some .cell
theorem store' {c : Cx} (hap : c.fm = none → c.env.cells.Pairwise fun x y => x.2 ≠ y.2) (hk : c.env.scope.kind = .function) (hfs : c.fm = none → c.env.scope = c.sc) {mr : Str → Option Value} {ρ : List Addr} {H : MH} {s : Shared} {x : Str} {v : Value} {Q E} (S : St c mr ρ H s.heap) (hfm : c.fm = none) (hx : stb c.sc x = true)
    (h : ∀ h' tk, St c (fun y => if y = x then some v else mr y) ρ H h' → Q () { s with heap := h', toks := tk }) :
    wpAny (model c.prog c.w) c.A (storeName c.env x v) Q E s := by
  unfold stb at hx
  replace hap := hap hfm
  rw [← hfs hfm] at hx
  simp only [Bool.or_eq_true, beq_iff_eq] at hx
  change c.env.kindOf x = some .local ∨ c.env.kindOf x = some .cell at hx
  obtain ⟨ml, fr, ex, o, u, F, os, a1, a2, a3, N, a5⟩ := S
  unfold Own at o
  rw [hfm] at o
  obtain ⟨oL, o1, o2⟩ := o
  rcases hx with hx | hx
  · refine wpAny_storeName_local hx (by rw [oL]; exact F.ns) (fun h' hn hs => ?_) (by rw [hk]; rfl)
    rw [oL] at hn hs
    refine h h' _ ⟨_, fr, ex, ?_, u, F.set hn hs, os, a1, a2, a3, N.set hs, a5⟩
    unfold Own
    rw [hfm]
    refine ⟨oL, fun y hy => ?_, fun y hy => ?_⟩
    · by_cases e : y = x
      · simp [e]
      · simp [e, o1 y hy]
    · have hne : y ≠ x := by
        rintro rfl
        rw [hx] at hy
        rcases hy with hy | hy <;> cases hy
      simp only [if_neg hne]
      exact o2 y hy
  · obtain ⟨a, ob, e1, e2, e3⟩ := o2 x (.inl hx)
    have hmem : (a, ob) ∈ fr ++ (c.xt ++ ex) := List.mem_append_right _ (List.mem_append_right _ e2)
    have hN := N _ (List.mem_append_left _ hmem)
    refine wpAny_storeName_cell hk hx e1 ⟨ob, hN.1, e3⟩ fun h' hv hs => ?_
    obtain ⟨o', ho', hd'⟩ := hv
    have hF : Fr c.h₀ c.L h' ml := F.change hs hN.2.1 hN.2.2
    let f : Addr × Obj → Addr × Obj := fun p => if p.1 = a then (a, o') else p
    have hfst : ∀ l : List (Addr × Obj), (l.map f).map (·.1) = l.map (·.1) := by
      intro l
      induction l with
      | nil => rfl
      | cons p l ih =>
        simp only [List.map_cons, ih]
        congr 1
        show (if p.1 = a then (a, o') else p).1 = p.1
        split
        · rename_i q; exact q.symm
        · rfl
    have hnd := a5
    rw [List.nodup_append] at hnd
    obtain ⟨nd1, nd2, nd3⟩ := hnd
    have hfix : ∀ p ∈ fr ++ c.xt, f p = p := by
      intro p hp
      show (if p.1 = a then (a, o') else p) = p
      rw [if_neg]
      intro q
      rw [List.map_append, List.map_append, ← List.append_assoc, ← List.map_append, List.nodup_append] at nd1
      exact nd1.2.2 p.1 (List.mem_map_of_mem hp) a (List.mem_map_of_mem (f := (·.1)) e2) q
    have hfix1 : fr.map f = fr := by
      have := List.map_congr_left (l := fr) (f := f) (g := id) (fun p hp => hfix p (List.mem_append_left _ hp))
      rw [this]; simp
    have hfix2 : c.xt.map f = c.xt := by
      have := List.map_congr_left (l := c.xt) (f := f) (g := id) (fun p hp => hfix p (List.mem_append_right _ hp))
      rw [this]; simp
    refine h h' _ ⟨ml, fr, ex.map f, ?_, u, hF, os, a1, a2, a3, ?_, ?_⟩
    · unfold Own
      rw [hfm]
      refine ⟨oL, fun y hy => ?_, fun y hy => ?_⟩
      · have hne : y ≠ x := by
          rintro rfl
          rw [hx] at hy
          cases hy
        simp only [if_neg hne]
        exact o1 y hy
      · by_cases e : y = x
        · subst e
          refine ⟨a, o', e1, ?_, by simp [hd']⟩
          have : f (a, ob) = (a, o') := by show (if a = a then (a, o') else _) = _; rw [if_pos rfl]
          rw [← this]
          exact List.mem_map_of_mem e2
        · obtain ⟨b, oy, y1, y2, y3⟩ := o2 y hy
          have hba : b ≠ a := fun q => e (name_of_addr hap (mem_of_lookup y1) (q ▸ mem_of_lookup e1))
          refine ⟨b, oy, y1, ?_, by simp [e, y3]⟩
          have : f (b, oy) = (b, oy) := by show (if b = a then (a, o') else _) = _; rw [if_neg hba]
          rw [← this]
          exact List.mem_map_of_mem y2
    · intro p hp
      have hsplit : fr ++ (c.xt ++ ex.map f) = (fr ++ (c.xt ++ ex)).map f := by simp only [List.map_append, hfix1, hfix2]
      rw [hsplit] at hp
      rcases List.mem_append.mp hp with hp | hp
      · obtain ⟨q, hq, rfl⟩ := List.mem_map.mp hp
        have P := N q (List.mem_append_left _ hq)
        show h'.get? (f q).1 = some (f q).2 ∧ _
        by_cases e : q.1 = a
        · have : f q = (a, o') := by show (if q.1 = a then (a, o') else q) = _; rw [if_pos e]
          rw [this]
          exact ⟨ho', hN.2⟩
        · have : f q = q := by show (if q.1 = a then (a, o') else q) = _; rw [if_neg e]
          rw [this]
          exact ⟨(hs.2 _ e).trans P.1, P.2⟩
      · have P := N p (List.mem_append_right _ hp)
        refine ⟨(hs.2 _ fun q => ?_).trans P.1, P.2⟩
        exact nd3 a (List.mem_map_of_mem (f := (·.1)) hmem) p.1 (List.of_mem_zip (show (p.1, p.2) ∈ _ from hp)).1 q.symm
    · have hsplit : fr ++ (c.xt ++ ex.map f) = (fr ++ (c.xt ++ ex)).map f := by simp only [List.map_append, hfix1, hfix2]
      rw [hsplit, hfst]
      exact a5
theorem store {G : Gx} {c : Cx} {d : Nat} (ok : Ok G c d) {mr : Str → Option Value} {ρ : List Addr} {H : MH} {s : Shared} {x : Str} {v : Value} {Q E} (S : St c mr ρ H s.heap) (hfm : c.fm = none) (hx : stb c.sc x = true)
    (h : ∀ h' tk, St c (fun y => if y = x then some v else mr y) ρ H h' → Q () { s with heap := h', toks := tk }) :
    wpAny (model c.prog c.w) c.A (storeName c.env x v) Q E s := store' ok.ap ok.fn ok.fs S hfm hx h
theorem su_addrs : ∀ {a b : List (Addr × Obj)}, TI.SameUp a b → b.map (·.1) = a.map (·.1)
  | [], [], _ => rfl
  | [], _ :: _, h => False.elim h
  | _ :: _, [], h => False.elim h
  | _ :: _, _ :: _, ⟨h1, _, h3⟩ => by simp only [List.map_cons, h1, su_addrs h3]
abbrev FA (c : Cx) : List Addr := c.L :: c.fr.map (·.1)
structure FlyB (c : Cx) (mr : Str → Option Value) (ρ : List Addr) (H : MH) (as : List MV) (e : Addr) (h hB : Heap) (t : Addr) (vs : List Value) : Prop where
  st : St c mr ρ H hB
  vr : VRs ρ as vs
  en : hB.get? e = none
  tn : hB.get? t = none
  tup : h.TupAt t vs
  up : hB.UpToSlots h
  stay : (TI.gone hB (FA c)).StaysIn h
noncomputable def FlyH (c : Cx) (mr : Str → Option Value) (ρ : List Addr) (H : MH) (C : Addr) (as : List MV) (e : Addr) (fl : Value) (h : Heap) : Prop :=
  ∃ hB t vs, FlyB c mr ρ H as e h hB t vs ∧ h.TracedAtW (TI.gone hB (FA c)) e (.ref C) (.ref t) fl
section
variable {c : Cx} {mr : Str → Option Value} {ρ : List Addr} {H : MH} {C : Addr} {as : List MV} {e : Addr} {h hB : Heap} {t : Addr} {vs : List Value} {G : Gx} {d : Nat}
theorem Fly.split (f : Fly c mr ρ H C as e h) : ∃ hB t vs, FlyB c mr ρ H as e h hB t vs ∧
    ((∃ oe ws, h.get? e = some oe ∧ oe.cls = .ref C ∧ oe.data = .fields ws ∧ ws[0]? = some (.ref t) ∧ ws[1]? = some .none) ∨
     ∃ fl, h.TracedAtW (TI.gone hB (FA c)) e (.ref C) (.ref t) fl ∧ (fl = .none ∨ fl = rawInt c.L)) := by
  obtain ⟨hB, t, vs, a1, a2, a3, a4, a5, a6, a7, a8⟩ := f
  exact ⟨hB, t, vs, ⟨a1, a2, a3, a4, a5, a6, a7⟩, a8⟩
theorem FlyB.fly (b : FlyB c mr ρ H as e h hB t vs) (x : (∃ oe ws, h.get? e = some oe ∧ oe.cls = .ref C ∧ oe.data = .fields ws ∧ ws[0]? = some (.ref t) ∧ ws[1]? = some .none) ∨
     ∃ fl, h.TracedAtW (TI.gone hB (FA c)) e (.ref C) (.ref t) fl ∧ (fl = .none ∨ fl = rawInt c.L)) : Fly c mr ρ H C as e h :=
  ⟨hB, t, vs, b.st, b.vr, b.en, b.tn, b.tup, b.up, b.stay, x⟩
theorem FlyH.fly {fl : Value} (f : FlyH c mr ρ H C as e fl h) (hfl : fl = .none ∨ fl = rawInt c.L) : Fly c mr ρ H C as e h := by
  obtain ⟨hB, t, vs, b, x⟩ := f
  exact b.fly (.inr ⟨fl, x, hfl⟩)
theorem FlyB.frames (ok : Ok G c d) (b : FlyB c mr ρ H as e h hB t vs) : ∃ env₀ outer, c.A.frames = some (env₀ :: outer) ∧ env₀.frame = some c.L ∧ (c.fm = none → env₀ = c.env) ∧ h.FunFrames (TI.gone hB (FA c)) (env₀ :: outer) := by
  obtain ⟨env₀, outer, hA, hf, hk, Fs, he⟩ := ok.frames
  refine ⟨env₀, outer, hA, hf, he, ?_⟩
  obtain ⟨ml, fr, ex, own, u, F, os, a1, a2, a3, N, a5⟩ := b.st
  have Fs' := Fs.up u
  obtain ⟨fr', u', ht'⟩ := TI.sameUp_of (h' := h) (frs := fr) fun p hp => b.up p.1 p.2 (N p (List.mem_append_left _ (List.mem_append_left _ hp))).1 fun ws q => by
    obtain ⟨es, ep, hd⟩ := Fs'.dict p hp
    rw [hd] at q; cases q
  refine Heap.FunFrames.cons (by rw [hk]; decide) hf (b.up.ns F.ns) (TI.gone_none (.head _)) ((Fs'.up u').fun fun q hq => ⟨ht' q hq, TI.gone_none (.tail _ ?_)⟩)
  rw [← su_addrs u, ← su_addrs u']
  exact List.mem_map_of_mem hq
theorem FlyB.st' (ok : Ok G c d) (b : FlyB c mr ρ H as e h hB t vs) : St c mr ρ H h := by
  obtain ⟨env₀, outer, hA, hf, hk, Fs, he⟩ := ok.frames
  obtain ⟨ml, fr, ex, own, u, F, os, a1, a2, a3, N, a5⟩ := b.st
  have Fs' := Fs.up u
  obtain ⟨fr', u', ht'⟩ := TI.sameUp_of (h' := h) (frs := fr) fun p hp => b.up p.1 p.2 (N p (List.mem_append_left _ (List.mem_append_left _ hp))).1 fun ws q => by
    obtain ⟨es, ep, hd⟩ := Fs'.dict p hp
    rw [hd] at q; cases q
  have hFA : FA c = c.L :: fr.map (·.1) := by unfold FA; rw [su_addrs u]
  have nd := a5
  rw [List.map_append, List.append_assoc, List.nodup_append] at nd
  refine ⟨ml, fr', ex, own, u.trans u', ⟨b.up.ns F.ns, fun x o ex => b.stay x o ((TI.gone_get ?_).trans (F.keep x o ex)), F.above⟩, os, a1, a2, a3, ?_, ?_⟩
  · rw [hFA]
    exact TI.base_apart (frs := fr) F N (fun p hp => List.mem_append_left _ (List.mem_append_left _ hp)) ex
  · intro p hp
    rw [List.append_assoc] at hp
    rcases List.mem_append.mp hp with hp | hp
    · obtain ⟨q, hq, e1⟩ := u'.fwd p hp
      have P := N q (List.mem_append_left _ (List.mem_append_left _ hq))
      exact ⟨ht' p hp, by rw [e1]; exact P.2.1, by rw [e1]; exact P.2.2⟩
    · have P := N p (by rw [List.append_assoc]; exact List.mem_append_right _ hp)
      refine ⟨b.stay _ _ ((TI.gone_get ?_).trans P.1), P.2⟩
      rw [hFA]
      intro hm
      rcases List.mem_cons.mp hm with q | hm
      · exact P.2.1 q
      · refine nd.2.2 p.1 hm p.1 ?_ rfl
        rcases List.mem_append.mp hp with hp | hp
        · exact List.mem_append_left _ (List.mem_map_of_mem hp)
        · exact List.mem_append_right _ (List.of_mem_zip (show (p.1, p.2) ∈ _ from hp)).1
  · rw [List.map_append, su_addrs u', ← List.map_append]
    exact a5
theorem Fly.st (ok : Ok G c d) (f : Fly c mr ρ H C as e h) : St c mr ρ H h := by
  obtain ⟨hB, t, vs, b, _⟩ := f.split
  exact b.st' ok
theorem FlyB.base (b : FlyB c mr ρ H as e h hB t vs) : (TI.gone hB (FA c)).get? e = none := TI.none_of (fun _ _ q => (TI.gone_some q).2) b.en
theorem FlyB.on {h' : Heap} (b : FlyB c mr ρ H as e h hB t vs) (up : h.UpToSlots h') (st : (TI.gone hB (FA c)).StaysIn h') : FlyB c mr ρ H as e h' hB t vs :=
  ⟨b.st, b.vr, b.en, b.tn, b.tup.of_slots up, b.up.trans up, st⟩
end
section
variable {c : Cx} {mr : Str → Option Value} {ρ : List Addr} {H : MH} {C : Addr} {as : List MV} {e : Addr} {G : Gx} {d : Nat} {M : Model} {A : Around} {s : Shared} {Q : Unit → Shared → Prop} {E : Value → Shared → Prop}
theorem setFlightW {base : Heap} {cls a0 fl : Value} (o : Option Addr) (hkb : base.StaysIn s.heap) (ht : s.heap.TracedAtW base e cls a0 fl)
    (h : ∀ h', base.StaysIn h' → h'.TracedAtW base e cls a0 (o.elim .none fun f => rawInt f) → (∀ b x, s.heap.get? b = some x → (∀ vs, x.data ≠ .fields vs) → h'.get? b = some x) → Q () { s with heap := h' }) :
    wpAny M A (setFlight (.ref e) o) Q E s := by
  obtain ⟨oe, vs, T, oT, ts, he, hcls, hd, h1, hnT, hTe, hT, hdT, h3⟩ := ht
  have hsz3 : 3 < ts.size := (Array.getElem?_eq_some_iff.mp h3).1
  have other : ∀ b, b ≠ T → (s.heap.update T (Obj.mapFields (·.setIfInBounds 3 (o.elim Value.none fun f => rawInt f)))).get? b = s.heap.get? b :=
    fun b hb => Heap.get?_update_other _ _ (Ne.symm hb)
  have noRecord : ∀ b o, s.heap.get? b = some o → (∀ vs, o.data ≠ .fields vs) → b ≠ T := fun b o hb hnf q => by
    rw [q, hT] at hb; injection hb with hb; subst hb; exact hnf ts hdT
  unfold setFlight
  refine wpAny_bind (wpAny_field he hd h1 ?_)
  rw [if_pos (show (Value.ref T != Value.none) = true from by simp)]
  refine wpAny_setField hT hdT hsz3 (h _ (fun b o hbo => (other b fun q => by rw [q, hnT] at hbo; cases hbo).trans (hkb b o hbo)) ?_ fun b o hb hnf => (other b (noRecord b o hb hnf)).trans hb)
  exact ⟨oe, vs, T, _, _, (other e (Ne.symm hTe)).trans he, hcls, hd, h1, hnT, hTe, Heap.get?_update_self _ hT (Obj.isFreed_of_fields (Obj.data_mapFields hdT _)), Obj.data_mapFields hdT _, by simp [hsz3]⟩
theorem FlyH.flight {fl : Value} (o : Option Addr) (f : FlyH c mr ρ H C as e fl s.heap) (k : ∀ h', FlyH c mr ρ H C as e (o.elim .none fun f => rawInt f) h' → Q () { s with heap := h' }) : wpAny M A (setFlight (.ref e) o) Q E s := by
  obtain ⟨hB, t, vs, b, x⟩ := f
  exact setFlightW o b.stay x fun h' k1 k2 k3 => k h' ⟨hB, t, vs, b.on (fun a x ha hn => ⟨x.slots, k3 a x ha hn⟩) k1, k2⟩
theorem Fly.note (ok : Ok G c d) (hfm : c.fm = none) (hA : A.frames = c.A.frames) (f : Fly c mr ρ H C as e s.heap) (k : ∀ h', FlyH c mr ρ H C as e (rawInt c.L) h' → Q () { s with heap := h' }) :
    wpAny M A (noteFrame (.ref e) c.env) Q E s := by
  obtain ⟨hB, t, vs, b, x⟩ := f.split
  obtain ⟨env₀, outer, hA0, hf, he0, hFF⟩ := b.frames ok
  have he1 := he0 hfm
  subst he1
  rw [hA0] at hA
  rcases x with ⟨oe, ws, q1, q2, q3, q4, q5⟩ | ⟨fl, x, rfl | rfl⟩
  · unfold noteFrame
    simp only [hf]
    refine wpAny_bind (wpAny_field q1 q3 q5 ?_)
    rw [if_neg (by decide)]
    refine wpAny_entryW (a0 := .ref t) hA hFF hf q1 b.stay b.base q3 (Array.getElem?_eq_some_iff.mp q5).1 q4 fun h' hN => ?_
    obtain ⟨k1, k2, k3, k4⟩ := hN
    rw [q2] at k3
    exact k h' ⟨hB, t, vs, b.on k4 k1, k3⟩
  · refine wpAny_noteFrame_onW hA hFF hf x b.stay b.base fun h' hN => ?_
    obtain ⟨k1, k2, k3, k4⟩ := hN
    exact k h' ⟨hB, t, vs, b.on k4 k1, k3⟩
  · exact wpAny_noteFrame_againW hf x (k s.heap ⟨hB, t, vs, b, x⟩)
theorem Fly.leave (ok : Ok G c d) (hfm : c.fm = none) (hA : A.frames = c.A.frames) (f : Fly c mr ρ H C as e s.heap) (k : ∀ h', FlyH c mr ρ H C as e .none h' → Q () { s with heap := h' }) :
    wpAny M A (leaving c.env (.ref e)) Q E s := by
  unfold leaving
  refine wpAny_bind (f.note ok hfm hA fun h' f' => ?_)
  exact f'.flight none k
theorem Kx.pass (ok : Ok G c d) (hfm : c.fm = none) {A' : Around} (hA : A.frames = c.A.frames) (k : Kx c ρ s E) : Kx c ρ s (notedBy M A c.env (cameBackBy M A' c.env E)) := by
  intro t C as e m' mr' H' h' tk hX hF hL
  obtain ⟨_, _, _, _, _, _, he⟩ := ok.frames
  have hfr : c.env.frame = some c.L := by
    obtain ⟨env₀, outer, _, hf, _, _, he⟩ := ok.frames
    rw [← he hfm]; exact hf
  unfold notedBy
  refine Fly.note (s := { s with heap := h', toks := tk }) ok hfm hA hF fun h2 f2 => ?_
  unfold cameBackBy
  obtain ⟨hB, t', vs, b, x⟩ := id f2
  obtain ⟨oe, ws, T, oT, ts, q1, q2, q3, q4, q5, q6, q7, q8, q9⟩ := id x
  refine wpAny_bind (wpAny_field q1 q3 q4 ?_)
  rw [if_neg (by simp)]
  rw [hfr]
  refine FlyH.flight (s := { s with heap := h2, toks := tk }) (some c.L) f2 fun h3 f3 => ?_
  exact k t C as e m' mr' H' h3 tk hX (f3.fly (.inr rfl)) hL
end
structure Over (c c' : Cx) (mr ml : Str → Option Value) (fr ex : List (Addr × Obj)) (oL : Obj) : Prop where
  prog : c'.prog = c.prog
  w : c'.w = c.w
  h₀ : c'.h₀ = c.h₀
  fr' : c'.fr = (c.L, oL) :: fr
  xt' : c'.xt = c.xt ++ ex
  su : TI.SameUp c.fr fr
  own : Own c mr ml ex
  ns : ∀ (h : Heap) sl, h.get? c.L = some { oL with slots := sl } → h.Ns c.L ml
  above : c.h₀.objs.size ≤ c.L
theorem Over.back {c c' : Cx} {mr ml mr' : Str → Option Value} {fr ex : List (Addr × Obj)} {oL : Obj} {ρ : List Addr} {H : MH} {h h' : Heap} (O : Over c c' mr ml fr ex oL) (S : St c' mr' ρ H h)
    (hk : ∀ b o, b ≠ c'.L → h.get? b = some o → h'.get? b = some o) : St c mr ρ H h' := by
  obtain ⟨ml', fr', ex', own', u', F', os, a1, a2, a3, N', a5⟩ := S
  obtain ⟨ep, ew, e0, ef, ex0, su, own, ns, above⟩ := O
  rw [ef] at u'
  cases fr' with
  | nil => exact False.elim u'
  | cons q fr'' =>
    obtain ⟨u1, ⟨sl, u2⟩, u3⟩ := u'
    obtain ⟨qa, qo⟩ := q
    simp only at u1 u2
    subst u1 u2
    have hmem : ∀ p ∈ (fr'' ++ (c.xt ++ ex)) ++ ρ.zip os, p ∈ ((c.L, { oL with slots := sl }) :: fr'' ++ (c'.xt ++ ex')) ++ ρ.zip os := by
      intro p hp
      rw [ex0]
      simp only [List.mem_append, List.mem_cons, List.cons_append] at hp ⊢
      rcases hp with (hp | hp | hp) | hp <;> simp [hp]
    have hL := N' (c.L, { oL with slots := sl }) (List.mem_append_left _ (.head _))
    have hnd : (c.L :: ((fr'' ++ (c.xt ++ ex)).map (·.1) ++ ρ)).Nodup := by
      refine List.Nodup.sublist ?_ a5
      rw [ex0]
      simp only [List.cons_append, List.map_cons, List.map_append, List.append_assoc]
      refine List.Sublist.cons_cons _ ?_
      refine List.Sublist.append (List.Sublist.refl _) ?_
      refine List.Sublist.append (List.Sublist.refl _) ?_
      refine List.Sublist.append (List.Sublist.refl _) ?_
      exact List.sublist_append_right _ _
    rw [List.nodup_cons] at hnd
    refine ⟨ml, fr'', ex, own, su.trans u3, ⟨ns _ sl (hk _ _ hL.2.1 hL.1), fun b o e => hk b o ?_ (F'.keep b o (by rw [e0]; exact e)), above⟩, os, a1, a2, ?_, ?_, hnd.2⟩
    · rintro rfl
      have := F'.above
      rw [e0] at this
      exact absurd (Heap.lt_size e) (Nat.not_lt.mpr this)
    · rw [← ep, ← ew]; exact a3
    · intro p hp
      have P := N' p (hmem p hp)
      refine ⟨hk _ _ P.2.1 P.1, ?_, by rw [← e0]; exact P.2.2⟩
      intro q
      refine hnd.1 ?_
      rw [← q]
      rcases List.mem_append.mp hp with hp | hp
      · exact List.mem_append_left _ (List.mem_map_of_mem hp)
      · exact List.mem_append_right _ (List.of_mem_zip (show (p.1, p.2) ∈ _ from hp)).1
theorem Over.fly {c c' : Cx} {mr ml mr' : Str → Option Value} {fr ex : List (Addr × Obj)} {oL : Obj} {ρ : List Addr} {H : MH} {C : Addr} {as : List MV} {e : Addr} {h : Heap} (O : Over c c' mr ml fr ex oL)
    (f : FlyH c' mr' ρ H C as e .none h) : Fly c mr ρ H C as e h := by
  obtain ⟨hB, t, vs, b, x⟩ := f
  have hg : ∀ b o, (TI.gone hB [c'.L]).get? b = some o → b ≠ c'.L ∧ hB.get? b = some o := fun b o q => by
    obtain ⟨h1, h2⟩ := TI.gone_some q
    exact ⟨fun e => h1 (by rw [e]; exact .head _), h2⟩
  have hin : ∀ b o, (TI.gone (TI.gone hB [c'.L]) (FA c)).get? b = some o → (TI.gone hB (FA c')).get? b = some o := fun b o q => by
    obtain ⟨h1, h2⟩ := TI.gone_some q
    obtain ⟨h3, h4⟩ := hg b o h2
    refine (TI.gone_get ?_).trans h4
    unfold FA at h1 ⊢
    rw [O.fr', List.map_cons, su_addrs O.su]
    intro hm
    rcases List.mem_cons.mp hm with q | hm
    · exact h3 q
    · exact h1 hm
  refine FlyB.fly (hB := TI.gone hB [c'.L]) (t := t) (vs := vs) ⟨O.back b.st fun b o hb q => (TI.gone_get (by simpa using hb)).trans q, b.vr, TI.none_of (fun b o q => (hg b o q).2) b.en, TI.none_of (fun b o q => (hg b o q).2) b.tn, b.tup,
    fun a o q hn => b.up a o (hg a o q).2 hn, fun a o q => b.stay a o (hin a o q)⟩ (.inr ⟨.none, ?_, .inl rfl⟩)
  obtain ⟨oe, ws, T, oT, ts, q1, q2, q3, q4, q5, q6, q7, q8, q9⟩ := x
  exact ⟨oe, ws, T, oT, ts, q1, q2, q3, q4, TI.none_of hin q5, q6, q7, q8, q9⟩
noncomputable def CL (G : Gx) (prog : Program) (w : World) (d : Nat) (f : Addr) (args : List MV) (H : MH) (post : MV → MH → Prop) (xp : Addr → List MV → MH → Prop) : Prop :=
  ∀ (c : Cx) (mr : Str → Option Value) (ρ : List Addr) (s : Shared) (Q : Value → Shared → Prop) (E : Value → Shared → Prop) (vs : List Value), c.prog = prog → c.w = w → Ok G c d → St c mr ρ H s.heap → VRs ρ args vs →
    (∀ t v vr H' h' tk, post v H' → VR (ρ ++ t) v vr → St c mr (ρ ++ t) H' h' → Q vr { s with heap := h', toks := tk }) →
    (∀ t C as e H' h' tk, xp C as H' → Fly c mr (ρ ++ t) H' C as e h' → E (.ref e) { s with heap := h', toks := tk }) →
    codeAny (model prog w) c.A (.call (.ref f) ⟨vs, []⟩) (fun r s' => match r with | .ok (.ret v) => Q v s' | .ok _ => False | .error e => E e s') s
theorem CL.mono {G : Gx} {prog : Program} {w : World} {d : Nat} {f : Addr} {args : List MV} {H : MH} {p q : MV → MH → Prop} {xp xq : Addr → List MV → MH → Prop} (h : CL G prog w d f args H p xp) (hp : ∀ v H', p v H' → q v H')
    (hx : ∀ C as H', xp C as H' → xq C as H') : CL G prog w d f args H q xq :=
  fun c mr ρ s Q E vs e1 e2 o S l k kx => h c mr ρ s Q E vs e1 e2 o S l (fun t v vr H' h' tk hv => k t v vr H' h' tk (hp _ _ hv)) fun t C as e H' h' tk hv => kx t C as e H' h' tk (hx _ _ _ hv)
inductive Fl where
  | next
  | brk
  | cont
  | ret (v : MV)
noncomputable def FlR (ρ : List Addr) : Fl → Flow → Prop
  | .next, f => f = .next
  | .brk, f => f = .brk
  | .cont, f => f = .cont
  | .ret m, f => ∃ v, f = .ret v ∧ VR ρ m v
noncomputable def retv : Fl → MV
  | .ret v => v
  | _ => .none
noncomputable def EX (c : Cx) (m : ML) (ss : List Stmt) (H : MH) (post : Fl → ML → MH → Prop) : Prop :=
  ∀ (mr : Str → Option Value) (ρ : List Addr) (s : Shared) (Q : Flow → Shared → Prop) (E : Value → Shared → Prop), St c mr ρ H s.heap → LR mr c.nm ρ m →
    (∀ t f fr m' mr' H' h' tk, post f m' H' → FlR (ρ ++ t) f fr → St c mr' (ρ ++ t) H' h' → LR mr' c.nm (ρ ++ t) m' → Q fr { s with heap := h', toks := tk }) → Kx c ρ s E →
    wpAny (model c.prog c.w) c.A (execs ss c.env) Q E s
theorem bindL_off {k : Str → Option NameKind} {x : Str} : ∀ {names : List Str} {vals : List Value} {m₀ : Str → Option Value}, x ∉ names → bindL k (names.zip vals) m₀ x = m₀ x
  | [], _, _, _ => rfl
  | _ :: _, [], _, _ => rfl
  | n :: ns, v :: vs, m₀, h => by
    have hn : x ≠ n := fun e => h (e ▸ .head _)
    rw [List.zip_cons_cons]
    unfold bindL
    rw [bindL_off fun q => h (.tail _ q)]
    split <;> simp [hn]
theorem bindC_off {k : Str → Option NameKind} {x : Str} : ∀ {names : List Str} {vals : List Value} {m₀ : Str → Option Value}, x ∉ names → bindC k (names.zip vals) m₀ x = m₀ x
  | [], _, _, _ => rfl
  | _ :: _, [], _, _ => rfl
  | n :: ns, v :: vs, m₀, h => by
    have hn : x ≠ n := fun e => h (e ▸ .head _)
    rw [List.zip_cons_cons]
    unfold bindC
    rw [bindC_off fun q => h (.tail _ q)]
    split <;> simp [hn]
theorem bindL_at {k : Str → Option NameKind} {x : Str} {v : Value} (hk : k x = some .local) : ∀ {names : List Str} {vals : List Value} {i : Nat} {m₀ : Str → Option Value}, names.Nodup → names[i]? = some x → vals[i]? = some v → bindL k (names.zip vals) m₀ x = some v
  | [], _, _, _, _, e, _ => by simp at e
  | _ :: _, [], _, _, _, _, e => by simp at e
  | n :: ns, u :: us, 0, m₀, hn, e1, e2 => by
    simp at e1 e2
    subst e1 e2
    rw [List.zip_cons_cons]
    unfold bindL
    rw [bindL_off (List.nodup_cons.mp hn).1, if_pos hk]
    simp
  | n :: ns, u :: us, i + 1, m₀, hn, e1, e2 => by
    rw [List.zip_cons_cons]
    unfold bindL
    exact bindL_at hk (List.nodup_cons.mp hn).2 (by simpa using e1) (by simpa using e2)
theorem bindC_at {k : Str → Option NameKind} {x : Str} {v : Value} (hk : k x ≠ some .local) : ∀ {names : List Str} {vals : List Value} {i : Nat} {m₀ : Str → Option Value}, names.Nodup → names[i]? = some x → vals[i]? = some v → bindC k (names.zip vals) m₀ x = some v
  | [], _, _, _, _, e, _ => by simp at e
  | _ :: _, [], _, _, _, _, e => by simp at e
  | n :: ns, u :: us, 0, m₀, hn, e1, e2 => by
    simp at e1 e2
    subst e1 e2
    rw [List.zip_cons_cons]
    unfold bindC
    rw [bindC_off (List.nodup_cons.mp hn).1, if_neg hk]
    simp
  | n :: ns, u :: us, i + 1, m₀, hn, e1, e2 => by
    rw [List.zip_cons_cons]
    unfold bindC
    exact bindC_at hk (List.nodup_cons.mp hn).2 (by simpa using e1) (by simpa using e2)
theorem cells_get {cm : Str → Option Value} {x : Str} {a : Addr} : ∀ {cs : List (Str × Addr)} {cells : List (Addr × Obj)}, CellsAre cm cs cells → cs.lookup x = some a → ∃ o, (a, o) ∈ cells ∧ o.data = .cell (cm x)
  | _, _, .nil, h => by cases h
  | _, _, .cons (n := n) (c := b) (o := o) hd X, h => by
    rw [List.lookup_cons] at h
    by_cases e : x = n
    · subst e
      simp at h
      subst h
      exact ⟨o, .head _, hd⟩
    · have hb : (x == n) = false := by simpa using e
      rw [hb] at h
      obtain ⟨o', h1, h2⟩ := cells_get X h
      exact ⟨o', .tail _ h1, h2⟩
theorem cells_addrs {cm : Str → Option Value} : ∀ {cs : List (Str × Addr)} {cells : List (Addr × Obj)}, CellsAre cm cs cells → cells.map (·.1) = cs.map (·.2)
  | _, _, .nil => rfl
  | _, _, .cons hd X => by simp only [List.map_cons, cells_addrs X]
noncomputable def start (nm : List Str) (args : List MV) : ML := args.map some ++ List.replicate (nm.length - args.length) none
noncomputable def fnb (scope : Scope) (names nm : List Str) : Bool :=
  names == nm.take names.length && decide nm.Nodup && names.all (fun x => stb scope x) && !scope.isCoroutine && !scope.isGenerator && scope.kind == .function &&
    decide (((cellsFrom 0 scope.names []).map (·.1)).Nodup) && scope.names.all (fun p => p.2 != .free)
theorem nofree {x : Str} : ∀ {l : List (Str × NameKind)}, l.all (fun p => p.2 != .free) = true → l.lookup x ≠ some .free
  | [], _, h => by cases h
  | (y, k) :: r, h, e => by
    simp only [List.all_cons, Bool.and_eq_true] at h
    rw [List.lookup_cons] at e
    by_cases q : x = y
    · subst q
      simp at e
      rw [e] at h
      exact absurd h.1 (by decide)
    · have hb : (x == y) = false := by simpa using q
      rw [hb] at e
      exact nofree h.2 e
theorem CL.body {G : Gx} {prog : Program} {w : World} {d : Nat} {f : Addr} {args : List MV} {H : MH} {post : MV → MH → Prop} {xp : Addr → List MV → MH → Prop}
    {name qual : Str} {params : Arguments} {body : List Stmt} {scope : Scope} {dV kV doc pm cdv ct oc : Value} {an od : Option Addr} {osl : Array (Option Value)} {names nm : List Str} {dm : List MV} {dv : List Value}
    (hf : G.K.lookup f = some ⟨oc, od, .func (fnOf name qual params body scope dV kV doc pm an cdv ct), osl⟩) (hcd : codeIn G.K cdv qual = true)
    (hb : ∀ (s : Shared) (vs : List Value), G.K.In s.heap → vs.length = args.length → BindsTo s (fnOf name qual params body scope dV kV doc pm an cdv ct) ⟨vs, []⟩ (names.zip (vs ++ dv)))
    (hdm : VRs [] dm dv) (hl : (args ++ dm).length = names.length) (hfn : fnb scope names nm = true)
    (h : ∀ c : Cx, c.prog = prog → c.w = w → Ok G c d → c.fm = none → c.nm = nm → c.sc = scope → c.X = (fun C as _ H => xp C as H) → EX c (start nm (args ++ dm)) body H (fun fl _ H' => post (retv fl) H')) :
    CL G prog w (d + 1) f args H post xp := by
  intro c mr ρ s Q E vs ep ew ok S hvs k kx
  subst ep ew
  unfold fnb at hfn
  simp only [Bool.and_eq_true, beq_iff_eq, decide_eq_true_eq, Bool.not_eq_true', List.all_eq_true] at hfn
  obtain ⟨⟨⟨⟨⟨⟨⟨hn1, hn2⟩, hn3⟩, hco⟩, hgen⟩, hk⟩, hnd⟩, hnf⟩ := hfn
  have hnf' : scope.names.all (fun p => p.2 != .free) = true := List.all_eq_true.mpr hnf
  obtain ⟨ml, fr, ex, own, u, F, os, a1, a2, a3, N, a5⟩ := id S
  obtain ⟨env₀, outer, hA, hfr, hkf, Fs, _⟩ := ok.frames
  have X := ok.kin.keeps F.keep
  have hnn : names.Nodup := by rw [hn1]; exact (List.take_sublist _ _).nodup hn2
  have hvd : VRs ρ (args ++ dm) (vs ++ dv) := hvs.append (by simpa using hdm.mono (t := ρ))
  have hlen : (vs ++ dv).length = names.length := by rw [hvd.length, hl]
  have hmemn : ∀ x ∈ names.zip (vs ++ dv), scope.names.lookup x.1 = some .local ∨ scope.names.lookup x.1 = some .cell := fun x hx => by
    have := hn3 x.1 (List.of_mem_zip (show (x.1, x.2) ∈ _ from hx)).1
    unfold stb at this
    simpa using this
  refine codeAny_call_function (by have := ok.dep; omega) (X _ _ hf) rfl hco hgen rfl (codeRec_of X hcd) (hb s vs X hvs.length _ _ _ _ ?_)
  refine wpAny_newFunctionEnv_cells hk (fun x hx => (hmemn x hx).imp id fun q => ⟨q, cellsFrom_some _ _ _ (.inl q)⟩) fun env' he s' x => ?_
  subst he
  refine ⟨(ok.top.nolimit.keeps F.keep).keeps x.toInCall.keep, codeAny_func ?_⟩
  obtain ⟨h₁, tk, rfl, hk₁⟩ := x.done
  obtain ⟨cells, NC, Y⟩ := Cl.news (h₀ := s.heap) (Nat.le_refl _) fun n c hm => ⟨x.cell n c (lookup_of_mem_nodup (cellsFrom_names scope.names 0 (s.heap.objs.size + 1) [] [] rfl ▸ hnd) hm), x.above n c hm⟩
  obtain ⟨oL, es, eP, hL, hLd, hLk, hLf⟩ := F.ns
  have hLt := Heap.lt_size hL
  let env' : Env := envOfC qual scope s.heap.objs.size f cdv
  let mr' : Str → Option Value := fun y => if env'.kindOf y = some .local then bindL env'.kindOf (names.zip (vs ++ dv)) (fun _ => none) y else bindC env'.kindOf (names.zip (vs ++ dv)) (fun _ => none) y
  let c' : Cx := { prog := c.prog, w := c.w, A := c.A.deeper env', env := env', h₀ := c.h₀, L := s.heap.objs.size, fm := none, fr := (c.L, oL) :: fr, xt := c.xt ++ ex, X := fun C as _ H => xp C as H, nm := nm, sc := scope }
  have O : Over c c' mr ml fr ex oL := ⟨rfl, rfl, rfl, rfl, rfl, u, own, fun h' sl e => ⟨_, es, eP, e, hLd, hLk, hLf⟩, F.above⟩
  have ok' : Ok G c' d := by
    refine ⟨⟨env', env₀ :: outer, Around.frames_deeper hA, rfl, hk, ⟨by rw [hkf]; decide, hfr, ⟨es, eP, hLd⟩, Fs.up u⟩, fun _ => rfl⟩, ok.kin, ok.top, ok.hh, ?_, ?_, hk, rfl, rfl, fun _ => x.apart, fun _ => rfl, fun _ => rfl, ok.ex⟩
    · have := ok.dep
      show c.A.depth + 1 + d < recursionLimit
      omega
    · have := ok.uni
      show c.A.units + 3 + 8 * d + 64 < cLine
      omega
  have hall : ∀ p ∈ (fr ++ (c.xt ++ ex)) ++ ρ.zip os, h₁.get? p.1 = some p.2 ∧ p.1 ≠ s.heap.objs.size ∧ c.h₀.get? p.1 = none := fun p hp => ⟨hk₁ _ _ (N p hp).1, Nat.ne_of_lt (Heap.lt_size (N p hp).1), (N p hp).2.2⟩
  have S' : St c' mr' ρ H h₁ := by
    refine ⟨bindL env'.kindOf (names.zip (vs ++ dv)) (fun _ => none), (c.L, oL) :: fr, cells, ?_, TI.SameUp.refl _, ⟨x.toInCall.ns, fun b o e => hk₁ b o (F.keep b o e), Nat.le_trans F.above (Nat.le_of_lt hLt)⟩, os, a1, a2, a3, ?_, ?_⟩
    · refine ⟨rfl, fun y hy => ?_, fun y hy => ?_⟩
      · show _ = if env'.kindOf y = some .local then _ else _
        rw [if_pos hy]
      · rcases hy with hy | hy
        · have hs : ((cellsFrom (s.heap.objs.size + 1) scope.names []).lookup y).isSome = true := cellsFrom_some _ _ _ (.inl hy)
          obtain ⟨a, ha⟩ := Option.isSome_iff_exists.mp hs
          obtain ⟨o, h1, h2⟩ := cells_get Y ha
          refine ⟨a, o, ha, h1, h2.trans ?_⟩
          have hnl : ¬ env'.kindOf y = some .local := by
            intro q
            have q' : env'.kindOf y = some .cell := hy
            rw [q] at q'
            cases q'
          show _ = Data.cell (if env'.kindOf y = some .local then _ else _)
          rw [if_neg hnl]
          rfl
        · exact absurd hy (nofree hnf')
    · intro p hp
      replace hp : p ∈ (((c.L, oL) :: fr) ++ ((c.xt ++ ex) ++ cells)) ++ ρ.zip os := hp
      simp only [List.cons_append, List.append_assoc, List.mem_cons, List.mem_append] at hp
      rcases hp with rfl | hp | hp | hp | hp | hp
      · exact ⟨hk₁ _ _ hL, Nat.ne_of_lt hLt, Heap.get?_none_of_le F.above⟩
      · exact hall p (by simp [hp])
      · exact hall p (by simp [hp])
      · exact hall p (by simp [hp])
      · exact ⟨(NC p hp).1, (NC p hp).2.1, TI.none_of F.keep (NC p hp).2.2⟩
      · exact hall p (by simp [hp])
    · have hLn : c.L ∉ (fr ++ (c.xt ++ ex)).map (·.1) ++ ρ := fun q => by
        obtain ⟨p, hp, e⟩ := led_addr (os := os) a1 a2 q
        exact (N p hp).2.1 e
      have hcn : ∀ a ∈ cells.map (·.1), s.heap.get? a = none := fun a ha => by
        obtain ⟨p, hp, rfl⟩ := List.mem_map.mp ha
        exact (NC p hp).2.2
      have hcnd : (cells.map (·.1)).Nodup := by
        rw [cells_addrs Y]
        exact List.pairwise_map.mpr x.apart
      have hp : ((((c.L, oL) :: fr) ++ ((c.xt ++ ex) ++ cells)).map (·.1) ++ ρ).Perm (cells.map (·.1) ++ (c.L :: ((fr ++ (c.xt ++ ex)).map (·.1) ++ ρ))) := by
        simp only [List.map_append, List.map_cons, List.cons_append, List.append_assoc]
        have : ∀ (A B C R : List Addr), (A ++ (B ++ (C ++ R))).Perm (C ++ (A ++ (B ++ R))) := by
          intro A B C R
          have h1 : ((A ++ B) ++ C ++ R).Perm (C ++ (A ++ B) ++ R) := List.perm_append_comm.append_right R
          simpa [List.append_assoc] using h1
        have h2 := this (c.L :: fr.map (·.1)) (c.xt.map (·.1) ++ ex.map (·.1)) (cells.map (·.1)) ρ
        simpa [List.append_assoc] using h2
      rw [hp.nodup_iff, List.nodup_append]
      refine ⟨hcnd, List.nodup_cons.mpr ⟨hLn, a5⟩, fun a ha b hb e => ?_⟩
      subst e
      have h0 := hcn a ha
      rcases List.mem_cons.mp hb with q | q
      · rw [q, hL] at h0; cases h0
      · obtain ⟨p, hp, e⟩ := led_addr (os := os) a1 a2 q
        have := (N p hp).1
        rw [e, h0] at this
        cases this
  have l' : LR mr' nm ρ (start nm (args ++ dm)) := by
    have hle : names.length ≤ nm.length := by
      have := congrArg List.length hn1
      rw [List.length_take] at this
      omega
    refine ⟨by unfold start; rw [List.length_append, List.length_map, List.length_replicate]; omega, fun i y v e1 e2 => ?_⟩
    unfold start at e2
    by_cases hi : i < (args ++ dm).length
    · rw [List.getElem?_append_left (by rw [List.length_map]; exact hi), List.getElem?_map] at e2
      cases q : (args ++ dm)[i]? with
      | none => rw [q] at e2; cases e2
      | some v' =>
        rw [q] at e2
        cases e2
        obtain ⟨vr, g1, g2⟩ := hvd.get q
        have hy : names[i]? = some y := by
          rw [hn1, List.getElem?_take_of_lt (by rw [← hl]; exact hi)]
          exact slot_get e1
        refine ⟨vr, g2, ?_⟩
        show (if env'.kindOf y = some .local then _ else _) = _
        split
        · rename_i q; exact bindL_at q hnn hy g1
        · rename_i q; exact bindC_at q hnn hy g1
    · rw [List.getElem?_append_right (by rw [List.length_map]; omega), List.getElem?_replicate] at e2
      split at e2 <;> cases e2
  refine h c' rfl rfl ok' rfl rfl rfl rfl mr' ρ { s with heap := h₁, toks := tk } _ _ S' l' ?_ ?_
  · intro t fl fr' m' mr'' H' h' tk' hp hfl S2 _
    have S3 : St c mr (ρ ++ t) H' h' := O.back S2 fun b o _ q => q
    cases fl with
    | ret v =>
      obtain ⟨vr, rfl, hv⟩ := hfl
      exact k t v vr H' h' tk' hp hv S3
    | next => subst hfl; exact k t .none .none H' h' tk' hp rfl S3
    | brk => subst hfl; exact k t .none .none H' h' tk' hp rfl S3
    | cont => subst hfl; exact k t .none .none H' h' tk' hp rfl S3
  · intro t C as e m' mr'' H' h' tk' hX hF hL'
    refine Fly.leave (c := c') (s := { s with heap := h', toks := tk' }) ok' rfl rfl hF fun h2 f2 => ?_
    exact kx t C as e H' h2 tk' hX (O.fly f2)
mutual
inductive CE where
  | int (i : Int)
  | str (x : Str)
  | none
  | bool (b : Bool)
  | loc (i : Nat)
  | glob (x : Str)
  | bin (op : Operator) (a b : CE)
  | neg (a : CE)
  | tst (t : CT)
  | ite (t : CT) (a b : CE)
  | call (g : Str) (as : CEs)
  | meth (o : CE) (n : Str) (as : CEs)
  | attr (o : CE) (n : Str)
  | sub (o i : CE)
  | slice (o : CE) (lo hi : CO)
  | list (as : CEs)
  | tup (as : CEs)
  | dict0
  | comp (elt : CE) (tg : List Str) (it : CE) (cs : CTs)
inductive CEs where
  | nil
  | cons (e : CE) (r : CEs)
inductive CO where
  | none
  | some (e : CE)
inductive CT where
  | cmp (op : CmpOp) (a b : CE)
  | cmp2 (a : CE) (o1 : CmpOp) (b : CE) (o2 : CmpOp) (c : CE)
  | not (t : CT)
  | and (ts : CTs)
  | or (ts : CTs)
  | plain (e : CE)
inductive CTs where
  | nil
  | cons (t : CT) (r : CTs)
end
mutual
inductive CS where
  | assign (i : Nat) (e : CE)
  | assignT (is : List Nat) (e : CE)
  | setItem (o i e : CE)
  | setAttr (o : CE) (n : Str) (e : CE)
  | swap (o1 i1 o2 i2 e1 e2 : CE)
  | expr (e : CE)
  | ite (t : CT) (a b : CSs)
  | while (t : CT) (b : CSs)
  | for (tg : List Nat) (it : CE) (b : CSs)
  | ret (e : CE)
  | ret0
  | raise (g : Str) (as : CEs)
  | raiseFrom (g : Str) (as : CEs) (c : CE)
  | try (b : CSs) (h : CHs)
  | brk
  | cont
  | pass
inductive CSs where
  | nil
  | cons (s : CS) (r : CSs)
inductive CHs where
  | nil
  | cons (g : Str) (x : Option Nat) (b : CSs) (r : CHs)
end
noncomputable def kids : PySem.Expr → List PySem.Expr
  | .BinOp l _ r _ => [l, r]
  | .UnaryOp _ x _ => [x]
  | .IfExp a b c _ => [a, b, c]
  | .Compare l _ rs _ => l :: rs
  | .Call f as _ _ => f :: as
  | .Attribute o _ _ => [o]
  | .Subscript o i _ => [o, i]
  | .List es _ => es
  | .Tuple es _ _ => es
  | .BoolOp _ es _ => es
  | .ListComp el [⟨t, i, ifs, _⟩] _ _ => el :: t :: i :: ifs
  | .Slice l h _ _ => l.toList ++ h.toList
  | _ => []
noncomputable def numOf : PySem.Expr → Nat
  | .Constant _ k _ => k
  | .Tuple _ k _ => k
  | _ => 0
noncomputable def scOf : PySem.Expr → Scope
  | .ListComp _ _ s _ => s
  | _ => default
noncomputable def kid (i : Nat) (e : PySem.Expr) : PySem.Expr := (kids e).getD i e
noncomputable def nth (i : Nat) (es : List PySem.Expr) : PySem.Expr := es.getD i (.Name "" default)
noncomputable def reNames (ns : List Str) (es : List PySem.Expr) : List PySem.Expr := match ns with
  | [] => []
  | x :: r => .Name x (nth 0 es).pos :: reNames r es.tail
noncomputable def reTg (ns : List Str) (e : PySem.Expr) : PySem.Expr := match ns with
  | [x] => .Name x e.pos
  | ns => .Tuple (reNames ns (kids e)) (numOf e) e.pos
mutual
noncomputable def reE : CE → List Str → PySem.Expr → PySem.Expr
  | .int i => fun _ e => .Constant (.int i) (numOf e) e.pos
  | .str x => fun _ e => .Constant (.str x) (numOf e) e.pos
  | .none => fun _ e => .Constant .none (numOf e) e.pos
  | .bool b => fun _ e => .Constant (.bool b) (numOf e) e.pos
  | .loc i => fun nm e => .Name (nm.getD i "") e.pos
  | .glob x => fun _ e => .Name x e.pos
  | .bin op a b => fun nm e => .BinOp (reE a nm (kid 0 e)) op (reE b nm (kid 1 e)) e.pos
  | .neg a => fun nm e => .UnaryOp .USub (reE a nm (kid 0 e)) e.pos
  | .tst t => fun nm e => reT t nm e
  | .ite t a b => fun nm e => .IfExp (reT t nm (kid 0 e)) (reE a nm (kid 1 e)) (reE b nm (kid 2 e)) e.pos
  | .call g as => fun nm e => .Call (.Name g (kid 0 e).pos) (reEs as nm (kids e).tail) [] e.pos
  | .meth o n as => fun nm e => .Call (.Attribute (reE o nm (kid 0 (kid 0 e))) n (kid 0 e).pos) (reEs as nm (kids e).tail) [] e.pos
  | .attr o n => fun nm e => .Attribute (reE o nm (kid 0 e)) n e.pos
  | .sub o i => fun nm e => .Subscript (reE o nm (kid 0 e)) (reE i nm (kid 1 e)) e.pos
  | .slice o lo hi => fun nm e => .Subscript (reE o nm (kid 0 e)) (.Slice (reO lo nm (nth 0 (kids (kid 1 e)))) (reO hi nm (nth 0 (kids (kid 1 e)).reverse)) Option.none (kid 1 e).pos) e.pos
  | .list as => fun nm e => .List (reEs as nm (kids e)) e.pos
  | .tup as => fun nm e => .Tuple (reEs as nm (kids e)) (numOf e) e.pos
  | .dict0 => fun _ e => .Dict [] [] e.pos
  | .comp elt tg it cs => fun nm e => .ListComp (reE elt (nm ++ tg) (kid 0 e)) [⟨reTg tg (kid 1 e), reE it nm (kid 2 e), reTs cs (nm ++ tg) ((kids e).drop 3), 0⟩] (scOf e) e.pos
noncomputable def reEs : CEs → List Str → List PySem.Expr → List PySem.Expr
  | .nil => fun _ _ => []
  | .cons a r => fun nm es => reE a nm (nth 0 es) :: reEs r nm es.tail
noncomputable def reO : CO → List Str → PySem.Expr → Option PySem.Expr
  | .none => fun _ _ => Option.none
  | .some a => fun nm e => Option.some (reE a nm e)
noncomputable def reT : CT → List Str → PySem.Expr → PySem.Expr
  | .cmp op a b => fun nm e => .Compare (reE a nm (kid 0 e)) [op] [reE b nm (kid 1 e)] e.pos
  | .cmp2 a o1 b o2 c => fun nm e => .Compare (reE a nm (kid 0 e)) [o1, o2] [reE b nm (kid 1 e), reE c nm (kid 2 e)] e.pos
  | .not t => fun nm e => .UnaryOp .Not (reT t nm (kid 0 e)) e.pos
  | .and ts => fun nm e => .BoolOp .And (reTs ts nm (kids e)) e.pos
  | .or ts => fun nm e => .BoolOp .Or (reTs ts nm (kids e)) e.pos
  | .plain a => fun nm e => reE a nm e
noncomputable def reTs : CTs → List Str → List PySem.Expr → List PySem.Expr
  | .nil => fun _ _ => []
  | .cons t r => fun nm es => reT t nm (nth 0 es) :: reTs r nm es.tail
end
noncomputable def notSup : PySem.Expr → Bool
  | .Call (.Name _ _) [] [] _ => false
  | _ => true
noncomputable def notSlice : PySem.Expr → Bool
  | .Slice .. => false
  | _ => true
noncomputable def notStar : PySem.Expr → Bool
  | .Starred .. => false
  | _ => true
noncomputable def notComp : PySem.Expr → Bool
  | .ListComp .. => false
  | .SetComp .. => false
  | .DictComp .. => false
  | _ => true
noncomputable def notTuple : PySem.Expr → Bool
  | .Tuple .. => false
  | _ => true
noncomputable def plainX : PySem.Expr → Bool
  | .UnaryOp .Not _ _ => false
  | .BoolOp .. => false
  | .IfExp .. => false
  | .Compare .. => false
  | _ => true
noncomputable def nonPlain : CT → Bool
  | .plain _ => false
  | _ => true
noncomputable def plainC : CE → Bool
  | .tst _ => false
  | .ite .. => false
  | _ => true
noncomputable def nsup : CE → Bool
  | .call _ .nil => false
  | _ => true
noncomputable def okNames (p : Str → Bool) : List Str → Bool
  | [] => true
  | x :: r => p x && !r.contains x && okNames p r
noncomputable def compb (sc scope : Scope) (tg : List Str) : Bool :=
  scope.kind == .function && scope.names.all fun p => match p.2 with
    | .local => (p.1 == (".0" : Str) || tg.contains p.1) && scope.names.lookup p.1 == some .local
    | .free => kcl (sc.names.lookup p.1) == 2 && !tg.contains p.1
    | .globalImplicit => true
    | _ => false
noncomputable def lenEs : CEs → Nat
  | .nil => 0
  | .cons _ r => lenEs r + 1
noncomputable def okSlot (nm : List Str) (i : Nat) : Bool := slot nm (nm.getD i "") == some i
mutual
noncomputable def wfE : CE → List Str → Scope → PySem.Expr → Bool
  | .int _ => fun _ _ _ => true
  | .str _ => fun _ _ _ => true
  | .none => fun _ _ _ => true
  | .bool _ => fun _ _ _ => true
  | .loc i => fun nm sc _ => okSlot nm i && rdb sc (nm.getD i "")
  | .glob x => fun _ sc _ => glb sc x
  | .bin _ a b => fun nm sc e => wfE a nm sc (kid 0 e) && wfE b nm sc (kid 1 e)
  | .neg a => fun nm sc e => wfE a nm sc (kid 0 e)
  | .tst t => fun nm sc e => nonPlain t && wfT t nm sc e
  | .ite t a b => fun nm sc e => wfT t nm sc (kid 0 e) && wfE a nm sc (kid 1 e) && wfE b nm sc (kid 2 e)
  | .call g as => fun nm sc e => glb sc g && wfEs as nm sc (kids e).tail
  | .meth o _ as => fun nm sc e => nsup o && (kid 0 e).pos.endLine == e.pos.line && lenEs as < 30 && wfE o nm sc (kid 0 (kid 0 e)) && wfEs as nm sc (kids e).tail
  | .attr o _ => fun nm sc e => nsup o && wfE o nm sc (kid 0 e)
  | .sub o i => fun nm sc e => wfE o nm sc (kid 0 e) && wfE i nm sc (kid 1 e)
  | .slice o lo hi => fun nm sc e => wfE o nm sc (kid 0 e) && wfO lo nm sc (nth 0 (kids (kid 1 e))) && wfO hi nm sc (nth 0 (kids (kid 1 e)).reverse)
  | .list as => fun nm sc e => wfEs as nm sc (kids e)
  | .tup as => fun nm sc e => wfEs as nm sc (kids e)
  | .dict0 => fun _ _ _ => true
  | .comp elt tg it cs => fun nm sc e => !nm.contains (".0" : Str) && !tg.isEmpty && okNames (fun x => (scOf e).names.lookup x == some .local) tg && compb sc (scOf e) tg && wfE it nm sc (kid 2 e) && wfTs cs (nm ++ tg) (scOf e) ((kids e).drop 3) && wfE elt (nm ++ tg) (scOf e) (kid 0 e)
noncomputable def wfEs : CEs → List Str → Scope → List PySem.Expr → Bool
  | .nil => fun _ _ _ => true
  | .cons a r => fun nm sc es => wfE a nm sc (nth 0 es) && wfEs r nm sc es.tail
noncomputable def wfO : CO → List Str → Scope → PySem.Expr → Bool
  | .none => fun _ _ _ => true
  | .some a => fun nm sc e => wfE a nm sc e
noncomputable def wfT : CT → List Str → Scope → PySem.Expr → Bool
  | .cmp _ a b => fun nm sc e => wfE a nm sc (kid 0 e) && wfE b nm sc (kid 1 e)
  | .cmp2 a _ b _ c => fun nm sc e => wfE a nm sc (kid 0 e) && wfE b nm sc (kid 1 e) && wfE c nm sc (kid 2 e)
  | .not t => fun nm sc e => wfT t nm sc (kid 0 e)
  | .and ts => fun nm sc e => wfTs ts nm sc (kids e)
  | .or ts => fun nm sc e => wfTs ts nm sc (kids e)
  | .plain a => fun nm sc e => plainC a && wfE a nm sc e
noncomputable def wfTs : CTs → List Str → Scope → List PySem.Expr → Bool
  | .nil => fun _ _ _ => true
  | .cons t r => fun nm sc es => wfT t nm sc (nth 0 es) && wfTs r nm sc es.tail
end
noncomputable def exps : Stmt → List PySem.Expr
  | .Assign ts v _ => v :: ts
  | .Expr v _ => [v]
  | .If t _ _ _ => [t]
  | .While t _ _ _ => [t]
  | .For t i _ _ _ => [t, i]
  | .Return v _ => v.toList
  | .Raise x c _ => x.toList ++ c.toList
  | _ => []
noncomputable def bl0 : Stmt → List Stmt
  | .If _ b _ _ => b
  | .While _ b _ _ => b
  | .For _ _ b _ _ => b
  | .Try b _ _ _ _ => b
  | _ => []
noncomputable def bl1 : Stmt → List Stmt
  | .If _ _ b _ => b
  | _ => []
noncomputable def hsOf : Stmt → List ExceptHandler
  | .Try _ h _ _ _ => h
  | _ => []
noncomputable def ex (i : Nat) (st : Stmt) : PySem.Expr := nth i (exps st)
noncomputable def hBody : ExceptHandler → List Stmt
  | .ExceptHandler _ _ b _ => b
noncomputable def hPos : ExceptHandler → Pos
  | .ExceptHandler _ _ _ p => p
noncomputable def hTy : ExceptHandler → Pos
  | .ExceptHandler (some t) _ _ _ => t.pos
  | .ExceptHandler none _ _ p => p
noncomputable def nthS (ss : List Stmt) : Stmt := ss.headD (.Pass default)
noncomputable def nthH (hs : List ExceptHandler) : ExceptHandler := hs.headD (.ExceptHandler none none [] default)
noncomputable def atNm (nm : List Str) (is : List Nat) : List Str := is.map fun i => nm.getD i ""
mutual
noncomputable def reS : CS → List Str → Stmt → Stmt
  | .assign i a => fun nm st => .Assign [.Name (nm.getD i "") (ex 1 st).pos] (reE a nm (ex 0 st)) st.pos
  | .assignT is a => fun nm st => .Assign [.Tuple (reNames (atNm nm is) (kids (ex 1 st))) (numOf (ex 1 st)) (ex 1 st).pos] (reE a nm (ex 0 st)) st.pos
  | .setItem o i a => fun nm st => .Assign [.Subscript (reE o nm (kid 0 (ex 1 st))) (reE i nm (kid 1 (ex 1 st))) (ex 1 st).pos] (reE a nm (ex 0 st)) st.pos
  | .setAttr o n a => fun nm st => .Assign [.Attribute (reE o nm (kid 0 (ex 1 st))) n (ex 1 st).pos] (reE a nm (ex 0 st)) st.pos
  | .swap o1 i1 o2 i2 a1 a2 => fun nm st => .Assign [.Tuple [.Subscript (reE o1 nm (kid 0 (kid 0 (ex 1 st)))) (reE i1 nm (kid 1 (kid 0 (ex 1 st)))) (kid 0 (ex 1 st)).pos, .Subscript (reE o2 nm (kid 0 (kid 1 (ex 1 st)))) (reE i2 nm (kid 1 (kid 1 (ex 1 st)))) (kid 1 (ex 1 st)).pos] (numOf (ex 1 st)) (ex 1 st).pos]
      (.Tuple [reE a1 nm (kid 0 (ex 0 st)), reE a2 nm (kid 1 (ex 0 st))] (numOf (ex 0 st)) (ex 0 st).pos) st.pos
  | .expr a => fun nm st => .Expr (reE a nm (ex 0 st)) st.pos
  | .ite t a b => fun nm st => .If (reT t nm (ex 0 st)) (reSs a nm (bl0 st)) (reSs b nm (bl1 st)) st.pos
  | .while t b => fun nm st => .While (reT t nm (ex 0 st)) (reSs b nm (bl0 st)) [] st.pos
  | .for is it b => fun nm st => .For (reTg (atNm nm is) (ex 0 st)) (reE it nm (ex 1 st)) (reSs b nm (bl0 st)) [] st.pos
  | .ret a => fun nm st => .Return (some (reE a nm (ex 0 st))) st.pos
  | .ret0 => fun _ st => .Return none st.pos
  | .raise g as => fun nm st => .Raise (some (.Call (.Name g (kid 0 (ex 0 st)).pos) (reEs as nm (kids (ex 0 st)).tail) [] (ex 0 st).pos)) none st.pos
  | .raiseFrom g as c => fun nm st => .Raise (some (.Call (.Name g (kid 0 (ex 0 st)).pos) (reEs as nm (kids (ex 0 st)).tail) [] (ex 0 st).pos)) (some (reE c nm (ex 1 st))) st.pos
  | .try b h => fun nm st => .Try (reSs b nm (bl0 st)) (reHs h nm (hsOf st)) [] [] st.pos
  | .brk => fun _ st => .Break st.pos
  | .cont => fun _ st => .Continue st.pos
  | .pass => fun _ st => .Pass st.pos
noncomputable def reSs : CSs → List Str → List Stmt → List Stmt
  | .nil => fun _ _ => []
  | .cons a r => fun nm ss => reS a nm (nthS ss) :: reSs r nm ss.tail
noncomputable def reHs : CHs → List Str → List ExceptHandler → List ExceptHandler
  | .nil => fun _ _ => []
  | .cons g x b r => fun nm hs => .ExceptHandler (some (.Name g (hTy (nthH hs)))) (x.map fun i => nm.getD i "") (reSs b nm (hBody (nthH hs))) (hPos (nthH hs)) :: reHs r nm hs.tail
end
noncomputable def isComp : CE → Bool
  | .comp .. => true
  | _ => false
noncomputable def isTup : CE → Bool
  | .tup .. => true
  | _ => false
noncomputable def notNilS : CSs → Bool
  | .nil => false
  | _ => true
mutual
noncomputable def wfS : CS → List Str → Scope → Stmt → Bool
  | .assign i a => fun nm sc st => okSlot nm i && stb sc (nm.getD i "") && wfE a nm sc (ex 0 st)
  | .assignT is a => fun nm sc st => is.all (fun i => okSlot nm i && stb sc (nm.getD i "")) && decide (1 < is.length) && !isTup a && !isComp a && wfE a nm sc (ex 0 st)
  | .setItem o i a => fun nm sc st => wfE o nm sc (kid 0 (ex 1 st)) && wfE i nm sc (kid 1 (ex 1 st)) && wfE a nm sc (ex 0 st)
  | .setAttr o _ a => fun nm sc st => wfE o nm sc (kid 0 (ex 1 st)) && wfE a nm sc (ex 0 st)
  | .swap o1 i1 o2 i2 a1 a2 => fun nm sc st => wfE o1 nm sc (kid 0 (kid 0 (ex 1 st))) && wfE i1 nm sc (kid 1 (kid 0 (ex 1 st))) && wfE o2 nm sc (kid 0 (kid 1 (ex 1 st))) && wfE i2 nm sc (kid 1 (kid 1 (ex 1 st))) && wfE a1 nm sc (kid 0 (ex 0 st)) && wfE a2 nm sc (kid 1 (ex 0 st))
  | .expr a => fun nm sc st => !isComp a && wfE a nm sc (ex 0 st)
  | .ite t a b => fun nm sc st => wfT t nm sc (ex 0 st) && wfSs a nm sc (bl0 st) && wfSs b nm sc (bl1 st)
  | .while t b => fun nm sc st => wfT t nm sc (ex 0 st) && wfSs b nm sc (bl0 st)
  | .for is it b => fun nm sc st => !is.isEmpty && is.all (fun i => okSlot nm i && stb sc (nm.getD i "")) && wfE it nm sc (ex 1 st) && wfSs b nm sc (bl0 st)
  | .ret a => fun nm sc st => wfE a nm sc (ex 0 st)
  | .ret0 => fun _ _ _ => true
  | .raise g as => fun nm sc st => glb sc g && wfEs as nm sc (kids (ex 0 st)).tail
  | .raiseFrom g as c => fun nm sc st => glb sc g && wfEs as nm sc (kids (ex 0 st)).tail && wfE c nm sc (ex 1 st)
  | .try b h => fun nm sc st => wfSs b nm sc (bl0 st) && wfHs h nm sc (hsOf st)
  | .brk => fun _ _ _ => true
  | .cont => fun _ _ _ => true
  | .pass => fun _ _ _ => true
noncomputable def wfSs : CSs → List Str → Scope → List Stmt → Bool
  | .nil => fun _ _ _ => true
  | .cons a r => fun nm sc ss => wfS a nm sc (nthS ss) && wfSs r nm sc ss.tail
noncomputable def wfHs : CHs → List Str → Scope → List ExceptHandler → Bool
  | .nil => fun _ _ _ => true
  | .cons g x b r => fun nm sc hs => glb sc g && notNilS b && (match x with
      | none => true
      | some i => okSlot nm i && sc.names.lookup (nm.getD i "") == some .local) && wfSs b nm sc (hBody (nthH hs)) && wfHs r nm sc hs.tail
end
noncomputable def AR (c : Cx) (m : ML) (es : List PySem.Expr) (pos : Pos) (H : MH) (post : List MV → MH → Prop) : Prop :=
  ∀ (mr : Str → Option Value) (ρ : List Addr) (s : Shared) (Q : List Value → Shared → Prop) (E : Value → Shared → Prop), St c mr ρ H s.heap → LR mr c.nm ρ m →
    (∀ t vs vrs H' h' tk, post vs H' → VRs (ρ ++ t) vs vrs → St c mr (ρ ++ t) H' h' → Q vrs { s with heap := h', toks := tk }) → Kx c ρ s E →
    wpAny (model c.prog c.w) c.A (spliced (backTo pos (starEach es c.env))) Q E s
noncomputable def IT (c : Cx) (m : ML) (e : PySem.Expr) (H : MH) (post : Bool → MH → Prop) : Prop :=
  ∀ (whole : Sem Value) (mr : Str → Option Value) (ρ : List Addr) (s : Shared) (Q : Bool → Shared → Prop) (E : Value → Shared → Prop), (plainX e = true → whole = eval e c.env) → St c mr ρ H s.heap → LR mr c.nm ρ m →
    (∀ t b H' h' tk, post b H' → St c mr (ρ ++ t) H' h' → Q b { s with heap := h', toks := tk }) → Kx c ρ s E →
    wpAny (model c.prog c.w) c.A (isTrue e c.env whole) Q E s
noncomputable def IB (c : Cx) (m : ML) (op : BoolOp) (es : List PySem.Expr) (H : MH) (post : Bool → MH → Prop) : Prop :=
  ∀ (mr : Str → Option Value) (ρ : List Addr) (s : Shared) (Q : Bool → Shared → Prop) (E : Value → Shared → Prop), St c mr ρ H s.heap → LR mr c.nm ρ m →
    (∀ t b H' h' tk, post b H' → St c mr (ρ ++ t) H' h' → Q b { s with heap := h', toks := tk }) → Kx c ρ s E →
    wpAny (model c.prog c.w) c.A (allTrue op es c.env) Q E s
noncomputable def X1 (c : Cx) (m : ML) (st : Stmt) (H : MH) (post : Fl → ML → MH → Prop) : Prop :=
  ∀ (mr : Str → Option Value) (ρ : List Addr) (s : Shared) (Q : Flow → Shared → Prop) (E : Value → Shared → Prop), St c mr ρ H s.heap → LR mr c.nm ρ m →
    (∀ t f fr m' mr' H' h' tk, post f m' H' → FlR (ρ ++ t) f fr → St c mr' (ρ ++ t) H' h' → LR mr' c.nm (ρ ++ t) m' → Q fr { s with heap := h', toks := tk }) → Kx c ρ s E →
    wpAny (model c.prog c.w) c.A (exec st c.env) Q E s
def TE (c : Cx) (m : ML) (a : CE) (H : MH) (post : MV → MH → Prop) : Prop := ∀ e, wfE a c.nm c.sc e = true → EV c m (reE a c.nm e) H post
def TEs (c : Cx) (m : ML) (as : CEs) (H : MH) (post : List MV → MH → Prop) : Prop := ∀ es pos, wfEs as c.nm c.sc es = true → AR c m (reEs as c.nm es) pos H post
def TT (c : Cx) (m : ML) (t : CT) (H : MH) (post : Bool → MH → Prop) : Prop := ∀ e, wfT t c.nm c.sc e = true → IT c m (reT t c.nm e) H post
def TTs (c : Cx) (m : ML) (op : BoolOp) (ts : CTs) (H : MH) (post : Bool → MH → Prop) : Prop := ∀ es, wfTs ts c.nm c.sc es = true → IB c m op (reTs ts c.nm es) H post
def TV (c : Cx) (m : ML) (t : CT) (H : MH) (post : MV → MH → Prop) : Prop := ∀ e, nonPlain t = true → wfT t c.nm c.sc e = true → EV c m (reT t c.nm e) H post
def TS (c : Cx) (m : ML) (a : CS) (H : MH) (post : Fl → ML → MH → Prop) : Prop := ∀ st, wfS a c.nm c.sc st = true → X1 c m (reS a c.nm st) H post
def TB (c : Cx) (m : ML) (b : CSs) (H : MH) (post : Fl → ML → MH → Prop) : Prop := ∀ ss, wfSs b c.nm c.sc ss = true → EX c m (reSs b c.nm ss) H post
section
variable {c : Cx} {m : ML} {H : MH} {G : Gx} {d : Nat}
theorem TE.mono {a : CE} {p q : MV → MH → Prop} (h : TE c m a H p) (hp : ∀ v H', p v H' → q v H') : TE c m a H q := fun e he => (h e he).mono hp
theorem TT.mono {t : CT} {p q : Bool → MH → Prop} (h : TT c m t H p) (hp : ∀ v H', p v H' → q v H') : TT c m t H q :=
  fun e he wh mr ρ s Q E hw S l k kx => h e he wh mr ρ s Q E hw S l (fun t v H' h' tk hv => k t v H' h' tk (hp _ _ hv)) kx
theorem TS.mono {a : CS} {p q : Fl → ML → MH → Prop} (h : TS c m a H p) (hp : ∀ f m' H', p f m' H' → q f m' H') : TS c m a H q :=
  fun st hs mr ρ s Q E S l k kx => h st hs mr ρ s Q E S l (fun t f fr m' mr' H' h' tk hv => k t f fr m' mr' H' h' tk (hp _ _ _ hv)) kx
theorem TB.mono {a : CSs} {p q : Fl → ML → MH → Prop} (h : TB c m a H p) (hp : ∀ f m' H', p f m' H' → q f m' H') : TB c m a H q :=
  fun st hs mr ρ s Q E S l k kx => h st hs mr ρ s Q E S l (fun t f fr m' mr' H' h' tk hv => k t f fr m' mr' H' h' tk (hp _ _ _ hv)) kx
theorem and2 {a b : Bool} (h : (a && b) = true) : a = true ∧ b = true := (Bool.and_eq_true a b).mp h
theorem and3 {a b c : Bool} (h : (a && b && c) = true) : a = true ∧ b = true ∧ c = true := ⟨(and2 (and2 h).1).1, (and2 (and2 h).1).2, (and2 h).2⟩
theorem TE.int {i : Int} {post : MV → MH → Prop} (h : post (.int i) H) : TE c m (.int i) H post := by
  intro e he mr ρ s Q E S l k kx
  exact wpAny_Constant_int (k [] (.int i) _ H s.heap _ h ⟨_, rfl⟩ (nil_of S))
theorem TE.str {x : Str} {post : MV → MH → Prop} (h : post (.str x) H) : TE c m (.str x) H post := by
  intro e he mr ρ s Q E S l k kx
  exact wpAny_Constant_str (k [] (.str x) _ H s.heap _ h ⟨_, rfl⟩ (nil_of S))
theorem TE.bool {b : Bool} {post : MV → MH → Prop} (h : post (.bool b) H) : TE c m (.bool b) H post := by
  intro e he mr ρ s Q E S l k kx
  exact wpAny_Constant_bool (k [] (.bool b) _ H s.heap s.toks h rfl (nil_of S))
theorem TE.loc (ok : Ok G c d) {i : Nat} {v : MV} {post : MV → MH → Prop} (hm : m[i]? = some (some v)) (h : post v H) : TE c m (.loc i) H post := by
  intro e he mr ρ s Q E S l k kx
  obtain ⟨h1, h2⟩ := and2 he
  obtain ⟨vr, h3, h4⟩ := l.2 _ _ _ (beq_iff_eq.mp h1) hm
  exact read ok S h2 h4 (k [] v vr H s.heap s.toks h (by rw [List.append_nil]; exact h3) (nil_of S))
theorem nameG (ok : Ok G c d) {mr : Str → Option Value} {ρ : List Addr} {s : Shared} {x : Str} {pos : Pos} {v : Value} {Q E} (S : St c mr ρ H s.heap) (hx : glb c.sc x = true) (hg : nsIn G.K mainGlobals x = some (some v)) (h : Q v s) :
    wpAny (model c.prog c.w) c.A (eval (.Name x pos) c.env) Q E s := by
  unfold glb at hx
  simp only [Bool.and_eq_true, beq_iff_eq, bne_iff_ne, ne_eq] at hx
  have hd' : (x == ("__debug__" : Str)) = false := by simpa using hx.1
  have hk := kcl3 ((ok.kd x).trans hx.2)
  exact Name_function_global ok.fn hk (loadGlobal_global (env := c.env) (by rw [ok.gl]; exact ok.top.g.keeps S.keep) (mg_of ok.kin ok.top.g hg) h) hd'
theorem nameB (ok : Ok G c d) {mr : Str → Option Value} {ρ : List Addr} {s : Shared} {x : Str} {pos : Pos} {v : Value} {Q E} (S : St c mr ρ H s.heap) (hx : glb c.sc x = true) (hg : nsIn G.K mainGlobals x = some Option.none)
    (hb : bootBuiltins x = some v) (hn : x ≠ "__name__") (h : Q v s) : wpAny (model c.prog c.w) c.A (eval (.Name x pos) c.env) Q E s := by
  unfold glb at hx
  simp only [Bool.and_eq_true, beq_iff_eq, bne_iff_ne, ne_eq] at hx
  have hd' : (x == ("__debug__" : Str)) = false := by simpa using hx.1
  have hk := kcl3 ((ok.kd x).trans hx.2)
  have T := topRead_of ok.top
  exact Name_function_global ok.fn hk (loadGlobal_builtin (env := c.env) (by rw [ok.gl]; exact T.g.keeps S.keep) (mg_none_of ok.kin T.g hg) (by rw [ok.bi]; exact T.b.keeps S.keep) ((T.builtins x hn).trans hb) h) hd'
theorem TE.glob (ok : Ok G c d) {x : Str} {v : MV} {vr : Value} {post : MV → MH → Prop} (hg : nsIn G.K mainGlobals x = some (some vr)) (hv : VR [] v vr) (h : post v H) : TE c m (.glob x) H post := by
  intro e he mr ρ s Q E S l k kx
  exact nameG ok S he hg (k [] v vr H s.heap s.toks h (by rw [List.append_nil]; have := hv.mono (t := ρ); rwa [List.nil_append] at this) (nil_of S))
theorem fm {a p : Int} (h : 0 < p) : a.fmod p = a % p := Int.fmod_eq_emod_of_nonneg _ (by omega)
inductive BinI : Operator → MV → MV → MV → Prop where
  | add {x y : Int} : BinI .Add (.int x) (.int y) (.int (x + y))
  | sub {x y : Int} : BinI .Sub (.int x) (.int y) (.int (x - y))
  | mul {x y : Int} (h : IntMulOk x y) : BinI .Mult (.int x) (.int y) (.int (x * y))
  | mod {x y : Int} (h : y ≠ 0) : BinI .Mod (.int x) (.int y) (.int (x.fmod y))
  | modP {x y : Int} (h : 0 < y) : BinI .Mod (.int x) (.int y) (.int (x % y))
  | div {x y : Int} (h : y ≠ 0) (h2 : y.natAbs < 1073741824) : BinI .FloorDiv (.int x) (.int y) (.int (x.fdiv y))
  | band {x y : Int} : BinI .BitAnd (.int x) (.int y) (.int (Builtin.bitAnd x y))
  | shr {x y : Int} (h : 0 ≤ y) : BinI .RShift (.int x) (.int y) (.int (x.fdiv (2 ^ y.toNat)))
  | pow {x y : Int} (h0 : 0 ≤ y) (h1 : y ≤ 1000000) (h2 : x.natAbs < 2 ^ 64) : BinI .Pow (.int x) (.int y) (.int (x ^ y.toNat))
  | shl {x y : Int} (h0 : 0 ≤ y) (h1 : y ≤ 1000000) (h2 : x.natAbs < 2 ^ 64) : BinI .LShift (.int x) (.int y) (.int (x * 2 ^ y.toNat))
  | smul {x : Str} {n : Int} (h : MulOk x n) : BinI .Mult (.str x) (.int n) (.str (Txt.mul x n))
  | cat {x y : Str} (h : x.length + y.length ≤ 1000000) : BinI .Add (.str x) (.str y) (.str (x ++ y))
theorem bin_ok {op : Operator} {a b v : MV} {x y : Value} {ρ : List Addr} {s : Shared} {Q E} (hh : c.A.handled = Option.none) (hb : BinI op a b v) (ha : VR ρ a x) (hy : VR ρ b y) (k : ∀ z tk, VR ρ v z → Q z { s with toks := tk }) :
    wpAny (model c.prog c.w) c.A (binaryOp op x y) Q E s := by
  cases hb <;> obtain ⟨t, rfl⟩ := ha <;> obtain ⟨u, rfl⟩ := hy
  case add => exact add_int (k _ _ ⟨_, rfl⟩)
  case sub => exact sub_int (k _ _ ⟨_, rfl⟩)
  case mul h => exact mul_int (k _ _ ⟨_, rfl⟩) h
  case mod h => exact mod_int' h (k _ _ ⟨_, rfl⟩)
  case modP h => exact mod_int' (Int.ne_of_gt h) (by rw [fm h]; exact k _ _ ⟨_, rfl⟩)
  case div h h2 => exact floordiv_int h (k _ _ ⟨_, rfl⟩) (.inl (PyProof.noPylong_small h2))
  case band => exact and_int (k _ _ ⟨_, rfl⟩)
  case shr h => exact rshift_int_or hh (fun hn => absurd hn (Int.not_lt.mpr h)) fun _ => k _ _ ⟨_, rfl⟩
  case pow h0 h1 h2 => exact pow_int_small h0 h1 h2 (k _ _ ⟨_, rfl⟩)
  case shl h0 h1 h2 => exact lshift_int_small h0 h1 h2 (k _ _ ⟨_, rfl⟩)
  case smul h => exact SB.mul h fun _ _ => k _ _ ⟨_, rfl⟩
  case cat h => exact add_str (fun _ _ => k _ _ ⟨_, rfl⟩) (Nat.le_trans h (by decide))
theorem TE.op (ok : Ok G c d) {op : Operator} {a b : CE} {post : MV → MH → Prop} (h : TE c m a H (fun x H1 => TE c m b H1 (fun y H2 => ∃ v, BinI op x y v ∧ post v H2))) : TE c m (.bin op a b) H post := by
  intro e he mr ρ s Q E S l k kx
  obtain ⟨h2, h3⟩ := and2 he
  refine wpAny_BinOp ?_
  refine h _ h2 mr ρ s _ E S l ?_ kx
  intro t x xr H1 hp1 tk1 hr hx S1
  refine hr _ h3 mr (ρ ++ t) _ _ E S1 l.mono ?_ kx.mono
  rintro t' y yr H2 hp2 tk2 ⟨v, hv, hp⟩ hy S2
  refine bin_ok ok.hh hv hx.mono hy ?_
  intro z tk hz
  rw [List.append_assoc] at hz S2
  exact k (t ++ t') v z H2 hp2 tk hp hz S2
inductive NegI : MV → MV → Prop where
  | mk {i : Int} : NegI (.int i) (.int (-i))
theorem TE.negI {a : CE} {post : MV → MH → Prop} (h : TE c m a H (fun x H1 => ∃ v, NegI x v ∧ post v H1)) : TE c m (.neg a) H post := by
  intro e he mr ρ s Q E S l k kx
  refine wpAny_UnaryOp ?_
  refine h _ he mr ρ s _ E S l ?_ kx
  rintro t a ar H1 h1 tk1 ⟨v, ⟨⟩, hp⟩ ⟨u, rfl⟩ S1
  exact neg_int (k t _ _ H1 h1 _ hp ⟨_, rfl⟩ S1)
end
noncomputable def Cq (c : Cx) (op : CmpOp) (H : MH) (a b : MV) (r : Bool) : Prop :=
  ∀ (mr : Str → Option Value) (ρ : List Addr) (s : Shared) (Q : Value → Shared → Prop) (E : Value → Shared → Prop) (va vb : Value), St c mr ρ H s.heap → VR ρ a va → VR ρ b vb →
    (∀ h' tk, St c mr ρ H h' → Q (.bool r) { s with heap := h', toks := tk }) → wpAny (model c.prog c.w) c.A (compareOp op va vb) Q E s
noncomputable def cmpN (op : CmpOp) (x y : Int) : Option Bool := match op with
  | .Lt => some (decide (x < y))
  | .LtE => some (decide (x ≤ y))
  | .Gt => some (decide (y < x))
  | .GtE => some (decide (y ≤ x))
  | .Eq => some (decide (x = y))
  | .NotEq => some (!decide (x = y))
  | _ => none
noncomputable def cmpQ (op : CmpOp) (e : Bool) : Option Bool := match op with
  | .Eq => some e
  | .NotEq => some (!e)
  | _ => none
noncomputable def cmpZ (op : CmpOp) (e : Bool) : Option Bool := match op with
  | .Is => some e
  | .IsNot => some (!e)
  | _ => none
noncomputable def cmpV (op : CmpOp) : MV → MV → Option Bool
  | .int x, .int y => cmpN op x y
  | .str x, .str y => cmpQ op (decide (x = y))
  | .bool x, .bool y => cmpQ op (x == y)
  | .none, .none => cmpZ op true
  | .ref _, .none => cmpZ op false
  | _, _ => none
noncomputable def Cmp (op : CmpOp) (a b : MV) (r : Bool) : Prop := match cmpV op a b with
  | some s => r = s
  | none => False
section
variable {c : Cx} {m : ML} {H : MH} {G : Gx} {d : Nat}
theorem cq_of {op : CmpOp} {a b : MV} {r : Bool} (h : Cmp op a b r) : Cq c op H a b r := by
  intro mr ρ s Q E va vb S ha hb k
  have k' := k s.heap s.toks S
  cases a with
  | int x =>
    cases b with
    | int y =>
      obtain ⟨t, rfl⟩ := ha
      obtain ⟨u, rfl⟩ := hb
      cases op with
      | Lt => have e : r = _ := h; subst e; exact lt_int k'
      | LtE => have e : r = _ := h; subst e; exact le_int k'
      | Gt => have e : r = _ := h; subst e; exact gt_int k'
      | GtE => have e : r = _ := h; subst e; exact ge_int k'
      | Eq => have e : r = _ := h; subst e; exact PyProof.Rows.eq_int (by rw [show (x == y) = decide (x = y) from rfl]; exact k')
      | NotEq => have e : r = _ := h; subst e; exact PyProof.Rows.ne_int (by rw [show (x != y) = !decide (x = y) from rfl]; exact k')
      | _ => exact False.elim h
    | _ => exact False.elim h
  | str x =>
    cases b with
    | str y =>
      obtain ⟨t, rfl⟩ := ha
      obtain ⟨u, rfl⟩ := hb
      cases op with
      | Eq => have e : r = _ := h; subst e; exact PyProof.Rows.eq_str (by rw [show (x == y) = decide (x = y) from rfl]; exact k')
      | NotEq => have e : r = _ := h; subst e; exact PyProof.Rows.ne_str (by rw [show (x != y) = !decide (x = y) from rfl]; exact k')
      | _ => exact False.elim h
    | _ => exact False.elim h
  | bool x =>
    cases b with
    | bool y =>
      cases ha
      cases hb
      cases op with
      | Eq => have e : r = _ := h; subst e; exact PyProof.Rows.eq_bool k'
      | NotEq => have e : r = _ := h; subst e; exact PyProof.Rows.ne_bool k'
      | _ => exact False.elim h
    | _ => exact False.elim h
  | none =>
    cases b with
    | none =>
      cases ha
      cases hb
      cases op with
      | Is => have e : r = _ := h; subst e; exact is_none_none k'
      | IsNot => have e : r = _ := h; subst e; exact isnot_none_none k'
      | _ => exact False.elim h
    | _ => exact False.elim h
  | ref i =>
    cases b with
    | none =>
      obtain ⟨x, _, rfl⟩ := ha
      cases hb
      cases op with
      | Is => have e : r = _ := h; subst e; exact is_none_ne (by intro q; cases q) k'
      | IsNot => have e : r = _ := h; subst e; exact isnot_none_ne (by intro q; cases q) k'
      | _ => exact False.elim h
    | _ => exact False.elim h
  | glob i => exact False.elim h
theorem re_marks {a : CE} {nm : List Str} {sc : Scope} {e : PySem.Expr} {op : CmpOp} (h : wfE a nm sc e = true) : behindInMarks op (reE a nm e) = false := by
  cases a with
  | tst t =>
    have h1 : (nonPlain t && wfT t nm sc e) = true := h
    have h2 := (and2 h1).1
    cases t <;> first | rfl | cases h2
  | _ => rfl
theorem TT.cq {op : CmpOp} {a b : CE} {post : Bool → MH → Prop} (h : TE c m a H (fun x H1 => TE c m b H1 (fun y H2 => ∃ r, Cq c op H2 x y r ∧ post r H2))) : TT c m (.cmp op a b) H post := by
  intro e he
  obtain ⟨h2, h3⟩ := and2 he
  intro wh mr ρ s Q E _ S l k kx
  refine wpAny_isTrue_Compare1 ?_ (re_marks h3)
  refine h _ h2 mr ρ s _ E S l ?_ kx
  intro t x xr H1 hp1 tk1 hr hx S1
  refine hr _ h3 mr (ρ ++ t) _ _ E S1 l.mono ?_ kx.mono
  rintro t' y yr H2 hp2 tk2 ⟨r, hq, hp⟩ hy S2
  refine hq mr _ _ _ E _ _ S2 hx.mono hy ?_
  intro h' tk S3
  refine wpAny_truthy_bool ?_
  rw [List.append_assoc] at S3
  exact k (t ++ t') r H2 h' tk hp S3
theorem TT.cmp {op : CmpOp} {a b : CE} {post : Bool → MH → Prop} (h : TE c m a H (fun x H1 => TE c m b H1 (fun y H2 => ∃ r, Cmp op x y r ∧ post r H2))) : TT c m (.cmp op a b) H post :=
  TT.cq (h.mono fun x H1 h1 => h1.mono fun y H2 ⟨r, hr, hp⟩ => ⟨r, cq_of hr, hp⟩)
theorem TV.cq {op : CmpOp} {a b : CE} {post : MV → MH → Prop} (h : TE c m a H (fun x H1 => TE c m b H1 (fun y H2 => ∃ r, Cq c op H2 x y r ∧ post (.bool r) H2))) : TV c m (.cmp op a b) H post := by
  intro e _ he
  obtain ⟨h2, h3⟩ := and2 he
  intro mr ρ s Q E S l k kx
  refine wpAny_Compare1 ?_ (re_marks h3)
  refine h _ h2 mr ρ s _ E S l ?_ kx
  intro t x xr H1 hp1 tk1 hr hx S1
  refine hr _ h3 mr (ρ ++ t) _ _ E S1 l.mono ?_ kx.mono
  rintro t' y yr H2 hp2 tk2 ⟨r, hq, hp⟩ hy S2
  refine hq mr _ _ _ E _ _ S2 hx.mono hy ?_
  intro h' tk S3
  rw [List.append_assoc] at S3
  exact k (t ++ t') (.bool r) _ H2 h' tk hp rfl S3
theorem TV.cmp {op : CmpOp} {a b : CE} {post : MV → MH → Prop} (h : TE c m a H (fun x H1 => TE c m b H1 (fun y H2 => ∃ r, Cmp op x y r ∧ post (.bool r) H2))) : TV c m (.cmp op a b) H post :=
  TV.cq (h.mono fun x H1 h1 => h1.mono fun y H2 ⟨r, hr, hp⟩ => ⟨r, cq_of hr, hp⟩)
theorem TE.tst {t : CT} {post : MV → MH → Prop} (h : TV c m t H post) : TE c m (.tst t) H post := by
  intro e he
  exact h e (and2 he).1 (and2 he).2
theorem TT.not {t : CT} {post : Bool → MH → Prop} (h : TT c m t H (fun b H1 => post (!b) H1)) : TT c m (.not t) H post := by
  intro e he
  intro wh mr ρ s Q E _ S l k kx
  refine isTrue_not ?_
  refine h _ he _ mr ρ s _ E (fun _ => rfl) S l ?_ kx
  intro t b H1 h1 tk1 hp S1
  exact k t (!b) H1 h1 tk1 hp S1
theorem TTs.andNil {post : Bool → MH → Prop} (h : post true H) : TTs c m .And .nil H post := by
  intro es he
  intro mr ρ s Q E S l k kx
  refine wpAny_pure ?_
  exact k [] true H s.heap s.toks h (nil_of S)
theorem TTs.orNil {post : Bool → MH → Prop} (h : post false H) : TTs c m .Or .nil H post := by
  intro es he
  intro mr ρ s Q E S l k kx
  refine wpAny_pure ?_
  exact k [] false H s.heap s.toks h (nil_of S)
theorem TTs.and {t : CT} {r : CTs} {post : Bool → MH → Prop} (h : TT c m t H (fun b H1 => (b = false → post false H1) ∧ (b = true → TTs c m .And r H1 post))) : TTs c m .And (.cons t r) H post := by
  intro es he
  have he := and2 he
  intro mr ρ s Q E S l k kx
  refine isTrue_and (whole := Sem.pure .none) (pos := ⟨0, 0, 0, 0⟩) ?_
  refine h _ he.1 _ mr ρ s _ E (fun _ => rfl) S l ?_ kx
  intro t b H1 h1 tk1 hp S1
  cases b with
  | false => exact k t false H1 h1 tk1 (hp.1 rfl) S1
  | true =>
    refine hp.2 rfl _ he.2 mr (ρ ++ t) _ _ E S1 l.mono ?_ kx.mono
    intro t' b H2 h2 tk2 hp2 S2
    rw [List.append_assoc] at S2
    exact k (t ++ t') b H2 h2 tk2 hp2 S2
theorem TTs.or {t : CT} {r : CTs} {post : Bool → MH → Prop} (h : TT c m t H (fun b H1 => (b = true → post true H1) ∧ (b = false → TTs c m .Or r H1 post))) : TTs c m .Or (.cons t r) H post := by
  intro es he
  have he := and2 he
  intro mr ρ s Q E S l k kx
  refine isTrue_or (whole := Sem.pure .none) (pos := ⟨0, 0, 0, 0⟩) ?_
  refine h _ he.1 _ mr ρ s _ E (fun _ => rfl) S l ?_ kx
  intro t b H1 h1 tk1 hp S1
  cases b with
  | true => exact k t true H1 h1 tk1 (hp.1 rfl) S1
  | false =>
    refine hp.2 rfl _ he.2 mr (ρ ++ t) _ _ E S1 l.mono ?_ kx.mono
    intro t' b H2 h2 tk2 hp2 S2
    rw [List.append_assoc] at S2
    exact k (t ++ t') b H2 h2 tk2 hp2 S2
theorem TT.and {ts : CTs} {post : Bool → MH → Prop} (h : TTs c m .And ts H post) : TT c m (.and ts) H post := by
  intro e he
  intro wh mr ρ s Q E _ S l k kx
  exact h _ he mr ρ s Q E S l k kx
theorem TT.or {ts : CTs} {post : Bool → MH → Prop} (h : TTs c m .Or ts H post) : TT c m (.or ts) H post := by
  intro e he
  intro wh mr ρ s Q E _ S l k kx
  exact h _ he mr ρ s Q E S l k kx
noncomputable def Tru (H : MH) : MV → Bool → Prop
  | .bool b, r => r = b
  | .int i, r => r = !decide (i = 0)
  | .none, r => r = false
  | _, _ => False
theorem isTrue_of {e : PySem.Expr} {env : Env} {wh : Sem Value} (h : plainX e = true) : isTrue e env wh = (do let v ← wh; standAt e.pos; holding [v] (truthy v)) := by
  cases e with
  | UnaryOp op x pos => cases op <;> first | rfl | cases h
  | BoolOp _ _ _ => cases h
  | IfExp _ _ _ _ => cases h
  | Compare _ _ _ _ => cases h
  | _ => rfl
theorem TT.plain {a : CE} {post : Bool → MH → Prop} (h : TE c m a H (fun v H1 => ∃ r, Tru H1 v r ∧ post r H1)) : TT c m (.plain a) H post := by
  intro e he
  have he := and2 he
  have hpl : plainX (reE a c.nm e) = true := by
    have h0 := he.1
    cases a <;> first | rfl | cases h0
  intro wh mr ρ s Q E hw S l k kx
  rw [hw hpl]
  refine isTrue_plain ?_ (isTrue_of hpl)
  refine h _ he.2 mr ρ s _ E S l ?_ kx
  rintro t v vr H1 h1 tk1 ⟨r, hr, hp⟩ hv S1
  cases v with
  | bool b =>
    have e1 : vr = .bool b := hv
    have e2 : r = b := hr
    subst e1 e2
    exact wpAny_truthy_bool (k t r H1 h1 tk1 hp S1)
  | int i =>
    obtain ⟨u, rfl⟩ := hv
    have e2 : r = !decide (i = 0) := hr
    subst e2
    exact truthy_int (k t _ H1 h1 tk1 hp S1)
  | none =>
    have e1 : vr = .none := hv
    have e2 : r = false := hr
    subst e1 e2
    exact truthy_none (k t _ H1 h1 tk1 hp S1)
  | _ => exact hr.elim
theorem TE.ite {t : CT} {a b : CE} {post : MV → MH → Prop} (h : TT c m t H (fun r H1 => (r = true → TE c m a H1 post) ∧ (r = false → TE c m b H1 post))) : TE c m (.ite t a b) H post := by
  intro e he
  have he := and3 he
  intro mr ρ s Q E S l k kx
  refine wpAny_IfExp ?_
  refine h _ he.1 _ mr ρ s _ E (fun _ => rfl) S l ?_ kx
  intro t b' H1 h1 tk1 hp S1
  have fin : ∀ e, EV c m e H1 post → wpAny (model c.prog c.w) c.A (eval e c.env) Q E { s with heap := h1, toks := tk1 } := by
    intro e he
    refine he mr (ρ ++ t) _ _ E S1 l.mono ?_ kx.mono
    intro t' v vr H2 h2 tk2 hp2 hv S2
    rw [List.append_assoc] at hv S2
    exact k (t ++ t') v vr H2 h2 tk2 hp2 hv S2
  cases b' with
  | true => exact fin _ (hp.1 rfl _ he.2.1)
  | false => exact fin _ (hp.2 rfl _ he.2.2)
end
section
variable {c : Cx} {m : ML} {H : MH} {G : Gx} {d : Nat}
theorem star_cons {e : PySem.Expr} {es : List PySem.Expr} {env : Env} (h : notStar e = true) : starEach (e :: es) env = (false, eval e env) :: starEach es env := by
  cases e with
  | Starred _ _ => cases h
  | _ => rfl
theorem tst_of {t : CT} {nm : List Str} {sc : Scope} {e : PySem.Expr} (h : wfE (.tst t) nm sc e = true) : nonPlain t = true := by
  have h1 : (nonPlain t && wfT t nm sc e) = true := h
  exact (and2 h1).1
theorem star_re {a : CE} {nm : List Str} {sc : Scope} {e : PySem.Expr} (h : wfE a nm sc e = true) : notStar (reE a nm e) = true := by
  cases a with
  | tst t => have h2 := tst_of h; cases t <;> first | rfl | cases h2
  | _ => rfl
theorem slice_re {a : CE} {nm : List Str} {sc : Scope} {e : PySem.Expr} (h : wfE a nm sc e = true) : notSlice (reE a nm e) = true := by
  cases a with
  | tst t => have h2 := tst_of h; cases t <;> first | rfl | cases h2
  | _ => rfl
theorem comp_re {a : CE} {nm : List Str} {sc : Scope} {e : PySem.Expr} (h : wfE a nm sc e = true) (hn : isComp a = false) : notComp (reE a nm e) = true := by
  cases a with
  | tst t => have h2 := tst_of h; cases t <;> first | rfl | cases h2
  | comp _ _ _ _ => cases hn
  | _ => rfl
theorem star_plain {nm : List Str} {sc : Scope} {pos : Pos} {env : Env} : ∀ {as : CEs} {es : List PySem.Expr}, wfEs as nm sc es = true → (backTo pos (starEach (reEs as nm es) env)).any (·.1) = false
  | .nil, es, h => rfl
  | .cons a r, es, h => by
    have h := and2 h
    have := star_plain (pos := pos) (env := env) h.2
    show (backTo pos (starEach (reE a nm (nth 0 es) :: reEs r nm es.tail) env)).any (·.1) = false
    rw [star_cons (star_re h.1)]
    unfold backTo at this ⊢
    simp only [List.map_cons, List.any_cons, Bool.false_or]
    exact this
theorem TEs.nil {post : List MV → MH → Prop} (h : post [] H) : TEs c m .nil H post := by
  intro es pos he
  intro mr ρ s Q E S l k kx
  refine args_nil ?_
  exact k [] [] [] H s.heap s.toks h rfl (nil_of S)
theorem TEs.cons {a : CE} {r : CEs} {post : List MV → MH → Prop} (h : TE c m a H (fun v H1 => TEs c m r H1 (fun vs H2 => post (v :: vs) H2))) : TEs c m (.cons a r) H post := by
  intro es pos he
  obtain ⟨h2, h3⟩ := and2 he
  intro mr ρ s Q E S l k kx
  refine args_cons ?_ (star_cons (star_re h2))
  refine h _ h2 mr ρ s _ E S l ?_ kx
  intro t v vr H1 hp1 tk1 hr hv S1
  refine hr _ pos h3 mr (ρ ++ t) _ _ E S1 l.mono ?_ kx.mono
  intro t' vs vrs H2 hp2 tk2 hp hvs S2
  have hv' := hv.mono (t := t')
  rw [List.append_assoc] at hvs S2 hv'
  exact k (t ++ t') (v :: vs) (vr :: vrs) H2 hp2 tk2 hp ⟨vr, vrs, rfl, hv', hvs⟩ S2
theorem TE.list {as : CEs} {post : MV → MH → Prop} (h : TEs c m as H (fun vs H1 => vs.length ≤ 1000 ∧ post (.ref H1.length) (H1 ++ [.list vs]))) : TE c m (.list as) H post := by
  intro e he
  intro mr ρ s Q E S lr k kx
  refine List_ ?_
  refine h _ _ he mr ρ s _ E S lr ?_ kx
  rintro t vs vrs H1 h1 tk1 ⟨hsz, hp⟩ hvs S1
  obtain ⟨ml, xs, ⟨F, os, a1, a2, a3, N, a5⟩, back⟩ := S1.open
  refine newList_K F N ?_ (by rw [hvs.length]; exact Nat.le_trans hsz (by decide))
  intro l h' F' N' hl
  have := k (t ++ [l]) (.ref H1.length) (.ref l) _ h' tk1 hp
  rw [← List.append_assoc] at this
  exact this ⟨l, last_get a2, rfl⟩ (back _ _ _ (Led.alloc a1 a2 a3 a5 F' N' (fun p hp => Nat.ne_of_lt (hl p hp)) ⟨vrs, 0, hvs.mono, rfl⟩))
theorem TE.tup {as : CEs} {post : MV → MH → Prop} (h : TEs c m as H (fun vs H1 => vs.length ≤ 1000 ∧ post (.ref H1.length) (H1 ++ [.tup vs]))) : TE c m (.tup as) H post := by
  intro e he
  intro mr ρ s Q E S lr k kx
  refine Tuple_ ?_
  refine h _ _ he mr ρ s _ E S lr ?_ kx
  rintro t vs vrs H1 h1 tk1 ⟨hsz, hp⟩ hvs S1
  obtain ⟨ml, xs, ⟨F, os, a1, a2, a3, N, a5⟩, back⟩ := S1.open
  refine newTuple_N F N ?_ (by rw [hvs.length]; exact Nat.le_trans hsz (by decide))
  intro h' F' N'
  have := k (t ++ [h1.objs.size]) (.ref H1.length) (.ref h1.objs.size) _ h' tk1 hp
  rw [← List.append_assoc] at this
  exact this ⟨_, last_get a2, rfl⟩ (back _ _ _ (Led.alloc a1 a2 a3 a5 F' N' (fun p hp => Nat.ne_of_lt (Heap.lt_size (N p hp).1)) ⟨vrs, 0, hvs.mono, rfl⟩))
theorem isList_of {h₀ h : Heap} {L a : Addr} {vs : List Value} {n : Nat} (N : News h₀ L h [(a, listOf vs.toArray n)]) : h.IsList a vs.toArray := ⟨_, (N _ (.head _)).1, rfl, n, rfl⟩
theorem St.list {mr : Str → Option Value} {ρ : List Addr} {h : Heap} (S : St c mr ρ H h) {i : Nat} {xs : List MV} (hi : H[i]? = some (.list xs)) {x : Addr} (hx : ρ[i]? = some x) :
    ∃ vs n, VRs ρ xs vs ∧ News c.h₀ c.L h [(x, listOf vs.toArray n)] := by
  obtain ⟨y, o, hy, ⟨vs, n, hvs, rfl⟩, No⟩ := S.get hi
  rw [hx] at hy
  cases hy
  exact ⟨vs, n, hvs, No⟩
theorem St.tup {mr : Str → Option Value} {ρ : List Addr} {h : Heap} (S : St c mr ρ H h) {i : Nat} {xs : List MV} (hi : H[i]? = some (.tup xs)) {x : Addr} (hx : ρ[i]? = some x) :
    ∃ vs, VRs ρ xs vs ∧ IsTup h x vs.toArray := by
  obtain ⟨y, o, hy, ⟨vs, n, hvs, rfl⟩, No⟩ := S.get hi
  rw [hx] at hy
  cases hy
  exact ⟨vs, hvs, _, (No _ (.head _)).1, rfl, n, rfl⟩
noncomputable def At (xs : List MV) (n : Int) (v : MV) : Prop := xs.length ≤ 1000000 ∧ ((0 ≤ n ∧ xs[n.toNat]? = some v) ∨ (n < 0 ∧ -(xs.length : Int) ≤ n ∧ xs[(n + xs.length).toNat]? = some v))
theorem subscripted_of {nm : List Str} {sc : Scope} {i : PySem.Expr} (h : notSlice i = true) (a : Value) (k : Value) : subscripted i false a k = operate [a, k] (getItem a k) := by
  cases i with
  | Slice _ _ _ _ => cases h
  | _ => rfl
noncomputable def Sq (c : Cx) (H : MH) (o i v : MV) : Prop :=
  ∀ (mr : Str → Option Value) (ρ : List Addr) (s : Shared) (Q : Value → Shared → Prop) (E : Value → Shared → Prop) (vo vi : Value) (base sl : PySem.Expr), notSlice sl = true → St c mr ρ H s.heap → VR ρ o vo → VR ρ i vi →
    (∀ vr tk, VR ρ v vr → Q vr { s with toks := tk }) → wpAny (model c.prog c.w) c.A (subscriptTail base sl vo vi) Q E s
theorem TE.sq {o i : CE} {post : MV → MH → Prop} (h : TE c m o H (fun x H1 => TE c m i H1 (fun y H2 => ∃ v, Sq c H2 x y v ∧ post v H2))) : TE c m (.sub o i) H post := by
  intro e he
  obtain ⟨h2, h3⟩ := and2 he
  have h1 := slice_re h3
  intro mr ρ s Q E S lr k kx
  refine Subscript_ ?_
  refine h _ h2 mr ρ s _ E S lr ?_ kx
  intro t x xr H1 hp1 tk1 hr hx S1
  refine hr _ h3 mr (ρ ++ t) _ _ E S1 lr.mono ?_ kx.mono
  rintro t' y yr H2 hp2 tk2 ⟨v, hq, hp⟩ hy S2
  refine hq mr _ _ _ E _ _ _ _ h1 S2 hx.mono hy ?_
  intro vr tk hv
  rw [List.append_assoc] at hv S2
  exact k (t ++ t') v vr H2 hp2 tk hp hv S2
theorem Sq.list {a : Nat} {xs : List MV} {n : Int} {v : MV} (ha : H[a]? = some (.list xs)) (hn : At xs n v) : Sq c H (.ref a) (.int n) v := by
  rintro mr ρ s Q E _ _ base sl hsl S ⟨x, hx, rfl⟩ ⟨u, rfl⟩ k
  obtain ⟨vs, ep, hvs, No⟩ := S.list ha hx
  have L := isList_of No
  obtain ⟨hsz, hn⟩ := hn
  rcases hn with ⟨h0, hv⟩ | ⟨h0, h3, hv⟩
  · obtain ⟨vr, e1, e2⟩ := hvs.get hv
    have hlt := (List.getElem?_eq_some_iff.mp hv).1
    exact tail_any L.typeIs slot_list_getitem.lookup (wpAny_getItem_list L h0 (by omega) (by simpa using e1) (k vr _ e2)) (subscripted_of (nm := []) (sc := c.sc) hsl _ _)
  · obtain ⟨vr, e1, e2⟩ := hvs.get hv
    have hlen : vs.toArray.size = xs.length := by rw [List.size_toArray, hvs.length]
    exact tail_any L.typeIs slot_list_getitem.lookup (wpAny_getItem_list_neg L h0 (by rw [hlen]; exact h3) (by omega) (by rw [hlen]; simpa using e1) (k vr _ e2)) (subscripted_of (nm := []) (sc := c.sc) hsl _ _)
theorem Sq.glob {a : Addr} {vs : List Value} {n : Int} {i : Int} {t : Tok} (ha : c.h₀.IsList a vs.toArray) (h0 : 0 ≤ n) (hsz : vs.length ≤ 1000000) (hv : vs[n.toNat]? = some (.int i t)) : Sq c H (.glob a) (.int n) (.int i) := by
  rintro mr ρ s Q E _ _ base sl hsl S rfl ⟨u, rfl⟩ k
  have L : s.heap.IsList a vs.toArray := ha.at fun o e => S.keep _ o e
  have hlt := (List.getElem?_eq_some_iff.mp hv).1
  exact tail_any L.typeIs slot_list_getitem.lookup (wpAny_getItem_list L h0 (by omega) (by simpa using hv) (k _ _ ⟨t, rfl⟩)) (subscripted_of (nm := []) (sc := c.sc) hsl _ _)
theorem TB.nil {post : Fl → ML → MH → Prop} (h : post .next m H) : TB c m .nil H post := by
  intro ss hs
  intro mr ρ s Q E S l k kx
  refine wpAny_execs_nil ?_
  exact k [] .next .next m mr H s.heap s.toks h rfl (nil_of S) (by rw [List.append_nil]; exact l)
theorem TB.cons {a : CS} {r : CSs} {post : Fl → ML → MH → Prop} (h : TS c m a H (fun f m1 H1 => match f with | .next => TB c m1 r H1 post | f => post f m1 H1)) : TB c m (.cons a r) H post := by
  intro ss hs
  have hs := and2 hs
  intro mr ρ s Q E S l k kx
  refine wpAny_execs_cons ?_
  refine h _ hs.1 mr ρ s _ E S l ?_ kx
  intro t f fr m1 mr1 H1 h1 tk1 hp hf S1 l1
  cases f with
  | next =>
    subst hf
    refine hp _ hs.2 mr1 (ρ ++ t) _ _ E S1 l1 ?_ kx.mono
    intro t' f fr m2 mr2 H2 h2 tk2 hp2 hf2 S2 l2
    rw [List.append_assoc] at hf2 S2 l2
    exact k (t ++ t') f fr m2 mr2 H2 h2 tk2 hp2 hf2 S2 l2
  | brk => subst hf; exact k t .brk .brk m1 mr1 H1 h1 tk1 hp rfl S1 l1
  | cont => subst hf; exact k t .cont .cont m1 mr1 H1 h1 tk1 hp rfl S1 l1
  | ret v =>
    obtain ⟨vr, rfl, hv⟩ := hf
    exact k t (.ret v) (.ret vr) m1 mr1 H1 h1 tk1 hp ⟨vr, rfl, hv⟩ S1 l1
theorem TS.ret {a : CE} {post : Fl → ML → MH → Prop} (h : TE c m a H (fun v H1 => post (.ret v) m H1)) : TS c m (.ret a) H post := by
  intro st hs
  intro mr ρ s Q E S l k kx
  refine wpAny_Return_some ?_
  refine h _ hs mr ρ s _ E S l ?_ kx
  intro t v vr H1 h1 tk1 hp hv S1
  exact k t (.ret v) (.ret vr) m mr H1 h1 tk1 hp ⟨vr, rfl, hv⟩ S1 l.mono
theorem TS.brk {post : Fl → ML → MH → Prop} (h : post .brk m H) : TS c m .brk H post := by
  intro st hs
  intro mr ρ s Q E S l k kx
  refine wpAny_Break ?_
  exact k [] .brk .brk m mr H s.heap s.toks h rfl (nil_of S) (by rw [List.append_nil]; exact l)
theorem swaps_not {v : PySem.Expr} {t : Option PySem.Expr} {n : Nat} {env : Env} (h : notComp v = true) : swapsWith v t n env = pure false := by
  cases v <;> first | rfl | cases h
theorem TS.assign (ok : Ok G c d) (hfm : c.fm = none) {i : Nat} {a : CE} {post : Fl → ML → MH → Prop} (hn : isComp a = false) (h : TE c m a H (fun v H1 => post .next (m.set i (some v)) H1)) : TS c m (.assign i a) H post := by
  intro st hs
  obtain ⟨h1, h2, h3⟩ := and3 hs
  have h1 := beq_iff_eq.mp h1
  intro mr ρ s Q E S l k kx
  refine wpAny_Assign_Name ?_ (swaps_not (comp_re h3 hn))
  refine h _ h3 mr ρ s _ E S l ?_ kx
  intro t v vr H1 hp1 tk1 hp hv S1
  refine store ok S1 hfm h2 ?_
  intro h' tk S2
  exact k t .next .next _ _ H1 h' tk hp rfl S2 (l.mono.set h1 hv)
theorem TS.ite {t : CT} {a b : CSs} {post : Fl → ML → MH → Prop} (h : TT c m t H (fun r H1 => (r = true → TB c m a H1 post) ∧ (r = false → TB c m b H1 post))) : TS c m (.ite t a b) H post := by
  intro st hs
  have hs := and3 hs
  intro mr ρ s Q E S l k kx
  refine wpAny_If ?_
  refine h _ hs.1 _ mr ρ s _ E (fun _ => rfl) S l ?_ kx
  intro t b H1 h1 tk1 hp S1
  have fin : ∀ ss, EX c m ss H1 post → wpAny (model c.prog c.w) c.A (execs ss c.env) Q E { s with heap := h1, toks := tk1 } := by
    intro ss hss
    refine hss mr (ρ ++ t) _ _ E S1 l.mono ?_ kx.mono
    intro t' f fr m2 mr2 H2 h2 tk2 hp2 hf2 S2 l2
    rw [List.append_assoc] at hf2 S2 l2
    exact k (t ++ t') f fr m2 mr2 H2 h2 tk2 hp2 hf2 S2 l2
  cases b with
  | true => exact fin _ (hp.1 rfl _ hs.2.1)
  | false => exact fin _ (hp.2 rfl _ hs.2.2)
theorem TS.expr (hi : interactive c.env = false) {a : CE} {post : Fl → ML → MH → Prop} (h : TE c m a H (fun _ H1 => post .next m H1)) : TS c m (.expr a) H post := by
  intro st hs
  have hs := and2 hs
  intro mr ρ s Q E S l k kx
  refine wpAny_Expr_any ?_ hi (swaps_not (comp_re hs.2 (by simpa using hs.1)))
  refine h _ hs.2 mr ρ s _ E S l ?_ kx
  intro t v vr H1 h1 tk1 hp hv S1
  exact k t .next .next m mr H1 h1 tk1 hp rfl S1 l.mono
theorem swaps_at {v o i : PySem.Expr} {p : Pos} {n : Nat} {env : Env} : swapsWith v (some (.Subscript o i p)) n env = pure false := by
  cases v <;> rfl
theorem swaps_attr {v o : PySem.Expr} {x : Str} {p : Pos} {n : Nat} {env : Env} : swapsWith v (some (.Attribute o x p)) n env = pure false := by
  cases v <;> rfl
noncomputable def Uq (c : Cx) (H : MH) (o i v : MV) (H' : MH) : Prop :=
  ∀ (mr : Str → Option Value) (ρ : List Addr) (s : Shared) (Q : Unit → Shared → Prop) (E : Value → Shared → Prop) (vo vi vv : Value), St c mr ρ H s.heap → VR ρ o vo → VR ρ i vi → VR ρ v vv →
    (∀ t h' tk, St c mr (ρ ++ t) H' h' → Q () { s with heap := h', toks := tk }) → wpAny (model c.prog c.w) c.A (setItem vo vi vv) Q E s
theorem TS.setItem {o i a : CE} {post : Fl → ML → MH → Prop} (h : TE c m a H (fun v H1 => TE c m o H1 (fun x H2 => TE c m i H2 (fun y H3 => ∃ H4, Uq c H3 x y v H4 ∧ post .next m H4)))) : TS c m (.setItem o i a) H post := by
  intro st hs
  obtain ⟨h2, h3, h4⟩ := and3 hs
  intro mr ρ s Q E S l k kx
  refine wpAny_Assign_Subscript ?_ swaps_at
  refine h _ h4 mr ρ s _ E S l ?_ kx
  intro t v vr H1 hp1 tk1 h12 hv S1
  refine h12 _ h2 mr _ _ _ E S1 l.mono ?_ kx.mono
  intro t' x xr H2 hp2 tk2 h23 hx S2
  refine h23 _ h3 mr _ _ _ E S2 l.mono.mono ?_ kx.mono.mono
  rintro t'' y yr H3 hp3 tk3 ⟨H4, hq, hp⟩ hy S3
  refine hq mr _ _ _ E _ _ _ S3 hx.mono hy (hv.mono).mono ?_
  intro t3 h' tk S4
  have e1 : ρ ++ t ++ t' ++ t'' ++ t3 = ρ ++ (t ++ (t' ++ (t'' ++ t3))) := by simp only [List.append_assoc]
  rw [e1] at S4
  exact k _ .next .next m mr H4 h' tk hp rfl S4 l.mono
theorem Uq.list {a : Nat} {xs : List MV} {n : Int} {v : MV} (ha : H[a]? = some (.list xs)) (hsz : xs.length ≤ 1000000) (h0 : 0 ≤ n) (hlt : n < xs.length) : Uq c H (.ref a) (.int n) v (H.set a (.list (xs.set n.toNat v))) := by
  rintro mr ρ s Q E _ _ vv S ⟨x, hx, rfl⟩ ⟨u, rfl⟩ hv k
  obtain ⟨vs, ep, hvs, No⟩ := S.list ha hx
  have hlen : vs.toArray.size = xs.length := by rw [List.size_toArray, hvs.length]
  have ho := (No _ (.head _)).1
  refine ki_setAt ho h0 (by omega) (by rw [hlen]; exact hlt) ?_
  have hS := S.upd (h' := s.heap.update x (Obj.mapSeq (·.setIfInBounds n.toNat vv))) (o' := .list (xs.set n.toNat v)) ha hx (Heap.SameBut.update ..)
    (x' := listOf (vs.set n.toNat vv).toArray ep) ?_ ⟨vs.set n.toNat vv, ep, hvs.set hv, rfl⟩
  · exact k [] _ _ (nil_of hS)
  · have e : Obj.mapSeq (·.setIfInBounds n.toNat vv) (listOf vs.toArray ep) = listOf (vs.set n.toNat vv).toArray ep := by
      have e1 : vs.toArray.setIfInBounds n.toNat vv = (vs.set n.toNat vv).toArray := by
        apply Array.toList_inj.mp
        simp
      simp [Obj.mapSeq, e1]
    rw [Heap.get?_update_self _ ho (by rw [e]; rfl), e]
end
noncomputable def Cx.wx (c : Cx) (xt : List (Addr × Obj)) : Cx := { c with xt := xt }
theorem Ok.wx {G : Gx} {c : Cx} {d : Nat} (ok : Ok G c d) (xt : List (Addr × Obj)) : Ok G (c.wx xt) d :=
  ⟨ok.frames, ok.kin, ok.top, ok.hh, ok.dep, ok.uni, ok.fn, ok.gl, ok.bi, ok.ap, ok.kd, ok.fs, ok.ex⟩
section
variable {c : Cx} {m : ML} {H : MH} {G : Gx} {d : Nat}
theorem TS.while (ok : Ok G c d) (hfm : c.fm = none) {t : CT} {b : CSs} {post : Fl → ML → MH → Prop} (I : Nat → ML → MH → Prop) (n : Nat) (h0 : I n m H)
    (turn : ∀ k m1 H1, I k m1 H1 → TT c m1 t H1 (fun r H2 => (r = true → TB c m1 b H2 (fun f m3 H3 => match f with
        | .next => ∃ j, j < k ∧ I j m3 H3
        | .cont => ∃ j, j < k ∧ I j m3 H3
        | .brk => post .next m3 H3
        | .ret v => post (.ret v) m3 H3)) ∧ (r = false → post .next m1 H2))) : TS c m (.while t b) H post := by
  intro st hs
  have hs := and2 hs
  intro mr ρ s Q E S lr k kx
  refine wpAny_While ?_
  let J : Nat → Shared → Prop := fun j s' => ∃ t m1 mr1 H1 h' tk, s' = { s with heap := h', toks := tk } ∧ I j m1 H1 ∧ St c mr1 (ρ ++ t) H1 h' ∧ LR mr1 c.nm (ρ ++ t) m1
  refine codeAny_whileLoop J ?_ n ⟨[], m, mr, H, s.heap, s.toks, rfl, h0, nil_of S, by rw [List.append_nil]; exact lr⟩
  rintro j _ ⟨t, m1, mr1, H1, h1, tk1, rfl, hI, S1, l1⟩
  have kx1 := (kx.mono (t := t) (h := h1) (tk := tk1)).pass (M := model c.prog c.w) (A := c.A) (A' := c.A) ok hfm rfl
  refine turn j m1 H1 hI _ hs.1 _ mr1 (ρ ++ t) _ _ _ (fun _ => rfl) S1 l1 ?_ kx1
  intro t' b H2 h2 tk2 hb S2
  have l2 := l1.mono (t := t')
  cases b with
  | false =>
    refine wpAny_execs_nil ?_
    have := k (t ++ t') .next .next m1 mr1 H2 h2 tk2 (hb.2 rfl) rfl
    rw [← List.append_assoc] at this
    exact this S2 l2
  | true =>
    refine hb.1 rfl _ hs.2 mr1 (ρ ++ t ++ t') _ _ _ S2 l2 ?_ kx1.mono
    intro t'' f fr m3 mr3 H3 h3 tk3 hp hf S3 l3
    have e : ρ ++ t ++ t' ++ t'' = ρ ++ (t ++ (t' ++ t'')) := by simp only [List.append_assoc]
    rw [e] at S3 l3 hf
    cases f with
    | next =>
      subst hf
      obtain ⟨i, hi, hI'⟩ := hp
      exact ⟨i, hi, _, m3, mr3, H3, h3, tk3, rfl, hI', S3, l3⟩
    | cont =>
      subst hf
      obtain ⟨i, hi, hI'⟩ := hp
      exact ⟨i, hi, _, m3, mr3, H3, h3, tk3, rfl, hI', S3, l3⟩
    | brk =>
      subst hf
      exact k _ .next .next m3 mr3 H3 h3 tk3 hp rfl S3 l3
    | ret v =>
      obtain ⟨vr, rfl, hv⟩ := hf
      exact k _ (.ret v) (.ret vr) m3 mr3 H3 h3 tk3 hp ⟨vr, rfl, hv⟩ S3 l3
theorem Led.addX {h₀ h : Heap} {L : Addr} {prog : Program} {w : World} {ml : Str → Option Value} {fr xt ex : List (Addr × Obj)} {ρ : List Addr} {o : Obj} (S : Led h₀ L prog w ml (fr ++ (xt ++ ex)) ρ H h) (ho : o.isFreed = false) :
    Led h₀ L prog w ml (fr ++ (((h.objs.size, o) :: xt) ++ ex)) ρ H (h.push o) := by
  obtain ⟨F, os, a1, a2, a3, N, a5⟩ := S
  have hn : h.objs.size ∉ (fr ++ (xt ++ ex)).map (·.1) ++ ρ := fun q => by
    obtain ⟨p, hp, e⟩ := led_addr (os := os) a1 a2 q
    have := Heap.lt_size (N p hp).1
    rw [e] at this
    exact Nat.lt_irrefl _ this
  refine ⟨F.push o, os, a1, a2, a3, fun p hp => N.push F o ho p ?_, ?_⟩
  · simp only [List.cons_append, List.mem_append, List.mem_cons] at hp ⊢
    rcases hp with (hp | hp | hp | hp) | hp <;> simp [hp]
  · have hp : ((fr ++ (((h.objs.size, o) :: xt) ++ ex)).map (·.1) ++ ρ).Perm (h.objs.size :: ((fr ++ (xt ++ ex)).map (·.1) ++ ρ)) := by
      simp only [List.map_append, List.map_cons, List.cons_append, List.append_assoc]
      exact List.perm_middle
    rw [hp.nodup_iff]
    exact List.nodup_cons.mpr ⟨hn, a5⟩
theorem St.addX {mr : Str → Option Value} {ρ : List Addr} {h : Heap} {o : Obj} (S : St c mr ρ H h) (ho : o.isFreed = false) : St (c.wx ((h.objs.size, o) :: c.xt)) mr ρ H (h.push o) := by
  obtain ⟨ml, fr, ex, own, u, l⟩ := S
  exact ⟨ml, fr, ex, own, u, l.addX ho⟩
theorem St.dropX {mr : Str → Option Value} {ρ : List Addr} {h : Heap} {p : Addr × Obj} (S : St (c.wx (p :: c.xt)) mr ρ H h) : St c mr ρ H h := by
  obtain ⟨ml, fr, ex, own, u, F, os, a1, a2, a3, N, a5⟩ := S
  refine ⟨ml, fr, ex, ?_, u, F, os, a1, a2, a3, fun q hq => N q ?_, ?_⟩
  · exact own
  · show q ∈ (fr ++ ((p :: c.xt) ++ ex)) ++ ρ.zip os
    simp only [List.cons_append, List.mem_append, List.mem_cons] at hq ⊢
    rcases hq with (hp | hp | hp) | hp <;> simp [hp]
  · replace a5 : ((fr ++ ((p :: c.xt) ++ ex)).map (·.1) ++ ρ).Nodup := a5
    refine List.Nodup.sublist ?_ a5
    simp only [List.map_append, List.map_cons, List.cons_append, List.append_assoc]
    exact List.Sublist.append (List.Sublist.refl _) (List.sublist_cons_self _ _)
theorem St.itr {mr : Str → Option Value} {ρ : List Addr} {h : Heap} {p : Addr × Obj} (S : St (c.wx (p :: c.xt)) mr ρ H h) : h.get? p.1 = some p.2 ∧ p.1 ≠ c.L ∧ c.h₀.get? p.1 = none := by
  obtain ⟨ml, fr, ex, own, u, F, os, a1, a2, a3, N, a5⟩ := S
  exact N p (List.mem_append_left _ (List.mem_append_right _ (List.mem_append_left _ (.head _))))
theorem St.turnX {mr : Str → Option Value} {ρ : List Addr} {h h' : Heap} {I : Addr} {o o' : Obj} (S : St (c.wx ((I, o) :: c.xt)) mr ρ H h) (hI : h'.get? I = some o')
    (hk : ∀ b x, b ≠ I → h.get? b = some x → h'.get? b = some x) : St (c.wx ((I, o') :: c.xt)) mr ρ H h' := by
  have nI := S.itr
  obtain ⟨ml, fr, ex, own, u, F, os, a1, a2, a3, N, a5⟩ := S
  replace N : News c.h₀ c.L h ((fr ++ (((I, o) :: c.xt) ++ ex)) ++ ρ.zip os) := N
  replace a5 : ((fr ++ (((I, o) :: c.xt) ++ ex)).map (·.1) ++ ρ).Nodup := a5
  have hne : ∀ b x, c.h₀.get? b = some x → b ≠ I := fun b x e q => by
    have := nI.2.2
    rw [q] at e
    have e' : c.h₀.get? I = none := this
    rw [e'] at e
    cases e
  refine ⟨ml, fr, ex, ?_, u, ⟨F.ns.at' fun x e => hk _ x (fun q => nI.2.1 q.symm) e, fun b x e => hk b x (hne b x e) (F.keep b x e), F.above⟩, os, a1, a2, a3, ?_, (by show ((fr ++ (((I, o') :: c.xt) ++ ex)).map (·.1) ++ ρ).Nodup; simpa [List.map_append] using a5)⟩
  · exact own
  · show News c.h₀ c.L h' ((fr ++ (((I, o') :: c.xt) ++ ex)) ++ ρ.zip os)
    have hp : ((fr ++ (((I, o) :: c.xt) ++ ex)).map (·.1) ++ ρ).Perm (I :: ((fr ++ (c.xt ++ ex)).map (·.1) ++ ρ)) := by
      simp only [List.map_append, List.map_cons, List.cons_append, List.append_assoc]
      exact List.perm_middle
    have hnd := List.nodup_cons.mp (hp.nodup_iff.mp a5)
    intro p hp
    have hsplit : p = (I, o') ∨ p ∈ (fr ++ (c.xt ++ ex)) ++ ρ.zip os := by
      simp only [List.cons_append, List.mem_append, List.mem_cons] at hp ⊢
      rcases hp with (hp | hp | hp | hp) | hp <;> simp [hp]
    rcases hsplit with rfl | hq
    · exact ⟨hI, nI.2⟩
    · have P := N p (by
        simp only [List.cons_append, List.mem_append, List.mem_cons] at hq ⊢
        rcases hq with (hp | hp | hp) | hp <;> simp [hp])
      refine ⟨hk _ _ (fun e => ?_) P.1, P.2⟩
      refine hnd.1 ?_
      rw [← e]
      rcases List.mem_append.mp hq with hq | hq
      · exact List.mem_append_left _ (List.mem_map_of_mem hq)
      · exact List.mem_append_right _ (List.of_mem_zip (show (p.1, p.2) ∈ _ from hq)).1
theorem St.endX {mr : Str → Option Value} {ρ : List Addr} {h h' : Heap} {I : Addr} {o : Obj} (S : St (c.wx ((I, o) :: c.xt)) mr ρ H h)
    (hk : ∀ b x, b ≠ I → h.get? b = some x → h'.get? b = some x) : St c mr ρ H h' := by
  have nI := S.itr
  obtain ⟨ml, fr, ex, own, u, F, os, a1, a2, a3, N, a5⟩ := S
  replace N : News c.h₀ c.L h ((fr ++ (((I, o) :: c.xt) ++ ex)) ++ ρ.zip os) := N
  replace a5 : ((fr ++ (((I, o) :: c.xt) ++ ex)).map (·.1) ++ ρ).Nodup := a5
  have hne : ∀ b x, c.h₀.get? b = some x → b ≠ I := fun b x e q => by
    have := nI.2.2
    rw [q] at e
    have e' : c.h₀.get? I = none := this
    rw [e'] at e
    cases e
  have hp : ((fr ++ (((I, o) :: c.xt) ++ ex)).map (·.1) ++ ρ).Perm (I :: ((fr ++ (c.xt ++ ex)).map (·.1) ++ ρ)) := by
    simp only [List.map_append, List.map_cons, List.cons_append, List.append_assoc]
    exact List.perm_middle
  have hnd := List.nodup_cons.mp (hp.nodup_iff.mp a5)
  refine ⟨ml, fr, ex, ?_, u, ⟨F.ns.at' fun x e => hk _ x (fun q => nI.2.1 q.symm) e, fun b x e => hk b x (hne b x e) (F.keep b x e), F.above⟩, os, a1, a2, a3, ?_, hnd.2⟩
  · exact own
  · intro p hq
    have P := N p (by
      simp only [List.cons_append, List.mem_append, List.mem_cons] at hq ⊢
      rcases hq with (hp | hp | hp) | hp <;> simp [hp])
    refine ⟨hk _ _ (fun e => ?_) P.1, P.2⟩
    refine hnd.1 ?_
    rw [← e]
    rcases List.mem_append.mp hq with hq | hq
    · exact List.mem_append_left _ (List.mem_map_of_mem hq)
    · exact List.mem_append_right _ (List.of_mem_zip (show (p.1, p.2) ∈ _ from hq)).1
theorem Fly.dropX {mr : Str → Option Value} {ρ : List Addr} {h : Heap} {p : Addr × Obj} {C : Addr} {as : List MV} {e : Addr} (f : Fly (c.wx (p :: c.xt)) mr ρ H C as e h) : Fly c mr ρ H C as e h := by
  obtain ⟨hB, t, vs, b, x⟩ := f.split
  exact FlyB.fly (c := c) ⟨b.st.dropX, b.vr, b.en, b.tn, b.tup, b.up, b.stay⟩ x
theorem Kx.addX {ρ : List Addr} {s : Shared} {E : Value → Shared → Prop} {p : Addr × Obj} (k : Kx c ρ s E) : Kx (c.wx (p :: c.xt)) ρ s E :=
  fun t C as e m' mr' H' h' tk hX hF hL => k t C as e m' mr' H' h' tk hX (hF.dropX) hL
end
noncomputable def setAll : List Nat → List MV → ML → ML
  | i :: is, v :: vs, m => setAll is vs (m.set i (some v))
  | _, _, m => m
noncomputable def Parts (H : MH) : List Nat → MV → List MV → Prop
  | [_], v, vs => vs = [v]
  | is, v, vs => 1 < is.length ∧ vs.length = is.length ∧ ∃ a, v = .ref a ∧ H[a]? = some (.tup vs)
noncomputable def okT (nm : List Str) (sc : Scope) (is : List Nat) : Bool := is.all (fun i => okSlot nm i && stb sc (nm.getD i ""))
section
variable {c : Cx} {m : ML} {H : MH} {G : Gx} {d : Nat}
theorem each_length {nm : List Str} {env : Env} : ∀ (is : List Nat) (es : List PySem.Expr), (assignEach (reNames (atNm nm is) es) env).length = is.length ∧ (assignEach (reNames (atNm nm is) es) env).findIdx? (·.1) = none
  | [], _ => ⟨rfl, rfl⟩
  | i :: is, es => by
    obtain ⟨h1, h2⟩ := each_length (nm := nm) (env := env) is es.tail
    refine ⟨?_, ?_⟩
    · show ((false, _) :: assignEach (reNames (atNm nm is) es.tail) env).length = _
      simp [h1]
    · show ((false, _) :: assignEach (reNames (atNm nm is) es.tail) env).findIdx? (·.1) = none
      rw [List.findIdx?_cons]
      simp [h2]
theorem assignIn (ok : Ok G c d) (hfm : c.fm = none) {Q : Unit → Shared → Prop} {E : Value → Shared → Prop} {ρ : List Addr} : ∀ {is : List Nat} {ts : List PySem.Expr} {vs : List MV} {vrs : List Value} {m : ML} {mr : Str → Option Value} {s : Shared},
    okT c.nm c.sc is = true → VRs ρ vs vrs → vs.length = is.length → St c mr ρ H s.heap → LR mr c.nm ρ m →
    (∀ mr' h' tk, St c mr' ρ H h' → LR mr' c.nm ρ (setAll is vs m) → Q () { s with heap := h', toks := tk }) →
    wpAny (model c.prog c.w) c.A (assignInOrder ((assignEach (reNames (atNm c.nm is) ts) c.env).map (·.2)) vrs) Q E s
  | [], ts, vs, vrs, m, mr, s, _, hv, hl, S, l, k => by
    cases vs with
    | nil =>
      have e : vrs = [] := hv
      subst e
      exact wpAny_pure (k mr s.heap s.toks S l)
    | cons _ _ => simp at hl
  | i :: is, ts, vs, vrs, m, mr, s, h, hv, hl, S, l, k => by
    have h1 : (okSlot c.nm i && stb c.sc (c.nm.getD i "") && okT c.nm c.sc is) = true := h
    obtain ⟨h1, h2, h3⟩ := and3 h1
    cases vs with
    | nil => simp at hl
    | cons v vs =>
      obtain ⟨vr, r, rfl, hv1, hv2⟩ := hv
      show wpAny _ _ (do holding r (assign (.Name (c.nm.getD i "") (nth 0 ts).pos) c.env vr); assignInOrder ((assignEach (reNames (atNm c.nm is) ts.tail) c.env).map (·.2)) r) Q E s
      refine wpAny_bind (wpAny_holding (wpAny_assign_Name ?_))
      refine store ok S hfm h2 ?_
      intro h' tk S2
      refine assignIn ok hfm (s := { s with heap := h', toks := tk }) h3 hv2 (by simpa using hl) S2 (l.set (beq_iff_eq.mp h1) hv1) ?_
      intro mr' h'' tk' S3 l3
      exact k mr' h'' tk' S3 l3
theorem ext_grow {h h' : Heap} (he : Heap.ExtBut h.objs.size h h') : ∀ b o, h.get? b = some o → h'.get? b = some o := fun b o e => he b o (Nat.ne_of_lt (Heap.lt_size e)) e
theorem assignTup (ok : Ok G c d) (hfm : c.fm = none) {Q : Unit → Shared → Prop} {E : Value → Shared → Prop} {ρ : List Addr} {is : List Nat} {ts : List PySem.Expr} {n : Nat} {p : Pos} {v : MV} {vr : Value} {vs : List MV} {mr : Str → Option Value} {s : Shared}
    (ht : okT c.nm c.sc is = true) (h1 : 1 < is.length) (hv : VR ρ v vr) (hp : Parts H is v vs) (S : St c mr ρ H s.heap) (l : LR mr c.nm ρ m)
    (k : ∀ mr' h' tk, St c mr' ρ H h' → LR mr' c.nm ρ (setAll is vs m) → Q () { s with heap := h', toks := tk }) : wpAny (model c.prog c.w) c.A (assign (.Tuple (reNames (atNm c.nm is) ts) n p) c.env vr) Q E s := by
  have hp' : 1 < is.length ∧ vs.length = is.length ∧ ∃ a, v = .ref a ∧ H[a]? = some (.tup vs) := by
    cases is with
    | nil => simp at h1
    | cons i r =>
      cases r with
      | nil => simp at h1
      | cons _ _ => exact hp
  obtain ⟨_, hl, a, rfl, ha⟩ := hp'
  obtain ⟨x, hx, rfl⟩ := hv
  obtain ⟨ws, hws, T⟩ := S.tup ha hx
  obtain ⟨q1, q2⟩ := each_length (nm := c.nm) (env := c.env) is ts
  refine assign_Tuple_tuple ok.hh T (by rw [q1, List.size_toArray, hws.length, hl]) q2 ?_
  intro h' he
  refine assignIn ok hfm (s := { s with heap := h' }) ht (by simpa using hws) hl (S.grow (ext_grow he)) l ?_
  intro mr' h'' tk' S3 l3
  exact k mr' h'' tk' S3 l3
theorem assignTg (ok : Ok G c d) (hfm : c.fm = none) {Q : Unit → Shared → Prop} {E : Value → Shared → Prop} {ρ : List Addr} {is : List Nat} {e : PySem.Expr} {v : MV} {vr : Value} {vs : List MV} {mr : Str → Option Value} {s : Shared}
    (h0 : is.isEmpty = false) (ht : okT c.nm c.sc is = true) (hv : VR ρ v vr) (hp : Parts H is v vs) (S : St c mr ρ H s.heap) (l : LR mr c.nm ρ m)
    (k : ∀ mr' h' tk, St c mr' ρ H h' → LR mr' c.nm ρ (setAll is vs m) → Q () { s with heap := h', toks := tk }) : wpAny (model c.prog c.w) c.A (assign (reTg (atNm c.nm is) e) c.env vr) Q E s := by
  cases is with
  | nil => cases h0
  | cons i r =>
    cases r with
    | nil =>
      have h1 : (okSlot c.nm i && stb c.sc (c.nm.getD i "") && true) = true := ht
      obtain ⟨h1, h2, _⟩ := and3 h1
      have e : vs = [v] := hp
      subst e
      refine wpAny_assign_Name (store ok S hfm h2 ?_)
      intro h' tk S2
      exact k _ h' tk S2 (l.set (beq_iff_eq.mp h1) hv)
    | cons j r =>
      have q : reTg (atNm c.nm (i :: j :: r)) e = .Tuple (reNames (atNm c.nm (i :: j :: r)) (kids e)) (numOf e) e.pos := rfl
      rw [q]
      exact assignTup ok hfm ht (by simp) hv hp S l k
noncomputable def NX (c : Cx) (I : Addr) (T : Nat → Obj → Prop) (good : MH → Prop) (item : Nat → MH → Option MV) (ρ₀ : List Addr) : Prop :=
  ∀ (i : Nat) (oI : Obj) (mr : Str → Option Value) (t : List Addr) (H : MH) (s : Shared) (Q : Option Value → Shared → Prop) (E : Value → Shared → Prop), T i oI → good H → St (c.wx ((I, oI) :: c.xt)) mr (ρ₀ ++ t) H s.heap →
    (∀ mv vr oI' h' tk, item i H = some mv → VR (ρ₀ ++ t) mv vr → T (i + 1) oI' → h'.get? I = some oI' → (∀ b o, b ≠ I → s.heap.get? b = some o → h'.get? b = some o) → Q (some vr) { s with heap := h', toks := tk }) →
    (∀ h' tk, item i H = none → (∀ b o, b ≠ I → s.heap.get? b = some o → h'.get? b = some o) → Q none { s with heap := h', toks := tk }) →
    wpAny (model c.prog c.w) c.A (pyNext (.ref I)) Q E s
noncomputable def GoOk (T : Nat → Obj → Prop) : Prop := ∀ i o, T i o → ∃ n vs, o.cls = .type n ∧ o.data = .fields vs ∧ ["enumerate", "zip", "dict_itemiterator", "dict_reverseitemiterator", "odict_iterator", "itertools.zip_longest", "itertools.pairwise"].contains n = false
theorem letOwned {T : Nat → Obj → Prop} (g : GoOk T) {i : Nat} {o : Obj} (hT : T i o) {I : Addr} {target : PySem.Expr} {v : Value} {s : Shared} {Q : Unit → Shared → Prop} {E : Value → Shared → Prop} {M : Model} {A : Around} (hI : s.heap.get? I = some o) (h : Q () s) :
    wpAny M A (letOwnedTupleGo target (.ref I) v) Q E s := by
  obtain ⟨n, vs, h1, h2, h3⟩ := g i o hT
  have key : wpAny M A (do
    let (.ref r, .ref a) := (Value.ref I, v) | return
    let o ← load r
    match o.cls, o.data with
    | .type n, .fields vs =>
      if ["enumerate", "zip", "dict_itemiterator", "dict_reverseitemiterator", "odict_iterator", "itertools.zip_longest", "itertools.pairwise"].contains n && vs[0]? == some (rawInt a) then
        rule "for.unpacks-the-owned-tuple"
        updateField r 0 .none
    | _, _ => pure ()) Q E s := by
    cases v with
    | ref a =>
      refine wpAny_bind (wpAny_load hI ?_)
      simp only [h1, h2, h3, Bool.false_and, Bool.false_eq_true, if_false]
      exact wpAny_pure h
    | _ => exact wpAny_pure h
  cases target with
  | Tuple _ _ _ => exact key
  | List _ _ => exact key
  | _ => exact wpAny_pure h
theorem forCore (ok : Ok G c d) (hfm : c.fm = none) {is : List Nat} {e : PySem.Expr} {b : CSs} {body : List Stmt} {post : Fl → ML → MH → Prop} (he : is.isEmpty = false) (ht : okT c.nm c.sc is = true) (hb : wfSs b c.nm c.sc body = true)
    {I : Addr} {T : Nat → Obj → Prop} {good : MH → Prop} {item : Nat → MH → Option MV} {ρ : List Addr} (nx : NX c I T good item ρ) (go : GoOk T)
    (J : Nat → ML → MH → Prop) (B : Nat) (h0 : J 0 m H) (hB : ∀ i m H, J i m H → i ≤ B ∧ good H)
    (turn : ∀ i m1 H1 v xt, J i m1 H1 → item i H1 = some v → ∃ vs, Parts H1 is v vs ∧ TB (c.wx xt) (setAll is vs m1) b H1 (fun f m2 H2 => match f with
      | .next => J (i + 1) m2 H2
      | .cont => J (i + 1) m2 H2
      | .brk => post .next m2 H2
      | .ret v => post (.ret v) m2 H2))
    (done : ∀ i m1 H1, J i m1 H1 → item i H1 = none → post .next m1 H1)
    {mr : Str → Option Value} {s : Shared} {Q : Flow → Shared → Prop} {E : Value → Shared → Prop} {oI : Obj} (hT : T 0 oI) (S : St (c.wx ((I, oI) :: c.xt)) mr ρ H s.heap) (lr : LR mr c.nm ρ m)
    (k : ∀ t f fr m' mr' H' h' tk, post f m' H' → FlR (ρ ++ t) f fr → St c mr' (ρ ++ t) H' h' → LR mr' c.nm (ρ ++ t) m' → Q fr { s with heap := h', toks := tk }) (kx : Kx c ρ s E) :
    codeAny (model c.prog c.w) c.A (.forLoop (reTg (atNm c.nm is) e) (.ref I) (reSs b c.nm body) [] c.env) (fun r s' => match r with | .ok f => Q f s' | .error e => cameBackBy (model c.prog c.w) c.A c.env E e s') s := by
  let L : Nat → Shared → Prop := fun n s' => ∃ i t m1 mr1 H1 h' tk o, s' = { s with heap := h', toks := tk } ∧ n = B + 1 - i ∧ J i m1 H1 ∧ T i o ∧ St (c.wx ((I, o) :: c.xt)) mr1 (ρ ++ t) H1 h' ∧ LR mr1 c.nm (ρ ++ t) m1
  refine codeAny_forLoop_any L ?_ (B + 1) ⟨0, [], m, mr, H, s.heap, s.toks, oI, rfl, rfl, h0, hT, nil_of S, by rw [List.append_nil]; exact lr⟩
  rintro n _ ⟨i, t, m1, mr1, H1, h1, tk1, o, rfl, rfl, hJ, hTi, S1, l1⟩
  have kx1 := (kx.mono (t := t) (h := h1) (tk := tk1)).pass (M := model c.prog c.w) (A := c.A) (A' := c.A) ok hfm rfl
  refine nx i o mr1 t H1 _ _ _ hTi (hB i m1 H1 hJ).2 S1 ?_ ?_
  · intro mv vr oI' h2 tk2 hi hv hT' hI hkeep
    have S2 := S1.turnX hI hkeep
    refine letOwned go hT' hI ?_
    obtain ⟨vs, hp, hturn⟩ := turn i m1 H1 mv ((I, oI') :: c.xt) hJ hi
    refine assignTg (c := c.wx ((I, oI') :: c.xt)) (s := { s with heap := h2, toks := tk2 }) (ok.wx _) hfm he ht hv hp S2 l1 ?_
    intro mr3 h3 tk3 S3 l3
    refine hturn _ hb mr3 (ρ ++ t) { s with heap := h3, toks := tk3 } _ _ S3 l3 ?_ ?_
    · intro t' f fr m4 mr4 H4 h4 tk4 hp4 hf S4 l4
      rw [List.append_assoc] at hf S4 l4
      cases f with
      | next =>
        subst hf
        have := (hB _ _ _ hp4).1
        exact ⟨B + 1 - (i + 1), by omega, i + 1, t ++ t', m4, mr4, H4, h4, tk4, oI', rfl, rfl, hp4, hT', S4, l4⟩
      | cont =>
        subst hf
        have := (hB _ _ _ hp4).1
        exact ⟨B + 1 - (i + 1), by omega, i + 1, t ++ t', m4, mr4, H4, h4, tk4, oI', rfl, rfl, hp4, hT', S4, l4⟩
      | brk =>
        subst hf
        exact k (t ++ t') .next .next m4 mr4 H4 h4 tk4 hp4 rfl (S4.dropX) l4
      | ret v =>
        obtain ⟨vr', rfl, hv'⟩ := hf
        exact k (t ++ t') (.ret v) (.ret vr') m4 mr4 H4 h4 tk4 hp4 ⟨vr', rfl, hv'⟩ (S4.dropX) l4
    · exact Kx.addX (c := c) (p := (I, oI')) fun t' C as e m' mr' H' h' tk hX hF hL => kx1 t' C as e m' mr' H' h' tk hX hF hL
  · intro h2 tk2 hi hkeep
    refine wpAny_execs_nil ?_
    have S2 : St c mr1 (ρ ++ t) H1 h2 := S1.endX hkeep
    exact k t .next .next m1 mr1 H1 h2 tk2 (done i m1 H1 hJ hi) rfl S2 l1
end
section
variable {c : Cx} {m : ML} {H : MH} {G : Gx} {d : Nat}
noncomputable def itemL (a : Nat) (i : Nat) (H : MH) : Option MV := match H[a]? with
  | some (.list xs) => xs[i]?
  | _ => none
theorem NX.list {I l : Addr} {a : Nat} {ρ : List Addr} (hh : c.A.handled = none) (hl : ρ[a]? = some l) :
    NX c I (fun i o => o.cls = .type "list_iterator" ∧ o.data = .fields #[.ref l, .int i 0]) (fun H => ∃ xs, H[a]? = some (.list xs)) (itemL a) ρ := by
  rintro i oI mr t H s Q E ⟨hc, hd⟩ ⟨xs, ha⟩ S k1 k2
  obtain ⟨vs, ep, hvs, No⟩ := S.list ha (get_mono hl)
  have hit : s.heap.IsListIter I l i := ⟨oI, S.itr.1, hc, hd⟩
  have L := isList_of No
  have hitem : itemL a i H = xs[i]? := by unfold itemL; rw [ha]
  cases hx : xs[i]? with
  | some mv =>
    obtain ⟨vr, e1, e2⟩ := hvs.get hx
    refine wpAny_pyNext_list_item hit L (x := vr) (by simpa using e1) fun h' hit' hs' => ?_
    obtain ⟨o', ho', hc', hd'⟩ := hit'
    exact k1 mv vr o' h' s.toks (hitem.trans hx) e2 ⟨hc', hd'⟩ ho' fun b o hb e => (hs'.2 b hb).trans e
  | none =>
    have hn : vs.toArray[i]? = none := by
      have : xs.length ≤ i := List.getElem?_eq_none_iff.mp hx
      simp only [List.getElem?_toArray]
      exact List.getElem?_eq_none_iff.mpr (by rw [hvs.length]; exact this)
    exact wpAny_pyNext_list_end hh hit L hn fun h' he' => k2 h' s.toks (hitem.trans hx) fun b o hb e => he' b o hb e
theorem and4 {a b c d : Bool} (h : (a && b && c && d) = true) : a = true ∧ b = true ∧ c = true ∧ d = true := ⟨(and3 (and2 h).1).1, (and3 (and2 h).1).2.1, (and3 (and2 h).1).2.2, (and2 h).2⟩
theorem ne_of {is : List Nat} (h : (!is.isEmpty) = true) : is.isEmpty = false := by simpa using h
theorem folded_of {nm : List Str} {sc : Scope} {a : CE} {e : PySem.Expr} {env : Env} (h : wfE a nm sc e = true) (v : Value) : foldedSetIterable (reE a nm e) env v = pure v := by
  cases a with
  | tst t => have h2 := tst_of h; cases t <;> first | rfl | cases h2
  | _ => rfl
theorem TS.forL (ok : Ok G c d) (hfm : c.fm = none) {is : List Nat} {it : CE} {b : CSs} {post : Fl → ML → MH → Prop}
    (h : TE c m it H (fun l H1 => ∃ a, l = .ref a ∧ ∃ (J : Nat → ML → MH → Prop) (B : Nat), J 0 m H1 ∧ (∀ i m2 H2, J i m2 H2 → i ≤ B ∧ ∃ xs, H2[a]? = some (.list xs)) ∧
      (∀ i m1 H2 v xt, J i m1 H2 → itemL a i H2 = some v → ∃ vs, Parts H2 is v vs ∧ TB (c.wx xt) (setAll is vs m1) b H2 (fun f m2 H3 => match f with
        | .next => J (i + 1) m2 H3
        | .cont => J (i + 1) m2 H3
        | .brk => post .next m2 H3
        | .ret v => post (.ret v) m2 H3)) ∧
      (∀ i m1 H2, J i m1 H2 → itemL a i H2 = none → post .next m1 H2))) : TS c m (.for is it b) H post := by
  intro st hs
  obtain ⟨h0, h1, h2, h3⟩ := and4 hs
  have h0 := ne_of h0
  intro mr ρ s Q E S lr k kx
  refine wpAny_For ?_ (folded_of h2)
  refine h _ h2 mr ρ s _ E S lr ?_ kx
  rintro t l lv H1 hp1 tk1 ⟨a, rfl, J, B, hJ0, hJ, turn, done⟩ hl S1
  obtain ⟨y, hy, rfl⟩ := hl
  obtain ⟨xs, ha⟩ := (hJ 0 m H1 hJ0).2
  obtain ⟨vs, ep, hvs, No⟩ := S1.list ha hy
  refine wpAny_pyIter_list (isList_of No) ?_
  refine forCore ok hfm h0 h1 h3 (NX.list ok.hh hy) (fun i o hT => ⟨_, _, hT.1, hT.2, rfl⟩) J B hJ0 hJ turn done (mr := mr) ⟨rfl, rfl⟩ (S1.addX rfl) lr.mono ?_ kx.mono
  intro t' f fr m' mr' H' h' tk hp hf S' l'
  rw [List.append_assoc] at hf S' l'
  exact k (t ++ t') f fr m' mr' H' h' tk hp hf S' l'
theorem TS.forL' (ok : Ok G c d) (hfm : c.fm = none) {is : List Nat} {it : CE} {b : CSs} {post : Fl → ML → MH → Prop}
    (h : TE c m it H (fun l H1 => ∃ a xs, l = .ref a ∧ H1[a]? = some (.list xs) ∧ ∃ (J : Nat → ML → MH → Prop), J 0 m H1 ∧ (∀ i m2 H2, J i m2 H2 → H2[a]? = some (.list xs)) ∧
      (∀ i m1 H2 v xt, J i m1 H2 → xs[i]? = some v → ∃ vs, Parts H2 is v vs ∧ TB (c.wx xt) (setAll is vs m1) b H2 (fun f m2 H3 => match f with
        | .next => J (i + 1) m2 H3
        | .cont => J (i + 1) m2 H3
        | .brk => post .next m2 H3
        | .ret v => post (.ret v) m2 H3)) ∧
      (∀ m1 H2, J xs.length m1 H2 → post .next m1 H2))) : TS c m (.for is it b) H post := by
  refine TS.forL ok hfm (h.mono fun l H1 h1 => ?_)
  obtain ⟨a, xs, rfl, ha, J, h0, hJ, turn, done⟩ := h1
  refine ⟨a, rfl, fun i m2 H2 => i ≤ xs.length ∧ J i m2 H2, xs.length, ⟨Nat.zero_le _, h0⟩, fun i m2 H2 q => ⟨q.1, xs, hJ i m2 H2 q.2⟩, ?_, ?_⟩
  · intro i m1 H2 v xt q hi
    have hx : xs[i]? = some v := by unfold itemL at hi; rw [hJ i m1 H2 q.2] at hi; exact hi
    have hlt := (List.getElem?_eq_some_iff.mp hx).1
    obtain ⟨vs, hp, ht⟩ := turn i m1 H2 v xt q.2 hx
    refine ⟨vs, hp, ht.mono fun f m2 H3 hf => ?_⟩
    cases f with
    | next => exact ⟨hlt, hf⟩
    | cont => exact ⟨hlt, hf⟩
    | brk => exact hf
    | ret v => exact hf
  · intro i m1 H2 q hi
    have hx : xs[i]? = none := by unfold itemL at hi; rw [hJ i m1 H2 q.2] at hi; exact hi
    have : i = xs.length := Nat.le_antisymm q.1 (List.getElem?_eq_none_iff.mp hx)
    exact done m1 H2 (this ▸ q.2)
noncomputable def itemR (a b : Int) (i : Nat) (_ : MH) : Option MV := if a + i < b then some (.int (a + i)) else none
theorem NX.range {I : Addr} {a b : Int} {ρ : List Addr} (hh : c.A.handled = none) :
    NX c I (fun i o => o = { cls := .type "range_iterator", data := .fields #[rawInt (a + i), rawInt (((b - a).toNat : Int) - i), rawInt 1] }) (fun _ => True) (itemR a b) ρ := by
  rintro i oI mr t H s Q E rfl _ S k1 k2
  have hI : IsRangeIter s.heap I (a + i) (((b - a).toNat : Int) - i) 1 := S.itr.1
  by_cases hlt : a + i < b
  · refine wpAny_pyNext_range_item hI (by omega) fun h' hit' hs' => ?_
    refine k1 (.int (a + i)) (.int (a + i) s.toks) _ h' _ (by unfold itemR; rw [if_pos hlt]) ⟨_, rfl⟩ ?_ hit' fun b o hb e => (hs'.2 b hb).trans e
    have e1 : a + (i : Int) + 1 = a + ((i + 1 : Nat) : Int) := by omega
    have e2 : ((b - a).toNat : Int) - (i : Int) - 1 = ((b - a).toNat : Int) - ((i + 1 : Nat) : Int) := by omega
    rw [e1, e2]
  · exact wpAny_pyNext_range_end hh hI (by omega) fun h' he' => k2 h' s.toks (by unfold itemR; rw [if_neg hlt]) fun b o hb e => he' b o hb e
noncomputable def Rng (vs : List MV) (a b : Int) : Prop := ((vs = [.int b] ∧ a = 0) ∨ vs = [.int a, .int b]) ∧ -(2 ^ 62) ≤ a ∧ a < 2 ^ 62 ∧ -(2 ^ 62) ≤ b ∧ b < 2 ^ 62
theorem call_range {mr : Str → Option Value} {ρ : List Addr} {s : Shared} {vs : List MV} {vrs : List Value} {a b : Int} {Q E} (S : St c mr ρ H s.heap) (hr : Rng vs a b) (hv : VRs ρ vs vrs)
    (k : ∀ h' tk t₁ u₁ v₁, IsRange h' s.heap.objs.size a b 1 t₁ u₁ v₁ → St c mr ρ H h' → s.heap.objs.size < h'.objs.size → Q (.ref s.heap.objs.size) { s with heap := h', toks := tk }) :
    wpAny (model c.prog c.w) c.A (call (.type "range") vrs) Q E s := by
  obtain ⟨ml, xs, ⟨F, os, a1, a2, a3, N, a5⟩, back⟩ := S.open
  obtain ⟨hvs, _⟩ := hr
  have hlt : ∀ h' t₁ u₁ v₁, IsRange h' s.heap.objs.size a b 1 t₁ u₁ v₁ → s.heap.objs.size < h'.objs.size := fun h' t₁ u₁ v₁ hr => by
    unfold IsRange at hr
    exact Heap.lt_size hr
  rcases hvs with ⟨rfl, rfl⟩ | rfl
  · obtain ⟨v, r, rfl, ⟨tt, rfl⟩, hr⟩ := hv
    have hr' : r = [] := hr
    subst hr'
    exact range1_rows F N fun h' tk t₁ u₁ v₁ hr _ _ hkeep => k h' tk t₁ u₁ v₁ hr (S.grow hkeep) (hlt _ _ _ _ hr)
  · obtain ⟨v, r, rfl, ⟨tt, rfl⟩, v2, r2, rfl, ⟨uu, rfl⟩, hr⟩ := hv
    have hr' : r2 = [] := hr
    subst hr'
    exact range2_rows F N fun h' tk t₁ u₁ v₁ hr _ _ hkeep => k h' tk t₁ u₁ v₁ hr (S.grow hkeep) (hlt _ _ _ _ hr)
theorem callType (ok : Ok G c d) {g : Str} {T : String} {as : CEs} {e : PySem.Expr} (hg : nsIn G.K mainGlobals g = some Option.none) (hb : bootBuiltins g = some (.type T)) (hn : g ≠ "__name__")
    (he : wfE (.call g as) c.nm c.sc e = true) (hne : as ≠ .nil) {mr : Str → Option Value} {ρ : List Addr} {s : Shared} {Q : Value → Shared → Prop} {E : Value → Shared → Prop} {p : List MV → MH → Prop} (S : St c mr ρ H s.heap) (l : LR mr c.nm ρ m) (kx : Kx c ρ s E)
    (h : TEs c m as H p) (k : ∀ t vs vrs H' h' tk, p vs H' → VRs (ρ ++ t) vs vrs → St c mr (ρ ++ t) H' h' → wpAny (model c.prog c.w) c.A (call (.type T) vrs) Q E { s with heap := h', toks := tk }) :
    wpAny (model c.prog c.w) c.A (eval (reE (.call g as) c.nm e) c.env) Q E s := by
  obtain ⟨h2, h3⟩ := and2 he
  refine Call_ ?_ rfl
  refine nameB ok S h2 hg hb hn ?_
  cases as with
  | nil => exact absurd rfl hne
  | cons a r =>
    have h4 := and2 h3
    refine PyProof.Rows.callWith_type1 ?_ (star_cons (star_re h4.1)) (star_plain h4.2)
    refine h _ _ h3 mr ρ s _ E S l ?_ kx
    intro t vs vrs H' h' tk hp hv S'
    exact k t vs vrs H' h' tk hp hv S'
theorem callBuiltin (ok : Ok G c d) {g : Str} {T : String} {as : CEs} {e : PySem.Expr} (hg : nsIn G.K mainGlobals g = some Option.none) (hb : bootBuiltins g = some (.builtin T)) (hn : g ≠ "__name__")
    (he : wfE (.call g as) c.nm c.sc e = true) (hne : as ≠ .nil) {mr : Str → Option Value} {ρ : List Addr} {s : Shared} {Q : Value → Shared → Prop} {E : Value → Shared → Prop} {p : List MV → MH → Prop} (S : St c mr ρ H s.heap) (l : LR mr c.nm ρ m) (kx : Kx c ρ s E)
    (h : TEs c m as H p) (k : ∀ t vs vrs H' h' tk, p vs H' → VRs (ρ ++ t) vs vrs → St c mr (ρ ++ t) H' h' → wpAny (model c.prog c.w) c.A (call (.builtin T) vrs) Q E { s with heap := h', toks := tk }) :
    wpAny (model c.prog c.w) c.A (eval (reE (.call g as) c.nm e) c.env) Q E s := by
  obtain ⟨h2, h3⟩ := and2 he
  refine Call_ ?_ rfl
  refine nameB ok S h2 hg hb hn ?_
  cases as with
  | nil => exact absurd rfl hne
  | cons a r =>
    have h4 := and2 h3
    refine PyProof.Rows.callWith_builtin1 ?_ (star_cons (star_re h4.1)) (star_plain h4.2)
    refine h _ _ h3 mr ρ s _ E S l ?_ kx
    intro t vs vrs H' h' tk hp hv S'
    exact k t vs vrs H' h' tk hp hv S'
theorem TS.forR (ok : Ok G c d) (hfm : c.fm = none) (hg : nsIn G.K mainGlobals "range" = some none) {is : List Nat} {as : CEs} {b : CSs} {post : Fl → ML → MH → Prop} (hne : as ≠ .nil)
    (h : TEs c m as H (fun vs H1 => ∃ a b', Rng vs a b' ∧ ∃ (J : Nat → ML → MH → Prop), J 0 m H1 ∧
      (∀ i m1 H2 xt, J i m1 H2 → a + i < b' → TB (c.wx xt) (setAll is [.int (a + i)] m1) b H2 (fun f m2 H3 => match f with
        | .next => J (i + 1) m2 H3
        | .cont => J (i + 1) m2 H3
        | .brk => post .next m2 H3
        | .ret v => post (.ret v) m2 H3)) ∧
      (∀ m1 H2, J (b' - a).toNat m1 H2 → post .next m1 H2))) (h1i : ∃ i, is = [i]) : TS c m (.for is (.call "range" as) b) H post := by
  obtain ⟨i0, rfl⟩ := h1i
  intro st hs
  obtain ⟨h0, h1, h2, h3⟩ := and4 hs
  have h0 := ne_of h0
  intro mr ρ s Q E S lr k kx
  refine wpAny_For ?_ (folded_of h2)
  refine callType ok (T := "range") hg boot_range (by decide) h2 hne S lr kx h ?_
  rintro t vs vrs H1 hp1 tk1 ⟨a, b', hr, J, hJ0, turn, done⟩ hv S1
  refine call_range S1 hr hv ?_
  intro h' tk t₁ u₁ v₁ hR S2 _
  refine wpAny_pyIter_range hR (small_one hr.2.1 hr.2.2.1 hr.2.2.2.1 hr.2.2.2.2) ?_
  refine forCore (post := post) ok hfm h0 h1 h3 (NX.range (a := a) (b := b') ok.hh) (fun i o hT => by subst hT; exact ⟨_, _, rfl, rfl, rfl⟩) (fun i m2 H2 => i ≤ (b' - a).toNat ∧ J i m2 H2) (b' - a).toNat ⟨Nat.zero_le _, hJ0⟩ (fun i m2 H2 q => ⟨q.1, trivial⟩) ?_ ?_ (mr := mr) ?_ (S2.addX rfl) lr.mono ?_ kx.mono
  · intro i m1 H2 v xt q hi
    unfold itemR at hi
    split at hi
    · rename_i hlt
      cases hi
      refine ⟨_, rfl, (turn i m1 H2 xt q.2 hlt).mono fun f m2 H3 hf => ?_⟩
      cases f with
      | next => exact ⟨by omega, hf⟩
      | cont => exact ⟨by omega, hf⟩
      | brk => exact hf
      | ret v => exact hf
    · cases hi
  · intro i m1 H2 q hi
    unfold itemR at hi
    split at hi
    · cases hi
    · rename_i hge
      have : i = (b' - a).toNat := by have := q.1; omega
      exact done m1 H2 (this ▸ q.2)
  · rw [rangeSize_nat]
    simp
  · intro t' f fr m' mr' H' h'' tk' hp hf S' l'
    rw [List.append_assoc] at hf S' l'
    exact k (t ++ t') f fr m' mr' H' h'' tk' hp hf S' l'
theorem TEs.one {a : CE} {p : MV → MH → Prop} (h : TE c m a H p) : TEs c m (.cons a .nil) H (fun vs H1 => ∃ v, vs = [v] ∧ p v H1) := TEs.cons (h.mono fun v H1 h1 => TEs.nil ⟨v, rfl, h1⟩)
theorem NX.rev {I l : Addr} {a : Nat} {xs : List MV} {ρ : List Addr} (hh : c.A.handled = none) (hl : ρ[a]? = some l) :
    NX c I (fun i o => o.cls = .type "list_reverseiterator" ∧ o.data = .fields #[.ref l, rawInt ((xs.length : Int) - 1 - i)] ∧ i ≤ xs.length) (fun H => H[a]? = some (.list xs)) (fun i _ => xs.reverse[i]?) ρ := by
  rintro i oI mr t H s Q E ⟨hc, hd, hle⟩ ha S k1 k2
  obtain ⟨vs, ep, hvs, No⟩ := S.list ha (get_mono hl)
  have hI := S.itr.1
  have L := isList_of No
  by_cases hlt : i < xs.length
  · have hx : xs.reverse[i]? = some (xs[xs.length - 1 - i]'(by omega)) := by
      rw [List.getElem?_reverse hlt]
      exact List.getElem?_eq_getElem (by omega)
    have hx' : xs[xs.length - 1 - i]? = some (xs[xs.length - 1 - i]'(by omega)) := List.getElem?_eq_getElem (by omega)
    obtain ⟨vr, e1, e2⟩ := hvs.get hx'
    have e0 : (xs.length : Int) - 1 - i = ((xs.length - 1 - i : Nat) : Int) := by omega
    have hit : s.heap.IsRevIter I l ((xs.length - 1 - i : Nat) : Int) := ⟨oI, hI, hc, by rw [hd, e0]⟩
    refine wpAny_pyNext_rev_item hit L (x := vr) (by simpa using e1) fun h' hit' hs' => ?_
    obtain ⟨o', ho', hc', hd'⟩ := hit'
    refine k1 _ vr o' h' s.toks hx e2 ⟨hc', ?_, hlt⟩ ho' fun b o hb e => (hs'.2 b hb).trans e
    rw [hd']
    have e3 : ((xs.length - 1 - i : Nat) : Int) - 1 = (xs.length : Int) - 1 - ((i + 1 : Nat) : Int) := by omega
    rw [e3]
  · have e0 : (xs.length : Int) - 1 - i = -1 := by omega
    have hit : s.heap.IsRevIter I l (-1) := ⟨oI, hI, hc, by rw [hd, e0]⟩
    refine wpAny_pyNext_rev_end hh hit fun h' he' => k2 h' s.toks ?_ fun b o hb e => he' b o hb e
    exact List.getElem?_eq_none_iff.mpr (by rw [List.length_reverse]; omega)
theorem TS.forRev (ok : Ok G c d) (hfm : c.fm = none) (hg : nsIn G.K mainGlobals "reversed" = some none) {is : List Nat} {x : CE} {b : CSs} {post : Fl → ML → MH → Prop}
    (h : TE c m x H (fun v H1 => ∃ a xs, v = .ref a ∧ H1[a]? = some (.list xs) ∧ ∃ (J : Nat → ML → MH → Prop), J 0 m H1 ∧ (∀ i m2 H2, J i m2 H2 → H2[a]? = some (.list xs)) ∧
      (∀ i m1 H2 v xt, J i m1 H2 → xs.reverse[i]? = some v → ∃ vs, Parts H2 is v vs ∧ TB (c.wx xt) (setAll is vs m1) b H2 (fun f m2 H3 => match f with
        | .next => J (i + 1) m2 H3
        | .cont => J (i + 1) m2 H3
        | .brk => post .next m2 H3
        | .ret v => post (.ret v) m2 H3)) ∧
      (∀ m1 H2, J xs.length m1 H2 → post .next m1 H2))) : TS c m (.for is (.call "reversed" (.cons x .nil)) b) H post := by
  intro st hs
  obtain ⟨h0, h1, h2, h3⟩ := and4 hs
  have h0 := ne_of h0
  intro mr ρ s Q E S lr k kx
  refine wpAny_For ?_ (folded_of h2)
  refine callType ok (T := "reversed") hg boot_reversed (by decide) h2 (by intro q; cases q) S lr kx (TEs.one h) ?_
  rintro t vs vrs H1 hp1 tk1 ⟨v, rfl, a, xs, rfl, ha, J, hJ0, hJ, turn, done⟩ ⟨vr, r, rfl, ⟨y, hy, rfl⟩, hr⟩ S1
  have hr' : r = [] := hr
  subst hr'
  obtain ⟨ws, ep, hws, No⟩ := S1.list ha hy
  have hlen : ws.toArray.size = xs.length := by rw [List.size_toArray, hws.length]
  refine call_reversed_list (isList_of No) ?_
  have S2 := S1.addX (o := revObj y ((ws.toArray.size : Int) - 1)) rfl
  refine wpAny_pyIter_revIter ⟨_, Heap.get?_push_size _ rfl, rfl, rfl⟩ ?_
  refine forCore (post := post) ok hfm h0 h1 h3 (NX.rev (xs := xs) ok.hh hy) (fun i o hT => ⟨_, _, hT.1, hT.2.1, rfl⟩) (fun i m2 H2 => i ≤ xs.length ∧ J i m2 H2) xs.length ⟨Nat.zero_le _, hJ0⟩ (fun i m2 H2 q => ⟨q.1, hJ i m2 H2 q.2⟩) ?_ ?_ (mr := mr) ⟨rfl, ?_, Nat.zero_le _⟩ S2 lr.mono ?_ kx.mono
  · intro i m1 H2 v xt q hi
    have hlt := (List.getElem?_eq_some_iff.mp hi).1
    rw [List.length_reverse] at hlt
    obtain ⟨vs, hp, ht⟩ := turn i m1 H2 v xt q.2 hi
    refine ⟨vs, hp, ht.mono fun f m2 H3 hf => ?_⟩
    cases f with
    | next => exact ⟨hlt, hf⟩
    | cont => exact ⟨hlt, hf⟩
    | brk => exact hf
    | ret v => exact hf
  · intro i m1 H2 q hi
    have h5 := List.getElem?_eq_none_iff.mp hi
    rw [List.length_reverse] at h5
    have : i = xs.length := Nat.le_antisymm q.1 h5
    exact done m1 H2 (this ▸ q.2)
  · show Data.fields #[.ref y, rawInt ((ws.toArray.size : Int) - 1)] = _
    rw [hlen]
    simp
  · intro t' f fr m' mr' H' h'' tk' hp hf S' l'
    rw [List.append_assoc] at hf S' l'
    exact k (t ++ t') f fr m' mr' H' h'' tk' hp hf S' l'
end
theorem Ok.le {G : Gx} {c : Cx} {d d' : Nat} (h : d ≤ d') (ok : Ok G c d') : Ok G c d :=
  ⟨ok.frames, ok.kin, ok.top, ok.hh, by have := ok.dep; omega, by have := ok.uni; omega, ok.fn, ok.gl, ok.bi, ok.ap, ok.kd, ok.fs, ok.ex⟩
theorem CL.le {G : Gx} {prog : Program} {w : World} {d d' : Nat} {f : Addr} {args : List MV} {H : MH} {p : MV → MH → Prop} {xp : Addr → List MV → MH → Prop} (h : d ≤ d') (q : CL G prog w d f args H p xp) : CL G prog w d' f args H p xp :=
  fun c mr ρ s Q E vs e1 e2 ok S l k kx => q c mr ρ s Q E vs e1 e2 (ok.le h) S l k kx
structure GFn (G : Gx) (g : Str) (f : Addr) : Prop where
  ns : nsIn G.K mainGlobals g = some (some (.ref f))
  keep : keepIn G.K (.ref f) = true
structure GCls (G : Gx) (g : Str) (C fI : Addr) : Prop extends GFn G g C where
  makes : makesIn G.K C = true
  init : findIn G.K (.ref C) "__init__" = some (some (.ref fI))
  fn : isFn G.K (.ref fI) = true
structure GAtt (G : Gx) (C : Addr) (name : Str) : Prop where
  plain : plainGet G.K C name = true
  dict : hasDictIn G.K C = true
  find : findIn G.K (.ref C) name = some none
structure GSto (G : Gx) (C : Addr) (name : Str) : Prop where
  set : findIn G.K (.ref C) "__setattr__" = some (some (.builtin "object.__setattr__"))
  over : plainOver G.K C = true
  taker : takerIn G.K C name = some none
  dict : hasDictIn G.K C = true
structure GMth (G : Gx) (C : Addr) (name : Str) (f : Addr) : Prop where
  plain : plainGet G.K C name = true
  find : findIn G.K (.ref C) name = some (some (.ref f))
  fn : isFn G.K (.ref f) = true
  keep : keepIn G.K (.ref f) = true
noncomputable def GDef (G : Gx) (f : Addr) (names nm : List Str) (b : CSs) (dm : List MV) : Prop :=
  ∃ (name qual : Str) (params : Arguments) (body : List Stmt) (scope : Scope) (dV kV doc pm cdv ct oc : Value) (an od : Option Addr) (osl : Array (Option Value)) (dv : List Value),
    G.K.lookup f = some ⟨oc, od, .func (fnOf name qual params body scope dV kV doc pm an cdv ct), osl⟩ ∧ codeIn G.K cdv qual = true ∧
    (∀ (s : Shared) (vs : List Value), G.K.In s.heap → vs.length + dm.length = names.length → BindsTo s (fnOf name qual params body scope dV kV doc pm an cdv ct) ⟨vs, []⟩ (names.zip (vs ++ dv))) ∧
    VRs [] dm dv ∧ fnb scope names nm = true ∧ wfSs b nm scope body = true ∧ reSs b nm body = body
theorem GDef.cl {G : Gx} {prog : Program} {w : World} {d : Nat} {f : Addr} {names nm : List Str} {b : CSs} {dm args : List MV} {H : MH} {post : MV → MH → Prop} {xp : Addr → List MV → MH → Prop}
    (D : GDef G f names nm b dm) (hl : args.length + dm.length = names.length)
    (h : ∀ c : Cx, c.prog = prog → c.w = w → Ok G c d → c.fm = none → interactive c.env = false → c.nm = nm → c.X = (fun C as _ H => xp C as H) → TB c (start nm (args ++ dm)) b H (fun fl _ H' => post (retv fl) H')) :
    CL G prog w (d + 1) f args H post xp := by
  obtain ⟨name, qual, params, body, scope, dV, kV, doc, pm, cdv, ct, oc, an, od, osl, dv, h1, h2, h3, h4, h5, h6, h7⟩ := D
  refine CL.body (names := names) (nm := nm) h1 h2 (fun s vs X hv => h3 s vs X (by rw [hv]; exact hl)) h4 (by rw [List.length_append]; exact hl) h5 ?_
  intro c e1 e2 ok e3 e4 e5 e6
  have hb := h c e1 e2 ok e3 ?_ e4 e6 body (by rw [e4, e5]; exact h6)
  · rw [e4, h7] at hb
    exact hb
  have := ok.fn
  unfold interactive
  rw [this]
  rfl
section
variable {c : Cx} {m : ML} {H : MH} {G : Gx} {d : Nat}
theorem runCL {f : Addr} {vs : List MV} {vrs : List Value} {mr : Str → Option Value} {ρ t : List Addr} {s : Shared} {Q : Value → Shared → Prop} {E : Value → Shared → Prop} {H1 : MH} {h1 : Heap} {tk1 : Nat} {post : MV → MH → Prop} (ok : Ok G c d)
    (hcl : CL G c.prog c.w d f vs H1 post (fun C as H' => c.X C as m H')) (S1 : St c mr (ρ ++ t) H1 h1) (hvs : VRs (ρ ++ t) vs vrs) (l : LR mr c.nm ρ m)
    (k : ∀ t v vr H' h' tk, post v H' → VR (ρ ++ t) v vr → St c mr (ρ ++ t) H' h' → Q vr { s with heap := h', toks := tk }) (kx : Kx c ρ s E) :
    wpAny (model c.prog c.w) c.A (call (.ref f) vrs) Q E { s with heap := h1, toks := tk1 } := by
  refine wpAny_call ?_
  refine hcl c mr (ρ ++ t) _ _ E vrs rfl rfl ok S1 hvs ?_ ?_
  · intro t' v vr H2 h2 tk2 hp hv S2
    rw [List.append_assoc] at hv S2
    exact k (t ++ t') v vr H2 h2 tk2 hp hv S2
  · intro t' C as e H2 h2 tk2 hx hF
    rw [List.append_assoc] at hF
    exact kx (t ++ t') C as e m mr H2 h2 tk2 hx hF l.mono
theorem TE.call (ok : Ok G c d) {g : Str} {f : Addr} {a : CE} {r : CEs} {post : MV → MH → Prop} (hg : GFn G g f) (h : TEs c m (.cons a r) H (fun vs H1 => CL G c.prog c.w d f vs H1 post (fun C as H' => c.X C as m H'))) : TE c m (.call g (.cons a r)) H post := by
  intro e he
  obtain ⟨h2, h3⟩ := and2 he
  intro mr ρ s Q E S l k kx
  refine Call_ ?_ rfl
  refine nameG ok S h2 hg.ns ?_
  have h4 := and2 h3
  refine callWith_K ok.kin hg.keep ?_ (star_cons (star_re h4.1)) (star_plain h4.2)
  refine h _ _ h3 mr ρ s _ E S l ?_ kx
  intro t vs vrs H1 h1 tk1 hcl hvs S1
  exact ⟨ok.kin.keeps S1.keep, runCL ok hcl S1 hvs l k kx⟩
theorem NR.find {P : Params} {ρ : List Addr} {x : Str} {mv : MV} : ∀ {fs : List (Str × MV)} {es : List DictEntry}, NR P ρ fs es → fs.lookup x = some mv →
    ∃ e : DictEntry, es.find? (·.key.isStr x) = some e ∧ VR ρ mv e.val
  | [], _, _, h => by simp at h
  | (y, m) :: fs, _, ⟨t, v, r, e, h1, h2⟩, h => by
    subst e
    by_cases hx : x = y
    · subst hx
      simp only [List.lookup, beq_self_eq_true] at h
      cases h
      exact ⟨⟨PyData.keyHash P x, .str x t, v⟩, by simp [List.find?, Value.isStr], h1⟩
    · have hb : (x == y) = false := by simpa using hx
      have hb' : (y == x) = false := by simpa using fun e => hx e.symm
      simp only [List.lookup, hb] at h
      obtain ⟨e, h3, h4⟩ := h2.find h
      exact ⟨e, by simp only [List.find?, Value.isStr, hb']; exact h3, h4⟩
theorem NR.get {P : Params} {ρ : List Addr} {x : Str} {mv : MV} {fs : List (Str × MV)} {es : List DictEntry} (h : NR P ρ fs es) (hx : fs.lookup x = some mv) :
    ∃ v, getL x es = some (some v) ∧ VR ρ mv v := by
  obtain ⟨e, h1, h2⟩ := h.find hx
  exact ⟨e.val, by unfold getL; rw [h1], h2⟩
theorem NR.miss {P : Params} {ρ : List Addr} {x : Str} : ∀ {fs : List (Str × MV)} {es : List DictEntry}, NR P ρ fs es → fs.lookup x = none → es.find? (·.key.isStr x) = none ∧ es.any (·.refKey) = false
  | [], _, h, _ => by rw [h]; exact ⟨rfl, rfl⟩
  | (y, m) :: fs, _, ⟨t, v, r, e, h1, h2⟩, h => by
    subst e
    by_cases hx : x = y
    · subst hx
      simp only [List.lookup, beq_self_eq_true] at h
      cases h
    · have hb : (x == y) = false := by simpa using hx
      have hb' : (y == x) = false := by simpa using fun e => hx e.symm
      simp only [List.lookup, hb] at h
      obtain ⟨h3, h4⟩ := h2.miss h
      refine ⟨by simp only [List.find?, Value.isStr, hb']; exact h3, ?_⟩
      rw [List.any_cons, h4, Bool.or_false]
      rfl
theorem NR.none' {P : Params} {ρ : List Addr} {x : Str} {fs : List (Str × MV)} {es : List DictEntry} (h : NR P ρ fs es) (hx : fs.lookup x = none) : getL x es = some none := by
  obtain ⟨h1, h2⟩ := h.miss hx
  unfold getL
  rw [h1]
  simp only [h2]
  rfl
theorem NR.length {P : Params} {ρ : List Addr} : ∀ {fs : List (Str × MV)} {es : List DictEntry}, NR P ρ fs es → es.length = fs.length
  | [], _, h => by rw [h]; rfl
  | (_, _) :: _, _, ⟨_, _, _, e, _, h2⟩ => by rw [e, List.length_cons, List.length_cons, h2.length]
noncomputable def putF (x : Str) (v : MV) : List (Str × MV) → List (Str × MV)
  | [] => [(x, v)]
  | p :: r => if p.1 = x then (x, v) :: r else p :: putF x v r
theorem NR.put {P : Params} {ρ : List Addr} {x : Str} {mv : MV} {v : Value} {t : Tok} (hv : VR ρ mv v) : ∀ {fs : List (Str × MV)} {es : List DictEntry}, NR P ρ fs es →
    NR P ρ (putF x mv fs) (putL x (PyData.keyHash P x) (.str x t) v es)
  | [], _, h => by
    rw [h]
    exact ⟨t, v, [], rfl, hv, rfl⟩
  | (y, m) :: fs, _, ⟨u, w, r, e, h1, h2⟩ => by
    subst e
    unfold putF putL
    by_cases hy : y = x
    · subst hy
      have hb : Value.isStr (.str y u) y = true := by simp [Value.isStr]
      simp only [hb, if_true]
      exact ⟨u, v, r, rfl, hv, h2⟩
    · have hb : Value.isStr (.str y u) x = false := by simpa [Value.isStr] using hy
      simp only [if_neg hy, hb, Bool.false_eq_true, if_false]
      exact ⟨u, w, _, rfl, h1, h2.put hv⟩
theorem NR.some {P : Params} {ρ : List Addr} {x : Str} {fs : List (Str × MV)} {es : List DictEntry} (h : NR P ρ fs es) : (getL x es).isSome = true := by
  cases hx : fs.lookup x with
  | none => rw [h.none' hx]; rfl
  | some v => obtain ⟨u, e, _⟩ := h.get hx; rw [e]; rfl
theorem putF_length (x : Str) (v : MV) : ∀ m : List (Str × MV), (putF x v m).length ≤ m.length + 1
  | [] => Nat.le_refl _
  | p :: r => by
    unfold putF
    split
    · simp
    · have := putF_length x v r
      simp only [List.length_cons]
      omega
theorem VR.handed {ρ : List Addr} {m : MV} {v : Value} (h : VR ρ m v) : handedIn v = true := by
  cases m with
  | none => rw [show v = .none from h]; rfl
  | bool b => rw [show v = .bool b from h]; rfl
  | int i => obtain ⟨t, rfl⟩ := h; rfl
  | str x => obtain ⟨t, rfl⟩ := h; rfl
  | ref a => obtain ⟨x, _, rfl⟩ := h; rfl
  | glob a => rw [show v = .ref a from h]; rfl
noncomputable def Ins (H : MH) (i : Nat) (C : Addr) (k : Nat) (fs : List (Str × MV)) : Prop := H[i]? = some (.inst C k) ∧ H[k]? = some (.ns fs)
theorem St.inst {mr : Str → Option Value} {ρ : List Addr} {h : Heap} (S : St c mr ρ H h) {i k : Nat} {C : Addr} {fs : List (Str × MV)} (hi : Ins H i C k fs) :
    ∃ x dx es n, ρ[i]? = some x ∧ ρ[k]? = some dx ∧ NR c.w.params ρ fs es ∧ InstAt h x (instObj C dx) C (some (dictOf es n)) ∧ h.get? dx = some (dictOf es n) := by
  obtain ⟨x, o, hx, ⟨dx, hdx, rfl⟩, Nx⟩ := S.get hi.1
  obtain ⟨dx', o', hdx', ⟨es, n, hes, rfl⟩, Nd⟩ := S.get hi.2
  rw [hdx] at hdx'
  cases hdx'
  exact ⟨x, dx, es, n, hx, hdx, hes, ⟨(Nx _ (.head _)).1, rfl, rfl, (Nd _ (.head _)).1⟩, (Nd _ (.head _)).1⟩
theorem base_of {o : PySem.Expr} {name : Str} {env : Env} {wh : Sem Value} (h : notSup o = true) : attributeBase o name env wh = wh := by
  unfold attributeBase
  split
  · rename_i id p pos
    cases h
  · rfl
theorem sup_re {a : CE} {nm : List Str} {sc : Scope} {e : PySem.Expr} (h : wfE a nm sc e = true) (hs : nsup a = true) : notSup (reE a nm e) = true := by
  cases a with
  | tst t => have h2 := tst_of h; cases t <;> first | rfl | cases h2
  | call g as => cases as <;> first | rfl | cases hs
  | _ => rfl
theorem TE.attr (ok : Ok G c d) {o : CE} {name : Str} {post : MV → MH → Prop}
    (h : TE c m o H (fun l H1 => ∃ a C k fs v, l = .ref a ∧ Ins H1 a C k fs ∧ fs.lookup name = some v ∧ GAtt G C name ∧ post v H1)) : TE c m (.attr o name) H post := by
  intro e he
  obtain ⟨h2', h3⟩ := and2 he
  have h2 := sup_re (nm := c.nm) (e := kid 0 e) h3 h2'
  let ob := reE o c.nm (kid 0 e)
  let pos := e.pos
  intro mr ρ s Q E S l k kx
  have hev : eval (.Attribute ob name pos) c.env = (do
    let o ← eval ob c.env
    standAt pos.atName
    let r ← holding [o] (getAttr o name true)
    letTemporaryGo ob o r
    pure r) := by
    show (do
      let o ← attributeBase ob name c.env (eval ob c.env)
      standAt pos.atName
      let r ← holding [o] (getAttr o name true)
      letTemporaryGo ob o r
      pure r) = _
    rw [base_of h2]
  refine Attribute_any_ ?_ hev
  refine h _ h3 mr ρ s _ E S l ?_ kx
  rintro t lv lr H1 h1 tk1 ⟨a, C, kk, fs, v, rfl, hi, hv, ga, hp⟩ ⟨x, hx, rfl⟩ S1
  obtain ⟨x', dx, es, n, hx', hdx, hes, I, _⟩ := S1.inst hi
  rw [hx] at hx'
  cases hx'
  obtain ⟨vr, hg, hvr⟩ := hes.get hv
  obtain ⟨ml, xs, led, _⟩ := S1.open
  exact get_own led.1 ok.kin I ga.plain ga.dict ga.find rfl hg hvr.handed (k t v vr H1 h1 _ hp hvr S1)
theorem star_all {nm : List Str} {sc : Scope} {pos : Pos} {env : Env} : ∀ {as : CEs} {es : List PySem.Expr}, wfEs as nm sc es = true → (backTo pos (starEach (reEs as nm es) env)).all (!·.1) = true
  | .nil, es, h => rfl
  | .cons a r, es, h => by
    have h := and2 h
    have := star_all (pos := pos) (env := env) h.2
    show (backTo pos (starEach (reE a nm (nth 0 es) :: reEs r nm es.tail) env)).all (!·.1) = true
    rw [star_cons (star_re h.1)]
    unfold backTo at this ⊢
    simp only [List.map_cons, List.all_cons, Bool.not_false, Bool.true_and]
    exact this
theorem len_re {nm : List Str} : ∀ (as : CEs) (es : List PySem.Expr), (reEs as nm es).length = lenEs as
  | .nil, _ => rfl
  | .cons a r, es => by
    show (reE a nm (nth 0 es) :: reEs r nm es.tail).length = lenEs r + 1
    rw [List.length_cons, len_re r]
theorem meth_eval {ob : PySem.Expr} {name : Str} {apos pos : Pos} {args : List PySem.Expr} {as : CEs} {es : List PySem.Expr} (ha : args = reEs as c.nm es) (h1 : notSup ob = true) (h2 : (apos.endLine == pos.line) = true) (h3 : args.length < 30) (h4 : wfEs as c.nm c.sc es = true) :
    eval (.Call (.Attribute ob name apos) args [] pos) c.env = (do
      let ov ← eval ob c.env
      standAt apos.atName
      let (f, first) ← holding [ov] (getMethod ov name (do return (← importBound ob c.env).getD true))
      callWith pos f first (backTo pos (starEach args c.env)) []) := by
  show (do
    let ov ← attributeBase ob name c.env (eval ob c.env)
    standAt apos.atName
    methodCall ob name apos pos c.env ov (args.length + 0) (backTo pos (starEach args c.env)) []) = _
  rw [base_of h1]
  have hf : methodCallForm (args.length + 0) (backTo pos (starEach args c.env)) [] = true := by
    unfold methodCallForm
    rw [ha, star_all h4, ← ha]
    simpa using h3
  unfold methodCall methodCallPos calleeOf
  simp only [hf, h2, Bool.not_true, Bool.false_or, if_true]
  rfl
end
section
variable {c : Cx} {m : ML} {H : MH} {G : Gx} {d : Nat}
noncomputable def MCall (c : Cx) (m : ML) (H : MH) (l : MV) (name : Str) (as : CEs) (post : MV → MH → Prop) : Prop :=
  ∀ (mr : Str → Option Value) (ρ : List Addr) (s : Shared) (Q : Value → Shared → Prop) (E : Value → Shared → Prop) (vr : Value) (pl : Sem Bool) (pos : Pos) (args : List PySem.Expr), St c mr ρ H s.heap → LR mr c.nm ρ m → VR ρ l vr →
    wfEs as c.nm c.sc args = true →
    (∀ t v vr H' h' tk, post v H' → VR (ρ ++ t) v vr → St c mr (ρ ++ t) H' h' → Q vr { s with heap := h', toks := tk }) → Kx c ρ s E →
    wpAny (model c.prog c.w) c.A (getMethod vr name pl) (fun fx s₂ => wpAny (model c.prog c.w) c.A (callWith pos fx.1 fx.2 (backTo pos (starEach (reEs as c.nm args) c.env)) []) Q E s₂) E s
theorem TE.mcall {o : CE} {name : Str} {as : CEs} {post : MV → MH → Prop} (h : TE c m o H (fun l H1 => MCall c m H1 l name as post)) : TE c m (.meth o name as) H post := by
  intro e he
  obtain ⟨he, h6⟩ := and2 he
  obtain ⟨h2, h3, h4, h5⟩ := and4 he
  intro mr ρ s Q E S l k kx
  refine MethodCall_ ?_ (meth_eval rfl (sup_re h5 h2) h3 (by rw [len_re]; exact of_decide_eq_true h4) h6)
  refine h _ h5 mr ρ s _ E S l ?_ kx
  intro t lv lr H1 hp1 tk1 hm hl S1
  refine hm mr (ρ ++ t) { s with heap := hp1, toks := tk1 } Q E lr _ e.pos (kids e).tail S1 l.mono hl h6 ?_ kx.mono
  intro t' v vr H2 h2 tk2 hp hv S2
  rw [List.append_assoc] at hv S2
  exact k (t ++ t') v vr H2 h2 tk2 hp hv S2
theorem MCall.own (ok : Ok G c d) {a : Nat} {C : Addr} {kk : Nat} {fs : List (Str × MV)} {name : Str} {f : Addr} {x : CE} {r : CEs} {post : MV → MH → Prop} (hi : Ins H a C kk fs) (hno : fs.lookup name = none) (gm : GMth G C name f)
    (h : TEs c m (.cons x r) H (fun vs H1 => CL G c.prog c.w d f (.ref a :: vs) H1 post (fun C as H' => c.X C as m H'))) : MCall c m H (.ref a) name (.cons x r) post := by
  rintro mr ρ s Q E _ pl pos args S l ⟨y, hy, rfl⟩ hes k kx
  obtain ⟨x', dx, ens, n, hx', hdx, hen, I, _⟩ := S.inst hi
  rw [hy] at hx'
  cases hx'
  obtain ⟨ml, xs, led, _⟩ := S.open
  refine method_inst led.1 ok.kin I gm.plain gm.find gm.fn (hen.none' hno) ?_
  have h4 := and2 hes
  refine callWith_K ok.kin gm.keep ?_ (star_cons (star_re h4.1)) (star_plain h4.2)
  refine h _ _ hes mr ρ s _ E S l ?_ kx
  intro t vs vrs H1 h1 tk1 hcl hvs S1
  refine ⟨ok.kin.keeps S1.keep, ?_⟩
  exact runCL ok hcl S1 ⟨_, _, rfl, VR.mono ⟨y, hy, rfl⟩, hvs⟩ l k kx
theorem TE.meth (ok : Ok G c d) {o : CE} {name : Str} {x : CE} {r : CEs} {post : MV → MH → Prop} (h : TE c m o H (fun l H1 => ∃ a C kk fs f, l = .ref a ∧ Ins H1 a C kk fs ∧ fs.lookup name = Option.none ∧ GMth G C name f ∧
      TEs c m (.cons x r) H1 (fun vs H2 => CL G c.prog c.w d f (.ref a :: vs) H2 post (fun C as H' => c.X C as m H')))) : TE c m (.meth o name (.cons x r)) H post :=
  TE.mcall (h.mono fun l H1 ⟨a, C, kk, fs, f, e, hi, hno, gm, hA⟩ => e ▸ MCall.own ok hi hno gm hA)
theorem TE.append {o x : CE} {post : MV → MH → Prop} (h : TE c m o H (fun l H1 => ∃ a xs, l = .ref a ∧ H1[a]? = some (.list xs) ∧
      TE c m x H1 (fun v H2 => ∃ ys, H2[a]? = some (.list ys) ∧ ys.length ≤ 1000000 ∧ post .none (H2.set a (.list (ys ++ [v])))))) : TE c m (.meth o "append" (.cons x .nil)) H post := by
  refine TE.mcall (h.mono ?_)
  rintro l H1 ⟨a, xs, rfl, ha, hx⟩ mr ρ s Q E _ pl pos args S lr ⟨y, hy, rfl⟩ hes k kx
  obtain ⟨vs, ep, hvs, No⟩ := S.list ha hy
  refine PySem.Calls.getMethod_list_append (No _ (.head _)).1 rfl rfl ?_
  have h4 := and2 hes
  refine callWith_method1 ?_ (star_cons (star_re h4.1)) (star_plain h4.2)
  refine (TEs.one hx) _ _ hes mr ρ s _ E S lr ?_ kx
  rintro t vs vrs H2 h2 tk2 ⟨v, rfl, ys, hy2, hsz, hp⟩ ⟨vr, r, rfl, hv, hr⟩ S2
  have hr' : r = [] := hr
  subst hr'
  obtain ⟨ws, ep2, hws, No2⟩ := S2.list hy2 (get_mono hy)
  refine append_at (No2 _ (.head _)).1 (fun h' hs' hg => ?_) (by rw [List.size_toArray, hws.length]; exact Nat.le_trans hsz (by decide))
  have S3 := S2.upd (o' := .list (ys ++ [v])) hy2 (get_mono hy) hs' hg ⟨ws ++ [vr], ep2 + 1, hws.append ⟨vr, [], rfl, hv, rfl⟩, by simp⟩
  exact k t .none .none _ h' tk2 hp rfl S3
theorem TE.pop {o : CE} {post : MV → MH → Prop} (h : TE c m o H (fun l H1 => ∃ a ys v, l = .ref a ∧ H1[a]? = some (.list (ys ++ [v])) ∧ ys.length ≤ 1000000 ∧ post v (H1.set a (.list ys)))) : TE c m (.meth o "pop" .nil) H post := by
  refine TE.mcall (h.mono ?_)
  rintro l H1 ⟨a, ys, v, rfl, ha, hsz, hp⟩ mr ρ s Q E _ pl pos args S lr ⟨y, hy, rfl⟩ hes k kx
  obtain ⟨vs, ep, hvs, No⟩ := S.list ha hy
  obtain ⟨ws, vr, rfl, hws, hvr⟩ := hvs.concat
  have ho := (No _ (.head _)).1
  refine getMethod_list_of PySem.F.slot_list_pop PySem.F.type_list_pop (isList_of No) ⟨_, ho, rfl⟩ ?_
  · refine callWith_method0 ?_
    have hz' : (ws ++ [vr]).toArray.size ≤ sizeLine := by
      rw [List.size_toArray, List.length_append, hws.length]
      exact Nat.le_trans (Nat.add_le_add_right hsz 1) (by decide)
    have hk : (ws ++ [vr]).toArray.size - 1 = ws.length := by rw [List.size_toArray, List.length_append]; rfl
    have hy' : (ws ++ [vr]).toArray[(ws ++ [vr]).toArray.size - 1]? = some vr := by rw [hk]; simp
    refine call_meets PySem.F.slot_list_pop ⟨_, ho, rfl⟩ PySem.F.entry_list_pop (PySem.F.args_list_pop_1 _) (PySem.MeetsSeq.list_pop_last y _ ep vr hy' hz') ⟨ho, ?_⟩
    have e : Obj.mapSeq (·.eraseIdxIfInBounds ((ws ++ [vr]).toArray.size - 1)) (listOf (ws ++ [vr]).toArray ep) = listOf ws.toArray (ep + 1) := by
      have e1 : (ws ++ [vr]).toArray.eraseIdxIfInBounds ((ws ++ [vr]).toArray.size - 1) = ws.toArray := by rw [hk, kl_erase, List.append_nil]
      simp only [Obj.mapSeq, e1]
      simp
    have S3 := S.upd (o' := .list ys) ha hy (Heap.SameBut.update ..) (h' := s.heap.update y (Obj.mapSeq (·.eraseIdxIfInBounds ((ws ++ [vr]).toArray.size - 1)))) (x' := listOf ws.toArray (ep + 1))
      (by rw [Heap.get?_update_self _ ho (by rw [e]; rfl)]; exact congrArg some e) ⟨ws, ep + 1, hws, rfl⟩
    exact k [] v vr _ _ _ hp (by rw [List.append_nil]; exact hvr) (nil_of S3)
theorem upd_mk {d : Addr} {o o' : Obj} {post : List (Addr × Obj)} (h2 : ∀ p ∈ post, p.1 ≠ d) : ∀ {pre : List (Addr × Obj)}, (∀ p ∈ pre, p.1 ≠ d) → Upd d o o' (pre ++ (d, o) :: post) (pre ++ (d, o') :: post)
  | [], _ => .head h2
  | p :: _, h => .tail (h p (.head _)) (upd_mk h2 fun q hq => h q (.tail _ hq))
theorem upd_zip {xt : List (Addr × Obj)} {ρ : List Addr} {os : List Obj} {i : Nat} {a : Addr} {x x' : Obj} (hn : (xt.map (·.1) ++ ρ).Nodup) (ha : ρ[i]? = some a) (hx : os[i]? = some x) :
    Upd a x x' (xt ++ ρ.zip os) (xt ++ ρ.zip (os.set i x')) := by
  rw [List.nodup_append] at hn
  obtain ⟨_, hn2, hn3⟩ := hn
  have key : ∀ (ρ : List Addr) (os : List Obj) (i : Nat), ρ.Nodup → ρ[i]? = some a → os[i]? = some x →
      ∃ pre post, ρ.zip os = pre ++ (a, x) :: post ∧ ρ.zip (os.set i x') = pre ++ (a, x') :: post ∧ (∀ p ∈ pre, p.1 ≠ a) ∧ ∀ p ∈ post, p.1 ≠ a := by
    intro ρ
    induction ρ with
    | nil => intro os i _ h; simp at h
    | cons b ρ ih =>
      intro os i hnd h1 h2
      cases os with
      | nil => simp at h2
      | cons y os =>
        cases i with
        | zero =>
          simp at h1 h2
          subst h1 h2
          refine ⟨[], ρ.zip os, rfl, rfl, ?_, ?_⟩
          · intro p hp
            cases hp
          · intro p hp e
            exact (List.nodup_cons.mp hnd).1 (e ▸ (List.of_mem_zip (show (p.1, p.2) ∈ _ from hp)).1)
        | succ i =>
          simp at h1 h2
          obtain ⟨pre, post, e1, e2, e3, e4⟩ := ih os i (List.nodup_cons.mp hnd).2 h1 h2
          refine ⟨(b, y) :: pre, post, by simp [e1], by simp [e2], ?_, e4⟩
          intro p hp
          rcases List.mem_cons.mp hp with rfl | hp
          · intro e
            exact (List.nodup_cons.mp hnd).1 (by rw [show b = a from e]; exact List.mem_of_getElem? h1)
          · exact e3 p hp
  obtain ⟨pre, post, e1, e2, e3, e4⟩ := key ρ os i hn2 ha hx
  rw [e1, e2, ← List.append_assoc, ← List.append_assoc]
  refine upd_mk e4 ?_
  intro p hp
  rcases List.mem_append.mp hp with hp | hp
  · exact fun e => hn3 p.1 (List.mem_map_of_mem hp) a (List.mem_of_getElem? ha) e
  · exact e3 p hp
theorem TS.setAttr (ok : Ok G c d) {o a : CE} {name : Str} {post : Fl → ML → MH → Prop} (h : TE c m a H (fun v H1 => TE c m o H1 (fun l H2 => ∃ x C kk fs, l = .ref x ∧ Ins H2 x C kk fs ∧ fs.length ≤ 900 ∧ GSto G C name ∧
      post .next m (H2.set kk (.ns (putF name v fs)))))) : TS c m (.setAttr o name a) H post := by
  intro st hs
  obtain ⟨h2, h3⟩ := and2 hs
  intro mr ρ s Q E S lr k kx
  refine plainObj_wpAny_Assign_Attribute ?_ swaps_attr
  refine h _ h3 mr ρ s _ E S lr ?_ kx
  intro t v vr H1 h1 tk1 h12 hv S1
  refine h12 _ h2 mr _ _ _ E S1 lr.mono ?_ kx.mono
  rintro t' l lv H2 h2 tk2 ⟨a, C, dd, fs, rfl, hi, hsz, gs, hp⟩ ⟨x, hx, rfl⟩ S2
  obtain ⟨x', dx, es, n, hx', hdx, hes, I, hdo⟩ := S2.inst hi
  rw [hx] at hx'
  cases hx'
  obtain ⟨ml, xs, ⟨F, os, a1, a2, a3, N, a5⟩, back⟩ := S2.open
  have hv' := hv.mono (t := t')
  obtain ⟨ob, hob, hor⟩ := a3 dd _ hi.2
  have hobe : ob = dictOf es n := by
    have h1 := (N _ (List.mem_append_right _ (mem_zip_of hdx hob))).1
    rw [hdo] at h1
    exact (Option.some.inj h1).symm
  subst hobe
  have hlen : (putL name (PyData.keyHash c.w.params name) (.str name (tk2 + 1)) vr es).length ≤ 1000 := by
    rw [(hes.put (x := name) (t := tk2 + 1) hv').length]
    have := putF_length name v fs
    omega
  refine set_dict F ok.kin N I rfl gs.set gs.over gs.taker gs.dict hes.some (e := rfl) (upd_zip a5 hdx hob) hlen ?_
  intro h' F' N'
  have hlt : dd < H2.length := (List.getElem?_eq_some_iff.mp hi.2).1
  have S3 : St c mr (ρ ++ t ++ t') (H2.set dd (.ns (putF name v fs))) h' := by
    refine back _ _ _ ⟨F', os.set dd _, by rw [List.length_set, List.length_set]; exact a1, by rw [List.length_set]; exact a2, ?_, N', a5⟩
    intro j o1 hj
    by_cases ej : dd = j
    · subst ej
      rw [List.getElem?_set_self hlt] at hj
      cases hj
      exact ⟨_, List.getElem?_set_self (by rw [a1]; exact hlt), _, _, hes.put hv', rfl⟩
    · rw [List.getElem?_set_ne ej] at hj
      obtain ⟨y, hy, hr⟩ := a3 j o1 hj
      exact ⟨y, by rw [List.getElem?_set_ne ej]; exact hy, hr⟩
  rw [List.append_assoc] at S3
  exact k (t ++ t') .next .next m mr _ h' (tk2 + 2) hp rfl S3 lr.mono
theorem TE.new (ok : Ok G c (d + 1)) {g : Str} {C fI : Addr} {a : CE} {r : CEs} {post : MV → MH → Prop} (hg : GCls G g C fI)
    (h : TEs c m (.cons a r) H (fun vs H1 => CL G c.prog c.w d fI (.ref (H1.length + 1) :: vs) (H1 ++ [.ns []] ++ [.inst C H1.length]) (fun v H2 => v = .none ∧ post (.ref (H1.length + 1)) H2) (fun C as H' => c.X C as m H'))) :
    TE c m (.call g (.cons a r)) H post := by
  intro e he
  obtain ⟨h2, h3⟩ := and2 he
  intro mr ρ s Q E S l k kx
  refine Call_ ?_ rfl
  refine nameG ok S h2 hg.ns ?_
  have h4 := and2 h3
  · skip
    refine callWith_K ok.kin hg.keep ?_ (star_cons (star_re h4.1)) (star_plain h4.2)
    refine h _ _ h3 mr ρ s _ E S l ?_ kx
    intro t vs vrs H1 h1 tk1 hcl hvs S1
    refine ⟨ok.kin.keeps S1.keep, ?_⟩
    obtain ⟨ml, xs, ⟨F, os, a1, a2, a3, N, a5⟩, back⟩ := S1.open
    refine call_cls F ok.kin N hg.makes hg.init hg.fn ?_
    intro x dx h' F' N' hlt hdx
    have N1 : News c.h₀ c.L h' ((dx, dictOf [] 0) :: (xs ++ (ρ ++ t).zip os)) := fun p hp => N' p (.tail _ hp)
    have SA : Led c.h₀ c.L c.prog c.w ml xs (ρ ++ t ++ [dx]) (H1 ++ [.ns []]) h' := Led.alloc a1 a2 a3 a5 F' N1 (fun p hp => Nat.ne_of_lt (hlt p hp)) ⟨[], 0, rfl, rfl⟩
    obtain ⟨_, os2, b1, b2, b3, NB, b5⟩ := id SA
    have NB' : News c.h₀ c.L h' ((x, instObj C dx) :: (xs ++ (ρ ++ t ++ [dx]).zip os2)) := fun p hp => by
      rcases List.mem_cons.mp hp with rfl | hp
      · exact N' _ (.head _)
      · exact NB p hp
    have hltx : ∀ p ∈ xs ++ (ρ ++ t ++ [dx]).zip os2, p.1 ≠ x := by
      intro p hp
      refine Nat.ne_of_lt ?_
      rcases List.mem_append.mp hp with hp | hp
      · exact Nat.lt_trans (hlt p (List.mem_append_left _ hp)) hdx
      · have hm := (List.of_mem_zip (show (p.1, p.2) ∈ _ from hp)).1
        rcases List.mem_append.mp hm with hm | hm
        · obtain ⟨i, hi, e⟩ := List.getElem_of_mem hm
          have hi' : i < os.length := by rw [a1, ← a2]; exact hi
          have := hlt ((ρ ++ t)[i], os[i]) (List.mem_append_right _ (mem_zip_of (List.getElem?_eq_getElem hi) (List.getElem?_eq_getElem hi')))
          rw [← e]
          exact Nat.lt_trans this hdx
        · rw [List.mem_singleton.mp hm]; exact hdx
    have SB := back _ _ _ (Led.alloc b1 b2 b3 b5 F' NB' hltx (o := .inst C H1.length) ⟨dx, get_mono (last_get a2), rfl⟩)
    have hself : (ρ ++ t ++ [dx] ++ [x])[H1.length + 1]? = some x := by
      have hl : (ρ ++ t ++ [dx]).length = H1.length + 1 := by rw [List.length_append, a2]; rfl
      rw [List.getElem?_append_right (by rw [hl]; exact Nat.le_refl _), hl, Nat.sub_self]; rfl
    let c' : Cx := { c with A := c.A.under (.builtin "type.__call__" ⟨.ref C :: vrs, []⟩) }
    have ok' : Ok G c' d := by
      refine ⟨ok.frames, ok.kin, ok.top, ok.hh, ?_, ?_, ok.fn, ok.gl, ok.bi, ok.ap, ok.kd, ok.fs, ok.ex⟩
      · have := ok.dep
        show c.A.depth + 1 + d < recursionLimit
        omega
      · have h9 := ok.uni
        have hu : (c.A.under (.builtin "type.__call__" ⟨.ref C :: vrs, []⟩)).units ≤ c.A.units + 8 := by
          show c.A.units + Code.cUnits _ ≤ c.A.units + 8
          exact Nat.add_le_add_left (Nat.le_of_ble_eq_true rfl) _
        show (c.A.under (.builtin "type.__call__" ⟨.ref C :: vrs, []⟩)).units + 8 * d + 64 < cLine
        omega
    have e0 : ∀ t', ρ ++ t ++ [dx] ++ [x] ++ t' = ρ ++ (t ++ ([dx] ++ ([x] ++ t'))) := fun t' => by simp only [List.append_assoc]
    refine codeAny_mono (hcl c' mr _ _ (fun v s' => v = .none ∧ Q (.ref x) s') E (.ref x :: vrs) rfl rfl ok' SB ⟨_, _, rfl, ⟨x, hself, rfl⟩, (hvs.mono).mono⟩ ?_ ?_) ?_
    · rintro t' v vr H2 h2 tk2 ⟨rfl, hp⟩ hv S2
      refine ⟨hv, ?_⟩
      have S2' : St c mr (ρ ++ t ++ [dx] ++ [x] ++ t') H2 h2 := S2
      rw [e0] at S2'
      refine k _ (.ref (H1.length + 1)) (.ref x) H2 h2 tk2 hp ⟨x, ?_, rfl⟩ S2'
      rw [← e0]
      exact get_mono hself
    · intro t' C' as e H2 h2 tk2 hx hF
      have hF' : Fly c mr (ρ ++ t ++ [dx] ++ [x] ++ t') H2 C' as e h2 := hF
      rw [e0] at hF'
      exact kx _ C' as e m mr H2 h2 tk2 hx hF' l.mono
    · intro r s' hr
      cases r with
      | error e => exact hr
      | ok f =>
        cases f with
        | ret v => exact hr
        | _ => exact hr
end
section
variable {c : Cx} {m : ML} {H : MH} {G : Gx} {d : Nat}
noncomputable def BC (c : Cx) (f : Value) (args : List MV) (H : MH) (post : MV → MH → Prop) : Prop :=
  ∀ (mr : Str → Option Value) (ρ : List Addr) (s : Shared) (Q : Value → Shared → Prop) (E : Value → Shared → Prop) (vs : List Value), St c mr ρ H s.heap → VRs ρ args vs →
    (∀ t v vr H' h' tk, post v H' → VR (ρ ++ t) v vr → St c mr (ρ ++ t) H' h' → Q vr { s with heap := h', toks := tk }) →
    wpAny (model c.prog c.w) c.A (PySem.call f vs) Q E s
theorem TE.bc (ok : Ok G c d) {g : Str} {T : String} {a : CE} {r : CEs} {post : MV → MH → Prop} (hg : nsIn G.K mainGlobals g = some Option.none) (hb : bootBuiltins g = some (.builtin T)) (hn : g ≠ "__name__")
    (h : TEs c m (.cons a r) H (fun vs H1 => BC c (.builtin T) vs H1 post)) : TE c m (.call g (.cons a r)) H post := by
  intro e he mr ρ s Q E S l k kx
  refine callBuiltin ok hg hb hn he (by intro q; cases q) S l kx h ?_
  intro t vs vrs H1 h1 tk1 hbc hv S1
  refine hbc mr (ρ ++ t) _ Q E vrs S1 hv ?_
  intro t' v vr H2 h2 tk2 hp hv S2
  rw [List.append_assoc] at hv S2
  exact k (t ++ t') v vr H2 h2 tk2 hp hv S2
theorem TE.tc (ok : Ok G c d) {g : Str} {T : String} {a : CE} {r : CEs} {post : MV → MH → Prop} (hg : nsIn G.K mainGlobals g = some Option.none) (hb : bootBuiltins g = some (.type T)) (hn : g ≠ "__name__")
    (h : TEs c m (.cons a r) H (fun vs H1 => BC c (.type T) vs H1 post)) : TE c m (.call g (.cons a r)) H post := by
  intro e he mr ρ s Q E S l k kx
  refine callType ok hg hb hn he (by intro q; cases q) S l kx h ?_
  intro t vs vrs H1 h1 tk1 hbc hv S1
  refine hbc mr (ρ ++ t) _ Q E vrs S1 hv ?_
  intro t' v vr H2 h2 tk2 hp hv S2
  rw [List.append_assoc] at hv S2
  exact k (t ++ t') v vr H2 h2 tk2 hp hv S2
theorem one_of {ρ : List Addr} {a : MV} {vs : List Value} (h : VRs ρ [a] vs) : ∃ v, vs = [v] ∧ VR ρ a v := by
  obtain ⟨v, r, rfl, h1, h2⟩ := h
  have : r = [] := h2
  subst this
  exact ⟨v, rfl, h1⟩
theorem two_of {ρ : List Addr} {a b : MV} {vs : List Value} (h : VRs ρ [a, b] vs) : ∃ v u, vs = [v, u] ∧ VR ρ a v ∧ VR ρ b u := by
  obtain ⟨v, r, rfl, h1, h2⟩ := h
  obtain ⟨u, rfl, h3⟩ := one_of h2
  exact ⟨v, u, rfl, h1, h3⟩
theorem BC.len {a : Nat} {xs : List MV} {post : MV → MH → Prop} (ha : H[a]? = some (.list xs)) (hsz : xs.length ≤ 1000000) (h : post (.int xs.length) H) : BC c (.builtin "len") [.ref a] H post := by
  intro mr ρ s Q E vs S hv k
  obtain ⟨v, rfl, x, hx, rfl⟩ := one_of hv
  obtain ⟨ws, ep, hws, No⟩ := S.list ha hx
  have hlen : ws.toArray.size = xs.length := by rw [List.size_toArray, hws.length]
  refine len_list (isList_of No) (by rw [hlen]; omega) ?_
  rw [hlen]
  exact k [] (.int xs.length) (.int xs.length (s.toks + 1)) H s.heap (s.toks + 1 + 1) h ⟨_, rfl⟩ (nil_of S)
theorem BC.lenG {a : Addr} {vs : List Value} {post : MV → MH → Prop} (hl : c.h₀.IsList a vs.toArray) (hsz : vs.length ≤ 1000000) (h : post (.int vs.length) H) : BC c (.builtin "len") [.glob a] H post := by
  intro mr ρ s Q E ws S hv k
  obtain ⟨v, rfl, e⟩ := one_of hv
  have e' : v = .ref a := e
  subst e'
  have hlen : vs.toArray.size = vs.length := List.size_toArray ..
  refine len_list (hl.at fun o e => S.keep _ o e) (by rw [hlen]; omega) ?_
  rw [hlen]
  exact k [] (.int vs.length) (.int vs.length (s.toks + 1)) H s.heap (s.toks + 1 + 1) h ⟨_, rfl⟩ (nil_of S)
theorem BC.max (hh : c.A.handled = none) {a b : Int} {post : MV → MH → Prop} (h : post (.int (max a b)) H) : BC c (.builtin "max") [.int a, .int b] H post := by
  intro mr ρ s Q E vs S hv k
  obtain ⟨v, u, rfl, ⟨t1, rfl⟩, ⟨t2, rfl⟩⟩ := two_of hv
  refine max_two_ints hh fun h' tk hk => ?_
  by_cases hq : b > a
  · rw [if_pos hq]
    exact k [] (.int (Max.max a b)) _ H h' tk h ⟨t2, by rw [Int.max_eq_right (by omega)]⟩ (nil_of (S.grow hk))
  · rw [if_neg hq]
    exact k [] (.int (Max.max a b)) _ H h' tk h ⟨t1, by rw [Int.max_eq_left (by omega)]⟩ (nil_of (S.grow hk))
theorem BC.min (hh : c.A.handled = none) {a b : Int} {post : MV → MH → Prop} (h : post (.int (min a b)) H) : BC c (.builtin "min") [.int a, .int b] H post := by
  intro mr ρ s Q E vs S hv k
  obtain ⟨v, u, rfl, ⟨t1, rfl⟩, ⟨t2, rfl⟩⟩ := two_of hv
  refine min_two_ints hh fun h' tk hk => ?_
  by_cases hq : b < a
  · rw [if_pos hq]
    exact k [] (.int (Min.min a b)) _ H h' tk h ⟨t2, by rw [Int.min_eq_right (by omega)]⟩ (nil_of (S.grow hk))
  · rw [if_neg hq]
    exact k [] (.int (Min.min a b)) _ H h' tk h ⟨t1, by rw [Int.min_eq_left (by omega)]⟩ (nil_of (S.grow hk))
abbrev intL (ns : List Int) : List MV := ns.map MV.int
theorem intL_are {ρ : List Addr} : ∀ {ns : List Int} {vs : List Value}, VRs ρ (intL ns) vs → IntsAre vs ns
  | [], _, h => by rw [show _ = [] from h]; exact .nil
  | n :: ns, _, ⟨v, r, e, ⟨t, h1⟩, h2⟩ => by
    subst e h1
    exact .cons _ _ (intL_are h2)
theorem BC.list {a : Nat} {xs : List MV} {post : MV → MH → Prop} (ha : H[a]? = some (.list xs)) (hsz : xs.length ≤ 1000000) (h : post (.ref H.length) (H ++ [.list xs])) : BC c (.type "list") [.ref a] H post := by
  intro mr ρ s Q E vs S hv k
  obtain ⟨v, rfl, x, hx, rfl⟩ := one_of hv
  obtain ⟨ws, ep, hws, No⟩ := S.list ha hx
  obtain ⟨ml, xt, ⟨F, os, a1, a2, a3, N, a5⟩, back⟩ := S.open
  refine list_copyK F N (isList_of No) ?_ (by rw [List.size_toArray, hws.length]; exact Nat.le_trans hsz (by decide))
  intro D n h' F' N' hlt
  exact k [D] (.ref H.length) (.ref D) _ h' s.toks h ⟨D, last_get a2, rfl⟩ (back _ _ _ (Led.alloc a1 a2 a3 a5 F' N' (fun p hp => Nat.ne_of_lt (hlt p hp)) ⟨ws, n, hws.mono, rfl⟩))
theorem TE.binH {op : Operator} {a b : CE} {post : MV → MH → Prop} (h : TE c m a H (fun x H1 => TE c m b H1 (fun y H2 => ∀ (mr : Str → Option Value) (ρ : List Addr) (s : Shared) (Q : Value → Shared → Prop) (E : Value → Shared → Prop) (vx vy : Value),
      St c mr ρ H2 s.heap → VR ρ x vx → VR ρ y vy → (∀ t v vr H' h' tk, post v H' → VR (ρ ++ t) v vr → St c mr (ρ ++ t) H' h' → Q vr { s with heap := h', toks := tk }) → wpAny (model c.prog c.w) c.A (binaryOp op vx vy) Q E s))) : TE c m (.bin op a b) H post := by
  intro e he
  obtain ⟨h2, h3⟩ := and2 he
  intro mr ρ s Q E S l k kx
  refine wpAny_BinOp ?_
  refine h _ h2 mr ρ s _ E S l ?_ kx
  intro t x xr H1 hp1 tk1 hr hx S1
  refine hr _ h3 mr (ρ ++ t) _ _ E S1 l.mono ?_ kx.mono
  intro t' y yr H2 hp2 tk2 hq hy S2
  refine hq mr _ _ _ E _ _ S2 hx.mono hy ?_
  intro t'' v vr H' h' tk hp hv S3
  have e1 : ρ ++ t ++ t' ++ t'' = ρ ++ (t ++ (t' ++ t'')) := by simp only [List.append_assoc]
  rw [e1] at hv S3
  exact k _ v vr H' h' tk hp hv S3
theorem TE.addL {a b : CE} {post : MV → MH → Prop} (h : TE c m a H (fun x H1 => TE c m b H1 (fun y H2 => ∃ i j xs ys, x = .ref i ∧ y = .ref j ∧ H2[i]? = some (.list xs) ∧ H2[j]? = some (.list ys) ∧ xs.length + ys.length ≤ 1000000 ∧
      post (.ref H2.length) (H2 ++ [.list (xs ++ ys)])))) : TE c m (.bin .Add a b) H post := by
  refine TE.binH (h.mono fun x H1 h1 => h1.mono ?_)
  rintro y H2 ⟨i, j, xs, ys, rfl, rfl, hi, hj, hsz, hp⟩ mr ρ s Q E _ _ S ⟨p, hp1, rfl⟩ ⟨q, hq1, rfl⟩ k
  obtain ⟨vs, n1, hvs, N1⟩ := S.list hi hp1
  obtain ⟨ws, n2, hws, N2⟩ := S.list hj hq1
  obtain ⟨ml, xt, ⟨F, os, a1, a2, a3, N, a5⟩, back⟩ := S.open
  refine add_lists F N (isList_of N1) (isList_of N2) (fun h' F' N' => ?_) (by rw [hvs.length, hws.length]; exact Nat.le_trans hsz (by decide))
  exact k [s.heap.objs.size] (.ref H2.length) _ _ h' s.toks hp ⟨_, last_get a2, rfl⟩ (back _ _ _ (Led.alloc a1 a2 a3 a5 F' N' (fun p hp => Nat.ne_of_lt (Heap.lt_size (N p hp).1)) ⟨vs ++ ws, 0, hvs.mono.append hws.mono, rfl⟩))
theorem VRs.rep {ρ : List Addr} {v : MV} {vr : Value} (h : VR ρ v vr) : ∀ n : Nat, VRs ρ (List.replicate n v) (List.replicate n vr)
  | 0 => rfl
  | n + 1 => ⟨vr, List.replicate n vr, rfl, h, VRs.rep h n⟩
theorem rep_one (v : Value) : ∀ n : Nat, List.foldl (fun x1 x2 => x1 ++ x2) (#[] : Array Value) (List.replicate n #[v]) = (List.replicate n v).toArray := by
  have key : ∀ (n : Nat) (acc : List Value), List.foldl (fun x1 x2 => x1 ++ x2) acc.toArray (List.replicate n #[v]) = (acc ++ List.replicate n v).toArray := by
    intro n
    induction n with
    | zero => intro acc; simp
    | succ n ih =>
      intro acc
      rw [List.replicate_succ, List.foldl_cons]
      have : acc.toArray ++ #[v] = (acc ++ [v]).toArray := by simp
      rw [this, ih]
      simp [List.replicate_succ]
  intro n
  have := key n []
  simpa using this
theorem TE.mulL {a b : CE} {post : MV → MH → Prop} (h : TE c m a H (fun x H1 => TE c m b H1 (fun y H2 => ∃ i v n, x = .ref i ∧ y = .int n ∧ H2[i]? = some (.list [v]) ∧ -1000000 ≤ n ∧ n ≤ 1000000 ∧
      post (.ref H2.length) (H2 ++ [.list (List.replicate n.toNat v)])))) : TE c m (.bin .Mult a b) H post := by
  refine TE.binH (h.mono fun x H1 h1 => h1.mono ?_)
  rintro y H2 ⟨i, v, n, rfl, rfl, hi, hlo, hhi, hp⟩ mr ρ s Q E _ _ S ⟨p, hp1, rfl⟩ ⟨u, rfl⟩ k
  obtain ⟨vs, n1, hvs, N1⟩ := S.list hi hp1
  obtain ⟨vr, rfl, hvr⟩ := one_of hvs
  obtain ⟨ml, xt, ⟨F, os, a1, a2, a3, N, a5⟩, back⟩ := S.open
  refine mul_list F N (N1 _ (.head _)).1 (by omega) (by omega) (by simp; omega) ?_
  intro h' F' N'
  have e : (List.foldl (fun x1 x2 => x1 ++ x2) (#[] : Array Value) (List.replicate (if ([vr].toArray).isEmpty = true then 0 else n.toNat) [vr].toArray)) = (List.replicate n.toNat vr).toArray := rep_one vr n.toNat
  rw [e] at N'
  exact k [s.heap.objs.size] (.ref H2.length) _ _ h' s.toks hp ⟨_, last_get a2, rfl⟩ (back _ _ _ (Led.alloc a1 a2 a3 a5 F' N' (fun p hp => Nat.ne_of_lt (Heap.lt_size (N p hp).1)) ⟨List.replicate n.toNat vr, 0, VRs.rep hvr.mono _, rfl⟩))
noncomputable def tyOf : MV → Option String
  | .int _ => some "int"
  | .str _ => some "str"
  | .bool _ => some "bool"
  | _ => none
theorem tyIs {v : MV} {T : String} {ρ : List Addr} {vr : Value} {s : Shared} (h : tyOf v = some T) (hv : VR ρ v vr) : s.TypeIs vr T := by
  cases v <;> simp only [tyOf] at h <;> cases h
  · rw [show vr = _ from hv]; exact PySem.typeIs_bool ..
  · obtain ⟨t, rfl⟩ := hv; exact typeIs_int ..
  · obtain ⟨t, rfl⟩ := hv; exact typeIs_str ..
theorem TT.tyAny (ok : Ok G c d) (hg : nsIn G.K mainGlobals "type" = some Option.none) {op : CmpOp} {neg : Bool} (hop : (op = .Is ∧ neg = false) ∨ (op = .IsNot ∧ neg = true)) {a : CE} {N : Str} {T' : String} (hgN : nsIn G.K mainGlobals N = some Option.none) (hbN : bootBuiltins N = some (.type T')) (hnN : N ≠ "__name__") {post : Bool → MH → Prop}
    (h : TE c m a H (fun v H1 => ∃ T, tyOf v = some T ∧ post (if neg then !decide (T = T') else decide (T = T')) H1)) : TT c m (.cmp op (.call "type" (.cons a .nil)) (.glob N)) H post := by
  intro e he
  obtain ⟨h2, h3⟩ := and2 he
  intro wh mr ρ s Q E _ S lr k kx
  refine wpAny_isTrue_Compare1 ?_ (re_marks h3)
  refine callType ok (T := "type") hg PyProof.Rows.boot_type (by decide) h2 (by intro q; cases q) S lr kx (TEs.one h) ?_
  rintro t vs vrs H1 hp1 tk1 ⟨v, rfl, T, hT, hp⟩ hv S1
  obtain ⟨vr, rfl, hvr⟩ := one_of hv
  refine call_type_of (tyIs hT hvr) ?_ ?_
  · cases v <;> simp only [tyOf] at hT <;> cases hT <;> decide
  · refine nameB (s := { s with heap := hp1, toks := tk1 }) ok S1 h3 hgN hbN hnN ?_
    have hbe : ∀ T T' : String, (Value.type T == Value.type T') = decide (T = T') := fun T T' => by
      by_cases q : T = T'
      · subst q; simp
      · have : (Value.type T == Value.type T') = false := by simpa using q
        rw [this, decide_eq_false q]
    rcases hop with ⟨rfl, rfl⟩ | ⟨rfl, rfl⟩
    · refine wpAny_pure (a := Value.bool (Value.type T == Value.type T')) ?_
      refine wpAny_truthy_bool ?_
      rw [hbe]
      exact k t _ H1 hp1 tk1 hp S1
    · refine isnot_type ?_
      refine wpAny_truthy_bool ?_
      rw [hbe]
      exact k t _ H1 hp1 tk1 hp S1
end
noncomputable def isTgN (scope : Scope) : List Str → List PySem.Expr → Bool
  | [], [] => true
  | x :: xs, .Name y _ :: es => x == y && scope.names.lookup x == some .local && !xs.contains x && isTgN scope xs es
  | _, _ => false
noncomputable def isTg (scope : Scope) (tg : List Str) : PySem.Expr → Bool
  | .Name y p => isTgN scope tg [.Name y p]
  | .Tuple ts _ _ => isTgN scope tg ts && decide (1 < tg.length)
  | _ => false
theorem tgN_re {scope : Scope} : ∀ (tg : List Str) (es : List PySem.Expr), okNames (fun x => scope.names.lookup x == some .local) tg = true → isTgN scope tg (reNames tg es) = true
  | [], _, _ => rfl
  | x :: r, es, h => by
    have h1 : ((scope.names.lookup x == some .local) && !r.contains x && okNames (fun x => scope.names.lookup x == some .local) r) = true := h
    obtain ⟨a, b, e⟩ := and3 h1
    show (x == x && scope.names.lookup x == some .local && !r.contains x && isTgN scope r (reNames r es.tail)) = true
    rw [a, b, tgN_re r es.tail e]
    simp
theorem tg_re {scope : Scope} {tg : List Str} {e : PySem.Expr} (h0 : (!tg.isEmpty) = true) (h : okNames (fun x => scope.names.lookup x == some .local) tg = true) : isTg scope tg (reTg tg e) = true := by
  cases tg with
  | nil => cases h0
  | cons x r =>
    cases r with
    | nil => exact tgN_re [x] [e] h
    | cons y r =>
      show (isTgN scope (x :: y :: r) (reNames (x :: y :: r) (kids e)) && decide (1 < (x :: y :: r).length)) = true
      rw [tgN_re _ _ h]
      simp
noncomputable def clF (env : Env) : List (Str × NameKind) → List (Str × Addr) → List (Str × Addr)
  | [], acc => acc
  | (n, k) :: r, acc => if k == .free then clF env r ((n, (env.cells.lookup n).getD 0) :: acc) else clF env r acc
theorem closure_of {env : Env} : ∀ (names : List (Str × NameKind)) (acc : List (Str × Addr)), (∀ p ∈ names, p.2 = .free → (env.cells.lookup p.1).isSome = true) →
    (forIn names acc fun (x : Str × NameKind) cs => if x.2 == .free then do let a ← cellOf env x.1; pure (ForInStep.yield ((x.1, a) :: cs)) else pure (ForInStep.yield cs) : Sem (List (Str × Addr))) = pure (clF env names acc)
  | [], acc, _ => rfl
  | (n, k) :: r, acc, h => by
    rw [List.forIn_cons]
    by_cases hk : (k == .free) = true
    · have hk' : k = .free := by simpa using hk
      obtain ⟨a, ha⟩ := Option.isSome_iff_exists.mp (h _ (.head _) hk')
      have hc : cellOf env n = pure a := by unfold cellOf; rw [ha]
      simp only [hk, if_true, hc]
      unfold clF
      rw [if_pos hk, ha]
      exact closure_of r _ fun p hp => h p (.tail _ hp)
    · unfold clF
      rw [if_neg hk]
      simp only [hk]
      exact closure_of r _ fun p hp => h p (.tail _ hp)
theorem closureFor_of {scope : Scope} {env : Env} (h : ∀ p ∈ scope.names, p.2 = .free → (env.cells.lookup p.1).isSome = true) : closureFor scope env = pure (clF env scope.names []) := by
  have := closure_of (env := env) scope.names [] h
  show (forIn scope.names ([] : List (Str × Addr)) (fun (x : Str × NameKind) cs => if x.2 == .free then do let a ← cellOf env x.1; pure (ForInStep.yield ((x.1, a) :: cs)) else pure (ForInStep.yield cs)) >>= fun cs => (pure cs : Sem (List (Str × Addr)))) = _
  rw [this]
  rfl
theorem clF_at {env : Env} {x : Str} : ∀ {names : List (Str × NameKind)} {acc : List (Str × Addr)}, (∀ p ∈ acc, env.cells.lookup p.1 = some p.2) → (∀ p ∈ names, p.2 = .free → (env.cells.lookup p.1).isSome = true) →
    ((x, NameKind.free) ∈ names ∨ (acc.lookup x).isSome = true) → (clF env names acc).lookup x = env.cells.lookup x
  | [], acc, ha, _, h => by
    rcases h with h | h
    · cases h
    · obtain ⟨a, ea⟩ := Option.isSome_iff_exists.mp h
      show acc.lookup x = _
      rw [ea, ha _ (mem_of_lookup ea)]
  | (n, k) :: r, acc, ha, hn, h => by
    unfold clF
    by_cases hk : (k == .free) = true
    · have hk' : k = .free := by simpa using hk
      rw [if_pos hk]
      obtain ⟨a, ea⟩ := Option.isSome_iff_exists.mp (hn _ (.head _) hk')
      refine clF_at ?_ (fun p hp => hn p (.tail _ hp)) ?_
      · intro p hp
        rcases List.mem_cons.mp hp with rfl | hp
        · rw [ea]; rfl
        · exact ha p hp
      · rcases h with h | h
        · rcases List.mem_cons.mp h with e | h
          · cases e
            exact .inr (by rw [List.lookup_cons]; simp)
          · exact .inl h
        · by_cases q : x = n
          · subst q
            exact .inr (by rw [List.lookup_cons]; simp)
          · have hb : (x == n) = false := by simpa using q
            exact .inr (by rw [List.lookup_cons, hb]; exact h)
    · rw [if_neg hk]
      refine clF_at ha (fun p hp => hn p (.tail _ hp)) ?_
      rcases h with h | h
      · rcases List.mem_cons.mp h with e | h
        · cases e
          exact absurd rfl hk
        · exact .inl h
      · exact .inr h
theorem kcl_relabel {scope : Scope} {env : Env} (x : Str) : kcl ((relabel scope env).names.lookup x) = kcl (scope.names.lookup x) := by
  unfold relabel
  show kcl (List.lookup x (scope.names.map fun (n, k) => if (k == .free && env.scope.kind == .function && env.kindOf n == some .cell) then (n, .cell) else (n, k))) = _
  generalize scope.names = l
  induction l with
  | nil => rfl
  | cons p r ih =>
    obtain ⟨n, k⟩ := p
    rw [List.map_cons]
    by_cases hc : (k == NameKind.free && env.scope.kind == .function && env.kindOf n == some .cell) = true
    · have hk : k = .free := by
        simp only [Bool.and_eq_true, beq_iff_eq] at hc
        exact hc.1.1
      simp only [hc, if_true, List.lookup_cons]
      cases x == n with
      | true => rw [hk]; rfl
      | false => exact ih
    · have e : (match (n, k) with | (n, k) => if (k == NameKind.free && env.scope.kind == .function && env.kindOf n == some .cell) = true then (n, NameKind.cell) else (n, k)) = (n, k) := if_neg hc
      rw [e, List.lookup_cons, List.lookup_cons]
      cases x == n with
      | true => rfl
      | false => exact ih
theorem mem_of_kcl2 {x : Str} : ∀ {l : List (Str × NameKind)}, (∀ p ∈ l, p.2 ≠ .cell) → kcl (l.lookup x) = 2 → (x, NameKind.free) ∈ l
  | [], _, h => by cases h
  | (n, k) :: r, hc, h => by
    rw [List.lookup_cons] at h
    by_cases q : x = n
    · subst q
      simp at h
      rcases kcl2 h with e | e
      · exact absurd (Option.some.inj e) (hc _ (.head _))
      · rw [Option.some.inj e]; exact .head _
    · have hb : (x == n) = false := by simpa using q
      rw [hb] at h
      exact .tail _ (mem_of_kcl2 (fun p hp => hc p (.tail _ hp)) h)
structure Sub (G : Gx) (c c' : Cx) (d : Nat) : Prop where
  ok : Ok G c' d
  prog : c'.prog = c.prog
  w : c'.w = c.w
  h₀ : c'.h₀ = c.h₀
section
variable {c : Cx} {m : ML} {H : MH} {G : Gx} {d : Nat}
noncomputable def Cx.comp (c : Cx) (scope : Scope) (tg : List Str) (C : Addr) (ml : Str → Option Value) (ox fr xt : List (Addr × Obj)) : Cx :=
  { c with env := compEnvC scope (clF c.env scope.names []) C c.env, fm := some (ml, ox), fr := fr, xt := xt, X := fun _ _ _ _ => False, nm := c.nm ++ tg, sc := scope }
theorem comp_ok (ok : Ok G c d) {scope : Scope} {tg : List Str} {C : Addr} {ml : Str → Option Value} {ox fr xt : List (Addr × Obj)} (hk : scope.kind = .function) (hfr : TI.SameUp c.fr fr) : Ok G (c.comp scope tg C ml ox fr xt) d := by
  obtain ⟨env₀, outer, h1, h2, h3, h4, h5⟩ := ok.frames
  refine ⟨⟨env₀, outer, h1, h2, h3, h4.up hfr, fun q => (by cases q)⟩, ok.kin, ok.top, ok.hh, ok.dep, ok.uni, hk, ok.gl, ok.bi, fun q => (by cases q), fun x => kcl_relabel x, fun q => (by cases q), ok.ex⟩
theorem storeC {mr : Str → Option Value} {ρ : List Addr} {s : Shared} {x : Str} {v : Value} {f : Str → Option Value} {ox : List (Addr × Obj)} {Q E} (hfm : c.fm = some (f, ox)) (hk : c.env.scope.kind = .function) (S : St c mr ρ H s.heap) (hx : c.env.kindOf x = some .local)
    (h : ∀ h' tk, St c (fun y => if y = x then some v else mr y) ρ H h' → Q () { s with heap := h', toks := tk }) :
    wpAny (model c.prog c.w) c.A (storeName c.env x v) Q E s := by
  obtain ⟨ml, fr, ex, o, u, F, os, a1, a2, a3, N, a5⟩ := S
  unfold Own at o
  rw [hfm] at o
  obtain ⟨e0, ⟨oC, mC, q1, q2, q3⟩, o2⟩ := o
  subst q1
  have hC := N (c.env.locals, oC) (List.mem_append_left _ (List.mem_append_right _ (List.mem_append_right _ (.head _))))
  refine wpAny_storeName_local hx (q2.ns hC.1) (fun h' hn hs => ?_) (by rw [hk]; rfl)
  obtain ⟨oC', hC', hoC'⟩ := LCg.ns_obj hn
  refine h h' _ ⟨ml, fr, (c.env.locals, oC') :: ox, ?_, u, F.change hs hC.2.1 hC.2.2, os, a1, a2, a3, ?_, (by simpa [List.map_append] using a5)⟩
  · unfold Own
    rw [hfm]
    refine ⟨e0, ⟨oC', _, rfl, hoC', fun y hy => ?_⟩, fun y hy => ?_⟩
    · by_cases e : y = x
      · simp [e]
      · simp [e, q3 y hy]
    · have hne : y ≠ x := by
        rintro rfl
        rw [hx] at hy
        rcases hy with hy | hy <;> cases hy
      simp only [if_neg hne]
      exact o2 y hy
  · have hp : ((fr ++ (c.xt ++ (c.env.locals, oC) :: ox)).map (·.1) ++ ρ).Perm (c.env.locals :: ((fr ++ (c.xt ++ ox)).map (·.1) ++ ρ)) := by
      simp only [List.map_append, List.map_cons, List.append_assoc]
      have h1 := List.perm_middle (a := c.env.locals) (l₁ := fr.map (·.1) ++ c.xt.map (·.1)) (l₂ := ox.map (·.1) ++ ρ)
      simpa [List.append_assoc] using h1
    have hnd := List.nodup_cons.mp (hp.nodup_iff.mp a5)
    intro p hp
    have hsplit : p = (c.env.locals, oC') ∨ p ∈ (fr ++ (c.xt ++ ox)) ++ ρ.zip os := by
      simp only [List.mem_append, List.mem_cons] at hp ⊢
      rcases hp with (hp | hp | hp | hp) | hp <;> simp [hp]
    rcases hsplit with rfl | hq
    · exact ⟨hC', hC.2⟩
    · have P := N p (by
        simp only [List.mem_append, List.mem_cons] at hq ⊢
        rcases hq with (hp | hp | hp) | hp <;> simp [hp])
      refine ⟨(hs.2 _ fun e => ?_).trans P.1, P.2⟩
      refine hnd.1 ?_
      rw [← e]
      rcases List.mem_append.mp hq with hq | hq
      · exact List.mem_append_left _ (List.mem_map_of_mem hq)
      · exact List.mem_append_right _ (List.of_mem_zip (show (p.1, p.2) ∈ _ from hq)).1
noncomputable def upd (mr : Str → Option Value) : List Str → List Value → Str → Option Value
  | x :: xs, v :: vs => upd (fun y => if y = x then some v else mr y) xs vs
  | _, _ => mr
theorem eachC_length {scope : Scope} {env : Env} : ∀ {tg : List Str} {ts : List PySem.Expr}, isTgN scope tg ts = true → (assignEach ts env).length = tg.length ∧ (assignEach ts env).findIdx? (·.1) = none
  | [], [], _ => ⟨rfl, rfl⟩
  | [], _ :: _, h => by simp [isTgN] at h
  | _ :: _, [], h => by simp [isTgN] at h
  | i :: is, t :: ts, h => by
    cases t <;> simp only [isTgN, Bool.false_eq_true] at h
    simp only [Bool.and_eq_true] at h
    obtain ⟨h1, h2⟩ := eachC_length (env := env) h.2
    refine ⟨?_, ?_⟩
    · show ((false, _) :: assignEach ts env).length = _
      simp [h1]
    · show ((false, _) :: assignEach ts env).findIdx? (·.1) = none
      rw [List.findIdx?_cons]
      simp [h2]
theorem assignInC {f : Str → Option Value} {ox : List (Addr × Obj)} (hfm : c.fm = some (f, ox)) (hk : c.env.scope.kind = .function) (hkd : ∀ x, kcl (c.env.kindOf x) = kcl (c.sc.names.lookup x)) {Q : Unit → Shared → Prop} {E : Value → Shared → Prop} {ρ : List Addr} :
    ∀ {tg : List Str} {ts : List PySem.Expr} {vrs : List Value} {mr : Str → Option Value} {s : Shared},
    isTgN c.sc tg ts = true → vrs.length = tg.length → St c mr ρ H s.heap →
    (∀ h' tk, St c (upd mr tg vrs) ρ H h' → Q () { s with heap := h', toks := tk }) →
    wpAny (model c.prog c.w) c.A (assignInOrder ((assignEach ts c.env).map (·.2)) vrs) Q E s
  | [], [], vrs, mr, s, _, hl, S, k => by
    cases vrs with
    | nil => exact wpAny_pure (k s.heap s.toks S)
    | cons _ _ => simp at hl
  | [], _ :: _, _, _, _, h, _, _, _ => by simp [isTgN] at h
  | _ :: _, [], _, _, _, h, _, _, _ => by simp [isTgN] at h
  | x :: xs, t :: ts, vrs, mr, s, h, hl, S, k => by
    cases t <;> simp only [isTgN, Bool.false_eq_true] at h
    rename_i y px
    simp only [Bool.and_eq_true, beq_iff_eq] at h
    obtain ⟨⟨⟨rfl, h2⟩, h3⟩, h4⟩ := h
    cases vrs with
    | nil => simp at hl
    | cons v vs =>
      show wpAny _ _ (do holding vs (assign (.Name x px) c.env v); assignInOrder ((assignEach ts c.env).map (·.2)) vs) Q E s
      refine wpAny_bind (wpAny_holding (wpAny_assign_Name ?_))
      refine storeC hfm hk S (kcl1 ((hkd x).trans (by rw [h2]; rfl))) ?_
      intro h' tk S2
      refine assignInC hfm hk hkd (s := { s with heap := h', toks := tk }) h4 (by simpa using hl) S2 ?_
      intro h'' tk' S3
      exact k h'' tk' S3
noncomputable def PartsN (H : MH) : List Str → MV → List MV → Prop
  | [_], v, vs => vs = [v]
  | is, v, vs => 1 < is.length ∧ vs.length = is.length ∧ ∃ a, v = .ref a ∧ H[a]? = some (.tup vs)
theorem assignTgC (hh : c.A.handled = none) {f : Str → Option Value} {ox : List (Addr × Obj)} (hfm : c.fm = some (f, ox)) (hk : c.env.scope.kind = .function) (hkd : ∀ x, kcl (c.env.kindOf x) = kcl (c.sc.names.lookup x)) {Q : Unit → Shared → Prop} {E : Value → Shared → Prop} {ρ : List Addr} {tg : List Str} {target : PySem.Expr} {v : MV} {vr : Value} {vs : List MV} {mr : Str → Option Value} {s : Shared}
    (ht : isTg c.sc tg target = true) (hv : VR ρ v vr) (hp : PartsN H tg v vs) (S : St c mr ρ H s.heap)
    (k : ∀ vrs h' tk, VRs ρ vs vrs → vrs.length = tg.length → St c (upd mr tg vrs) ρ H h' → Q () { s with heap := h', toks := tk }) : wpAny (model c.prog c.w) c.A (assign target c.env vr) Q E s := by
  unfold isTg at ht
  split at ht
  · rename_i y p
    cases tg with
    | nil => simp [isTgN] at ht
    | cons x xs =>
      cases xs with
      | cons _ _ => simp [isTgN] at ht
      | nil =>
        simp only [isTgN, Bool.and_eq_true, beq_iff_eq] at ht
        obtain ⟨⟨⟨rfl, h2⟩, _⟩, _⟩ := ht
        have e : vs = [v] := hp
        subst e
        refine wpAny_assign_Name (storeC hfm hk S (kcl1 ((hkd x).trans (by rw [h2]; rfl))) ?_)
        intro h' tk S2
        exact k [vr] h' tk ⟨vr, [], rfl, hv, rfl⟩ rfl S2
  · rename_i ts k' px
    simp only [Bool.and_eq_true, decide_eq_true_eq] at ht
    have hp' : 1 < tg.length ∧ vs.length = tg.length ∧ ∃ a, v = .ref a ∧ H[a]? = some (.tup vs) := by
      cases tg with
      | nil => simp at ht
      | cons i r =>
        cases r with
        | nil => simp at ht
        | cons _ _ => exact hp
    obtain ⟨_, hl, a, rfl, ha⟩ := hp'
    obtain ⟨x, hx, rfl⟩ := hv
    obtain ⟨ws, hws, T⟩ := S.tup ha hx
    obtain ⟨q1, q2⟩ := eachC_length (env := c.env) ht.1
    have hlen : ws.length = tg.length := by rw [hws.length, hl]
    refine assign_Tuple_tuple hh T (by rw [q1, List.size_toArray, hlen]) q2 ?_
    intro h' he
    refine assignInC hfm hk hkd (s := { s with heap := h' }) ht.1 (by simpa using hlen) (S.grow (ext_grow he)) ?_
    intro h'' tk' S3
    exact k ws h'' tk' hws hlen S3
  · cases ht
end
theorem slot_app_off {x : Str} : ∀ {nm tg : List Str}, x ∉ tg → slot (nm ++ tg) x = slot nm x
  | [], [], _ => rfl
  | [], y :: r, h => by
    have h1 : x ∉ r := fun q => h (.tail _ q)
    have h2 : (y == x) = false := by simpa using fun e : y = x => h (e ▸ .head _)
    show slot (y :: r) x = none
    unfold slot
    have := slot_app_off (nm := []) (tg := r) h1
    rw [List.nil_append] at this
    rw [this]
    unfold slot
    simp [h2]
  | z :: nm, tg, h => by
    show slot (z :: (nm ++ tg)) x = slot (z :: nm) x
    unfold slot
    rw [slot_app_off h]
theorem slot_app_in {x : Str} : ∀ {nm tg : List Str}, x ∈ tg → ∃ j, slot tg x = some j ∧ slot (nm ++ tg) x = some (nm.length + j)
  | [], tg, h => by
    have key : ∀ {tg : List Str}, x ∈ tg → ∃ j, slot tg x = some j := by
      intro tg
      induction tg with
      | nil => intro h; cases h
      | cons y r ih =>
        intro h
        unfold slot
        cases e : slot r x with
        | some j => exact ⟨j + 1, rfl⟩
        | none =>
          rcases List.mem_cons.mp h with rfl | h
          · exact ⟨0, by simp⟩
          · obtain ⟨j, hj⟩ := ih h
            rw [hj] at e; cases e
    obtain ⟨j, hj⟩ := key h
    exact ⟨j, hj, by simpa using hj⟩
  | z :: nm, tg, h => by
    obtain ⟨j, h1, h2⟩ := slot_app_in (nm := nm) h
    refine ⟨j, h1, ?_⟩
    show slot (z :: (nm ++ tg)) x = _
    unfold slot
    rw [h2]
    simp only [List.length_cons]
    congr 1
    omega
theorem upd_off {x : Str} : ∀ {tg : List Str} {vrs : List Value} {mr : Str → Option Value}, x ∉ tg → upd mr tg vrs x = mr x
  | [], _, _, _ => by unfold upd; rfl
  | _ :: _, [], _, _ => by unfold upd; rfl
  | y :: r, v :: vs, mr, h => by
    unfold upd
    rw [upd_off fun q => h (.tail _ q)]
    have : x ≠ y := fun e => h (e ▸ .head _)
    simp [this]
theorem upd_at {x : Str} {v : Value} {sc : Scope} : ∀ {tg : List Str} {ts : List PySem.Expr} {vrs : List Value} {mr : Str → Option Value} {j : Nat}, isTgN sc tg ts = true → tg[j]? = some x → vrs[j]? = some v → upd mr tg vrs x = some v
  | [], _, _, _, _, _, h, _ => by simp at h
  | _ :: _, _, [], _, _, _, _, h => by simp at h
  | y :: r, ts, u :: us, mr, j, ht, h1, h2 => by
    cases ts with
    | nil => simp [isTgN] at ht
    | cons t ts =>
      cases t <;> simp only [isTgN, Bool.false_eq_true] at ht
      simp only [Bool.and_eq_true, beq_iff_eq, Bool.not_eq_true'] at ht
      obtain ⟨⟨⟨_, _⟩, hc⟩, hr⟩ := ht
      have hc' : y ∉ r := by simpa using hc
      unfold upd
      cases j with
      | zero =>
        simp at h1 h2
        subst h1 h2
        rw [upd_off hc']
        simp
      | succ j => exact upd_at hr (by simpa using h1) (by simpa using h2)
theorem tgN_of {scope : Scope} {tg : List Str} {target : PySem.Expr} (h : isTg scope tg target = true) : ∃ ts, isTgN scope tg ts = true := by
  unfold isTg at h
  split at h
  · exact ⟨_, h⟩
  · simp only [Bool.and_eq_true] at h
    exact ⟨_, h.1⟩
  · cases h
section
variable {c : Cx} {m : ML} {H : MH} {G : Gx} {d : Nat}
theorem forIn_false {env : Env} {M : Model} {A : Around} {Q : Bool → Shared → Prop} {E : Value → Shared → Prop} {s : Shared} : ∀ {ifs : List PySem.Expr}, Q false s →
    wpAny M A (forIn ifs false fun c r => if r = true then do let ok ← isTrue c env (eval c env); pure (ForInStep.yield ok) else pure (ForInStep.yield r)) Q E s
  | [], h => wpAny_pure h
  | _ :: _, h => by
    rw [List.forIn_cons]
    simp only [Bool.false_eq_true, if_false]
    exact forIn_false h
noncomputable def TC (c : Cx) (m : ML) : CTs → MH → (Bool → MH → Prop) → Prop
  | .nil, H, post => post true H
  | .cons t r, H, post => TT c m t H (fun b H1 => (b = false → post false H1) ∧ (b = true → TC c m r H1 post))
theorem tests_of {post : Bool → MH → Prop} {mr : Str → Option Value} {Q : Bool → Shared → Prop} {E : Value → Shared → Prop} : ∀ {cs : CTs} {ifs : List PySem.Expr} {H : MH} {ρ : List Addr} {s : Shared}, TC c m cs H post → wfTs cs c.nm c.sc ifs = true → St c mr ρ H s.heap → LR mr c.nm ρ m →
    (∀ t b H' h' tk, post b H' → St c mr (ρ ++ t) H' h' → Q b { s with heap := h', toks := tk }) → Kx c ρ s E →
    wpAny (model c.prog c.w) c.A (forIn (reTs cs c.nm ifs) true fun x r => if r = true then do let ok ← isTrue x c.env (eval x c.env); pure (ForInStep.yield ok) else pure (ForInStep.yield r)) Q E s
  | .nil, ifs, H, ρ, s, h, hi, S, l, k, kx => by
    exact wpAny_pure (k [] true H s.heap s.toks h (nil_of S))
  | .cons t r, ifs, H, ρ, s, h, hi, S, l, k, kx => by
    have hi := and2 hi
    show wpAny _ _ (forIn (reT t c.nm (nth 0 ifs) :: reTs r c.nm ifs.tail) true _) _ _ _
    rw [List.forIn_cons]
    simp only [if_true]
    refine wpAny_bind (wpAny_bind ?_)
    refine h _ hi.1 _ mr ρ s _ E (fun _ => rfl) S l ?_ kx
    intro t' b H1 h1 tk1 hp S1
    refine wpAny_pure ?_
    cases b with
    | false => exact forIn_false (k t' false H1 h1 tk1 (hp.1 rfl) S1)
    | true =>
      refine tests_of (ρ := ρ ++ t') (s := { s with heap := h1, toks := tk1 }) (hp.2 rfl) hi.2 S1 l.mono ?_ kx.mono
      intro t'' b H2 h2 tk2 hp2 S2
      rw [List.append_assoc] at S2
      exact k (t' ++ t'') b H2 h2 tk2 hp2 S2
theorem comp_scope {sc scope : Scope} {tg : List Str} (h : compb sc scope tg = true) : scope.kind = .function ∧ (∀ y ∈ scope.names, y.2 ≠ .cell) ∧ (∀ y ∈ scope.names, y.2 = .local → scope.names.lookup y.1 = some .local ∧ (y.1 = (".0" : Str) ∨ y.1 ∈ tg)) ∧
    (∀ y ∈ scope.names, y.2 = .free → kcl (sc.names.lookup y.1) = 2 ∧ y.1 ∉ tg) := by
  unfold compb at h
  simp only [Bool.and_eq_true, beq_iff_eq, List.all_eq_true] at h
  refine ⟨h.1, ?_, ?_, ?_⟩
  · intro y hy e
    have := h.2 y hy
    rw [e] at this
    cases this
  · intro y hy e
    have := h.2 y hy
    rw [e] at this
    simp only [Bool.and_eq_true, Bool.or_eq_true, beq_iff_eq] at this
    exact ⟨this.2, this.1.imp id fun q => by simpa using q⟩
  · intro y hy e
    have := h.2 y hy
    rw [e] at this
    simp only [Bool.and_eq_true, beq_iff_eq, Bool.not_eq_true'] at this
    exact ⟨this.1, by simpa using this.2⟩
theorem local_mem {x : Str} : ∀ {l : List (Str × NameKind)}, l.lookup x = some .local → (x, NameKind.local) ∈ l
  | [], h => by cases h
  | (n, k) :: r, h => by
    rw [List.lookup_cons] at h
    by_cases q : x = n
    · subst q
      simp at h
      rw [h]; exact .head _
    · have hb : (x == n) = false := by simpa using q
      rw [hb] at h
      exact .tail _ (local_mem h)
noncomputable abbrev Cx.at (c : Cx) (scope : Scope) (tg : List Str) (C : Addr) (ml : Str → Option Value) (ex fr : List (Addr × Obj)) (D : Addr) (yrs : List Value) : Cx := c.comp scope tg C ml ex fr ((D, LCg.lst yrs) :: c.xt)
theorem lr_comp {scope : Scope} {tg : List Str} {ts : List PySem.Expr} {mr mr' : Str → Option Value} {ρ : List Addr} {vs : List MV} {vrs : List Value} (hcb : compb c.sc scope tg = true) (h0 : c.nm.contains (".0" : Str) = false) (ht : isTgN scope tg ts = true) (l : LR mr c.nm ρ m)
    (hm : ∀ x, x ∉ tg → scope.names.lookup x ≠ some .local → mr' x = mr x) (hv : VRs ρ vs vrs) (hl : vrs.length = tg.length) : LR (upd mr' tg vrs) (c.nm ++ tg) ρ (m ++ vs.map some) := by
  obtain ⟨_, _, hloc, _⟩ := comp_scope hcb
  refine ⟨by rw [List.length_append, List.length_append, List.length_map, l.1, ← hv.length, hl], fun i x v e1 e2 => ?_⟩
  by_cases hx : x ∈ tg
  · obtain ⟨j, h1, h2⟩ := slot_app_in (nm := c.nm) hx
    rw [h2] at e1
    cases e1
    rw [List.getElem?_append_right (by rw [l.1]; omega), l.1, Nat.add_sub_cancel_left, List.getElem?_map] at e2
    cases q : vs[j]? with
    | none => rw [q] at e2; cases e2
    | some u =>
      rw [q] at e2
      cases e2
      obtain ⟨vr, g1, g2⟩ := hv.get q
      exact ⟨vr, g2, upd_at ht (slot_get h1) g1⟩
  · rw [slot_app_off hx] at e1
    have hi : i < m.length := by rw [l.1]; exact (List.getElem?_eq_some_iff.mp (slot_get e1)).1
    rw [List.getElem?_append_left hi] at e2
    obtain ⟨vr, g1, g2⟩ := l.2 i x v e1 e2
    refine ⟨vr, g1, ?_⟩
    rw [upd_off hx, hm x hx ?_, g2]
    intro q
    rcases (hloc _ (local_mem q) rfl).2 with q | q
    · have hm0 := List.mem_of_getElem? (slot_get e1)
      have : c.nm.contains (".0" : Str) = true := by
        rw [show x = (".0" : Str) from q] at hm0
        simpa using hm0
      rw [h0] at this
      cases this
    · exact hx q
end
theorem loopC {prog : Program} {w : World} {A : Around} {R : Result → Shared → Prop} {s : Shared} {elt target iter : PySem.Expr} {ifs : List PySem.Expr} {scope : Scope} {pos : Pos} {it acc : Value} {env : Env} (I : Nat → Shared → Prop)
    (turn : ∀ n s, I n s → ∀ E' : Value → Shared → Prop, wpAny (model prog w) A (pyNext it) (fun r s₁ => match r with
      | none => R (.ok .next) s₁
      | some v => wpAny (model prog w) A (letOwnedTupleGo target it v) (fun _ s₁' => wpAny (model prog w) A (assign target env v) (fun _ s₂ =>
          wpAny (model prog w) A (forIn ifs true fun c r => if r = true then do let ok ← isTrue c env (eval c env); pure (ForInStep.yield ok) else pure (ForInStep.yield r)) (fun ok s₃ =>
            if ok = true then wpAny (model prog w) A (eval elt env) (fun x s₄ =>
              wpAny (model prog w) A (call (.builtin "list.append") [acc, x]) (fun _ s₅ => ∃ m, m < n ∧ I m s₅) E' s₄) E' s₃
            else ∃ m, m < n ∧ I m s₃) E' s₂) E' s₁') E' s₁) E' s)
    (n : Nat) (h : I n s) : codeAny (model prog w) A (.compLoop (.ListComp elt [⟨target, iter, ifs, 0⟩] scope pos) 0 it acc env) R s := by
  refine codeAny_loop rfl I (fun n s hI => ?_) n h
  show wpAny _ A ((compTurn (.ListComp elt [⟨target, iter, ifs, 0⟩] scope pos) 0 it acc env).onRaise (fun x => do noteFrame x env; theTreesLotGoes x)) _ _ s
  refine wpAny_noted ?_
  rw [compTurn_list]
  refine wpAny_bind (wpAny_standAt (wpAny_bind (wpAny_mono (turn n s hI _) (fun r s₁ h₁ => ?_) fun _ _ h' => h')))
  cases r with
  | none => exact wpAny_pure h₁
  | some v =>
    refine wpAny_bind (wpAny_mono h₁ (fun _ s₁' h₁' => ?_) fun _ _ h' => h')
    refine wpAny_bind (wpAny_mono h₁' (fun _ s₂ h₂ => wpAny_bind (wpAny_mono h₂ (fun ok s₃ h₃ => ?_) fun _ _ h' => h')) fun _ _ h' => h')
    cases ok with
    | false => exact wpAny_pure ⟨rfl, h₃⟩
    | true =>
      exact wpAny_bind (wpAny_bind (wpAny_mono h₃ (fun x s₄ h₄ => wpAny_bind (wpAny_mono h₄ (fun _ s₅ h₅ => wpAny_pure (wpAny_pure ⟨rfl, h₅⟩)) fun _ _ h' => h')) fun _ _ h' => h'))
section
variable {c : Cx} {m : ML} {H : MH} {G : Gx} {d : Nat}
theorem St.fact {mr : Str → Option Value} {ρ : List Addr} {h : Heap} (S : St c mr ρ H h) {p : Addr × Obj} (hp : p ∈ c.xt) : h.get? p.1 = some p.2 ∧ p.1 ≠ c.L ∧ c.h₀.get? p.1 = none := by
  obtain ⟨ml, fr, ex, own, u, F, os, a1, a2, a3, N, a5⟩ := S
  exact N p (List.mem_append_left _ (List.mem_append_right _ (List.mem_append_left _ hp)))
theorem St.growD {mr : Str → Option Value} {ρ : List Addr} {h h' : Heap} {D : Addr} {o o' : Obj} {p : Addr × Obj} {xt : List (Addr × Obj)} (S : St (c.wx (p :: (D, o) :: xt)) mr ρ H h) (hs : Heap.SameBut D h h') (hD : h'.get? D = some o') :
    St (c.wx (p :: (D, o') :: xt)) mr ρ H h' := by
  obtain ⟨ml, fr, ex, own, u, F, os, a1, a2, a3, N, a5⟩ := S
  replace N : News c.h₀ c.L h ((fr ++ ((p :: (D, o) :: xt) ++ ex)) ++ ρ.zip os) := N
  replace a5 : ((fr ++ ((p :: (D, o) :: xt) ++ ex)).map (·.1) ++ ρ).Nodup := a5
  have nD := N (D, o) (by simp)
  have hp : ((fr ++ ((p :: (D, o) :: xt) ++ ex)).map (·.1) ++ ρ).Perm (D :: ((fr ++ ((p :: xt) ++ ex)).map (·.1) ++ ρ)) := by
    simp only [List.map_append, List.map_cons, List.cons_append, List.append_assoc]
    have h1 := List.perm_middle (a := D) (l₁ := fr.map (·.1) ++ [p.1]) (l₂ := xt.map (·.1) ++ (ex.map (·.1) ++ ρ))
    simpa [List.append_assoc] using h1
  have hnd := List.nodup_cons.mp (hp.nodup_iff.mp a5)
  refine ⟨ml, fr, ex, own, u, F.change hs nD.2.1 nD.2.2, os, a1, a2, a3, ?_, (by show ((fr ++ ((p :: (D, o') :: xt) ++ ex)).map (·.1) ++ ρ).Nodup; simpa [List.map_append] using a5)⟩
  show News c.h₀ c.L h' ((fr ++ ((p :: (D, o') :: xt) ++ ex)) ++ ρ.zip os)
  intro q hq
  have hsplit : q = (D, o') ∨ q ∈ (fr ++ ((p :: xt) ++ ex)) ++ ρ.zip os := by
    simp only [List.cons_append, List.mem_append, List.mem_cons] at hq ⊢
    rcases hq with (hp | hp | hp | hp | hp) | hp <;> simp [hp]
  rcases hsplit with rfl | hq
  · exact ⟨hD, nD.2⟩
  · have P := N q (by
      simp only [List.cons_append, List.mem_append, List.mem_cons] at hq ⊢
      rcases hq with (hp | hp | hp | hp) | hp <;> simp [hp])
    refine ⟨(hs.2 _ fun e => ?_).trans P.1, P.2⟩
    refine hnd.1 ?_
    rw [← e]
    rcases List.mem_append.mp hq with hq | hq
    · exact List.mem_append_left _ (List.mem_map_of_mem hq)
    · exact List.mem_append_right _ (List.of_mem_zip (show (q.1, q.2) ∈ _ from hq)).1
theorem comp_end {scope : Scope} {tg : List Str} {C D : Addr} {ml mr mr' : Str → Option Value} {ex fr : List (Addr × Obj)} {yrs : List Value} {ys : List MV} {ρ : List Addr} {h : Heap} (own : Own c mr ml ex) (hfr : TI.SameUp c.fr fr)
    (S : St (c.at scope tg C ml ex fr D yrs) mr' ρ H h) (hy : VRs ρ ys yrs) : ∃ oC mC, LCg.NsObj oC mC ∧ St (c.wx ((C, oC) :: c.xt)) mr (ρ ++ [D]) (H ++ [.list ys]) h ∧ (ρ ++ [D])[H.length]? = some D := by
  obtain ⟨ml', fr', ex', own', u, F, os, a1, a2, a3, N, a5⟩ := S
  obtain ⟨e0, ⟨oC, mC, q1, q2, q3⟩, o2⟩ := own'
  have e0' : ml' = ml := e0
  subst e0' q1
  replace N : News c.h₀ c.L h ((fr' ++ (((D, LCg.lst yrs) :: c.xt) ++ ((C, oC) :: ex))) ++ ρ.zip os) := N
  replace a5 : ((fr' ++ (((D, LCg.lst yrs) :: c.xt) ++ ((C, oC) :: ex))).map (·.1) ++ ρ).Nodup := a5
  refine ⟨oC, mC, q2, ?_, last_get a2⟩
  have hp : ((fr' ++ (((D, LCg.lst yrs) :: c.xt) ++ ((C, oC) :: ex))).map (·.1) ++ ρ).Perm (D :: ((fr' ++ (((C, oC) :: c.xt) ++ ex)).map (·.1) ++ ρ)) := by
    simp only [List.map_append, List.map_cons, List.cons_append, List.append_assoc]
    have h1 := List.perm_middle (a := C) (l₁ := fr'.map (·.1) ++ D :: c.xt.map (·.1)) (l₂ := ex.map (·.1) ++ ρ)
    have h2 := List.perm_middle (a := D) (l₁ := fr'.map (·.1)) (l₂ := c.xt.map (·.1) ++ (ex.map (·.1) ++ ρ))
    have h3 : (fr'.map (·.1) ++ D :: (c.xt.map (·.1) ++ C :: (ex.map (·.1) ++ ρ))).Perm (C :: (fr'.map (·.1) ++ D :: (c.xt.map (·.1) ++ (ex.map (·.1) ++ ρ)))) := by simpa [List.append_assoc] using h1
    have h4 := List.perm_middle (a := C) (l₁ := fr'.map (·.1)) (l₂ := c.xt.map (·.1) ++ (ex.map (·.1) ++ ρ))
    exact (h3.trans ((List.Perm.cons _ h2).trans (List.Perm.swap _ _ _))).trans (List.Perm.cons _ h4.symm)
  have hnd := List.nodup_cons.mp (hp.nodup_iff.mp a5)
  have hN : News c.h₀ c.L h ((D, LCg.lst yrs) :: ((fr' ++ (((C, oC) :: c.xt) ++ ex)) ++ ρ.zip os)) := fun q hq => N q (by
    simp only [List.cons_append, List.mem_append, List.mem_cons] at hq ⊢
    rcases hq with hp | (hp | hp | hp | hp) | hp <;> simp [hp])
  refine ⟨ml', fr', ex, own, hfr.trans u, Led.alloc (l := D) (x := LCg.lst yrs) (o := .list ys) a1 a2 a3 hnd.2 F hN ?_ ⟨yrs, yrs.length, hy.mono, rfl⟩⟩
  intro q hq e
  refine hnd.1 ?_
  rw [← e]
  rcases List.mem_append.mp hq with hq | hq
  · exact List.mem_append_left _ (List.mem_map_of_mem hq)
  · exact List.mem_append_right _ (List.of_mem_zip (show (q.1, q.2) ∈ _ from hq)).1
structure ItOk (c : Cx) (I : Addr) (T : Nat → Obj → Prop) (good : MH → Prop) (item : Nat → MH → Option MV) (ρ : List Addr) : Prop where
  nx : ∀ c₁ : Cx, c₁.A = c.A → NX c₁ I T good item ρ
  go : GoOk T
  slf : ∀ (s : Shared) (Q : Value → Shared → Prop) (E : Value → Shared → Prop) (i : Nat) (o : Obj), T i o → s.heap.get? I = some o → Q (.ref I) s → wpAny (model c.prog c.w) c.A (pyIter (.ref I)) Q E s
theorem compCore (ok : Ok G c d) {tg : List Str} {elt : CE} {cs : CTs} {target iter el : PySem.Expr} {ifs : List PySem.Expr} {scope : Scope} {pos : Pos} {post : MV → MH → Prop}
    (h0 : c.nm.contains (".0" : Str) = false) (ht : isTg scope tg target = true) (hcb : compb c.sc scope tg = true) (hcs : wfTs cs (c.nm ++ tg) scope ifs = true) (hel : wfE elt (c.nm ++ tg) scope el = true)
    {I : Addr} {T : Nat → Obj → Prop} {good : MH → Prop} {item : Nat → MH → Option MV} {ρ : List Addr} (it : ItOk c I T good item ρ)
    (J : Nat → List MV → MH → Prop) (B : Nat) (hB : B ≤ 1000000) (hJ0 : J 0 [] H) (hJ : ∀ i ys H1, J i ys H1 → i ≤ B ∧ ys.length ≤ i ∧ good H1)
    (turn : ∀ i ys H1 v, J i ys H1 → item i H1 = some v → ∃ vs, PartsN H1 tg v vs ∧ ∀ c', Sub G c c' d → c'.nm = c.nm ++ tg →
      TC c' (m ++ vs.map some) cs H1 (fun r H2 => (r = false → J (i + 1) ys H2) ∧ (r = true → TE c' (m ++ vs.map some) elt H2 (fun y H3 => J (i + 1) (ys ++ [y]) H3))))
    (done : ∀ i ys H1, J i ys H1 → item i H1 = none → post (.ref H1.length) (H1 ++ [.list ys]))
    {mr : Str → Option Value} {s : Shared} {RR : Value → Addr → Result → Shared → Prop} {E : Value → Shared → Prop} {oI : Obj} (hT : T 0 oI) (S : St (c.wx ((I, oI) :: c.xt)) mr ρ H s.heap) (lr : LR mr c.nm ρ m)
    (k : ∀ C D t v H' h tk oC mC, post v H' → LCg.NsObj oC mC → St (c.wx ((C, oC) :: c.xt)) mr (ρ ++ t) H' h → VR (ρ ++ t) v (.ref D) → RR (.ref D) C (.ok .next) { s with heap := h, toks := tk }) :
    wpAny (model c.prog c.w) c.A (newList []) (fun acc s₃ => wpAny (model c.prog c.w) c.A (newFunctionEnv scope c.env.globals (clF c.env scope.names []) [] c.env.qual none .none (some c.env)) (fun cenv s₄ =>
      codeAny (model c.prog c.w) c.A (.compStart (.ListComp (reE elt (c.nm ++ tg) el) [⟨target, iter, reTs cs (c.nm ++ tg) ifs, 0⟩] scope pos) 0 (.ref I) acc { cenv with scope := relabel scope c.env }) (RR acc cenv.locals) s₄) E s₃) E s := by
  obtain ⟨hkind, hcell, hloc, hfree⟩ := comp_scope hcb
  obtain ⟨ts, htn⟩ := tgN_of ht
  obtain ⟨ml, fr, ex, own, u, F, os, a1, a2, a3, N, a5⟩ := S
  replace N : News c.h₀ c.L s.heap ((fr ++ (((I, oI) :: c.xt) ++ ex)) ++ ρ.zip os) := N
  replace a5 : ((fr ++ (((I, oI) :: c.xt) ++ ex)).map (·.1) ++ ρ).Nodup := a5
  replace own : Own c mr ml ex := own
  have hlt : ∀ a ∈ (fr ++ (((I, oI) :: c.xt) ++ ex)).map (·.1) ++ ρ, a < s.heap.objs.size := fun a ha => by
    obtain ⟨p, hp, e⟩ := led_addr (os := os) a1 a2 ha
    rw [← e]
    exact Heap.lt_size (N p hp).1
  refine wpAny_newObj_type (wpAny_newFunctionEnv hcell (by intro y hy; simp at hy) (fun h₁ hns₁ hsb₁ => ?_) hkind)
  dsimp only at hns₁ hsb₁ ⊢
  generalize hH2 : s.heap.push { cls := .type "list", dict := none, data := .seq ([] : List Value).toArray } = H2 at hns₁ hsb₁ ⊢
  have hC : H2.objs.size = s.heap.objs.size + 1 := by rw [← hH2, Heap.size_push]
  have hDC : s.heap.objs.size ≠ H2.objs.size := by rw [hC]; exact Nat.ne_of_lt (Nat.lt_succ_self _)
  have old : ∀ b o, s.heap.get? b = some o → h₁.get? b = some o := fun b o e => hsb₁.extBut b o (by have := Heap.lt_size e; rw [hC]; exact Nat.ne_of_lt (Nat.lt_succ_of_lt this)) (Heap.get?_push_of_some _ (hH2 ▸ Heap.get?_push_of_some _ e))
  have hacc : h₁.get? s.heap.objs.size = some (LCg.lst []) := hsb₁.extBut _ _ hDC (Heap.get?_push_of_some _ (hH2 ▸ Heap.get?_push_size _ rfl))
  have fresh₀ : ∀ a, s.heap.objs.size ≤ a → c.h₀.get? a = none := fun a ha => by
    cases e : c.h₀.get? a with
    | none => rfl
    | some o' => exact absurd (Heap.lt_size (F.keep a o' e)) (Nat.not_lt.mpr ha)
  have hLlt : c.L < s.heap.objs.size := F.ns.lt
  obtain ⟨oC, hCo, hoC⟩ := LCg.ns_obj hns₁
  let cc : List Value → Cx := fun yrs => c.at scope tg H2.objs.size ml ex fr s.heap.objs.size yrs
  let mr₀ : Str → Option Value := fun y => if (relabel scope c.env).names.lookup y = some .local then none else mr y
  have hmap : ∀ y, (fun _ => none : Str → Option Value) y = none := fun _ => rfl
  have hkl : ∀ y, (relabel scope c.env).names.lookup y = some .local ↔ scope.names.lookup y = some .local := fun y => by
    constructor
    · intro q
      exact kcl1 (by rw [← kcl_relabel (env := c.env), q]; rfl)
    · intro q
      exact kcl1 (by rw [kcl_relabel, q]; rfl)
  have hcells : ∀ p ∈ scope.names, p.2 = .free → (c.env.cells.lookup p.1).isSome = true := fun p hp e => by
    have h2 := (hfree p hp e).1
    rw [← ok.kd] at h2
    unfold Own at own
    split at own
    · obtain ⟨_, _, o2⟩ := own
      obtain ⟨a, o, e1, _⟩ := o2 _ (kcl2 h2)
      rw [e1]; rfl
    · obtain ⟨_, _, o2⟩ := own
      obtain ⟨a, o, e1, _⟩ := o2 _ (kcl2 h2)
      rw [e1]; rfl
  have hcelld : ∀ x, kcl (scope.names.lookup x) = 2 → ∃ a o, (clF c.env scope.names []).lookup x = some a ∧ (a, o) ∈ ex ∧ o.data = .cell (mr x) := fun x hx => by
    have hm := mem_of_kcl2 hcell hx
    have h2 := (hfree _ hm rfl).1
    rw [← ok.kd] at h2
    rw [clF_at (fun p hp => (by cases hp)) hcells (.inl hm)]
    unfold Own at own
    split at own
    · obtain ⟨_, _, o2⟩ := own
      exact o2 _ (kcl2 h2)
    · rename_i f ox hf
      obtain ⟨_, ⟨oC', mC', q1, _⟩, o2⟩ := own
      obtain ⟨a, o, e1, e2, e3⟩ := o2 _ (kcl2 h2)
      exact ⟨a, o, e1, by rw [q1]; exact .tail _ e2, e3⟩
  have S1 : St ((cc []).wx ((I, oI) :: (cc []).xt)) mr₀ ρ H h₁ := by
    refine ⟨ml, fr, (H2.objs.size, oC) :: ex, ?_, TI.SameUp.refl _, F.keeps old, os, a1, a2, a3, ?_, ?_⟩
    · refine ⟨rfl, ⟨oC, _, rfl, hoC, fun x hx => ?_⟩, fun x hx => ?_⟩
      · have hx' : (relabel scope c.env).names.lookup x = some .local := hx
        show _ = if (relabel scope c.env).names.lookup x = some .local then none else mr x
        rw [if_pos hx']
        rfl
      · have hx2 : kcl (scope.names.lookup x) = 2 := by
          rw [← kcl_relabel (env := c.env)]
          rcases hx with hx | hx
          · rw [show (relabel scope c.env).names.lookup x = some .cell from hx]; rfl
          · rw [show (relabel scope c.env).names.lookup x = some .free from hx]; rfl
        obtain ⟨a, o, e1, e2, e3⟩ := hcelld x hx2
        refine ⟨a, o, e1, e2, ?_⟩
        have hnl : ¬ (relabel scope c.env).names.lookup x = some .local := by
          rw [hkl]
          intro q
          rw [q] at hx2
          cases hx2
        show _ = Data.cell (if (relabel scope c.env).names.lookup x = some .local then none else mr x)
        rw [if_neg hnl]
        exact e3
    · show News c.h₀ c.L h₁ ((fr ++ (((I, oI) :: (s.heap.objs.size, LCg.lst []) :: c.xt) ++ ((H2.objs.size, oC) :: ex))) ++ ρ.zip os)
      intro p hp
      have hsplit : p = (s.heap.objs.size, LCg.lst []) ∨ p = (H2.objs.size, oC) ∨ p ∈ (fr ++ (((I, oI) :: c.xt) ++ ex)) ++ ρ.zip os := by
        simp only [List.cons_append, List.mem_append, List.mem_cons] at hp ⊢
        rcases hp with (hp | hp | hp | hp | hp | hp) | hp <;> simp [hp]
      rcases hsplit with rfl | rfl | hq
      · exact ⟨hacc, Nat.ne_of_gt hLlt, fresh₀ _ (Nat.le_refl _)⟩
      · exact ⟨hCo, by show H2.objs.size ≠ c.L; rw [hC]; exact Nat.ne_of_gt (Nat.lt_succ_of_lt hLlt), fresh₀ _ (by show s.heap.objs.size ≤ H2.objs.size; rw [hC]; exact Nat.le_succ _)⟩
      · exact ⟨old _ _ (N p hq).1, (N p hq).2⟩
    · show ((fr ++ (((I, oI) :: (s.heap.objs.size, LCg.lst []) :: c.xt) ++ ((H2.objs.size, oC) :: ex))).map (·.1) ++ ρ).Nodup
      have hp : ((fr ++ (((I, oI) :: (s.heap.objs.size, LCg.lst []) :: c.xt) ++ ((H2.objs.size, oC) :: ex))).map (·.1) ++ ρ).Perm (H2.objs.size :: s.heap.objs.size :: ((fr ++ (((I, oI) :: c.xt) ++ ex)).map (·.1) ++ ρ)) := by
        simp only [List.map_append, List.map_cons, List.cons_append, List.append_assoc]
        have h1 := List.perm_middle (a := H2.objs.size) (l₁ := fr.map (·.1) ++ I :: s.heap.objs.size :: c.xt.map (·.1)) (l₂ := ex.map (·.1) ++ ρ)
        have h2 := List.perm_middle (a := s.heap.objs.size) (l₁ := fr.map (·.1) ++ [I]) (l₂ := c.xt.map (·.1) ++ (ex.map (·.1) ++ ρ))
        have h3 : (fr.map (·.1) ++ I :: s.heap.objs.size :: (c.xt.map (·.1) ++ H2.objs.size :: (ex.map (·.1) ++ ρ))).Perm (H2.objs.size :: (fr.map (·.1) ++ I :: s.heap.objs.size :: (c.xt.map (·.1) ++ (ex.map (·.1) ++ ρ)))) := by simpa [List.append_assoc] using h1
        have h4 : (fr.map (·.1) ++ I :: s.heap.objs.size :: (c.xt.map (·.1) ++ (ex.map (·.1) ++ ρ))).Perm (s.heap.objs.size :: (fr.map (·.1) ++ I :: (c.xt.map (·.1) ++ (ex.map (·.1) ++ ρ)))) := by simpa [List.append_assoc] using h2
        exact h3.trans (List.Perm.cons _ h4)
      rw [hp.nodup_iff, List.nodup_cons, List.nodup_cons]
      refine ⟨?_, ?_, a5⟩
      · intro q
        rcases List.mem_cons.mp q with q | q
        · exact hDC q.symm
        · have h9 := hlt _ q
          rw [hC] at h9
          exact Nat.lt_irrefl _ (Nat.lt_of_succ_lt h9)
      · intro q
        exact Nat.lt_irrefl _ (hlt _ q)
  have okc : ∀ yrs xt, Ok G ((cc yrs).wx xt) d := fun yrs xt => (comp_ok ok hkind u).wx xt
  have hm0 : ∀ x, x ∉ tg → scope.names.lookup x ≠ some .local → mr₀ x = mr x := fun x _ hx => by
    show (if (relabel scope c.env).names.lookup x = some .local then none else mr x) = _
    rw [if_neg (by rw [hkl]; exact hx)]
  have loop : ∀ s₃ : Shared, (∃ tk, s₃ = { s with heap := h₁, toks := tk }) →
      codeAny (model c.prog c.w) c.A (.compLoop (.ListComp (reE elt (c.nm ++ tg) el) [⟨target, iter, reTs cs (c.nm ++ tg) ifs, 0⟩] scope pos) 0 (.ref I) (.ref s.heap.objs.size) (compEnvC scope (clF c.env scope.names []) H2.objs.size c.env)) (RR (.ref s.heap.objs.size) H2.objs.size) s₃ := by
    rintro s₃ ⟨tk₃, rfl⟩
    let K : Nat → Shared → Prop := fun n s' => ∃ i ys yrs t mr' H1 h' tk o, s' = { s with heap := h', toks := tk } ∧ n = B + 1 - i ∧ J i ys H1 ∧ T i o ∧ VRs (ρ ++ t) ys yrs ∧ (∀ x, x ∉ tg → scope.names.lookup x ≠ some .local → mr' x = mr x) ∧ St ((cc yrs).wx ((I, o) :: (cc yrs).xt)) mr' (ρ ++ t) H1 h'
    refine loopC K ?_ (B + 1) ⟨0, [], [], [], mr₀, H, h₁, tk₃, oI, rfl, rfl, hJ0, hT, rfl, hm0, nil_of S1⟩
    rintro n _ ⟨i, ys, yrs, t, mr', H1, h', tk, o, rfl, rfl, hJi, hTi, hy, hmr, S2⟩ E'
    obtain ⟨b1, b2, b3⟩ := hJ i ys H1 hJi
    refine it.nx (cc yrs) rfl i o mr' t H1 { s with heap := h', toks := tk } _ E' hTi b3 S2 ?_ ?_
    · intro mv vr oI' h2 tk2 hi hv hT' hI hkeep
      have S3 := S2.turnX hI hkeep
      refine letOwned it.go hT' hI ?_
      obtain ⟨vs, hp, hturn⟩ := turn i ys H1 mv hJi hi
      refine assignTgC (c := (cc yrs).wx ((I, oI') :: (cc yrs).xt)) (s := { s with heap := h2, toks := tk2 }) ok.hh rfl hkind (okc yrs _).kd ht hv hp S3 ?_
      intro vrs h3 tk3 hvr hvl S4
      have l4 : LR (upd mr' tg vrs) (c.nm ++ tg) (ρ ++ t) (m ++ vs.map some) := lr_comp hcb h0 htn lr.mono hmr hvr hvl
      have kxF : ∀ (ρ' : List Addr) (s' : Shared), Kx ((cc yrs).wx ((I, oI') :: (cc yrs).xt)) ρ' s' E' := fun ρ' s' t C as e m' mr' H' h' tk hX => hX.elim
      have sub : Sub G c ((cc yrs).wx ((I, oI') :: (cc yrs).xt)) d := ⟨okc yrs _, rfl, rfl, rfl⟩
      have hnext : ∀ x, x ∉ tg → scope.names.lookup x ≠ some .local → upd mr' tg vrs x = mr x := fun x hx hl => by rw [upd_off hx]; exact hmr x hx hl
      refine tests_of (c := (cc yrs).wx ((I, oI') :: (cc yrs).xt)) (s := { s with heap := h3, toks := tk3 }) (hturn _ sub rfl) hcs S4 l4 ?_ (kxF _ _)
      intro t5 b H5 h5 tk5 hb S5
      rw [List.append_assoc] at S5
      cases b with
      | false =>
        simp only [Bool.false_eq_true, if_false]
        have hJ' := hb.1 rfl
        have := (hJ _ _ _ hJ').1
        refine ⟨B + 1 - (i + 1), by omega, i + 1, ys, yrs, t ++ t5, _, H5, h5, tk5, oI', rfl, rfl, hJ', hT', ?_, hnext, S5⟩
        rw [← List.append_assoc]
        exact hy.mono
      | true =>
        simp only [if_true]
        refine hb.2 rfl _ hel (upd mr' tg vrs) _ { s with heap := h5, toks := tk5 } _ E' S5 (by rw [← List.append_assoc]; exact l4.mono) ?_ (kxF _ _)
        intro t6 y yr H6 h6 tk6 hJ' hyr S6
        simp only [List.append_assoc] at hyr S6
        have nD := S6.fact (p := (s.heap.objs.size, LCg.lst yrs)) (.tail _ (.head _))
        have hlen := (hJ i ys H1 hJi).2.1
        refine append_at nD.1 (fun h7 hs7 hD7 => ?_) (by show yrs.toArray.size ≤ sizeLine; rw [List.size_toArray, hy.length]; exact Nat.le_trans (Nat.le_trans (Nat.le_trans hlen b1) hB) (by decide))
        have S7 := S6.growD (c := cc yrs) hs7 (hD7.trans (congrArg some (LCg.lst_snoc yrs yr)))
        have := (hJ _ _ _ hJ').1
        refine ⟨B + 1 - (i + 1), by omega, i + 1, ys ++ [y], yrs ++ [yr], t ++ (t5 ++ t6), _, H6, h7, tk6, oI', rfl, rfl, hJ', hT', ?_, hnext, S7⟩
        have e1 : ρ ++ (t ++ (t5 ++ t6)) = ρ ++ t ++ (t5 ++ t6) := by simp only [List.append_assoc]
        refine VRs.append ?_ ⟨yr, [], rfl, hyr, rfl⟩
        rw [e1]
        exact hy.mono
    · intro h2 tk2 hi hkeep
      have S3 := St.endX (c := cc yrs) S2 hkeep
      obtain ⟨oC', mC, hn, g1, g2⟩ := comp_end own u S3 hy
      rw [List.append_assoc] at g1 g2
      exact k H2.objs.size s.heap.objs.size (t ++ [s.heap.objs.size]) (.ref H1.length) _ h2 tk2 oC' mC (done i ys H1 hJi hi) hn g1 ⟨_, g2, rfl⟩
  exact codeAny_compStart_list (loop _ ⟨_, rfl⟩) (it.slf _ _ _ 0 oI hT (old _ _ (N (I, oI) (by simp)).1) (loop _ ⟨_, rfl⟩))
end
section
variable {c : Cx} {m : ML} {H : MH} {G : Gx} {d : Nat}
noncomputable def Turns (G : Gx) (d : Nat) (c : Cx) (m : ML) (tg : List Str) (elt : CE) (cs : CTs) (item : Nat → MH → Option MV) (good : MH → Prop) (B : Nat) (H : MH) (post : MV → MH → Prop) : Prop :=
  B ≤ 1000000 ∧ ∃ J : Nat → List MV → MH → Prop, J 0 [] H ∧ (∀ i ys H1, J i ys H1 → i ≤ B ∧ ys.length ≤ i ∧ good H1) ∧
    (∀ i ys H1 v, J i ys H1 → item i H1 = some v → ∃ vs, PartsN H1 tg v vs ∧ ∀ c', Sub G c c' d → c'.nm = c.nm ++ tg →
      TC c' (m ++ vs.map some) cs H1 (fun r H2 => (r = false → J (i + 1) ys H2) ∧ (r = true → TE c' (m ++ vs.map some) elt H2 (fun y H3 => J (i + 1) (ys ++ [y]) H3)))) ∧
    (∀ i ys H1, J i ys H1 → item i H1 = none → post (.ref H1.length) (H1 ++ [.list ys]))
noncomputable def Src (G : Gx) (d : Nat) (c : Cx) (m : ML) (tg : List Str) (elt : CE) (cs : CTs) (it : CE) (H : MH) (post : MV → MH → Prop) : Prop :=
  ∀ (e : PySem.Expr) (mr : Str → Option Value) (ρ : List Addr) (s : Shared) (Q : Value → Shared → Prop) (E : Value → Shared → Prop), wfE it c.nm c.sc e = true → St c mr ρ H s.heap → LR mr c.nm ρ m → Kx c ρ s E →
    (∀ t H' h' tk I T good item B oI, ItOk c I T good item (ρ ++ t) → Turns G d c m tg elt cs item good B H' post → T 0 oI → St (c.wx ((I, oI) :: c.xt)) mr (ρ ++ t) H' h' → Q (.ref I) { s with heap := h', toks := tk }) →
    wpAny (model c.prog c.w) c.A (eval (reE it c.nm e) c.env) (fun x s₁ => wpAny (model c.prog c.w) c.A (pyIter x) Q E s₁) E s
theorem cells_some (ok : Ok G c d) {scope : Scope} {tg : List Str} (hcb : compb c.sc scope tg = true) {mr : Str → Option Value} {ρ : List Addr} {h : Heap} (S : St c mr ρ H h) : ∀ p ∈ scope.names, p.2 = .free → (c.env.cells.lookup p.1).isSome = true := fun p hp e => by
  obtain ⟨_, _, _, hfree⟩ := comp_scope hcb
  obtain ⟨ml, fr, ex, own, _⟩ := S
  have h2 := (hfree p hp e).1
  rw [← ok.kd] at h2
  unfold Own at own
  split at own
  · obtain ⟨_, _, o2⟩ := own
    obtain ⟨a, o, e1, _⟩ := o2 _ (kcl2 h2)
    rw [e1]; rfl
  · obtain ⟨_, _, o2⟩ := own
    obtain ⟨a, o, e1, _⟩ := o2 _ (kcl2 h2)
    rw [e1]; rfl
theorem St.same {mr : Str → Option Value} {ρ : List Addr} {h h' : Heap} {C : Addr} {o : Obj} (S : St (c.wx ((C, o) :: c.xt)) mr ρ H h) (hs : Heap.SameBut C h h') : St c mr ρ H h' := S.endX fun b x hb e => (hs.2 b hb).trans e
theorem comp_wf {elt : CE} {tg : List Str} {it : CE} {cs : CTs} {nm : List Str} {sc : Scope} {e : PySem.Expr} (he : wfE (.comp elt tg it cs) nm sc e = true) :
    nm.contains (".0" : Str) = false ∧ isTg (scOf e) tg (reTg tg (kid 1 e)) = true ∧ compb sc (scOf e) tg = true ∧ wfE it nm sc (kid 2 e) = true ∧ wfTs cs (nm ++ tg) (scOf e) ((kids e).drop 3) = true ∧ wfE elt (nm ++ tg) (scOf e) (kid 0 e) = true := by
  obtain ⟨he, h5⟩ := and2 he
  obtain ⟨he, h4⟩ := and2 he
  obtain ⟨he, h3⟩ := and2 he
  obtain ⟨he, h2⟩ := and2 he
  obtain ⟨h0, h1, h1'⟩ := and3 he
  exact ⟨by simpa using h0, tg_re h1 h1', h2, h3, h4, h5⟩
theorem TE.comp (ok : Ok G c d) {elt : CE} {tg : List Str} {it : CE} {cs : CTs} {post : MV → MH → Prop} (h : Src G d c m tg elt cs it H post) : TE c m (.comp elt tg it cs) H post := by
  intro e he
  obtain ⟨h0, h1, h2, h3, h4, h5⟩ := comp_wf he
  obtain ⟨hkind, hcell, hloc, hfree⟩ := comp_scope h2
  intro mr ρ s Q E S l k kx
  show wpAny _ _ (eval (.ListComp (reE elt (c.nm ++ tg) (kid 0 e)) [⟨reTg tg (kid 1 e), reE it c.nm (kid 2 e), reTs cs (c.nm ++ tg) ((kids e).drop 3), 0⟩] (scOf e) e.pos) c.env) _ _ _
  rw [eval_ListComp]
  refine wpAny_comprehension_free (e := .ListComp (reE elt (c.nm ++ tg) (kid 0 e)) [⟨reTg tg (kid 1 e), reE it c.nm (kid 2 e), reTs cs (c.nm ++ tg) ((kids e).drop 3), 0⟩] (scOf e) e.pos) (g := ⟨reTg tg (kid 1 e), reE it c.nm (kid 2 e), reTs cs (c.nm ++ tg) ((kids e).drop 3), 0⟩) (gs := []) (use := Option.none) rfl (fun x => folded_of h3 x) (closureFor_of (cells_some ok h2 S)) hkind (fun x hx e => (hloc x hx e).1) ?_
  refine h _ mr ρ s _ E h3 S l kx ?_
  rintro t H' h' tk I T good item B oI hit ⟨hB, J, j0, j1, j2, j3⟩ hT S1
  refine compCore (s := { s with heap := h', toks := tk }) ok h0 h1 h2 h4 h5 hit J B hB j0 j1 j2 j3 hT S1 l.mono ?_
  intro C D t' v H2 h2 tk2 oC mC hp hn S2 hv
  refine ⟨mC, hn.ns S2.itr.1, fun h3 hs => ?_⟩
  have S3 := S2.same hs
  rw [List.append_assoc] at S3 hv
  exact k (t ++ t') v _ H2 h3 tk2 hp hv S3
theorem TS.assignC (ok : Ok G c d) (hfm : c.fm = none) {i : Nat} {elt : CE} {tg : List Str} {it : CE} {cs : CTs} {post : Fl → ML → MH → Prop} (h : Src G d c m tg elt cs it H (fun v H1 => post .next (m.set i (some v)) H1)) : TS c m (.assign i (.comp elt tg it cs)) H post := by
  intro st hs
  obtain ⟨hs1, hs2, he⟩ := and3 hs
  have hs1 := beq_iff_eq.mp hs1
  have hE := TE.comp ok h _ he
  obtain ⟨h0, h1, h2, h3, h4, h5⟩ := comp_wf he
  obtain ⟨hkind, hcell, hloc, hfree⟩ := comp_scope h2
  generalize hx : c.nm.getD i "" = x at hs1 hs2
  intro mr ρ s Q E S l k kx
  show wpAny _ _ (exec (.Assign [.Name (c.nm.getD i "") (ex 1 st).pos] (.ListComp (reE elt (c.nm ++ tg) (kid 0 (ex 0 st))) [⟨reTg tg (kid 1 (ex 0 st)), reE it c.nm (kid 2 (ex 0 st)), reTs cs (c.nm ++ tg) ((kids (ex 0 st)).drop 3), 0⟩] (scOf (ex 0 st)) (ex 0 st).pos) st.pos) c.env) _ _ _
  rw [hx]
  by_cases hsw : swapsWith (.ListComp (reE elt (c.nm ++ tg) (kid 0 (ex 0 st))) [⟨reTg tg (kid 1 (ex 0 st)), reE it c.nm (kid 2 (ex 0 st)), reTs cs (c.nm ++ tg) ((kids (ex 0 st)).drop 3), 0⟩] (scOf (ex 0 st)) (ex 0 st).pos) (some (.Name x (ex 1 st).pos)) st.pos.line c.env = pure true
  · rw [exec_Assign_Name_used _ _ _ _ hsw]
    refine wpAny_bind (wpAny_standAt (wpAny_bind ?_))
    show wpAny _ c.A (do let _ ← comprehension (.ListComp (reE elt (c.nm ++ tg) (kid 0 (ex 0 st))) [⟨reTg tg (kid 1 (ex 0 st)), reE it c.nm (kid 2 (ex 0 st)), reTs cs (c.nm ++ tg) ((kids (ex 0 st)).drop 3), 0⟩] (scOf (ex 0 st)) (ex 0 st).pos) (scOf (ex 0 st)) c.env _ (newList []) false (eval (reE it c.nm (kid 2 (ex 0 st))) c.env) (some (PySem.assign (.Name x (ex 1 st).pos) c.env))) _ _ s
    refine wpAny_bind (wpAny_mono (wpAny_comprehension_free (e := .ListComp (reE elt (c.nm ++ tg) (kid 0 (ex 0 st))) [⟨reTg tg (kid 1 (ex 0 st)), reE it c.nm (kid 2 (ex 0 st)), reTs cs (c.nm ++ tg) ((kids (ex 0 st)).drop 3), 0⟩] (scOf (ex 0 st)) (ex 0 st).pos) (g := ⟨reTg tg (kid 1 (ex 0 st)), reE it c.nm (kid 2 (ex 0 st)), reTs cs (c.nm ++ tg) ((kids (ex 0 st)).drop 3), 0⟩) (gs := []) (use := some (PySem.assign (.Name x (ex 1 st).pos) c.env)) (Q := fun _ s' => Q .next s') rfl (fun x => folded_of h3 x) (closureFor_of (cells_some ok h2 S)) hkind (fun x hx e => (hloc x hx e).1) ?_) (fun _ s' hq => wpAny_pure (wpAny_pure hq)) fun _ _ e => e)
    refine h _ mr ρ s _ E h3 S l kx ?_
    rintro t H' h' tk I T good item B oI hit ⟨hB, J, j0, j1, j2, j3⟩ hT S1
    refine compCore (post := fun v H1 => post .next (m.set i (some v)) H1) (s := { s with heap := h', toks := tk }) ok h0 h1 h2 h4 h5 hit J B hB j0 j1 j2 j3 hT S1 l.mono ?_
    intro C D t' v H2 hp2 tk2 oC mC hp hn S2 hv
    show wpAny _ _ (PySem.assign (.Name x (ex 1 st).pos) c.env (.ref D)) _ _ _
    refine wpAny_assign_Name ?_
    refine store (c := c.wx ((C, oC) :: c.xt)) (s := { s with heap := hp2, toks := tk2 }) (ok.wx _) S2 hfm hs2 ?_
    intro h3 tk3 S3
    refine ⟨mC, hn.ns S3.itr.1, fun h4 hs4 => ?_⟩
    have S4 := S3.same hs4
    rw [List.append_assoc] at S4 hv
    exact k (t ++ t') .next .next _ _ H2 h4 tk3 hp rfl S4 (l.mono.set hs1 hv)
  · have hsw' : swapsWith (.ListComp (reE elt (c.nm ++ tg) (kid 0 (ex 0 st))) [⟨reTg tg (kid 1 (ex 0 st)), reE it c.nm (kid 2 (ex 0 st)), reTs cs (c.nm ++ tg) ((kids (ex 0 st)).drop 3), 0⟩] (scOf (ex 0 st)) (ex 0 st).pos) (some (.Name x (ex 1 st).pos)) st.pos.line c.env = pure false := by
      unfold swapsWith at hsw ⊢
      simp only at hsw ⊢
      generalize (c.env.blockKind == .function && c.env.kindOf x == some .local && (ex 1 st).pos.line == _ && _) = b at hsw ⊢
      cases b with
      | false => rfl
      | true => exact absurd rfl hsw
    refine wpAny_Assign_Name ?_ hsw'
    refine hE mr ρ s _ E S l ?_ kx
    intro t v vr H1 hp1 tk1 hp hv S1
    refine store ok S1 hfm hs2 ?_
    intro h' tk S2
    exact k t .next .next _ _ H1 h' tk hp rfl S2 (l.mono.set hs1 hv)
end
section
variable {c : Cx} {m : ML} {H : MH} {G : Gx} {d : Nat}
theorem Src.list (ok : Ok G c d) {tg : List Str} {elt : CE} {cs : CTs} {it : CE} {post : MV → MH → Prop}
    (h : TE c m it H (fun l H1 => ∃ a xs B, l = .ref a ∧ H1[a]? = some (.list xs) ∧ Turns G d c m tg elt cs (itemL a) (fun H => ∃ xs, H[a]? = some (.list xs)) B H1 post)) : Src G d c m tg elt cs it H post := by
  intro e mr ρ s Q E he S l kx k
  refine h _ he mr ρ s _ E S l ?_ kx
  rintro t lv lr H1 h1 tk1 ⟨a, xs, B, rfl, ha, ht⟩ ⟨y, hy, rfl⟩ S1
  obtain ⟨vs, ep, hvs, No⟩ := S1.list ha hy
  refine wpAny_pyIter_list (isList_of No) ?_
  refine k t H1 _ tk1 _ (fun i o => o.cls = .type "list_iterator" ∧ o.data = .fields #[.ref y, .int i 0]) _ _ B _ ⟨fun c₁ e => NX.list (by rw [e]; exact ok.hh) hy, fun i o hT => ⟨_, _, hT.1, hT.2, rfl⟩, fun s' Q E i o hT hI hq => ?_⟩ ht ⟨rfl, rfl⟩ (S1.addX rfl)
  exact wpAny_pyIter_listiter ⟨o, hI, hT.1, hT.2⟩ hq
theorem Src.range (ok : Ok G c d) (hg : nsIn G.K mainGlobals "range" = some none) {tg : List Str} {elt : CE} {cs : CTs} {a : CE} {r : CEs} {post : MV → MH → Prop}
    (h : TEs c m (.cons a r) H (fun vs H1 => ∃ lo hi, Rng vs lo hi ∧ Turns G d c m tg elt cs (itemR lo hi) (fun _ => True) (hi - lo).toNat H1 post)) : Src G d c m tg elt cs (.call "range" (.cons a r)) H post := by
  intro e mr ρ s Q E he S l kx k
  refine callType ok (T := "range") hg boot_range (by decide) he (by intro q; cases q) S l kx h ?_
  rintro t vs vrs H1 hp1 tk1 ⟨lo, hi, hr, ht⟩ hv S1
  refine call_range S1 hr hv ?_
  intro h' tk t₁ u₁ v₁ hR S2 _
  refine wpAny_pyIter_range hR (small_one hr.2.1 hr.2.2.1 hr.2.2.2.1 hr.2.2.2.2) ?_
  refine k t H1 _ tk _ (fun i o => o = { cls := .type "range_iterator", data := .fields #[rawInt (lo + i), rawInt (((hi - lo).toNat : Int) - i), rawInt 1] }) _ _ _ _ ⟨fun c₁ e => NX.range (a := lo) (b := hi) (by rw [e]; exact ok.hh), fun i o hT => (by subst hT; exact ⟨_, _, rfl, rfl, rfl⟩), fun s' Q E i o hT hI hq => ?_⟩ ht ?_ (S2.addX rfl)
  · subst hT
    exact wpAny_pyIter_rangeiter (show IsRangeIter s'.heap _ _ _ _ from hI) hq
  · rw [rangeSize_nat]
    simp
theorem TC.mono {c : Cx} {m : ML} : ∀ {cs : CTs} {H : MH} {p q : Bool → MH → Prop}, TC c m cs H p → (∀ r H2, p r H2 → q r H2) → TC c m cs H q
  | .nil, _, _, _, h, hpq => hpq _ _ h
  | .cons t r, _, _, _, h, hpq => TT.mono h fun b H1 hb => ⟨fun e => hpq _ _ (hb.1 e), fun e => TC.mono (hb.2 e) hpq⟩
theorem Turns.range {tg : List Str} {x : Str} {elt : CE} {cs : CTs} {lo hi : Int} {post : MV → MH → Prop} (htg : tg = [x]) (hB : (hi - lo).toNat ≤ 1000000) (J : Nat → List MV → MH → Prop) (j0 : J 0 [] H) (jl : ∀ i ys H1, J i ys H1 → ys.length ≤ i)
    (turn : ∀ i ys H1, J i ys H1 → lo + i < hi → ∀ c', Sub G c c' d → c'.nm = c.nm ++ tg →
      TC c' (m ++ [some (.int (lo + i))]) cs H1 (fun r H2 => (r = false → J (i + 1) ys H2) ∧ (r = true → TE c' (m ++ [some (.int (lo + i))]) elt H2 (fun y H3 => J (i + 1) (ys ++ [y]) H3))))
    (done : ∀ ys H1, J (hi - lo).toNat ys H1 → post (.ref H1.length) (H1 ++ [.list ys])) : Turns G d c m tg elt cs (itemR lo hi) (fun _ => True) (hi - lo).toNat H post := by
  subst htg
  refine ⟨hB, fun i ys H1 => i ≤ (hi - lo).toNat ∧ J i ys H1, ⟨Nat.zero_le _, j0⟩, fun i ys H1 q => ⟨q.1, jl i ys H1 q.2, trivial⟩, ?_, ?_⟩
  · intro i ys H1 v q hi'
    unfold itemR at hi'
    split at hi'
    · rename_i hlt
      cases hi'
      refine ⟨[.int (lo + i)], rfl, fun c' sub hn => ?_⟩
      have h1 := turn i ys H1 q.2 hlt c' sub hn
      refine h1.mono ?_
      intro r H2 hr
      exact ⟨fun e => ⟨by omega, hr.1 e⟩, fun e => (hr.2 e).mono fun y H3 hy => ⟨by omega, hy⟩⟩
    · cases hi'
  · intro i ys H1 q hi'
    unfold itemR at hi'
    split at hi'
    · cases hi'
    · have : i = (hi - lo).toNat := by have := q.1; omega
      exact done ys H1 (this ▸ q.2)
theorem Turns.list {tg : List Str} {elt : CE} {cs : CTs} {a : Nat} {xs : List MV} {post : MV → MH → Prop} (hB : xs.length ≤ 1000000) (J : Nat → List MV → MH → Prop) (j0 : J 0 [] H) (jl : ∀ i ys H1, J i ys H1 → ys.length ≤ i ∧ H1[a]? = some (.list xs))
    (turn : ∀ i ys H1 v, J i ys H1 → xs[i]? = some v → ∃ vs, PartsN H1 tg v vs ∧ ∀ c', Sub G c c' d → c'.nm = c.nm ++ tg →
      TC c' (m ++ vs.map some) cs H1 (fun r H2 => (r = false → J (i + 1) ys H2) ∧ (r = true → TE c' (m ++ vs.map some) elt H2 (fun y H3 => J (i + 1) (ys ++ [y]) H3))))
    (done : ∀ ys H1, J xs.length ys H1 → post (.ref H1.length) (H1 ++ [.list ys])) : Turns G d c m tg elt cs (itemL a) (fun H => ∃ xs, H[a]? = some (.list xs)) xs.length H post := by
  refine ⟨hB, fun i ys H1 => i ≤ xs.length ∧ J i ys H1, ⟨Nat.zero_le _, j0⟩, fun i ys H1 q => ⟨q.1, (jl i ys H1 q.2).1, xs, (jl i ys H1 q.2).2⟩, ?_, ?_⟩
  · intro i ys H1 v q hi'
    have hx : xs[i]? = some v := by unfold itemL at hi'; rw [(jl i ys H1 q.2).2] at hi'; exact hi'
    have hlt := (List.getElem?_eq_some_iff.mp hx).1
    obtain ⟨vs, hp, ht⟩ := turn i ys H1 v q.2 hx
    refine ⟨vs, hp, fun c' sub hn => (ht c' sub hn).mono fun r H2 hr => ?_⟩
    exact ⟨fun e => ⟨hlt, hr.1 e⟩, fun e => (hr.2 e).mono fun y H3 hy => ⟨hlt, hy⟩⟩
  · intro i ys H1 q hi'
    have hx : xs[i]? = none := by unfold itemL at hi'; rw [(jl i ys H1 q.2).2] at hi'; exact hi'
    have : i = xs.length := Nat.le_antisymm q.1 (List.getElem?_eq_none_iff.mp hx)
    exact done ys H1 (this ▸ q.2)
end
noncomputable def GExc (G : Gx) (g : Str) (C : Addr) (bm : List Value) : Prop :=
  nsIn G.K mainGlobals g = some (some (.ref C)) ∧ ∃ (Bn newId inN : String) (bmN : List Value) (B nid initId : String), ExcBaseFacts Bn newId inN bmN ∧ bm.contains (.type Bn) = true ∧ ExcBaseFacts B nid initId bm ∧ excIn G.K C bm newId = true
section
variable {c : Cx} {m : ML} {H : MH} {G : Gx} {d : Nat}
theorem fly_new {mr : Str → Option Value} {ρ : List Addr} {h h' : Heap} {C e : Addr} {as : List MV} {vs : List Value} (S : St c mr ρ H h) (hv : VRs ρ as vs) (hx : Heap.MadeExcOf h h' e (.ref C) vs) : Fly c mr ρ H C as e h' := by
  obtain ⟨t, h1, h2, h3⟩ := hx.there
  exact ⟨h, t, vs, S, hv, hx.new, h2, ⟨_, _, h3, rfl, rfl⟩, Heap.UpToSlots.of_keeps hx.keeps, fun b o q => hx.keeps b o (TI.gone_some q).2, .inl ⟨_, _, h1, rfl, rfl, rfl, rfl⟩⟩
theorem TS.raise (ok : Ok G c d) {g : Str} {C : Addr} {bm : List Value} {a : CE} {r : CEs} {post : Fl → ML → MH → Prop} (hg : GExc G g C bm) (h : TEs c m (.cons a r) H (fun vs H1 => vs.length ≤ 1000 ∧ c.X C vs m H1)) : TS c m (.raise g (.cons a r)) H post := by
  intro st hs
  obtain ⟨h2, h3⟩ := and2 hs
  intro mr ρ s Q E S l k kx
  obtain ⟨hns, Bn, newId, inN, bmN, B, nid, initId, Fn, hBn, FB, hexc⟩ := hg
  have O := own_of_in ok.kin (topRead_of ok.top) hns hexc
  obtain ⟨tl, N, nm, q, bs, hdct, sn, sub, ab, col, dd, k0, k1, k2, k3, k5, mN, hC, hN, hni, T⟩ := O.obj
  have h4 := and2 h3
  have hst : starEach (reEs (.cons a r) c.nm (kids (ex 0 st)).tail) c.env = (false, eval (reE a c.nm (nth 0 (kids (ex 0 st)).tail)) c.env) :: starEach (reEs r c.nm (kids (ex 0 st)).tail.tail) c.env := star_cons (star_re h4.1)
  refine wpAny_Raise_call_subU (C := C) (nm := nm) (q := q) (N := N) (bs := bs) (bm := tl) (hdct := hdct) (sn := sn) (sub := sub) (ab := ab) (col := col) (dd := dd) (k0 := k0) (k1 := k1) (k2 := k2) (k3 := k3) (k5 := k5)
    Fn hBn FB (mN := mN) (T.hasType FB.hasBase) ok.hh (star_plain h3) hni ?_
  refine nameG ok S h2 hns ⟨rfl, ?_⟩
  rw [hst]
  refine Calls.evalArgs_plain ?_
  have hA := h _ (ex 0 st).pos h3 mr ρ s (fun vs s₂ => vs.length ≤ sizeLine ∧ (∀ b o, c.h₀.get? b = some o → s₂.heap.get? b = some o) ∧ ∀ h' e, Heap.MadeExcOf s₂.heap h' e (.ref C) vs → E (.ref e) { s₂ with heap := h' }) E S l ?_ kx
  · rw [hst] at hA
    exact wpAny_mono hA (fun vs s₂ h₂ => ⟨rfl, h₂.1, h₂.2.1 _ _ hC, hN.keeps h₂.2.1, T.keeps h₂.2.1, h₂.2.2⟩) fun _ _ y => y
  · rintro t vs vrs H1 h1 tk1 ⟨hl, hX⟩ hv S1
    refine ⟨by rw [hv.length]; exact Nat.le_trans hl (by decide), S1.keep, fun h' e hx => ?_⟩
    exact kx t C vs e m mr H1 h' tk1 hX (fly_new S1 hv hx) l.mono
noncomputable def Cx.wX (c : Cx) (X : Addr → List MV → ML → MH → Prop) : Cx := { c with X := X }
theorem Ok.wX {G : Gx} {c : Cx} {d : Nat} (ok : Ok G c d) (X : Addr → List MV → ML → MH → Prop) : Ok G (c.wX X) d :=
  ⟨ok.frames, ok.kin, ok.top, ok.hh, ok.dep, ok.uni, ok.fn, ok.gl, ok.bi, ok.ap, ok.kd, ok.fs, ok.ex⟩
noncomputable def Takes (G : Gx) (g : Str) (C : Addr) : Prop := ∃ (y : Str) (bm : List Value), GExc G y C bm ∧
  ((∃ T' : String, nsIn G.K mainGlobals g = some none ∧ bootBuiltins g = some (.type T') ∧ g ≠ "__name__" ∧ isSubtype (.type T') (.type "BaseException") = pure true ∧
      isSubtype (.type ((Manifest.find? T').elim "type" fun y => y.metatype)) (.type "tuple") = pure false ∧ bm.contains (.type T') = true) ∨
   (g = y ∧ bm.contains (.type "BaseException") = true))
theorem FlyH.st (ok : Ok G c d) {mr : Str → Option Value} {ρ : List Addr} {C : Addr} {as : List MV} {e : Addr} {h : Heap} (f : FlyH c mr ρ H C as e .none h) : St c mr ρ H h := (f.fly (.inl rfl)).st ok
theorem takes_test (ok : Ok G c d) {g : Str} {np : Pos} {mr : Str → Option Value} {ρ : List Addr} {C : Addr} {as : List MV} {e : Addr} {s : Shared} {A : Around} {Q : Bool → Shared → Prop} {E : Value → Shared → Prop} (hT : Takes G g C) (hx : glb c.sc g = true) (hA : A.handled = c.A.handled ∨ True)
    (f : FlyH c mr ρ H C as e .none s.heap) (k : Q true s) : wpAny (model c.prog c.w) A (eval (.Name g np) c.env) (fun cv s₁ => wpAny (model c.prog c.w) A (excMatches (.ref e) cv) Q E s₁) E s := by
  have S := f.st ok
  let c' : Cx := { c with A := A }
  have T := topRead_of ok.top
  unfold glb at hx
  simp only [Bool.and_eq_true, beq_iff_eq, bne_iff_ne, ne_eq] at hx
  have hd' : (g == ("__debug__" : Str)) = false := by simpa using hx.1
  have hk := kcl3 ((ok.kd g).trans hx.2)
  obtain ⟨hB, t, vs, b, x⟩ := f
  obtain ⟨oe, ws, T', oT, ts, q1, q2, q3, q4, q5, q6, q7, q8, q9⟩ := x
  obtain ⟨y, bm, ⟨hns, Bn, newId, inN, bmN, B, nid, initId, Fn, hBn, FB, hexc⟩, hcase⟩ := hT
  have O := (own_of_in ok.kin T hns hexc).keeps S.keep
  obtain ⟨tl, N, nm, q, bs, hdct, sn, sub, ab, col, dd, k0, k1, k2, k3, k5, mN, hC, hN, hni, TL⟩ := O.obj
  obtain ⟨hp, gs, dr, tk, os⟩ := s
  rcases hcase with ⟨T'', e1, e2, e3, e4, e5, e6⟩ | ⟨rfl, e2⟩
  · refine Name_function_global ok.fn hk (loadGlobal_builtin (env := c.env) (by rw [ok.gl]; exact T.g.keeps S.keep) (mg_none_of ok.kin T.g e1) (by rw [ok.bi]; exact T.b.keeps S.keep) ((T.builtins g e3).trans e2) ?_) hd'
    refine wpAny_excMatches_sub_type hC q1 q2.1 e4 e5 ?_
    rw [TL.hasType e6]
    exact k
  · refine Name_function_global ok.fn hk (loadGlobal_global (env := c.env) (by rw [ok.gl]; exact T.g.keeps S.keep) (mg_of ok.kin T.g hns) ?_) hd'
    exact wpAny_excMatches_sub_self hC q1 q2.1 (TL.hasType e2) k
theorem TS.tryA (ok : Ok G c d) (hfm : c.fm = none) {b : CSs} {g : Str} {i : Nat} {x : Str} {post : Fl → ML → MH → Prop}
    (h : TB (c.wX fun C as m1 H1 => Takes G g C ∧ post .next (m1.set i (some (.str x))) H1) m b H post) : TS c m (.try b (.cons g none (.cons (.assign i (.str x)) .nil) .nil)) H post := by
  intro st hs
  obtain ⟨h1, h2⟩ := and2 hs
  obtain ⟨h2, h8⟩ := and2 h2
  obtain ⟨h4, h5, h6, h7⟩ := and4 h2
  intro mr ρ s Q E S l k kx
  show wpAny _ _ (exec (.Try (reSs b c.nm (bl0 st)) [.ExceptHandler (some (.Name g (hTy (nthH (hsOf st))))) none [reS (.assign i (.str x)) c.nm (nthS (hBody (nthH (hsOf st))))] (hPos (nthH (hsOf st)))] [] [] st.pos) c.env) _ _ _
  rw [arm_exec_Try]
  refine wpAny_bind (wpAny_standAt (wpAny_tryStmt_except ?_))
  refine h _ h1 mr ρ s _ _ S l ?_ ?_
  · intro t fl fr m' mr' H' h' tk hp hf S' l'
    cases fl with
    | next => subst hf; exact wpAny_execs_nil (k t .next .next m' mr' H' h' tk hp rfl S' l')
    | brk => subst hf; exact k t .brk .brk m' mr' H' h' tk hp rfl S' l'
    | cont => subst hf; exact k t .cont .cont m' mr' H' h' tk hp rfl S' l'
    | ret v => obtain ⟨vr, rfl, hv⟩ := hf; exact k t (.ret v) (.ret vr) m' mr' H' h' tk hp ⟨vr, rfl, hv⟩ S' l'
  · rintro t C as e m' mr' H' h' tk ⟨hT, hp⟩ hF hL
    have hF' : Fly c mr' (ρ ++ t) H' C as e h' := hF
    refine Fly.note (s := { s with heap := h', toks := tk }) ok hfm rfl hF' fun h2 f2 => ?_
    refine FlyH.flight (s := { s with heap := h2, toks := tk }) none f2 fun h3 f3 => ?_
    refine wpAny_handleBy_cons (codeAny_handlers_test ?_) (by intro q; cases q)
    refine takes_test (s := { s with heap := h3, toks := tk }) ok hT h4 (.inr trivial) f3 ?_
    refine codeAny_handlers_suite ?_
    refine FlyH.flight (s := { s with heap := h3, toks := tk }) none f3 fun h5' f5 => ?_
    have S5 := f5.st ok
    let c' : Cx := { c with A := c.A.mark (some (.ref e)) }
    have hTB : TB c' m' (.cons (.assign i (.str x)) .nil) H' (fun fl m2 H2 => fl = .next ∧ m2 = m'.set i (some (.str x)) ∧ H2 = H') := by
      refine TB.cons ?_
      intro st hst
      obtain ⟨g1, g2, g3⟩ := and3 hst
      have g1 := beq_iff_eq.mp g1
      intro mr ρ s Q E S l k kx
      refine wpAny_Assign_Name ?_ (swaps_not (comp_re g3 rfl))
      refine (TE.str (c := c') (m := m') (post := fun v H1 => v = .str x ∧ H1 = H') ⟨rfl, rfl⟩) _ g3 mr ρ s _ E S l ?_ kx
      rintro t v vr H1 hp1 tk1 ⟨rfl, rfl⟩ hv S1
      refine store' (c := c') ok.ap ok.fn ok.fs S1 hfm g2 ?_
      intro h' tk S2
      exact k t .next .next _ _ H1 h' tk (TB.nil ⟨rfl, rfl, rfl⟩) rfl S2 (l.mono.set g1 hv)
    refine hTB _ h7 mr' (ρ ++ t) { s with heap := h5', toks := tk } _ _ S5 hL ?_ ?_
    · rintro t' fl fr m2 mr2 H2 h6' tk2 ⟨rfl, rfl, rfl⟩ hf S6 l6
      subst hf
      rw [List.append_assoc] at S6 l6
      exact k (t ++ t') .next .next _ mr2 H2 h6' tk2 hp rfl S6 l6
    · intro t' C' as' e' m2 mr2 H2 h6' tk2 hX hF2 hL2
      have hX' : c.X C' as' m2 H2 := hX
      rw [List.append_assoc] at hF2 hL2
      exact (Kx.pass (M := model c.prog c.w) (A := c.A.mark (some (.ref e))) (A' := c.A) ok hfm rfl kx) (t ++ t') C' as' e' m2 mr2 H2 h6' tk2 hX' hF2 hL2
end
theorem law_entry {G : Gx} (d : Nat) (hdd : d ≤ 600) {prog : Program} {w : World} {s : Shared} {fa sa : Addr} {o : Obj} {fd : FuncData} {body : List Stmt} {x : Str} {nm : List Str} {k : CSs} {R : Result → Shared → Prop}
    (kin : G.K.In s.heap) (hex : G.ex s.heap) (T : Top G.p G.loose G.mean G.mg G.mb s.heap) (ho : s.heap.get? fa = some o) (hd : o.data = .func fd) (hcd : s.heap.CodeRec fd.code fd.qualname)
    (hbody : fd.body = .stmts body) (hgl : fd.globals = mainGlobals) (hcl : fd.closure = []) (hbi : fd.builtins = builtinsNs)
    (hb : BindsTo s fd ⟨[.ref sa], []⟩ [(x, .ref sa)]) (hfn : fnb fd.scope [x] nm = true) (hwf : wfSs k nm fd.scope body = true) (hre : reSs k nm body = body)
    (h : ∀ c : Cx, c.prog = prog → c.w = w → c.h₀ = s.heap → Ok G c d → c.fm = none → interactive c.env = false → c.nm = nm → c.X = (fun _ _ _ _ => False) → TB c (start nm [.glob sa]) k [] (fun fl _ _ => retv fl = .bool true))
    (hR : ∀ L m h' tk, Fr s.heap L h' m → R (.ok (.ret (.bool true))) { s with heap := h', toks := tk }) :
    codeAny (model prog w) callerA (.call (.ref fa) ⟨[.ref sa], []⟩) R s := by
  unfold fnb at hfn
  simp only [Bool.and_eq_true, beq_iff_eq, decide_eq_true_eq, Bool.not_eq_true', List.all_eq_true] at hfn
  obtain ⟨⟨⟨⟨⟨⟨⟨hn1, hn2⟩, hn3⟩, hco⟩, hgen⟩, hk⟩, hnd⟩, hnf⟩ := hfn
  have hnf' : fd.scope.names.all (fun p => p.2 != .free) = true := List.all_eq_true.mpr hnf
  have hmemn : ∀ y ∈ [(x, Value.ref sa)], fd.scope.names.lookup y.1 = some .local ∨ fd.scope.names.lookup y.1 = some .cell := fun y hy => by
    have := hn3 y.1 (by rw [List.mem_singleton] at hy; subst hy; exact .head _)
    unfold stb at this
    simpa using this
  refine codeAny_call_function (by decide) ho hd hco hgen hbody hcd (hb _ _ _ _ ?_)
  rw [hgl, hcl, hbi]
  refine wpAny_newFunctionEnv_cells hk (fun x hx => (hmemn x hx).imp id fun q => ⟨q, cellsFrom_some _ _ _ (.inl q)⟩) fun env' he s' x' => ?_
  subst he
  refine ⟨T.nolimit.keeps x'.toInCall.keep, codeAny_func ?_⟩
  obtain ⟨h₁, tk, rfl, hk₁⟩ := x'.done
  obtain ⟨cells, NC, Y⟩ := Cl.news (h₀ := s.heap) (Nat.le_refl _) fun n c hm => ⟨x'.cell n c (lookup_of_mem_nodup (cellsFrom_names fd.scope.names 0 (s.heap.objs.size + 1) [] [] rfl ▸ hnd) hm), x'.above n c hm⟩
  let env' : Env := envOfC fd.qualname fd.scope s.heap.objs.size fa fd.code
  let mr' : Str → Option Value := fun y => if env'.kindOf y = some .local then bindL env'.kindOf [(x, .ref sa)] (fun _ => none) y else bindC env'.kindOf [(x, .ref sa)] (fun _ => none) y
  let c' : Cx := { prog := prog, w := w, A := callerA.deeper env', env := env', h₀ := s.heap, L := s.heap.objs.size, fm := none, fr := [], xt := [], X := fun _ _ _ _ => False, nm := nm, sc := fd.scope }
  have ok' : Ok G c' d := by
    refine ⟨⟨env', [], Around.frames_deeper rfl, rfl, hk, trivial, fun _ => rfl⟩, kin, T, rfl, ?_, ?_, hk, rfl, rfl, fun _ => x'.apart, fun _ => rfl, fun _ => rfl, hex⟩
    · show 1 + claimMargin + 1 + d < recursionLimit
      exact Nat.lt_of_le_of_lt (Nat.add_le_add_left hdd _) (by decide)
    · show 4 + 3 + 8 * d + 64 < cLine
      exact Nat.lt_of_le_of_lt (Nat.add_le_add_right (Nat.add_le_add_left (Nat.mul_le_mul_left 8 hdd) _) 64) (by decide)
  have S' : St c' mr' [] [] h₁ := by
    refine ⟨bindL env'.kindOf [(x, .ref sa)] (fun _ => none), [], cells, ?_, trivial, ⟨x'.toInCall.ns, fun b o e => hk₁ b o e, Nat.le_refl _⟩, [], rfl, rfl, ?_, ?_, ?_⟩
    · refine ⟨rfl, fun y hy => ?_, fun y hy => ?_⟩
      · show _ = if env'.kindOf y = some .local then _ else _
        rw [if_pos hy]
      · rcases hy with hy | hy
        · have hs : ((cellsFrom (s.heap.objs.size + 1) fd.scope.names []).lookup y).isSome = true := cellsFrom_some _ _ _ (.inl hy)
          obtain ⟨a, ha⟩ := Option.isSome_iff_exists.mp hs
          obtain ⟨o, h1, h2⟩ := cells_get Y ha
          refine ⟨a, o, ha, h1, h2.trans ?_⟩
          have hnl : ¬ env'.kindOf y = some .local := by
            intro q
            have q' : env'.kindOf y = some .cell := hy
            rw [q] at q'
            cases q'
          show _ = Data.cell (if env'.kindOf y = some .local then _ else _)
          rw [if_neg hnl]
          rfl
        · exact absurd hy (nofree hnf')
    · intro i o e
      simp at e
    · intro p hp
      replace hp : p ∈ (([] : List (Addr × Obj)) ++ ([] ++ cells)) ++ ([] : List Addr).zip [] := hp
      simp only [List.nil_append, List.zip_nil_left, List.append_nil] at hp
      exact NC p hp
    · have hcnd : (cells.map (·.1)).Nodup := by
        rw [cells_addrs Y]
        exact List.pairwise_map.mpr x'.apart
      show ((([] : List (Addr × Obj)) ++ ([] ++ cells)).map (fun p : Addr × Obj => p.1) ++ ([] : List Addr)).Nodup
      simpa using hcnd
  have l' : LR mr' nm [] (start nm [.glob sa]) := by
    have hle : 1 ≤ nm.length := by
      have := congrArg List.length hn1
      simp only [List.length_take, List.length_singleton] at this
      omega
    refine ⟨by unfold start; rw [List.length_append, List.length_map, List.length_replicate, List.length_singleton]; omega, fun i y v e1 e2 => ?_⟩
    unfold start at e2
    by_cases hi : i < 1
    · have h0 : i = 0 := by omega
      subst h0
      simp at e2
      subst e2
      have hy : x = y := by
        have := slot_get e1
        cases nm with
        | nil => simp at this
        | cons z zs =>
          simp at this hn1
          rw [hn1, this]
      subst hy
      refine ⟨.ref sa, rfl, ?_⟩
      show (if env'.kindOf x = some .local then _ else _) = _
      split
      · rename_i q; exact bindL_at (names := [x]) (vals := [.ref sa]) (i := 0) q (by simp) rfl rfl
      · rename_i q; exact bindC_at (names := [x]) (vals := [.ref sa]) (i := 0) q (by simp) rfl rfl
    · rw [List.getElem?_append_right (by rw [List.length_map, List.length_singleton]; omega), List.getElem?_replicate] at e2
      split at e2 <;> cases e2
  have hni : interactive env' = false := by
    unfold interactive
    rw [show env'.scope.kind = .function from hk]
    rfl
  have hb2 : EX c' (start nm [.glob sa]) (reSs k nm body) [] (fun fl _ _ => retv fl = .bool true) := h c' rfl rfl rfl ok' rfl hni rfl rfl body hwf
  rw [hre] at hb2
  refine hb2 mr' [] { s with heap := h₁, toks := tk } _ _ S' l' ?_ ?_
  · intro t fl fr' m' mr'' H' h' tk' hp hfl S2 _
    obtain ⟨ml, xs, led, _⟩ := S2.open
    cases fl with
    | ret v =>
      obtain ⟨vr, rfl, hv⟩ := hfl
      have e : v = .bool true := hp
      subst e
      have e2 : vr = .bool true := hv
      subst e2
      exact hR _ ml h' tk' led.1
    | next => cases hp
    | brk => cases hp
    | cont => cases hp
  · intro t C as e m' mr'' H' h' tk' hX hF hL'
    exact False.elim hX
theorem zip_lookup {x : Str} {v : Value} : ∀ {names : List Str} {vs : List Value}, names.length = vs.length → x ∈ names → ((names.zip vs).lookup x).isSome = true
  | [], _, _, h => by cases h
  | _ :: _, [], h, _ => by cases h
  | y :: ns, u :: us, hl, h => by
    rw [List.zip_cons_cons, List.lookup_cons]
    by_cases e : x = y
    · subst e
      simp
    · have hb : (x == y) = false := by simpa using e
      rw [hb]
      rcases List.mem_cons.mp h with q | q
      · exact absurd q e
      · exact zip_lookup (v := v) (by simpa using hl) q
theorem fm_congr {α β : Type} {f g : α → Option β} : ∀ {l : List α}, (∀ x ∈ l, f x = g x) → l.filterMap f = l.filterMap g
  | [], _ => rfl
  | a :: l, h => by rw [List.filterMap_cons, List.filterMap_cons, h a (.head _), fm_congr fun x hx => h x (.tail _ hx)]
theorem zip_filterMap : ∀ {names : List Str} {vs : List Value}, names.Nodup → names.length = vs.length → (names.filterMap fun n => ((names.zip vs).lookup n).map (n, ·)) = names.zip vs
  | [], _, _, _ => rfl
  | _ :: _, [], _, h => by cases h
  | y :: ns, u :: us, hn, hl => by
    rw [List.nodup_cons] at hn
    rw [List.zip_cons_cons, List.filterMap_cons]
    have h0 : ((y, u) :: ns.zip us).lookup y = some u := by simp [List.lookup]
    rw [h0]
    simp only [Option.map_some]
    congr 1
    have : (ns.filterMap fun n => (((y, u) :: ns.zip us).lookup n).map (n, ·)) = (ns.filterMap fun n => ((ns.zip us).lookup n).map (n, ·)) := by
      refine fm_congr fun n hnm => ?_
      have hb : (n == y) = false := by
        have : n ≠ y := fun e => hn.1 (e ▸ hnm)
        simpa using this
      rw [List.lookup_cons, hb]
    rw [this, zip_filterMap hn.2 (by simpa using hl)]
noncomputable def plainPar (p : Arguments) : Bool := p.posonlyargs.isEmpty && p.vararg.isNone && p.kwonlyargs.isEmpty && p.kwarg.isNone
theorem bind_plain {fd : FuncData} {vs : List Value} (hp : plainPar fd.params = true) (hdf : fd.defaults = .none) (hn : (fd.params.args.map (·.arg)).Nodup) (hl : vs.length = (fd.params.args.map (·.arg)).length) :
    bindArgs fd ⟨vs, []⟩ = pure ((fd.params.args.map (·.arg)).zip vs) := by
  unfold plainPar at hp
  simp only [Bool.and_eq_true, List.isEmpty_iff, Option.isNone_iff_eq_none] at hp
  obtain ⟨⟨⟨h1, h2⟩, h3⟩, h4⟩ := hp
  unfold bindArgs
  have hseq : seqItems? Value.none = pure none := rfl
  have hmiss : ((fd.params.args.map (·.arg)).filter fun n => (((fd.params.args.map (·.arg)).zip vs).lookup n).isNone) = [] := by
    rw [List.filter_eq_nil_iff]
    intro n hnm
    have := zip_lookup (v := .none) hl.symm hnm
    rw [Option.isSome_iff_ne_none] at this
    simpa [Option.isNone_iff_eq_none] using this
  have hz := zip_filterMap hn hl.symm
  obtain ⟨N, hN⟩ : ∃ N, fd.params.args.map (·.arg) = N := ⟨_, rfl⟩
  rw [hN] at hmiss hz hl hn ⊢
  simp only [h1, h2, h3, h4, hdf, hseq, List.map_nil, List.nil_append, List.append_nil, pure_bind, Option.getD_none, hN, hl]
  simp [hmiss, hz]
noncomputable def bodyAt (K : Frag) (f : Addr) : List Stmt := match K.lookup f with
  | some ⟨_, _, .func fd, _⟩ => match fd.body with
    | .stmts body => body
    | _ => []
  | _ => []
noncomputable def defb (K : Frag) (f : Addr) (names nm : List Str) (b : CSs) : Bool :=
  match K.lookup f with
  | some ⟨_, _, .func fd, _⟩ =>
    (match fd.body with
    | .stmts body => wfSs b nm fd.scope body
    | _ => false) && fd.globals == mainGlobals && fd.closure.isEmpty && fd.builtins == builtinsNs && (match fd.defaults with | .none => true | _ => false) &&
      plainPar fd.params && (names == fd.params.args.map (·.arg)) && codeIn K fd.code fd.qualname && fnb fd.scope names nm
  | _ => false
theorem GDef.of {G : Gx} {f : Addr} {names nm : List Str} {b : CSs} (h : defb G.K f names nm b = true) (hre : reSs b nm (bodyAt G.K f) = bodyAt G.K f) : GDef G f names nm b [] := by
  unfold defb at h
  unfold bodyAt at hre
  cases hk : G.K.lookup f with
  | none => rw [hk] at h; cases h
  | some ob =>
    obtain ⟨oc, od, dat, osl⟩ := ob
    rw [hk] at h hre
    cases dat with
    | func fd =>
      simp only [Bool.and_eq_true, beq_iff_eq, List.isEmpty_iff] at h hre
      obtain ⟨⟨⟨⟨⟨⟨⟨⟨h1, h2⟩, h3⟩, h4⟩, h5⟩, h6⟩, h7⟩, h8⟩, h9⟩ := h
      obtain ⟨name, qual, params, bd, scope, gl, cl, df, kd, doc, pm, an, cd, ct, bi⟩ := fd
      cases bd with
      | stmts body =>
        simp only at h1 h2 h3 h4 h5 h6 h7 h8 h9 hre
        subst h2 h3 h4
        cases df with
        | none =>
          refine ⟨name, qual, params, body, scope, .none, kd, doc, pm, cd, ct, oc, an, od, osl, [], hk, h8, ?_, rfl, h9, h1, hre⟩
          intro s vs X hl
          refine BindsTo.of_eq ?_
          rw [List.append_nil]
          have hnn : names.Nodup := by
            unfold fnb at h9
            simp only [Bool.and_eq_true, beq_iff_eq, decide_eq_true_eq] at h9
            rw [h9.1.1.1.1.1.1.1]
            exact (List.take_sublist _ _).nodup h9.1.1.1.1.1.1.2
          subst h7
          exact bind_plain (fd := fnOf name qual params body scope .none kd doc pm an cd ct) h6 rfl hnn (by simpa using hl)
        | _ => cases h5
      | _ => cases h1
    | _ => cases h
noncomputable def isSomeRef (f : Addr) : Option (Option Value) → Bool
  | some (some (.ref g)) => g == f
  | _ => false
theorem isSomeRef_eq {f : Addr} {o : Option (Option Value)} (h : isSomeRef f o = true) : o = some (some (.ref f)) := by
  unfold isSomeRef at h
  split at h
  · rw [beq_iff_eq.mp h]
  · cases h
noncomputable def isSomeNone : Option (Option Value) → Bool
  | some none => true
  | _ => false
theorem isSomeNone_eq {o : Option (Option Value)} (h : isSomeNone o = true) : o = some none := by
  unfold isSomeNone at h
  split at h
  · rfl
  · cases h
noncomputable def fnk (K : Frag) (g : Str) (f : Addr) : Bool := isSomeRef f (nsIn K mainGlobals g) && keepIn K (.ref f)
theorem GFn.of {G : Gx} {g : Str} {f : Addr} (h : fnk G.K g f = true) : GFn G g f := by
  unfold fnk at h
  simp only [Bool.and_eq_true] at h
  exact ⟨isSomeRef_eq h.1, h.2⟩
noncomputable def clsk (K : Frag) (g : Str) (C fI : Addr) : Bool := fnk K g C && makesIn K C && isSomeRef fI (findIn K (.ref C) "__init__") && isFn K (.ref fI)
theorem GCls.of {G : Gx} {g : Str} {C fI : Addr} (h : clsk G.K g C fI = true) : GCls G g C fI := by
  unfold clsk at h
  simp only [Bool.and_eq_true] at h
  exact ⟨GFn.of h.1.1.1, h.1.1.2, isSomeRef_eq h.1.2, h.2⟩
noncomputable def attk (K : Frag) (C : Addr) (name : Str) : Bool := plainGet K C name && hasDictIn K C && isSomeNone (findIn K (.ref C) name)
theorem GAtt.of {G : Gx} {C : Addr} {name : Str} (h : attk G.K C name = true) : GAtt G C name := by
  unfold attk at h
  simp only [Bool.and_eq_true] at h
  exact ⟨h.1.1, h.1.2, isSomeNone_eq h.2⟩
noncomputable def stok (K : Frag) (C : Addr) (name : Str) : Bool :=
  (match findIn K (.ref C) "__setattr__" with | some (some (.builtin x)) => x == "object.__setattr__" | _ => false) && plainOver K C && isSomeNone (takerIn K C name) && hasDictIn K C
theorem GSto.of {G : Gx} {C : Addr} {name : Str} (h : stok G.K C name = true) : GSto G C name := by
  unfold stok at h
  simp only [Bool.and_eq_true] at h
  obtain ⟨⟨⟨h1, h2⟩, h3⟩, h4⟩ := h
  split at h1
  · rename_i x hx
    rw [beq_iff_eq] at h1
    subst h1
    exact ⟨hx, h2, isSomeNone_eq h3, h4⟩
  · cases h1
noncomputable def mthk (K : Frag) (C : Addr) (name : Str) (f : Addr) : Bool := plainGet K C name && isSomeRef f (findIn K (.ref C) name) && isFn K (.ref f) && keepIn K (.ref f)
theorem GMth.of {G : Gx} {C : Addr} {name : Str} {f : Addr} (h : mthk G.K C name f = true) : GMth G C name f := by
  unfold mthk at h
  simp only [Bool.and_eq_true] at h
  exact ⟨h.1.1.1, isSomeRef_eq h.1.1.2, h.1.2, h.2⟩
section
variable {c : Cx} {m : ML} {H : MH} {G : Gx} {d : Nat}
theorem swapped_not {v : PySem.Expr} {ts : List PySem.Expr} {n : Nat} {p : Pos} {env : Env} (h : notTuple v = true) : swappedStores [.Tuple ts n p] v env = pure none := by
  cases v <;> first | (cases h; done) | rfl
theorem TS.assignT (ok : Ok G c d) (hfm : c.fm = none) {is : List Nat} {a : CE} {post : Fl → ML → MH → Prop} (h : TE c m a H (fun v H1 => ∃ vs, Parts H1 is v vs ∧ post .next (setAll is vs m) H1)) : TS c m (.assignT is a) H post := by
  intro st hs
  obtain ⟨hs, h5⟩ := and2 hs
  obtain ⟨h1, h2, h3, h4⟩ := and4 hs
  have h2 := of_decide_eq_true h2
  intro mr ρ s Q E S l kk kx
  have ht : notTuple (reE a c.nm (ex 0 st)) = true := by
    cases a with
    | tup _ => cases h3
    | tst t => have h2 := tst_of h5; cases t <;> first | rfl | cases h2
    | _ => rfl
  refine wpAny_Assign_stores ?_ (show swapsWith (reE a c.nm (ex 0 st)) (some (.Tuple (reNames (atNm c.nm is) (kids (ex 1 st))) (numOf (ex 1 st)) (ex 1 st).pos)) st.pos.line c.env = pure false from swaps_not (comp_re h5 (by simpa using h4))) (swapped_not ht)
  refine h _ h5 mr ρ s _ E S l ?_ kx
  rintro t v vr H1 hp1 tk1 ⟨vs, hp, hq⟩ hv S1
  show wpAny _ _ (PySem.assign (.Tuple (reNames (atNm c.nm is) (kids (ex 1 st))) (numOf (ex 1 st)) (ex 1 st).pos) c.env vr) _ _ _
  refine assignTup ok hfm (is := is) (s := { s with heap := hp1, toks := tk1 }) h1 h2 hv hp S1 l.mono ?_
  intro mr' h' tk S2 l2
  exact kk t .next .next _ _ H1 h' tk hq rfl S2 l2
end
noncomputable def Ext (H H' : MH) : Prop := ∀ (i : Nat) (o : MO), H[i]? = some o → H'[i]? = some o
theorem Ext.refl (H : MH) : Ext H H := fun _ _ h => h
theorem Ext.trans {A B C : MH} (h : Ext A B) (g : Ext B C) : Ext A C := fun i o e => g i o (h i o e)
theorem get_app {H t : MH} {i : Nat} {o : MO} (h : H[i]? = some o) : (H ++ t)[i]? = some o := by
  rw [List.getElem?_append_left (List.getElem?_eq_some_iff.mp h).1]; exact h
theorem Ext.app {H H' : MH} (h : Ext H H') (t : MH) : Ext H (H' ++ t) := fun i o e => get_app (h i o e)
theorem Ext.set {H H' : MH} {a : Nat} {o : MO} (h : Ext H H') (ha : H.length ≤ a) : Ext H (H'.set a o) := fun i x e => by
  have := (List.getElem?_eq_some_iff.mp e).1
  rw [List.getElem?_set_ne (by omega)]
  exact h i x e
theorem Ext.len {H H' : MH} (h : Ext H H') : H.length ≤ H'.length := by
  rcases Nat.eq_zero_or_pos H.length with e | e
  · omega
  · have h1 : H[H.length - 1]? = some (H[H.length - 1]'(by omega)) := List.getElem?_eq_getElem (by omega)
    have := (List.getElem?_eq_some_iff.mp (h _ _ h1)).1
    omega
theorem Ext.ins {H H' : MH} (h : Ext H H') {i k : Nat} {C : Addr} {fs : List (Str × MV)} (x : Ins H i C k fs) : Ins H' i C k fs := ⟨h _ _ x.1, h _ _ x.2⟩
theorem get_set {H : MH} {a : Nat} {o x : MO} (h : H[a]? = some x) : (H.set a o)[a]? = some o := by
  rw [List.getElem?_set_self']; rw [h]; rfl
theorem get_end {H : MH} {o : MO} : (H ++ [o])[H.length]? = some o := by simp
theorem mulL {a b : Int} (h1 : -(2 ^ 64) < a) (h2 : a < 2 ^ 64) : IntMulOk a b := IntMulOk.of_left (intBits_le_64 h1 h2)
theorem mulR {a b : Int} (h1 : -(2 ^ 64) < b) (h2 : b < 2 ^ 64) : IntMulOk a b := IntMulOk.of_right (intBits_le_64 h1 h2)
theorem CL.use {G : Gx} {prog : Program} {w : World} {d d' : Nat} {f : Addr} {args : List MV} {H : MH} {p q : MV → MH → Prop} {xp : Addr → List MV → MH → Prop} (h : CL G prog w d f args H p xp) (hd : d ≤ d') (hp : ∀ v H', p v H' → q v H') :
    CL G prog w d' f args H q xp := (h.le hd).mono hp fun _ _ _ x => x
theorem set_end {H : MH} {a b : MO} : (H ++ [a]).set H.length b = H ++ [b] := by simp
noncomputable def isSomeInt (i : Int) : Option (Option Value) → Bool
  | some (some (.int j _)) => i == j
  | _ => false
theorem isSomeInt_eq {i : Int} {o : Option (Option Value)} (h : isSomeInt i o = true) : ∃ t, o = some (some (.int i t)) := by
  unfold isSomeInt at h
  split at h
  · rw [beq_iff_eq.mp h]; exact ⟨_, rfl⟩
  · cases h
theorem bb_len : bootBuiltins "len" = some (.builtin "len") := by kernel_rfl
theorem bb_max : bootBuiltins "max" = some (.builtin "max") := by kernel_rfl
theorem bb_min : bootBuiltins "min" = some (.builtin "min") := by kernel_rfl
theorem bb_list : bootBuiltins "list" = some (.type "list") := by kernel_rfl
structure Bs (G : Gx) : Prop where
  len : nsIn G.K mainGlobals "len" = some none
  max : nsIn G.K mainGlobals "max" = some none
  min : nsIn G.K mainGlobals "min" = some none
  sum : nsIn G.K mainGlobals "sum" = some none
  list : nsIn G.K mainGlobals "list" = some none
  range : nsIn G.K mainGlobals "range" = some none
  reversed : nsIn G.K mainGlobals "reversed" = some none
  type : nsIn G.K mainGlobals "type" = some none
  int : nsIn G.K mainGlobals "int" = some none
  str : nsIn G.K mainGlobals "str" = some none
theorem intL_get {ns : List Int} {i : Nat} {v : MV} (h : (intL ns)[i]? = some v) : ∃ a, v = .int a ∧ ns[i]? = some a := by
  unfold intL at h
  rw [List.getElem?_map] at h
  cases e : ns[i]? with
  | none => rw [e] at h; cases h
  | some a => rw [e] at h; cases h; exact ⟨a, rfl, rfl⟩
theorem take_fold {α β : Type} {f : β → α → β} {b : β} {l : List α} {i : Nat} {a : α} (h : l[i]? = some a) : (l.take (i + 1)).foldl f b = f ((l.take i).foldl f b) a := by
  rw [List.take_add_one, h, List.foldl_append]
  rfl
noncomputable def bmV : List Value := [.type "ValueError", .type "Exception", .type "BaseException", .type "object"]
noncomputable def excK (K : Frag) (g : Str) (C : Addr) : Bool := isSomeRef C (nsIn K mainGlobals g) && excIn K C bmV "ValueError.__new__"
theorem GExc.of {G : Gx} {g : Str} {C : Addr} (h : excK G.K g C = true) : GExc G g C bmV := by
  unfold excK at h
  simp only [Bool.and_eq_true] at h
  exact ⟨isSomeRef_eq h.1, "ValueError", "ValueError.__new__", "ValueError.__init__", bmV, "ValueError", "ValueError.__new__", "ValueError.__init__", PySem.F.excBase_ValueError, by decide +kernel, PySem.F.excBase_ValueError, h.2⟩
theorem bb_VE : bootBuiltins "ValueError" = some (.type "ValueError") := by kernel_rfl
theorem st_VE : isSubtype (.type "ValueError") (.type "BaseException") = pure true := by kernel_rfl
theorem st_VT : isSubtype (.type ((Manifest.find? "ValueError").elim "type" fun y => y.metatype)) (.type "tuple") = pure false := by kernel_rfl
theorem takesV {G : Gx} {g : Str} {C : Addr} (h : GExc G g C bmV) (hg : nsIn G.K mainGlobals "ValueError" = some none) : Takes G "ValueError" C :=
  ⟨g, bmV, h, .inl ⟨"ValueError", hg, bb_VE, by decide, st_VE, st_VT, by decide +kernel⟩⟩
noncomputable def Scr (c : Cx) (a : Addr) (ns : List Int) : Prop := ∃ vs : List Value, c.h₀.IsList a vs.toArray ∧ IntsAre vs ns ∧ ns.length ≤ 63
theorem ints_len {vs : List Value} {ns : List Int} (h : IntsAre vs ns) : vs.length = ns.length := by
  induction h with
  | nil => rfl
  | cons _ _ _ ih => simp [ih]
theorem ints_at {vs : List Value} {ns : List Int} (h : IntsAre vs ns) : ∀ n, n < ns.length → ∃ t, vs[n]? = some (.int (ns.getD n 0) t) := by
  induction h with
  | nil => intro n hn; simp at hn
  | cons i t _ ih =>
    intro n hn
    cases n with
    | zero => exact ⟨t, rfl⟩
    | succ n => exact ih n (by simpa using hn)
theorem Scr.len {c : Cx} {H : MH} {a : Addr} {ns : List Int} (S : Scr c a ns) {post : MV → MH → Prop} (h : post (.int ns.length) H) : BC c (.builtin "len") [.glob a] H post := by
  obtain ⟨vs, h1, h2, h3⟩ := S
  have := ints_len h2
  exact BC.lenG h1 (by omega) (by rw [this]; exact h)
theorem Scr.at {c : Cx} {H : MH} {a : Addr} {ns : List Int} (S : Scr c a ns) {n : Int} (h0 : 0 ≤ n) (h : n < ns.length) : Sq c H (.glob a) (.int n) (.int (ns.getD n.toNat 0)) := by
  obtain ⟨vs, h1, h2, h3⟩ := S
  have hl := ints_len h2
  obtain ⟨t, ht⟩ := ints_at h2 n.toNat (by omega)
  exact Sq.glob h1 h0 (by omega) ht
noncomputable def ScrG (G : Gx) (a : Addr) (ns : List Int) : Prop := ∀ h, G.ex h → ∃ vs : List Value, h.IsList a vs.toArray ∧ IntsAre vs ns ∧ ns.length ≤ 63
theorem ScrG.scr {G : Gx} {a : Addr} {ns : List Int} {c : Cx} {d : Nat} (S : ScrG G a ns) (ok : Ok G c d) : Scr c a ns := S _ ok.ex
section
variable {c : Cx} {m : ML} {H : MH} {G : Gx} {d : Nat}
theorem Sq.tup {a : Nat} {xs : List MV} {n : Nat} {v : MV} (ha : H[a]? = some (.tup xs)) (hn : xs.length ≤ 1000000) (hv : xs[n]? = some v) : Sq c H (.ref a) (.int (n : Nat)) v := by
  rintro mr ρ s Q E _ _ base sl hsl S ⟨x, hx, rfl⟩ ⟨u, rfl⟩ k
  obtain ⟨vs, hvs, T⟩ := S.tup ha hx
  obtain ⟨vr, e1, e2⟩ := hvs.get hv
  have hlt := (List.getElem?_eq_some_iff.mp hv).1
  have hlen : vs.toArray.size = xs.length := by rw [List.size_toArray, hvs.length]
  refine tail_any T.typeIs slot_tuple_getitem.lookup (getItem_tuple (j := n) T (by omega) (by omega) (by rw [hlen]; unfold seqIndex?; simp; omega) (by simpa using e1) (k vr _ e2)) (subscripted_of (nm := []) (sc := c.sc) hsl _ _)
theorem BC.lenI {a : Nat} {ns : List Int} {post : MV → MH → Prop} (ha : H[a]? = some (.list (intL ns))) (hsz : ns.length ≤ 1000000) (h : post (.int ns.length) H) : BC c (.builtin "len") [.ref a] H post :=
  BC.len ha (by rw [List.length_map]; exact hsz) (by rw [List.length_map]; exact h)
theorem intL_at {ns : List Int} {n : Nat} (h : n < ns.length) : (intL ns)[n]? = some (.int (ns.getD n 0)) := by
  rw [List.getElem?_map, List.getElem?_eq_getElem h, List.getD_eq_getElem?_getD, List.getElem?_eq_getElem h]
  rfl
theorem Sq.listI {a : Nat} {ns : List Int} {n : Int} (ha : H[a]? = some (.list (intL ns))) (hsz : ns.length ≤ 1000000) (h0 : 0 ≤ n) (h1 : n < ns.length) : Sq c H (.ref a) (.int n) (.int (ns.getD n.toNat 0)) :=
  Sq.list ha ⟨by rw [List.length_map]; exact hsz, .inl ⟨h0, intL_at (by omega)⟩⟩
theorem intL_set {ns : List Int} {n : Nat} {v : Int} : (intL ns).set n (.int v) = intL (ns.set n v) := by
  unfold intL
  rw [List.map_set]
theorem Uq.listI {a : Nat} {ns : List Int} {n v : Int} (ha : H[a]? = some (.list (intL ns))) (hsz : ns.length ≤ 1000000) (h0 : 0 ≤ n) (h1 : n < ns.length) : Uq c H (.ref a) (.int n) (.int v) (H.set a (.list (intL (ns.set n.toNat v)))) := by
  rw [← intL_set]
  exact Uq.list ha (by rw [List.length_map]; exact hsz) h0 (by rw [List.length_map]; exact h1)
theorem TE.len (ok : Ok G c d) (b : Bs G) {a : CE} {post : MV → MH → Prop} (h : TE c m a H (fun v H1 => BC c (.builtin "len") [v] H1 post)) : TE c m (.call "len" (.cons a .nil)) H post :=
  TE.bc ok b.len bb_len (by decide) (TEs.cons (h.mono fun _ _ x => TEs.nil x))
theorem TE.max (ok : Ok G c d) (b : Bs G) {a e : CE} {post : MV → MH → Prop} (h : TE c m a H (fun v H1 => TE c m e H1 fun u H2 => BC c (.builtin "max") [v, u] H2 post)) : TE c m (.call "max" (.cons a (.cons e .nil))) H post :=
  TE.bc ok b.max bb_max (by decide) (TEs.cons (h.mono fun _ _ x => TEs.cons (x.mono fun _ _ y => TEs.nil y)))
theorem TE.min (ok : Ok G c d) (b : Bs G) {a e : CE} {post : MV → MH → Prop} (h : TE c m a H (fun v H1 => TE c m e H1 fun u H2 => BC c (.builtin "min") [v, u] H2 post)) : TE c m (.call "min" (.cons a (.cons e .nil))) H post :=
  TE.bc ok b.min bb_min (by decide) (TEs.cons (h.mono fun _ _ x => TEs.cons (x.mono fun _ _ y => TEs.nil y)))
theorem TE.blist (ok : Ok G c d) (b : Bs G) {a : CE} {post : MV → MH → Prop} (h : TE c m a H (fun v H1 => BC c (.type "list") [v] H1 post)) : TE c m (.call "list" (.cons a .nil)) H post :=
  TE.tc ok b.list bb_list (by decide) (TEs.cons (h.mono fun _ _ x => TEs.nil x))
theorem Cq.eqI (ok : Ok G c d) {a b : Nat} {ns ms : List Int} (ha : H[a]? = some (.list (intL ns))) (hb : H[b]? = some (.list (intL ms))) : Cq c .Eq H (.ref a) (.ref b) (decide (ns = ms)) := by
  rintro mr ρ s Q E _ _ S ⟨x, hx, rfl⟩ ⟨y, hy, rfl⟩ k
  obtain ⟨vs, n, hv, N⟩ := S.list ha hx
  obtain ⟨us, n2, hu, N2⟩ := S.list hb hy
  exact ke_eq_ints (isList_of N) (isList_of N2) (intL_are hv) (intL_are hu) (by have := ok.uni; omega) (k s.heap s.toks S)
theorem Cq.neI (ok : Ok G c d) {a b : Nat} {ns ms : List Int} (ha : H[a]? = some (.list (intL ns))) (hb : H[b]? = some (.list (intL ms))) : Cq c .NotEq H (.ref a) (.ref b) (!decide (ns = ms)) := by
  rintro mr ρ s Q E _ _ S ⟨x, hx, rfl⟩ ⟨y, hy, rfl⟩ k
  obtain ⟨vs, n, hv, N⟩ := S.list ha hx
  obtain ⟨us, n2, hu, N2⟩ := S.list hb hy
  exact ke_ne_ints (isList_of N) (isList_of N2) (intL_are hv) (intL_are hu) (by have := ok.uni; omega) (k s.heap s.toks S)
end
theorem CL.use2 {G : Gx} {prog : Program} {w : World} {d d' : Nat} {f : Addr} {args : List MV} {H : MH} {p q : MV → MH → Prop} {xp xq : Addr → List MV → MH → Prop} (h : CL G prog w d f args H p xp) (hd : d ≤ d') (hp : ∀ v H', p v H' → q v H')
    (hx : ∀ C as H', xp C as H' → xq C as H') : CL G prog w d' f args H q xq := (h.le hd).mono hp hx
section
variable {c : Cx} {m : ML} {H : MH} {G : Gx} {d : Nat}
theorem Cq.inI {a : Nat} {ns : List Int} {k : Int} (ha : H[a]? = some (.list (intL ns))) : Cq c .In H (.int k) (.ref a) (ns.any (· == k)) := by
  rintro mr ρ s Q E _ _ S ⟨t, rfl⟩ ⟨x, hx, rfl⟩ kk
  obtain ⟨vs, n, hv, N⟩ := S.list ha hx
  exact in_list_ints (isList_of N) (intL_are hv) (kk s.heap s.toks S)
theorem TT.cqIn {a b : CE} {post : Bool → MH → Prop} (h : TE c m a H (fun x H1 => TE c m b H1 (fun y H2 => ∃ r, Cq c .In H2 x y r ∧ post r H2))) : TT c m (.cmp .In a b) H post := TT.cq h
end
section
variable {c : Cx} {m : ML} {H : MH} {G : Gx} {d : Nat}
end
theorem bool_index : typeLookup (.type "bool") "__index__" = pure (some (.builtin "int.__index__")) := by rw [typeLookup_type, builtinLookup_eq_fast]; kernel_rfl
theorem getItem_list_bool {prog : Program} {w : World} {A : Around} {E : Value → Shared → Prop} {s : Shared} {l : Addr} {items : Array Value} {b : Bool} {x : Value} {Q : Value → Shared → Prop} (hl : s.heap.IsList l items)
    (hx : items[b.toNat]? = some x) (h : Q x s) : wpAny (model prog w) A (getItem (.ref l) (.bool b)) Q E s := by
  obtain ⟨o, ho, hc, ne, hd⟩ := id hl
  unfold getItem
  try with_reducible refine wpAny_holding ?_
  first | refine wpAny_bind (wpAny_pure ?_) | skip
  refine wpAny_bind (wpAny_sequenceKey hl.typeIs (by decide) ?_)
  refine wpAny_bind (wpAny_callSpecial?_slot (name := Str.ofString "__getitem__") hl.typeIs slot_list_getitem
    (wpAny_call_entry slot_list_getitem hl.typeIs entry_list_getitem ?_ (args_list_getitem _ _)))
  show wpAny _ _ (Builtin.List.listSubscript? (.bool b) >>= _) _ _ s
  have key : ∀ A' (E' : Value → Shared → Prop), wpAny (model prog w) A' (Builtin.List.listSubscript? (.bool b)) (fun r s' => r = some (b.toNat : Int) ∧ s' = s) E' s := by
    intro A' E'
    unfold Builtin.List.listSubscript?
    refine wpAny_bind (wpAny_specialOf (T := "bool") (PySem.typeIs_bool s b) bool_index ?_)
    show wpAny _ _ (asIndex (.bool b) >>= _) _ _ s
    cases b
    · refine wpAny_bind (wpAny_of_eq (a := 0) rfl ?_)
      exact wpAny_pure ⟨rfl, rfl⟩
    · refine wpAny_bind (wpAny_of_eq (a := 1) rfl ?_)
      exact wpAny_pure ⟨rfl, rfl⟩
  refine wpAny_bind (wpAny_mono (key _ _) ?_ fun _ _ x => x)
  rintro _ _ ⟨rfl, rfl⟩
  show wpAny _ _ ((seqItemAt l b.toNat >>= fun r => pure (r.map (b.toNat, ·))) >>= _) _ _ _
  refine wpAny_bind (wpAny_bind (wpAny_seqItemAt ho hd (wpAny_pure ?_)))
  rw [hx]
  first
    | exact wpAny_bind (wpAny_pure (wpAny_pure ⟨x, rfl, wpAny_pure h⟩))
    | exact wpAny_pure ⟨x, rfl, wpAny_pure h⟩
inductive RD (H : MH) : MV → PyData → Prop where
  | none : RD H .none .none
  | bool {b : Bool} : RD H (.bool b) (.bool b)
  | int {i : Int} : RD H (.int i) (.int i)
  | str {x : Str} : RD H (.str x) (.str x)
  | list {a : Nat} {xs : List MV} {ds : List PyData} (h : H[a]? = some (.list xs)) (hl : xs.length = ds.length) (hd : ∀ (k : Nat) (v : MV) (d : PyData), xs[k]? = some v → ds[k]? = some d → RD H v d) : RD H (.ref a) (.list ds)
  | tup {a : Nat} {xs : List MV} {ds : List PyData} (h : H[a]? = some (.tup xs)) (hl : xs.length = ds.length) (hd : ∀ (k : Nat) (v : MV) (d : PyData), xs[k]? = some v → ds[k]? = some d → RD H v d) : RD H (.ref a) (.tuple ds)
theorem readsAll_of {h : Heap} {ρ : List Addr} : ∀ {xs : List MV} {vs : List Value} {ds : List PyData}, VRs ρ xs vs → xs.length = ds.length → (∀ (k : Nat) (v : MV) (d : PyData) (vr : Value), xs[k]? = some v → ds[k]? = some d → VR ρ v vr → ∃ as, Reads h vr d as) → ∃ as, ReadsAll h vs ds as
  | [], vs, [], hv, _, _ => ⟨[], by rw [show vs = [] from hv]; exact .nil⟩
  | [], _, _ :: _, _, hl, _ => by simp at hl
  | _ :: _, _, [], _, hl, _ => by simp at hl
  | x :: xs, _, d :: ds, ⟨v, r, e, h1, h2⟩, hl, hk => by
    subst e
    obtain ⟨as, ha⟩ := hk 0 x d v rfl rfl h1
    obtain ⟨bs, hb⟩ := readsAll_of h2 (by simpa using hl) fun k v d vr e1 e2 h3 => hk (k + 1) v d vr (by simpa using e1) (by simpa using e2) h3
    exact ⟨_, .cons ha hb⟩
section
variable {c : Cx} {m : ML} {H : MH} {G : Gx} {d : Nat}
theorem RD.reads {v : MV} {dt : PyData} (hr : RD H v dt) {mr : Str → Option Value} {ρ : List Addr} {h : Heap} (S : St c mr ρ H h) : ∀ {vr : Value}, VR ρ v vr → ∃ as, Reads h vr dt as := by
  induction hr with
  | none => intro vr hv; rw [show vr = _ from hv]; exact ⟨_, .none⟩
  | bool => intro vr hv; rw [show vr = _ from hv]; exact ⟨_, .bool _⟩
  | int => rintro _ ⟨t, rfl⟩; exact ⟨_, .int _ _⟩
  | str => rintro _ ⟨t, rfl⟩; exact ⟨_, .str _ _⟩
  | list ha hl hd ih =>
    rintro _ ⟨x, hx, rfl⟩
    obtain ⟨vs, n, hvs, No⟩ := S.list ha hx
    obtain ⟨as, hA⟩ := readsAll_of (h := h) hvs hl fun k v d vr e1 e2 h3 => ih k v d e1 e2 h3
    exact ⟨_, .list (No _ (.head _)).1 rfl rfl hA⟩
  | tup ha hl hd ih =>
    rintro _ ⟨x, hx, rfl⟩
    obtain ⟨vs, hvs, o, ho, hc, n, hdat⟩ := S.tup ha hx
    obtain ⟨as, hA⟩ := readsAll_of (h := h) hvs hl fun k v d vr e1 e2 h3 => ih k v d e1 e2 h3
    exact ⟨_, .tuple ho hc hdat hA⟩
theorem Cq.neD (ok : Ok G c d) {a b : MV} {da db : PyData} (ha : RD H a da) (hb : RD H b db) (sa : PySem.SeqAt.shaped da = true) (sb : PySem.SeqAt.shaped db = true) : Cq c .NotEq H a b (!PyData.eqv da db) := by
  intro mr ρ s Q E va vb S h1 h2 k
  obtain ⟨as, r1⟩ := ha.reads S h1
  obtain ⟨bs, r2⟩ := hb.reads S h2
  exact ne_dataH r1 r2 sa sb (by have := ok.uni; omega) (k s.heap s.toks S)
theorem Sq.listB {a : Nat} {xs : List MV} {b : Bool} {v : MV} (ha : H[a]? = some (.list xs)) (hv : xs[b.toNat]? = some v) : Sq c H (.ref a) (.bool b) v := by
  rintro mr ρ s Q E _ vi base sl hsl S ⟨x, hx, rfl⟩ hb k
  rw [show vi = .bool b from hb]
  obtain ⟨vs, ep, hvs, No⟩ := S.list ha hx
  obtain ⟨vr, e1, e2⟩ := hvs.get hv
  exact tail_any (isList_of No).typeIs slot_list_getitem.lookup (getItem_list_bool (isList_of No) (by simpa using e1) (k vr _ e2)) (subscripted_of (nm := []) (sc := c.sc) hsl _ _)
noncomputable def TO (c : Cx) (m : ML) (a : CO) (H : MH) (post : Option Int → MH → Prop) : Prop := match a with
  | .none => post Option.none H
  | .some e => TE c m e H (fun v H1 => ∃ i, v = .int i ∧ post (some i) H1)
theorem part_of {a : CO} {e : PySem.Expr} {post : Option Int → MH → Prop} {mr : Str → Option Value} {ρ : List Addr} {s : Shared} {Q : Value → Shared → Prop} {E : Value → Shared → Prop} (h : TO c m a H post) (he : wfO a c.nm c.sc e = true) (S : St c mr ρ H s.heap) (l : LR mr c.nm ρ m) (kx : Kx c ρ s E)
    (k : ∀ t o vr H' h' tk, post o H' → IsPart vr o → St c mr (ρ ++ t) H' h' → Q vr { s with heap := h', toks := tk }) : wpAny (model c.prog c.w) c.A (evalPart (reO a c.nm e) c.env) Q E s := by
  cases a with
  | none => exact wpAny_pure (k [] Option.none _ H s.heap s.toks h .none (nil_of S))
  | some a =>
    refine h _ he mr ρ s _ E S l ?_ kx
    rintro t _ _ H1 h1 tk1 ⟨i, rfl, hp⟩ ⟨u, rfl⟩ S1
    exact k t (some i) _ H1 h1 tk1 hp (.int i u) S1
theorem TE.sliceQ {o : CE} {lo hi : CO} {post : MV → MH → Prop} (h : TE c m o H (fun x H1 => TO c m lo H1 (fun l H2 => TO c m hi H2 (fun u H3 =>
      ∀ (mr : Str → Option Value) (ρ : List Addr) (s : Shared) (Q : Value → Shared → Prop) (E : Value → Shared → Prop) (vo vl vu : Value) (base : PySem.Expr) (lw up : Option PySem.Expr) (p : Pos), St c mr ρ H3 s.heap → VR ρ x vo → IsPart vl l → IsPart vu u →
        (∀ t v vr H' h' tk, post v H' → VR (ρ ++ t) v vr → St c mr (ρ ++ t) H' h' → Q vr { s with heap := h', toks := tk }) →
        wpAny (model c.prog c.w) c.A (subscriptTail base (.Slice lw up Option.none p) vo (.ref s.heap.objs.size)) Q E { s with heap := s.heap.push { cls := .type "slice", data := .fields #[vl, vu, .none] } })))) : TE c m (.slice o lo hi) H post := by
  intro e he
  obtain ⟨h1, h2, h3⟩ := and3 he
  intro mr ρ s Q E S l k kx
  refine Subscript_ ?_
  refine h _ h1 mr ρ s _ E S l ?_ kx
  intro t x xr H1 hp1 tk1 h12 hx S1
  refine wpAny_Slice ?_
  refine part_of (s := { s with heap := hp1, toks := tk1 }) h12 h2 S1 l.mono kx.mono ?_
  intro t2 lo' vl H2 hp2 tk2 h23 pl S2
  refine part_of (s := { s with heap := hp2, toks := tk2 }) h23 h3 S2 l.mono.mono kx.mono.mono ?_
  intro t3 hi' vu H3 hp3 tk3 h34 pu S3
  refine wpAny_pure ?_
  refine h34 mr _ { s with heap := hp3, toks := tk3 } _ E _ vl vu _ _ _ _ S3 hx.mono.mono pl pu ?_
  intro t4 v vr H' h' tk hp hv S4
  have e1 : ρ ++ t ++ t2 ++ t3 ++ t4 = ρ ++ (t ++ (t2 ++ (t3 ++ t4))) := by simp only [List.append_assoc]
  rw [e1] at hv S4
  exact k _ v vr H' h' tk hp hv S4
end
theorem VRs.take {ρ : List Addr} : ∀ {ms : List MV} {vs : List Value} (k : Nat), VRs ρ ms vs → VRs ρ (ms.take k) (vs.take k)
  | [], _, k, h => by rw [show _ = [] from h]; cases k <;> rfl
  | _ :: _, _, 0, h => rfl
  | _ :: _, _, k + 1, ⟨v, r, e, h1, h2⟩ => by subst e; exact ⟨v, r.take k, rfl, h1, h2.take k⟩
theorem VRs.drop {ρ : List Addr} : ∀ {ms : List MV} {vs : List Value} (k : Nat), VRs ρ ms vs → VRs ρ (ms.drop k) (vs.drop k)
  | [], _, k, h => by rw [show _ = [] from h]; cases k <;> rfl
  | _ :: _, _, 0, h => h
  | _ :: _, _, k + 1, ⟨v, r, e, h1, h2⟩ => by subst e; exact h2.drop k
section
variable {c : Cx} {m : ML} {H : MH} {G : Gx} {d : Nat}
theorem slice_made {mr : Str → Option Value} {ρ : List Addr} {s : Shared} {Q : Value → Shared → Prop} {E : Value → Shared → Prop} {a : Nat} {xs ys : List MV} {vo vl vu : Value} {lo hi : Option Int} {base : PySem.Expr} {lw up : Option PySem.Expr} {p : Pos} {post : MV → MH → Prop}
    (S : St c mr ρ H s.heap) (ho : VR ρ (.ref a) vo) (ha : H[a]? = some (.list xs)) (hl : xs.length ≤ 1000000) (pl : IsPart vl lo) (pu : IsPart vu hi) (hy : ∀ vs : List Value, VRs ρ xs vs → VRs ρ ys (slicePick vs.toArray lo hi none).toList) (hp : post (.ref H.length) (H ++ [.list ys]))
    (k : ∀ t v vr H' h' tk, post v H' → VR (ρ ++ t) v vr → St c mr (ρ ++ t) H' h' → Q vr { s with heap := h', toks := tk }) :
    wpAny (model c.prog c.w) c.A (subscriptTail base (.Slice lw up Option.none p) vo (.ref s.heap.objs.size)) Q E { s with heap := s.heap.push { cls := .type "slice", data := .fields #[vl, vu, .none] } } := by
  obtain ⟨x, hx, rfl⟩ := ho
  obtain ⟨vs, n, hvs, No⟩ := S.list ha hx
  have L := isList_of No
  have S1 : St c mr ρ H (s.heap.push { cls := .type "slice", data := .fields #[vl, vu, .none] }) := S.grow fun b o q => Heap.get?_push_of_some _ q
  obtain ⟨ml, xt, ⟨F, os, a1, a2, a3, N, a5⟩, back⟩ := S1.open
  refine tail_any (Heap.IsList.typeIs (s := { s with heap := s.heap.push { cls := .type "slice", data := .fields #[vl, vu, .none] } }) (L.push _)) slot_list_getitem.lookup (wpAny_getItem_list_slice (L.push _) (Heap.IsSliceOf.new ..) pl pu .none (by simp) ?_ (by rw [List.size_toArray, hvs.length]; exact Nat.le_trans hl (by decide))) rfl
  have N1 := News.push F N { cls := .type "list", data := .seq (slicePick vs.toArray lo hi none) } rfl
  have e1 : (slicePick vs.toArray lo hi none) = (slicePick vs.toArray lo hi none).toList.toArray := by simp
  exact k [_] (.ref H.length) _ _ _ _ hp ⟨_, last_get a2, rfl⟩ (back _ _ _ (Led.alloc a1 a2 a3 a5 (F.push _) N1 (fun p hp => Nat.ne_of_lt (Heap.lt_size (N p hp).1)) ⟨_, 0, (hy vs hvs).mono, by rw [← e1]⟩))
theorem TE.sliceTo {o hi : CE} {post : MV → MH → Prop} (h : TE c m o H (fun x H1 => TE c m hi H1 (fun u H2 => ∃ j : Int, u = .int j ∧ ∃ a xs, x = .ref a ∧ H2[a]? = some (.list xs) ∧ xs.length ≤ 1000000 ∧ 0 ≤ j ∧ post (.ref H2.length) (H2 ++ [.list (xs.take j.toNat)])))) :
    TE c m (.slice o .none (.some hi)) H post := by
  refine TE.sliceQ (h.mono fun x H1 h1 => (show TO c m .none H1 _ from TE.mono (a := hi) h1 fun u H2 ⟨j, e2, h3⟩ => ⟨j, e2, ?_⟩))
  obtain ⟨a, xs, rfl, ha, hl, h0, hp⟩ := h3
  intro mr ρ s Q E vo vl vu base lw up p S ho pl pu k
  refine slice_made S ho ha hl pl pu (ys := xs.take j.toNat) (fun vs hvs => ?_) hp k
  have e2 : slicePick vs.toArray Option.none (Option.some j) Option.none = (vs.toArray.toList.take j.toNat).toArray := by have := slicePick_upto' vs.toArray j.toNat; rwa [Int.toNat_of_nonneg h0] at this
  rw [e2]
  simpa using hvs.take j.toNat
theorem TE.sliceFrom {o lo : CE} {post : MV → MH → Prop} (h : TE c m o H (fun x H1 => TE c m lo H1 (fun u H2 => ∃ j : Int, u = .int j ∧ ∃ a xs, x = .ref a ∧ H2[a]? = some (.list xs) ∧ xs.length ≤ 1000000 ∧ 0 ≤ j ∧ post (.ref H2.length) (H2 ++ [.list (xs.drop j.toNat)])))) :
    TE c m (.slice o (.some lo) .none) H post := by
  refine TE.sliceQ (h.mono fun x H1 h1 => (show TO c m (.some lo) H1 _ from TE.mono (a := lo) h1 fun u H2 ⟨j, e2, h3⟩ => ⟨j, e2, ?_⟩))
  show TO c m .none H2 _
  obtain ⟨a, xs, rfl, ha, hl, h0, hp⟩ := h3
  intro mr ρ s Q E vo vl vu base lw up p S ho pl pu k
  refine slice_made S ho ha hl pl pu (ys := xs.drop j.toNat) (fun vs hvs => ?_) hp k
  have e2 : slicePick vs.toArray (Option.some j) Option.none Option.none = (vs.toArray.toList.drop j.toNat).toArray := by have := slicePick_from' vs.toArray j.toNat; rwa [Int.toNat_of_nonneg h0] at this
  rw [e2]
  simpa using hvs.drop j.toNat
end
noncomputable def k_need_number_nm : List Str := ["value", "least", "most", "what"]
noncomputable def k_need_number : CSs := (.cons (.ite (.or (.cons (.cmp .IsNot (.call "type" (.cons (.loc 0) .nil)) (.glob "int")) (.cons (.cmp .Lt (.loc 0) (.loc 1)) (.cons (.cmp .Gt (.loc 0) (.loc 2)) .nil)))) (.cons (.raise "ShareError" (.cons (.bin .Add (.bin .Add (.bin .Add (.str "no ") (.loc 3)) (.str ": ")) (.call "shown" (.cons (.loc 0) .nil))) .nil))
  .nil) .nil)
  (.cons (.ret (.loc 0))
  .nil))
noncomputable def k_is_prime_nm : List Str := ["n", "k"]
noncomputable def k_is_prime : CSs := (.cons (.ite (.cmp .Lt (.loc 0) (.int 2)) (.cons (.ret (.bool false))
  .nil) .nil)
  (.cons (.assign 1 (.int 2))
  (.cons (.while (.cmp .LtE (.bin .Mult (.loc 1) (.loc 1)) (.loc 0)) (.cons (.ite (.cmp .Eq (.bin .Mod (.loc 0) (.loc 1)) (.int 0)) (.cons (.ret (.bool false))
  .nil) .nil)
  (.cons (.assign 1 (.bin .Add (.loc 1) (.int 1)))
  .nil)))
  (.cons (.ret (.bool true))
  .nil))))
noncomputable def k_Field_init_nm : List Str := ["self", "prime"]
noncomputable def k_Field_init : CSs := (.cons (.expr (.call "need_number" (.cons (.loc 1) (.cons (.int 2) (.cons (.glob "GREATEST") (.cons (.str "prime") .nil))))))
  (.cons (.ite (.not (.plain (.call "is_prime" (.cons (.loc 1) .nil)))) (.cons (.raise "ShareError" (.cons (.bin .Add (.str "no prime: ") (.call "str" (.cons (.loc 1) .nil))) .nil))
  .nil) .nil)
  (.cons (.setAttr (.loc 0) "prime" (.loc 1))
  .nil)))
noncomputable def k_Field_power_nm : List Str := ["self", "a", "n", "out"]
noncomputable def k_Field_power : CSs := (.cons (.assign 3 (.int 1))
  (.cons (.assign 1 (.bin .Mod (.loc 1) (.attr (.loc 0) "prime")))
  (.cons (.while (.cmp .Gt (.loc 2) (.int 0)) (.cons (.ite (.plain (.bin .BitAnd (.loc 2) (.int 1))) (.cons (.assign 3 (.bin .Mod (.bin .Mult (.loc 3) (.loc 1)) (.attr (.loc 0) "prime")))
  .nil) .nil)
  (.cons (.assign 1 (.bin .Mod (.bin .Mult (.loc 1) (.loc 1)) (.attr (.loc 0) "prime")))
  (.cons (.assign 2 (.bin .RShift (.loc 2) (.int 1)))
  .nil))))
  (.cons (.ret (.loc 3))
  .nil))))
noncomputable def k_Field_inverse_nm : List Str := ["self", "a"]
noncomputable def k_Field_inverse : CSs := (.cons (.ite (.cmp .Eq (.bin .Mod (.loc 1) (.attr (.loc 0) "prime")) (.int 0)) (.cons (.raise "ShareError" (.cons (.str "nought has no inverse") .nil))
  .nil) .nil)
  (.cons (.ret (.meth (.loc 0) "power" (.cons (.loc 1) (.cons (.bin .Sub (.attr (.loc 0) "prime") (.int 2)) .nil))))
  .nil))
noncomputable def k_Field_over_nm : List Str := ["self", "a", "b"]
noncomputable def k_Field_over : CSs := (.cons (.ret (.bin .Mod (.bin .Mult (.loc 1) (.meth (.loc 0) "inverse" (.cons (.loc 2) .nil))) (.attr (.loc 0) "prime")))
  .nil)
noncomputable def k_value_nm : List Str := ["field", "row", "x", "out", "a"]
noncomputable def k_value : CSs := (.cons (.assign 3 (.int 0))
  (.cons (.for [4] (.call "reversed" (.cons (.loc 1) .nil)) (.cons (.assign 3 (.bin .Mod (.bin .Add (.bin .Mult (.loc 3) (.loc 2)) (.loc 4)) (.attr (.loc 0) "prime")))
  .nil))
  (.cons (.ret (.loc 3))
  .nil)))
noncomputable def k_trimmed_nm : List Str := ["row", "out"]
noncomputable def k_trimmed : CSs := (.cons (.assign 1 (.call "list" (.cons (.loc 0) .nil)))
  (.cons (.while (.and (.cons (.cmp .Gt (.call "len" (.cons (.loc 1) .nil)) (.int 0)) (.cons (.cmp .Eq (.sub (.loc 1) (.neg (.int 1))) (.int 0)) .nil))) (.cons (.expr (.meth (.loc 1) "pop" .nil))
  .nil))
  (.cons (.ret (.loc 1))
  .nil)))
noncomputable def k_plus_nm : List Str := ["field", "one", "two", "size"]
noncomputable def k_plus : CSs := (.cons (.assign 3 (.call "max" (.cons (.call "len" (.cons (.loc 1) .nil)) (.cons (.call "len" (.cons (.loc 2) .nil)) .nil))))
  (.cons (.ret (.comp (.bin .Mod (.bin .Add (.ite (.cmp .Lt (.loc 4) (.call "len" (.cons (.loc 1) .nil))) (.sub (.loc 1) (.loc 4)) (.int 0)) (.ite (.cmp .Lt (.loc 4) (.call "len" (.cons (.loc 2) .nil))) (.sub (.loc 2) (.loc 4)) (.int 0))) (.attr (.loc 0) "prime")) ["k"] (.call "range" (.cons (.loc 3) .nil)) .nil))
  .nil))
noncomputable def k_product_nm : List Str := ["field", "one", "two", "out", "i", "j"]
noncomputable def k_product : CSs := (.cons (.ite (.or (.cons (.cmp .Eq (.call "len" (.cons (.loc 1) .nil)) (.int 0)) (.cons (.cmp .Eq (.call "len" (.cons (.loc 2) .nil)) (.int 0)) .nil))) (.cons (.ret (.list .nil))
  .nil) .nil)
  (.cons (.assign 3 (.bin .Mult (.list (.cons (.int 0) .nil)) (.bin .Sub (.bin .Add (.call "len" (.cons (.loc 1) .nil)) (.call "len" (.cons (.loc 2) .nil))) (.int 1))))
  (.cons (.for [4] (.call "range" (.cons (.call "len" (.cons (.loc 1) .nil)) .nil)) (.cons (.for [5] (.call "range" (.cons (.call "len" (.cons (.loc 2) .nil)) .nil)) (.cons (.setItem (.loc 3) (.bin .Add (.loc 4) (.loc 5)) (.bin .Mod (.bin .Add (.sub (.loc 3) (.bin .Add (.loc 4) (.loc 5))) (.bin .Mult (.sub (.loc 1) (.loc 4)) (.sub (.loc 2) (.loc 5)))) (.attr (.loc 0) "prime")))
  .nil))
  .nil))
  (.cons (.ret (.loc 3))
  .nil))))
noncomputable def k_through_nm : List Str := ["field", "points", "out", "i", "row", "lower", "j", "factor"]
noncomputable def k_through : CSs := (.cons (.assign 2 (.list .nil))
  (.cons (.for [3] (.call "range" (.cons (.call "len" (.cons (.loc 1) .nil)) .nil)) (.cons (.assign 4 (.list (.cons (.int 1) .nil)))
  (.cons (.assign 5 (.int 1))
  (.cons (.for [6] (.call "range" (.cons (.call "len" (.cons (.loc 1) .nil)) .nil)) (.cons (.ite (.cmp .NotEq (.loc 6) (.loc 3)) (.cons (.assign 4 (.call "product" (.cons (.loc 0) (.cons (.loc 4) (.cons (.list (.cons (.bin .Mod (.neg (.sub (.sub (.loc 1) (.loc 6)) (.int 0))) (.attr (.loc 0) "prime")) (.cons (.int 1) .nil))) .nil)))))
  (.cons (.assign 5 (.bin .Mod (.bin .Mult (.loc 5) (.bin .Sub (.sub (.sub (.loc 1) (.loc 3)) (.int 0)) (.sub (.sub (.loc 1) (.loc 6)) (.int 0)))) (.attr (.loc 0) "prime")))
  .nil)) .nil)
  .nil))
  (.cons (.assign 7 (.meth (.loc 0) "over" (.cons (.sub (.sub (.loc 1) (.loc 3)) (.int 1)) (.cons (.loc 5) .nil))))
  (.cons (.assign 2 (.call "plus" (.cons (.loc 0) (.cons (.loc 2) (.cons (.comp (.bin .Mod (.bin .Mult (.loc 8) (.loc 7)) (.attr (.loc 0) "prime")) ["a"] (.loc 4) .nil) .nil)))))
  .nil))))))
  (.cons (.ret (.call "trimmed" (.cons (.loc 2) .nil)))
  .nil)))
set_option compiler.extract_closed false
/- one step: walk_at "s" -/
local macro_rules | `(tactic| walk_at "s") => `(tactic| with_reducible first
  | refine TB.cons ?_
  | refine TB.nil ?_
  | refine TS.ret ?_
  | refine TS.assign (by assumption) (by assumption) (by with_unfolding_all rfl) ?_
  | refine TS.expr (by assumption) ?_
  | refine TS.ite ?_
  | refine TS.setAttr (by assumption) ?_
  | refine TS.setItem ?_
  | refine TE.loc (by assumption) (by with_unfolding_all rfl) ?_
  | refine TE.int ?_
  | refine TE.str ?_
  | refine TE.bool ?_
  | refine TE.none ?_
  | refine TE.op (by assumption) ?_
  | refine TE.attr (by assumption) ?_
  | refine TE.pop ?_
  | refine TE.append ?_
  | refine TE.meth (by assumption) ?_
  | refine TE.meth0 (by assumption) ?_
  | refine TE.sq ?_
  | refine TE.len (by assumption) (by assumption) ?_
  | refine TE.max (by assumption) (by assumption) ?_
  | refine TE.min (by assumption) (by assumption) ?_
  | refine TE.sum (by assumption) (by assumption) ?_
  | refine TE.blist (by assumption) (by assumption) ?_
  | refine TE.bstr (by assumption) (by assumption) ?_
  | refine TE.call (by assumption) (by assumption) ?_
  | refine TE.ite ?_
  | refine TE.list ?_
  | refine TE.tup ?_
  | refine TE.tst ?_
  | refine TE.negI ?_
  | refine TEs.nil ?_
  | refine TEs.cons ?_
  | refine TT.not ?_
  | refine TT.and ?_
  | refine TT.or ?_
  | refine TTs.andNil ?_
  | refine TTs.orNil ?_
  | refine TTs.and ?_
  | refine TTs.or ?_
  | refine TT.cqNI ?_
  | refine TT.cqIn ?_
  | refine TT.cmp ?_
  | refine TT.cmp2 ?_
  | refine TV.cmp2 ?_
  | refine TT.plain ?_
  | refine BC.lenI (by assumption) (by omega) ?_
  | refine Scr.len (by assumption) ?_
  | refine ⟨_, NegI.mk, ?_⟩
  | refine ⟨_, BinI.add, ?_⟩
  | refine ⟨_, BinI.sub, ?_⟩
  | refine ⟨_, BinI.band, ?_⟩
  | refine ⟨_, BinI.shr (by decide), ?_⟩
  | refine ⟨_, BinI.modP (by omega), ?_⟩
  | refine ⟨_, BinI.shl (by decide) (by decide) (by decide), ?_⟩
  | refine ⟨_, BinI.pow (by decide) (by decide) (by decide), ?_⟩
  | refine ⟨_, BinI.mul (mulL (by omega) (by omega)), ?_⟩
  | refine ⟨_, BinI.mul (mulR (by omega) (by omega)), ?_⟩
  | refine ⟨_, _, _, _, rfl, by assumption, by with_unfolding_all exact Nat.le_of_ble_eq_true rfl, by assumption, ?_⟩
  | refine ⟨_, _, _, _, _, rfl, by (first | assumption | exact Ext.ins (by assumption) (by assumption)), by with_unfolding_all rfl, by assumption, ?_⟩
  | fail)
local macro_rules | `(tactic| walk_at "w") => `(tactic| repeat walk_at "s")
noncomputable def isP (n : Int) : Prop := 2 ≤ n ∧ ∀ k : Int, 2 ≤ k → k * k ≤ n → n % k ≠ 0
theorem is_prime_cl {G : Gx} {prog : Program} {w : World} {f : Addr} {n : Int} {H : MH} {xp : Addr → List MV → MH → Prop} (D : GDef G f ["n"] k_is_prime_nm k_is_prime []) (hn : n < 2 ^ 60) :
    CL G prog w 1 f [.int n] H (fun v H' => ∃ b, v = .bool b ∧ (b = true ↔ isP n) ∧ H' = H) xp := by
  refine D.cl rfl ?_
  intro c e1 e2 ok hfm hi hnm hX
  show TB c [some (.int n), none] _ _ _
  unfold k_is_prime
  walk_at "w"
  refine ⟨_, rfl, fun h => ?_, fun h => ?_⟩
  · have h : n < 2 := by simpa using h
    walk_at "w"
    exact ⟨false, rfl, by simp [isP]; omega, rfl⟩
  · have h : 2 ≤ n := by simpa using h
    walk_at "w"
    refine TS.while ok hfm (fun k m1 H1 => ∃ j : Int, 2 ≤ j ∧ j ≤ n ∧ (n - j).toNat = k ∧ m1 = [some (.int n), some (.int j)] ∧ H1 = H ∧ ∀ i : Int, 2 ≤ i → i < j → n % i ≠ 0) (n - 2).toNat ⟨2, by omega, by omega, rfl, rfl, rfl, fun i h1 h2 => by omega⟩ ?_
    rintro k m1 H1 ⟨j, h1, h2, hk, rfl, rfl, hno⟩
    walk_at "w"
    refine ⟨_, rfl, fun h => ?_, fun h => ?_⟩
    · have h : j * j ≤ n := by simpa using h
      have hjn : j < n := by
        have : j * 2 ≤ j * j := Int.mul_le_mul_of_nonneg_left h1 (by omega)
        omega
      walk_at "w"
      refine ⟨_, rfl, fun h => ?_, fun h => ?_⟩
      · have h0 : n % j = 0 := by simpa using h
        walk_at "w"
        refine ⟨false, rfl, ?_, rfl⟩
        constructor
        · intro e; cases e
        · intro q; exact absurd h0 (q.2 j h1 ‹_›)
      · have h0 : n % j ≠ 0 := by simpa using h
        walk_at "w"
        refine ⟨(n - (j + 1)).toNat, by omega, j + 1, by omega, by omega, rfl, rfl, rfl, fun i q1 q2 => ?_⟩
        by_cases e : i = j
        · subst e; exact h0
        · exact hno i q1 (by omega)
    · have h : n < j * j := by simpa using h
      walk_at "w"
      refine ⟨true, rfl, ⟨fun _ => ⟨by assumption, fun k q1 q2 => ?_⟩, fun _ => rfl⟩, rfl⟩
      by_cases e : k < j
      · exact hno k q1 e
      · exfalso
        have h5 : j * j ≤ k * k := Int.mul_le_mul (by omega) (by omega) (by omega) (by omega)
        omega
theorem pow_mod (a p : Int) : ∀ n : Nat, (a % p) ^ n % p = a ^ n % p
  | 0 => by simp
  | n + 1 => by rw [Int.pow_succ, Int.pow_succ, Int.mul_emod, pow_mod a p n, Int.emod_emod_of_dvd _ (Int.dvd_refl p), ← Int.mul_emod]
theorem pow_odd (x : Int) (q : Nat) : x ^ (2 * q + 1) = x * (x * x) ^ q := by
  rw [Int.pow_succ, Int.pow_mul, Int.mul_comm]
  congr 2
  grind
theorem pow_even (x : Int) (q : Nat) : x ^ (2 * q) = (x * x) ^ q := by
  rw [Int.pow_mul]
  congr 1
  grind
theorem step_odd {p out x k : Int} (hk : 0 < k) (ho : k % 2 ≠ 0) : (out * x % p) * (x * x % p) ^ (k / 2).toNat % p = out * x ^ k.toNat % p := by
  have e : k.toNat = 2 * (k / 2).toNat + 1 := by omega
  rw [e, pow_odd, Int.mul_emod, pow_mod, Int.emod_emod_of_dvd _ (Int.dvd_refl p), ← Int.mul_emod]
  congr 1
  rw [Int.mul_assoc]
theorem step_even {p out x k : Int} (hk : 0 < k) (ho : k % 2 = 0) : out * (x * x % p) ^ (k / 2).toNat % p = out * x ^ k.toNat % p := by
  have e : k.toNat = 2 * (k / 2).toNat := by omega
  rw [e, pow_even, Int.mul_emod, pow_mod, ← Int.mul_emod]
theorem need_number_cl {G : Gx} {prog : Program} {w : World} {f : Addr} {v lo hi : Int} {t : Str} {H : MH} {xp : Addr → List MV → MH → Prop} (D : GDef G f ["value", "least", "most", "what"] k_need_number_nm k_need_number [])
    (bs : Bs G) (h1 : lo ≤ v) (h2 : v ≤ hi) :
    CL G prog w 1 f [.int v, .int lo, .int hi, .str t] H (fun r H' => r = .int v ∧ H' = H) xp := by
  refine D.cl rfl ?_
  intro c e1 e2 ok hfm hint hnm hX
  show TB c [some (.int v), some (.int lo), some (.int _), some (.str t)] _ _ _
  unfold k_need_number
  refine TB.cons (TS.ite (TT.or (TTs.or (TT.tyAny (N := "int") (T' := "int") ok bs.type (.inr ⟨rfl, rfl⟩) bs.int rfl (by decide) ?_))))
  walk_at "w"
  refine ⟨"int", rfl, fun h => (by cases h), fun _ => ?_⟩
  walk_at "w"
  refine ⟨_, rfl, fun h => (by simp at h; omega), fun _ => ?_⟩
  walk_at "w"
  refine ⟨_, rfl, fun h => (by simp at h; omega), fun _ => ?_⟩
  walk_at "w"
  refine ⟨fun h => (by cases h), fun _ => ?_⟩
  walk_at "w"
  exact ⟨rfl, rfl⟩
theorem power_cl {G : Gx} {prog : Program} {w : World} {f C : Addr} {i kk : Nat} {a n p : Int} {H : MH} {xp : Addr → List MV → MH → Prop} (D : GDef G f ["self", "a", "n"] k_Field_power_nm k_Field_power [])
    (ga : GAtt G C "prime") (hF : Ins H i C kk [("prime", .int p)]) (hp : 2 ≤ p) (hp2 : p < 2 ^ 60) (hn : 0 ≤ n) :
    CL G prog w 1 f [.ref i, .int a, .int n] H (fun v H' => v = .int (a ^ n.toNat % p) ∧ H' = H) xp := by
  refine D.cl rfl ?_
  intro c e1 e2 ok hfm hint hnm hX
  show TB c [some (.ref i), some (.int a), some (.int n), none] _ _ _
  unfold k_Field_power
  walk_at "w"
  refine TS.while ok hfm (fun k m1 H1 => ∃ x e out : Int, 0 ≤ x ∧ x < p ∧ 0 ≤ e ∧ 0 ≤ out ∧ out < p ∧ e.toNat = k ∧ m1 = [some (.ref i), some (.int x), some (.int e), some (.int out)] ∧ H1 = H ∧ out * x ^ e.toNat % p = a ^ n.toNat % p) n.toNat
    ⟨a % p, n, 1, Int.emod_nonneg _ (by omega), Int.emod_lt_of_pos _ (by omega), hn, by omega, by omega, rfl, rfl, rfl, ?_⟩ ?_
  · rw [Int.one_mul, pow_mod]
  rintro k m1 H1 ⟨x, e, out, x1, x2, h0, o1, o2, hk, rfl, rfl, hinv⟩
  walk_at "w"
  refine ⟨_, rfl, fun h => ?_, fun h => ?_⟩
  · have h : 0 < e := by simpa using h
    have hsh : e.fdiv (2 ^ (1 : Int).toNat) = e / 2 := by
      rw [show (2 : Int) ^ (1 : Int).toNat = 2 from rfl, Int.fdiv_eq_ediv_of_nonneg _ (by omega)]
    walk_at "w"
    refine ⟨_, rfl, fun q => ?_, fun q => ?_⟩
    · have q : e % 2 ≠ 0 := by rw [bitAnd_m1] at q; simpa using q
      walk_at "w"
      rw [hsh]
      exact ⟨(e / 2).toNat, by omega, x * x % p, e / 2, out * x % p, Int.emod_nonneg _ (by omega), Int.emod_lt_of_pos _ (by omega), by omega, Int.emod_nonneg _ (by omega), Int.emod_lt_of_pos _ (by omega), rfl, rfl, rfl, (step_odd h q).trans hinv⟩
    · have q : e % 2 = 0 := by rw [bitAnd_m1] at q; simpa using q
      walk_at "w"
      rw [hsh]
      exact ⟨(e / 2).toNat, by omega, x * x % p, e / 2, out, Int.emod_nonneg _ (by omega), Int.emod_lt_of_pos _ (by omega), by omega, o1, o2, rfl, rfl, rfl, (step_even h q).trans hinv⟩
  · have h : e ≤ 0 := by simpa using h
    have he : e = 0 := by omega
    subst he
    walk_at "w"
    refine ⟨?_, rfl⟩
    rw [← hinv]
    simp only [Int.toNat_zero, Int.pow_zero, Int.mul_one]
    rw [Int.emod_eq_of_lt o1 o2]
    rfl
structure FieldK (G : Gx) (C : Addr) : Prop where
  cls : ∃ fI, GCls G "Field" C fI ∧ GDef G fI ["self", "prime"] k_Field_init_nm k_Field_init []
  nn : ∃ f, GFn G "need_number" f ∧ GDef G f ["value", "least", "most", "what"] k_need_number_nm k_need_number []
  ip : ∃ f, GFn G "is_prime" f ∧ GDef G f ["n"] k_is_prime_nm k_is_prime []
  att : GAtt G C "prime"
  sto : GSto G C "prime"
  gr : ∃ t, nsIn G.K mainGlobals "GREATEST" = some (some (.int 1048576 t))
  bs : Bs G
theorem field_init_cl {G : Gx} {prog : Program} {w : World} {f C : Addr} {i kk : Nat} {p : Int} {H : MH} {xp : Addr → List MV → MH → Prop} (F : FieldK G C) (D : GDef G f ["self", "prime"] k_Field_init_nm k_Field_init [])
    (hi : Ins H i C kk []) (hp : isP p) (hp2 : p ≤ 1048576) : CL G prog w 2 f [.ref i, .int p] H (fun v H' => v = .none ∧ H' = H.set kk (.ns [("prime", .int p)])) xp := by
  obtain ⟨fN, gN, dN⟩ := F.nn
  obtain ⟨fP, gP, dP⟩ := F.ip
  obtain ⟨t, gr⟩ := F.gr
  have h2 := hp.1
  refine D.cl rfl ?_
  intro c e1 e2 ok hfm hint hnm hX
  subst e1 e2
  show TB c [some (.ref i), some (.int p)] _ _ _
  unfold k_Field_init
  walk_at "w"
  refine TE.glob ok (v := .int 1048576) gr ⟨t, rfl⟩ ?_
  walk_at "w"
  refine (need_number_cl dN F.bs h2 hp2).use (by decide) ?_
  rintro _ _ ⟨rfl, rfl⟩
  walk_at "w"
  refine (is_prime_cl dP (by omega)).use (by decide) ?_
  rintro _ _ ⟨b, rfl, hb, rfl⟩
  have hb' : b = true := hb.mpr hp
  subst hb'
  refine ⟨true, rfl, fun h => (by cases h), fun _ => ?_⟩
  walk_at "w"
  refine ⟨_, _, _, _, rfl, hi, by decide, F.sto, ?_⟩
  walk_at "w"
  exact ⟨rfl, rfl⟩
theorem TE.field {c : Cx} {m : ML} {H : MH} {G : Gx} {d : Nat} {C : Addr} (ok : Ok G c d) (hd : 3 ≤ d) (F : FieldK G C) {e : CE} {post : MV → MH → Prop}
    (h : TE c m e H (fun v H1 => ∃ p, v = .int p ∧ isP p ∧ p ≤ 1048576 ∧ post (.ref (H1.length + 1)) (H1 ++ [.ns [("prime", .int p)]] ++ [.inst C H1.length]))) : TE c m (.call "Field" (.cons e .nil)) H post := by
  obtain ⟨fI, gI, dI⟩ := F.cls
  refine TE.new (d := 2) (ok.le hd) gI (TEs.cons (h.mono ?_))
  rintro _ H1 ⟨p, rfl, hp, hp2, hpost⟩
  refine TEs.nil ?_
  refine (field_init_cl (kk := H1.length) F dI ⟨?_, ?_⟩ hp hp2).use (Nat.le_refl _) ?_
  · simp
  · simp
  · rintro _ _ ⟨rfl, rfl⟩
    refine ⟨rfl, ?_⟩
    have : (H1 ++ [MO.ns []] ++ [MO.inst C H1.length]).set H1.length (.ns [("prime", .int p)]) = H1 ++ [.ns [("prime", .int p)]] ++ [.inst C H1.length] := by simp
    rw [this]
    exact hpost
theorem inverse_cl {G : Gx} {prog : Program} {w : World} {f fP C : Addr} {i kk : Nat} {a p : Int} {H : MH} {xp : Addr → List MV → MH → Prop} (D : GDef G f ["self", "a"] k_Field_inverse_nm k_Field_inverse [])
    (DP : GDef G fP ["self", "a", "n"] k_Field_power_nm k_Field_power []) (gm : GMth G C "power" fP)
    (ga : GAtt G C "prime") (hF : Ins H i C kk [("prime", .int p)]) (hp : 2 ≤ p) (hp2 : p < 2 ^ 60) (ha : a % p ≠ 0) :
    CL G prog w 2 f [.ref i, .int a] H (fun v H' => v = .int (a ^ (p - 2).toNat % p) ∧ H' = H) xp := by
  refine D.cl rfl ?_
  intro c e1 e2 ok hfm hint hnm hX
  subst e1 e2
  show TB c [some (.ref i), some (.int a)] _ _ _
  unfold k_Field_inverse
  walk_at "w"
  refine ⟨_, rfl, fun h => ?_, fun h => ?_⟩
  · skip
    simp at h
    omega
  · walk_at "w"
    exact (power_cl DP ga hF hp hp2 (by omega)).use (Nat.le_refl _) fun _ _ x => x
theorem over_cl {G : Gx} {prog : Program} {w : World} {f fI fP C : Addr} {i kk : Nat} {a b p : Int} {H : MH} {xp : Addr → List MV → MH → Prop} (D : GDef G f ["self", "a", "b"] k_Field_over_nm k_Field_over [])
    (DI : GDef G fI ["self", "a"] k_Field_inverse_nm k_Field_inverse []) (gi : GMth G C "inverse" fI) (DP : GDef G fP ["self", "a", "n"] k_Field_power_nm k_Field_power []) (gm : GMth G C "power" fP)
    (ga : GAtt G C "prime") (hF : Ins H i C kk [("prime", .int p)]) (hp : 2 ≤ p) (hp2 : p < 2 ^ 60) (hb : b % p ≠ 0) :
    CL G prog w 3 f [.ref i, .int a, .int b] H (fun v H' => v = .int (a * (b ^ (p - 2).toNat % p) % p) ∧ H' = H) xp := by
  refine D.cl rfl ?_
  intro c e1 e2 ok hfm hint hnm hX
  subst e1 e2
  show TB c [some (.ref i), some (.int a), some (.int b)] _ _ _
  unfold k_Field_over
  walk_at "w"
  refine (inverse_cl DI DP gm ga hF hp hp2 hb).use (Nat.le_refl _) ?_
  rintro _ _ ⟨rfl, rfl⟩
  have h1 := Int.emod_nonneg (b ^ (p - 2).toNat) (b := p) (by omega)
  have h2 := Int.emod_lt_of_pos (b ^ (p - 2).toNat) (b := p) (by omega)
  refine ⟨_, BinI.mul (mulR (by omega) (by omega)), ?_⟩
  walk_at "w"
  exact ⟨rfl, rfl⟩
noncomputable def pval (p : Int) (row : List Int) (x : Int) : Int := row.foldr (fun a acc => (acc * x + a) % p) 0
theorem pval_rev (p : Int) (row : List Int) (x : Int) : pval p row x = row.reverse.foldl (fun acc a => (acc * x + a) % p) 0 := by
  unfold pval
  rw [List.foldl_reverse]
theorem value_cl {G : Gx} {prog : Program} {w : World} {f C : Addr} {i kk r : Nat} {x p : Int} {row : List Int} {H : MH} {xp : Addr → List MV → MH → Prop} (D : GDef G f ["field", "row", "x"] k_value_nm k_value [])
    (bs : Bs G) (ga : GAtt G C "prime") (hF : Ins H i C kk [("prime", .int p)]) (hr : H[r]? = some (.list (intL row))) (hp : 2 ≤ p) (hp2 : p < 2 ^ 60) :
    CL G prog w 1 f [.ref i, .ref r, .int x] H (fun v H' => v = .int (pval p row x) ∧ H' = H) xp := by
  refine D.cl rfl ?_
  intro c e1 e2 ok hfm hint hnm hX
  show TB c [some (.ref i), some (.ref r), some (.int x), none, none] _ _ _
  unfold k_value
  walk_at "w"
  refine TS.forRev ok hfm bs.reversed ?_
  walk_at "w"
  refine ⟨r, _, rfl, hr, fun j m1 H2 => ∃ out o4, m1 = [some (.ref i), some (.ref r), some (.int x), some (.int out), o4] ∧ H2 = H ∧ 0 ≤ out ∧ out < p ∧ out = (row.reverse.take j).foldl (fun acc a => (acc * x + a) % p) 0, ⟨0, none, rfl, rfl, by omega, by omega, rfl⟩, ?_, ?_, ?_⟩
  · rintro _ _ _ ⟨_, _, _, rfl, _⟩
    exact hr
  · rintro j m1 H2 v xt ⟨out, o4, rfl, rfl, o1, o2, o3⟩ hv
    rw [← List.map_reverse] at hv
    obtain ⟨a, rfl, ha⟩ := intL_get hv
    refine ⟨[.int a], ?_, ?_⟩
    · exact rfl
    · have okx := ok.wx xt
      have hfx : (c.wx xt).fm = none := hfm
      show TB (c.wx xt) [some (.ref i), some (.ref r), some (.int x), some (.int out), some (.int a)] _ _ _
      walk_at "w"
      exact ⟨_, _, rfl, rfl, Int.emod_nonneg _ (by omega), Int.emod_lt_of_pos _ (by omega), by rw [take_fold ha, ← o3]⟩
  · rintro m1 H2 ⟨out, o4, rfl, rfl, o1, o2, o3⟩
    walk_at "w"
    refine ⟨?_, rfl⟩
    rw [List.length_map, ← List.length_reverse, List.take_length] at o3
    rw [pval_rev, ← o3]
    rfl
noncomputable def trim (l : List Int) : List Int := (l.reverse.dropWhile (· == 0)).reverse
theorem trim_zero (l : List Int) : trim (l ++ [0]) = trim l := by simp [trim]
theorem trim_last {l : List Int} {a : Int} (h : a ≠ 0) : trim (l ++ [a]) = l ++ [a] := by simp [trim, h]
theorem trimmed_cl {G : Gx} {prog : Program} {w : World} {f : Addr} {r : Nat} {row : List Int} {H : MH} {xp : Addr → List MV → MH → Prop} (D : GDef G f ["row"] k_trimmed_nm k_trimmed [])
    (bs : Bs G) (hr : H[r]? = some (.list (intL row))) (hl : row.length ≤ 1000000) :
    CL G prog w 1 f [.ref r] H (fun v H' => v = .ref H.length ∧ H' = H ++ [.list (intL (trim row))]) xp := by
  refine D.cl rfl ?_
  intro c e1 e2 ok hfm hint hnm hX
  show TB c [some (.ref r), none] _ _ _
  unfold k_trimmed
  walk_at "w"
  refine BC.list hr (by rw [List.length_map]; exact hl) ?_
  walk_at "w"
  refine TS.while ok hfm (fun k m1 H1 => ∃ ys : List Int, ys.length = k ∧ ys.length ≤ 1000000 ∧ m1 = [some (.ref r), some (.ref H.length)] ∧ H1 = H ++ [.list (intL ys)] ∧ trim ys = trim row) row.length ⟨row, rfl, hl, rfl, rfl, rfl⟩ ?_
  rintro k m1 H1 ⟨ys, hk, hy, rfl, rfl, ht⟩
  have hg : (H ++ [MO.list (intL ys)])[H.length]? = some (.list (intL ys)) := get_end
  walk_at "w"
  refine ⟨_, rfl, fun h => ?_, fun h => ?_⟩
  · have h : ys = [] := by
      have : ys.length = 0 := by simpa using h
      exact List.eq_nil_of_length_eq_zero this
    subst h
    refine ⟨fun q => (by cases q), fun _ => ?_⟩
    walk_at "w"
    exact ⟨rfl, by rw [← ht]; rfl⟩
  · rcases List.eq_nil_or_concat ys with rfl | ⟨zs, a, rfl⟩
    · simp at h
    · rw [List.concat_eq_append] at *
      walk_at "w"
      refine ⟨.int a, Sq.list hg ⟨by rw [List.length_map]; exact hy, .inr ⟨by omega, by simp; omega, ?_⟩⟩, ?_⟩
      · have e : ((-1 : Int) + ((intL (zs ++ [a])).length : Nat)).toNat = zs.length := by simp [intL]; omega
        rw [e]
        simp [intL]
      walk_at "w"
      refine ⟨_, rfl, fun h => ?_, fun h => ?_⟩
      · have h : a ≠ 0 := by simpa using h
        refine ⟨fun q => (by cases q), fun _ => ?_⟩
        walk_at "w"
        refine ⟨rfl, ?_⟩
        rw [← ht, trim_last h]
      · have h : a = 0 := by simpa using h
        subst h
        walk_at "w"
        refine ⟨fun _ => ?_, fun q => (by cases q)⟩
        walk_at "w"
        refine ⟨_, intL zs, .int 0, rfl, by rw [hg]; simp [intL], by simp at hy ⊢; omega, ?_⟩
        walk_at "w"
        rw [set_end]
        exact ⟨zs.length, by simp at hk; omega, zs, rfl, by simp at hy; omega, rfl, rfl, by rw [← ht, trim_zero]⟩
noncomputable def padd (p : Int) (a b : List Int) : List Int := (List.range (max a.length b.length)).map fun k => (a.getD k 0 + b.getD k 0) % p
theorem plus_cl {G : Gx} {prog : Program} {w : World} {f C : Addr} {i kk r q : Nat} {p : Int} {a b : List Int} {H : MH} {xp : Addr → List MV → MH → Prop} (D : GDef G f ["field", "one", "two"] k_plus_nm k_plus [])
    (bs : Bs G) (ga : GAtt G C "prime") (hF : Ins H i C kk [("prime", .int p)]) (hp : 2 ≤ p)
    (hr : H[r]? = some (.list (intL a))) (hq : H[q]? = some (.list (intL b))) (hl1 : a.length ≤ 1000) (hl2 : b.length ≤ 1000) :
    CL G prog w 1 f [.ref i, .ref r, .ref q] H (fun v H' => v = .ref H.length ∧ H' = H ++ [.list (intL (padd p a b))]) xp := by
  refine D.cl rfl ?_
  intro c e1 e2 ok hfm hint hnm hX
  show TB c [some (.ref i), some (.ref r), some (.ref q), none] _ _ _
  unfold k_plus
  walk_at "w"
  refine BC.max ok.hh ?_
  have hmax : max (a.length : Int) (b.length : Int) = ((max a.length b.length : Nat) : Int) := by omega
  rw [hmax]
  walk_at "w"
  refine TE.comp ok (Src.range ok bs.range ?_)
  walk_at "w"
  refine ⟨0, _, ⟨.inl ⟨rfl, rfl⟩, by omega, by omega, by omega, by omega⟩, ?_⟩
  refine Turns.range (x := "k") rfl (by omega) (fun n ys H1 => H1 = H ∧ n ≤ max a.length b.length ∧ ys = intL ((List.range n).map fun k => (a.getD k 0 + b.getD k 0) % p)) ⟨rfl, by omega, rfl⟩ ?_ ?_ ?_
  · rintro n ys H1 ⟨_, _, rfl⟩
    simp
  · rintro n ys H1 ⟨rfl, hn, rfl⟩ hlt c' sub hnm'
    have ok' := sub.ok
    refine ⟨fun q => (by cases q), fun _ => ?_⟩
    show TE c' [some (.ref i), some (.ref r), some (.ref q), some (.int _), some (.int (0 + (n : Int)))] _ _ _
    rw [Int.zero_add] at *
    have fin : (H1 = H1 ∧ n + 1 ≤ max a.length b.length ∧ (intL ((List.range n).map fun k => (a.getD k 0 + b.getD k 0) % p) ++ [MV.int ((a.getD n 0 + b.getD n 0) % p)]) = intL ((List.range (n + 1)).map fun k => (a.getD k 0 + b.getD k 0) % p)) := by
      refine ⟨rfl, by omega, ?_⟩
      rw [List.range_succ]
      simp [intL]
    have low : ∀ {l : List Int}, ¬ n < l.length → l.getD n 0 = 0 := fun h => by rw [List.getD_eq_getElem?_getD, List.getElem?_eq_none (by omega)]; rfl
    walk_at "w"
    have two : ∀ z : Int, z = a.getD n 0 → TE c' [some (.ref i), some (.ref r), some (.ref q), some (.int ((max a.length b.length : Nat) : Int)), some (.int (n : Int))] (.ite (.cmp .Lt (.loc 4) (.call "len" (.cons (.loc 2) .nil))) (.sub (.loc 2) (.loc 4)) (.int 0)) H1 (fun y H2 => ∃ v, BinI .Add (.int z) y v ∧ 
       TE c' [some (.ref i), some (.ref r), some (.ref q), some (.int ((max a.length b.length : Nat) : Int)), some (.int (n : Int))] (.attr (.loc 0) "prime") H2 (fun y H2 => ∃ v_1, BinI .Mod v y v_1 ∧ (H2 = H1 ∧ n + 1 ≤ max a.length b.length ∧ (intL ((List.range n).map fun k => (a.getD k 0 + b.getD k 0) % p) ++ [v_1]) = intL ((List.range (n + 1)).map fun k => (a.getD k 0 + b.getD k 0) % p)))) := by
      rintro z rfl
      walk_at "w"
      refine ⟨_, rfl, fun h => ?_, fun h => ?_⟩
      · have h : n < b.length := by simpa using h
        walk_at "w"
        refine ⟨_, Sq.listI hq (by omega) (by omega) (by omega), ?_⟩
        walk_at "w"
        exact fin
      · have h : ¬ n < b.length := by simpa using h
        rw [low h] at fin
        walk_at "w"
        exact fin
    refine ⟨_, rfl, fun h => ?_, fun h => ?_⟩
    · have h : n < a.length := by simpa using h
      walk_at "w"
      refine ⟨_, Sq.listI hr (by omega) (by omega) (by omega), ?_⟩
      exact two _ rfl
    · have h : ¬ n < a.length := by simpa using h
      walk_at "s"
      exact two 0 (low h).symm
  · rintro ys H1 ⟨rfl, _, rfl⟩
    refine ⟨rfl, ?_⟩
    unfold padd
    have : (((max a.length b.length : Nat) : Int) - 0).toNat = max a.length b.length := by omega
    rw [this]
noncomputable def pstep (p : Int) (a b : List Int) (i : Nat) (out : List Int) (j : Nat) : List Int := out.set (i + j) ((out.getD (i + j) 0 + a.getD i 0 * b.getD j 0) % p)
noncomputable def prow (p : Int) (a b : List Int) (out : List Int) (i : Nat) : List Int := (List.range b.length).foldl (pstep p a b i) out
noncomputable def pmul (p : Int) (a b : List Int) : List Int := if a.length = 0 ∨ b.length = 0 then [] else (List.range a.length).foldl (prow p a b) (List.replicate (a.length + b.length - 1) 0)
theorem pstep_len {p : Int} {a b out : List Int} {i j : Nat} : (pstep p a b i out j).length = out.length := by simp [pstep]
theorem fold_len {α : Type} {f : List Int → α → List Int} (h : ∀ o x, (f o x).length = o.length) : ∀ (l : List α) (o : List Int), (l.foldl f o).length = o.length
  | [], _ => rfl
  | x :: l, o => by rw [List.foldl_cons, fold_len h l, h]
theorem prow_len {p : Int} {a b out : List Int} {i : Nat} : (prow p a b out i).length = out.length := fold_len (fun _ _ => pstep_len) _ _
theorem product_cl {G : Gx} {prog : Program} {w : World} {f C : Addr} {i kk r q : Nat} {p : Int} {a b : List Int} {H : MH} {xp : Addr → List MV → MH → Prop} (D : GDef G f ["field", "one", "two"] k_product_nm k_product [])
    (bs : Bs G) (ga : GAtt G C "prime") (hF : Ins H i C kk [("prime", .int p)]) (hp : 2 ≤ p)
    (hr : H[r]? = some (.list (intL a))) (hq : H[q]? = some (.list (intL b))) (hl1 : a.length ≤ 1000) (hl2 : b.length ≤ 1000) (hb : ∀ x ∈ a, -(2 ^ 64) < x ∧ x < 2 ^ 64) :
    CL G prog w 1 f [.ref i, .ref r, .ref q] H (fun v H' => ∃ z, v = .ref z ∧ H.length ≤ z ∧ Ext H H' ∧ H'[z]? = some (.list (intL (pmul p a b)))) xp := by
  refine D.cl rfl ?_
  intro c e1 e2 ok hfm hint hnm hX
  show TB c [some (.ref i), some (.ref r), some (.ref q), none, none, none] _ _ _
  unfold k_product
  walk_at "w"
  have empty : ∀ ss : CSs, (a.length = 0 ∨ b.length = 0) → TB c [some (.ref i), some (.ref r), some (.ref q), none, none, none] (.cons (.ret (.list .nil)) .nil) H (fun f m1 H1 => match f with
      | .next => TB c m1 ss H1 (fun fl x H' => ∃ z, retv fl = .ref z ∧ H.length ≤ z ∧ Ext H H' ∧ H'[z]? = some (.list (intL (pmul p a b))))
      | f => ∃ z, retv f = .ref z ∧ H.length ≤ z ∧ Ext H H1 ∧ H1[z]? = some (.list (intL (pmul p a b)))) := by
    intro ss h
    walk_at "w"
    refine ⟨by decide, H.length, rfl, Nat.le_refl _, (Ext.refl H).app _, ?_⟩
    rw [get_end, pmul, if_pos h]
    rfl
  refine ⟨_, rfl, fun h => ⟨fun _ => empty _ (.inl (by simpa using h)), fun q => (by cases q)⟩, fun h => ?_⟩
  have h1 : a.length ≠ 0 := by simpa using h
  walk_at "w"
  refine ⟨_, rfl, fun h => ⟨fun _ => empty _ (.inr (by simpa using h)), fun q => (by cases q)⟩, fun h => ?_⟩
  have h2 : b.length ≠ 0 := by simpa using h
  walk_at "w"
  refine ⟨fun q => (by cases q), fun _ => ?_⟩
  refine TB.nil (TB.cons (TS.assign ok hfm rfl (TE.mulL ?_)))
  walk_at "w"
  refine ⟨by decide, ?_⟩
  have hr1 : (H ++ [MO.list [.int 0]])[r]? = some (.list (intL a)) := get_app hr
  have hq1 : (H ++ [MO.list [.int 0]])[q]? = some (.list (intL b)) := get_app hq
  walk_at "w"
  refine ⟨H.length, .int 0, _, rfl, rfl, get_end, by omega, by omega, ?_⟩
  have hn : ((a.length : Int) + (b.length : Int) - 1).toNat = a.length + b.length - 1 := by omega
  rw [hn]
  have hrep : List.replicate (a.length + b.length - 1) (MV.int 0) = intL (List.replicate (a.length + b.length - 1) 0) := by simp [intL]
  rw [hrep]
  have hL : (H ++ [MO.list [.int 0]]).length = H.length + 1 := by simp
  rw [hL]
  have rd : ∀ {x : Nat} {o o' : MO}, H[x]? = some o → (H ++ [MO.list [.int 0]] ++ [o'])[x]? = some o := fun h => get_app (get_app h)
  have top : ∀ {o : MO}, (H ++ [MO.list [.int 0]] ++ [o])[H.length + 1]? = some o := by intro o; simp
  have st : ∀ {o o' : MO}, (H ++ [MO.list [.int 0]] ++ [o]).set (H.length + 1) o' = H ++ [MO.list [.int 0]] ++ [o'] := by intro o o'; simp
  refine TB.cons (TS.forR ok hfm bs.range (by nofun) ?_ ⟨_, rfl⟩)
  have hr2 := rd (o' := .list (intL (List.replicate (a.length + b.length - 1) 0))) hr
  have hq2 := rd (o' := .list (intL (List.replicate (a.length + b.length - 1) 0))) hq
  walk_at "w"
  refine ⟨0, _, ⟨.inl ⟨rfl, rfl⟩, by omega, by omega, by omega, by omega⟩, fun n m1 H2 => ∃ o4 o5, m1 = [some (.ref i), some (.ref r), some (.ref q), some (.ref (H.length + 1)), o4, o5] ∧ n ≤ a.length ∧
    H2 = H ++ [.list [.int 0]] ++ [.list (intL ((List.range n).foldl (prow p a b) (List.replicate (a.length + b.length - 1) 0)))], ⟨none, none, rfl, by omega, rfl⟩, ?_, ?_⟩
  · rintro n m1 H2 xt ⟨o4, o5, rfl, hn, rfl⟩ hlt
    have okx := ok.wx xt
    have hfx : (c.wx xt).fm = none := hfm
    generalize hout : (List.range n).foldl (prow p a b) (List.replicate (a.length + b.length - 1) 0) = out
    have hol : out.length = a.length + b.length - 1 := by rw [← hout, fold_len (fun _ _ => prow_len)]; simp
    rw [Int.zero_add] at *
    show TB (c.wx xt) [some (.ref i), some (.ref r), some (.ref q), some (.ref (H.length + 1)), some (.int (n : Int)), o5] _ _ _
    refine TB.cons (TS.forR okx hfx bs.range (by nofun) ?_ ⟨_, rfl⟩)
    have hq3 := rd (o' := .list (intL out)) hq
    walk_at "w"
    refine ⟨0, _, ⟨.inl ⟨rfl, rfl⟩, by omega, by omega, by omega, by omega⟩, fun k m1 H2 => ∃ o5, m1 = [some (.ref i), some (.ref r), some (.ref q), some (.ref (H.length + 1)), some (.int (n : Int)), o5] ∧ k ≤ b.length ∧
      H2 = H ++ [.list [.int 0]] ++ [.list (intL ((List.range k).foldl (pstep p a b n) out))], ⟨o5, rfl, by omega, rfl⟩, ?_, ?_⟩
    · rintro k m1 H2 xt2 ⟨o6, rfl, hk, rfl⟩ hltk
      have okx2 := okx.wx xt2
      have hfx2 : ((c.wx xt).wx xt2).fm = none := hfm
      generalize hout2 : (List.range k).foldl (pstep p a b n) out = out2
      have hol2 : out2.length = a.length + b.length - 1 := by rw [← hout2, fold_len (fun _ _ => pstep_len), hol]
      rw [Int.zero_add] at *
      show TB ((c.wx xt).wx xt2) [some (.ref i), some (.ref r), some (.ref q), some (.ref (H.length + 1)), some (.int (n : Int)), some (.int (k : Int))] _ _ _
      have hr4 := rd (o' := .list (intL out2)) hr
      have hq4 := rd (o' := .list (intL out2)) hq
      have ho4 := top (o := .list (intL out2))
      have hF4 : Ins (H ++ [MO.list [.int 0]] ++ [.list (intL out2)]) i C kk [("prime", .int p)] := ((Ext.refl H).app _ |>.app _).ins hF
      have hba := hb (a.getD (n : Int).toNat 0) (by rw [List.getD_eq_getElem?_getD, List.getElem?_eq_getElem (by omega)]; exact List.getElem_mem _)
      refine TB.cons (TS.setItem ?_)
      walk_at "w"
      refine ⟨_, Sq.listI ho4 (by omega) (by omega) (by omega), ?_⟩
      walk_at "w"
      refine ⟨_, Sq.listI hr4 (by omega) (by omega) (by omega), ?_⟩
      walk_at "w"
      refine ⟨_, Sq.listI hq4 (by omega) (by omega) (by omega), ?_⟩
      refine ⟨_, BinI.mul (mulL hba.1 hba.2), ?_⟩
      walk_at "w"
      refine ⟨_, Uq.listI ho4 (by omega) (by omega) (by omega), ?_⟩
      rw [st]
      walk_at "w"
      refine ⟨_, rfl, by omega, ?_⟩
      rw [List.range_succ, List.foldl_append, hout2]
      have e1 : ((n : Int) + (k : Int)).toNat = n + k := by omega
      rw [e1]
      simp [pstep]
    · rintro m1 H2 ⟨o6, rfl, hk, rfl⟩
      walk_at "w"
      refine ⟨_, _, rfl, by omega, ?_⟩
      rw [List.range_succ, List.foldl_append, hout]
      have e1 : ((b.length : Int) - 0).toNat = b.length := by omega
      rw [e1]
      rfl
  · rintro m1 H2 ⟨o4, o5, rfl, hn, rfl⟩
    walk_at "w"
    refine ⟨H.length + 1, rfl, by omega, ((Ext.refl H).app _).app _, ?_⟩
    rw [top]
    have e1 : ((a.length : Int) - 0).toNat = a.length := by omega
    rw [e1, pmul, if_neg (by omega)]
abbrev px (pts : List (Int × Int)) (k : Nat) : Int := (pts.getD k (0, 0)).1
abbrev py (pts : List (Int × Int)) (k : Nat) : Int := (pts.getD k (0, 0)).2
noncomputable def trowS (p : Int) (pts : List (Int × Int)) (i : Nat) (r : List Int) (j : Nat) : List Int := if j = i then r else pmul p r [(-(px pts j)) % p, 1]
noncomputable def trow (p : Int) (pts : List (Int × Int)) (i n : Nat) : List Int := (List.range n).foldl (trowS p pts i) [1]
noncomputable def tlowS (p : Int) (pts : List (Int × Int)) (i : Nat) (l : Int) (j : Nat) : Int := if j = i then l else l * (px pts i - px pts j) % p
noncomputable def tlow (p : Int) (pts : List (Int × Int)) (i n : Nat) : Int := (List.range n).foldl (tlowS p pts i) 1
noncomputable def tfac (p : Int) (pts : List (Int × Int)) (i : Nat) : Int := py pts i * (tlow p pts i pts.length ^ (p - 2).toNat % p) % p
noncomputable def tsumS (p : Int) (pts : List (Int × Int)) (out : List Int) (i : Nat) : List Int := padd p out ((trow p pts i pts.length).map fun a => a * tfac p pts i % p)
noncomputable def tsum (p : Int) (pts : List (Int × Int)) (n : Nat) : List Int := (List.range n).foldl (tsumS p pts) []
noncomputable def thr (p : Int) (pts : List (Int × Int)) : List Int := trim (tsum p pts pts.length)
theorem range_fold {β : Type} {f : β → Nat → β} {b : β} {n : Nat} : (List.range (n + 1)).foldl f b = f ((List.range n).foldl f b) n := by
  rw [List.range_succ, List.foldl_append]; rfl
noncomputable def Bd (p : Int) (l : List Int) : Prop := ∀ x ∈ l, 0 ≤ x ∧ x < p
theorem Bd.set {p : Int} {l : List Int} {i : Nat} {v : Int} (h : Bd p l) (hv : 0 ≤ v ∧ v < p) : Bd p (l.set i v) := fun x hx => by
  rcases List.mem_or_eq_of_mem_set hx with q | q
  · exact h x q
  · exact q ▸ hv
theorem md {a p : Int} (hp : 0 < p) : 0 ≤ a % p ∧ a % p < p := ⟨Int.emod_nonneg _ (by omega), Int.emod_lt_of_pos _ hp⟩
theorem fold_inv {α β : Type} {f : β → α → β} {P : β → Prop} (h : ∀ b a, P b → P (f b a)) : ∀ (l : List α) (b : β), P b → P (l.foldl f b)
  | [], _, hb => hb
  | a :: l, b, hb => by rw [List.foldl_cons]; exact fold_inv h l _ (h b a hb)
theorem pmul_bd {p : Int} {a b : List Int} (hp : 0 < p) : Bd p (pmul p a b) := by
  unfold pmul
  split
  · intro x hx; cases hx
  · refine fold_inv (fun o i ho => fold_inv (fun o j ho => ho.set (md hp)) _ _ ho) _ _ ?_
    intro x hx
    rw [List.eq_of_mem_replicate hx]
    omega
theorem pmul_len {p : Int} {a b : List Int} (ha : a.length ≠ 0) (hb : b.length ≠ 0) : (pmul p a b).length = a.length + b.length - 1 := by
  unfold pmul
  rw [if_neg (by omega), fold_len (fun _ _ => prow_len)]
  simp
theorem trow_bd {p : Int} {pts : List (Int × Int)} {i n : Nat} (hp : 2 ≤ p) : Bd p (trow p pts i n) := by
  refine fold_inv (P := Bd p) (fun r j hr => ?_) _ _ ?_
  · unfold trowS
    split
    · exact hr
    · exact pmul_bd (by omega)
  · intro x hx
    rw [List.mem_singleton] at hx
    subst hx
    omega
theorem trow_len {p : Int} {pts : List (Int × Int)} {i : Nat} : ∀ n : Nat, 1 ≤ (trow p pts i n).length ∧ (trow p pts i n).length ≤ n + 1
  | 0 => by simp [trow]
  | n + 1 => by
    have ih := trow_len (p := p) (pts := pts) (i := i) n
    unfold trow at ih ⊢
    rw [range_fold]
    generalize (List.range n).foldl (trowS p pts i) [1] = r at ih ⊢
    unfold trowS
    split
    · omega
    · rw [pmul_len (by omega) (by simp)]
      simp
      omega
theorem tlow_bd {p : Int} {pts : List (Int × Int)} {i n : Nat} (hp : 2 ≤ p) : 0 ≤ tlow p pts i n ∧ tlow p pts i n < p := by
  refine fold_inv (P := fun l : Int => 0 ≤ l ∧ l < p) (fun l j hl => ?_) _ _ ⟨by omega, by omega⟩
  unfold tlowS
  split
  · exact hl
  · exact md (by omega)
theorem padd_len {p : Int} {a b : List Int} : (padd p a b).length = max a.length b.length := by simp [padd]
theorem tsum_len {p : Int} {pts : List (Int × Int)} : ∀ n : Nat, (tsum p pts n).length ≤ pts.length + 1
  | 0 => by simp [tsum]
  | n + 1 => by
    have ih := tsum_len (p := p) (pts := pts) n
    have h2 := (trow_len (p := p) (pts := pts) (i := n) pts.length).2
    unfold tsum at ih ⊢
    rw [range_fold]
    unfold tsumS
    rw [padd_len, List.length_map]
    unfold tsumS at ih
    omega
noncomputable def PtsAt (H : MH) (r : Nat) (pts : List (Int × Int)) : Prop := ∃ refs, H[r]? = some (.list refs) ∧ refs.length = pts.length ∧ ∀ k, k < pts.length → ∃ t, refs[k]? = some (.ref t) ∧ H[t]? = some (.tup [.int (px pts k), .int (py pts k)])
theorem PtsAt.ext {H H' : MH} {r : Nat} {pts : List (Int × Int)} (h : PtsAt H r pts) (e : Ext H H') : PtsAt H' r pts := by
  obtain ⟨refs, h1, h2, h3⟩ := h
  exact ⟨refs, e _ _ h1, h2, fun k hk => let ⟨t, q1, q2⟩ := h3 k hk; ⟨t, q1, e _ _ q2⟩⟩
theorem PtsAt.at {c : Cx} {H : MH} {r : Nat} {pts : List (Int × Int)} (h : PtsAt H r pts) (hl : pts.length ≤ 1000) {k : Nat} (hk : k < pts.length) :
    ∃ t, Sq c H (.ref r) (.int k) (.ref t) ∧ Sq c H (.ref t) (.int 0) (.int (px pts k)) ∧ Sq c H (.ref t) (.int 1) (.int (py pts k)) := by
  obtain ⟨refs, h1, h2, h3⟩ := h
  obtain ⟨t, q1, q2⟩ := h3 k hk
  exact ⟨t, Sq.list h1 ⟨by omega, .inl ⟨by omega, by simpa using q1⟩⟩, Sq.tup (n := 0) q2 (by simp) rfl, Sq.tup (n := 1) q2 (by simp) rfl⟩
theorem PtsAt.len {c : Cx} {H : MH} {r : Nat} {pts : List (Int × Int)} (h : PtsAt H r pts) (hl : pts.length ≤ 1000) {post : MV → MH → Prop} (k : post (.int pts.length) H) : BC c (.builtin "len") [.ref r] H post := by
  obtain ⟨refs, h1, h2, h3⟩ := h
  exact BC.len h1 (by omega) (by rw [h2]; exact k)
structure ThrK (G : Gx) (C : Addr) : Prop where
  bs : Bs G
  att : GAtt G C "prime"
  pw : ∃ f, GMth G C "power" f ∧ GDef G f ["self", "a", "n"] k_Field_power_nm k_Field_power []
  inv : ∃ f, GMth G C "inverse" f ∧ GDef G f ["self", "a"] k_Field_inverse_nm k_Field_inverse []
  ov : ∃ f, GMth G C "over" f ∧ GDef G f ["self", "a", "b"] k_Field_over_nm k_Field_over []
  pr : ∃ f, GFn G "product" f ∧ GDef G f ["field", "one", "two"] k_product_nm k_product []
  pl : ∃ f, GFn G "plus" f ∧ GDef G f ["field", "one", "two"] k_plus_nm k_plus []
  tr : ∃ f, GFn G "trimmed" f ∧ GDef G f ["row"] k_trimmed_nm k_trimmed []
theorem bd64 {p : Int} {l : List Int} (h : Bd p l) (hp : p < 2 ^ 60) : ∀ x ∈ l, -(2 ^ 64) < x ∧ x < 2 ^ 64 := fun x hx => by
  have := h x hx
  omega
theorem TB.gen {c : Cx} {m : ML} {a : CSs} {H : MH} {q : Fl → ML → MH → Prop} (h : ∀ p : Fl → ML → MH → Prop, (∀ m H, q .next m H → p .next m H) → TB c m a H p) : TB c m a H q := h q (fun _ _ h => h)
theorem through_cl {G : Gx} {prog : Program} {w : World} {f C : Addr} {i kk r : Nat} {p : Int} {pts : List (Int × Int)} {H : MH} {xp : Addr → List MV → MH → Prop} (D : GDef G f ["field", "points"] k_through_nm k_through [])
    (K : ThrK G C) (hF : Ins H i C kk [("prime", .int p)]) (hp : 2 ≤ p) (hp2 : p < 2 ^ 60) (hP : PtsAt H r pts) (hN : pts.length ≤ 500) (hlow : ∀ n, n < pts.length → tlow p pts n pts.length % p ≠ 0) :
    CL G prog w 4 f [.ref i, .ref r] H (fun v H' => ∃ z, v = .ref z ∧ H.length ≤ z ∧ Ext H H' ∧ H'[z]? = some (.list (intL (thr p pts)))) xp := by
  have bs := K.bs
  have ga := K.att
  obtain ⟨fPW, gPW, dPW⟩ := K.pw
  obtain ⟨fIN, gIN, dIN⟩ := K.inv
  obtain ⟨fOV, gOV, dOV⟩ := K.ov
  obtain ⟨fPR, gPR, dPR⟩ := K.pr
  obtain ⟨fPL, gPL, dPL⟩ := K.pl
  obtain ⟨fTR, gTR, dTR⟩ := K.tr
  refine D.cl rfl ?_
  intro c e1 e2 ok hfm hint hnm hX
  subst e1 e2
  show TB c [some (.ref i), some (.ref r), none, none, none, none, none, none] _ _ _
  unfold k_through
  walk_at "w"
  refine ⟨by decide, ?_⟩
  walk_at "s"
  refine TS.forR ok hfm bs.range (by nofun) ?_ ⟨_, rfl⟩
  walk_at "w"
  refine PtsAt.len (hP.ext ((Ext.refl H).app _)) (by omega) ?_
  walk_at "w"
  refine ⟨0, _, ⟨.inl ⟨rfl, rfl⟩, by omega, by omega, by omega, by omega⟩, fun n m1 H2 => ∃ qo o3 o4 o5 o6 o7, m1 = [some (.ref i), some (.ref r), some (.ref qo), o3, o4, o5, o6, o7] ∧ n ≤ pts.length ∧ Ext H H2 ∧
    H2[qo]? = some (.list (intL (tsum p pts n))), ⟨H.length, none, none, none, none, none, rfl, by omega, (Ext.refl H).app _, get_end⟩, ?_, ?_⟩
  · rintro n m1 H2 xt ⟨qo, o3, o4, o5, o6, o7, rfl, hn, E2, hqo⟩ hlt
    rw [Int.zero_add] at *
    have okx := ok.wx xt
    have hfx : (c.wx xt).fm = none := hfm
    show TB (c.wx xt) [some (.ref i), some (.ref r), some (.ref qo), some (.int (n : Int)), o4, o5, o6, o7] _ _ _
    refine TB.gen fun pp hpp => ?_
    walk_at "w"
    refine ⟨by decide, ?_⟩
    walk_at "s"
    walk_at "s"
    walk_at "s"
    walk_at "s"
    refine TS.forR okx hfx bs.range (by nofun) ?_ ⟨_, rfl⟩
    walk_at "w"
    refine PtsAt.len (hP.ext (E2.app _)) (by omega) ?_
    walk_at "w"
    refine ⟨0, _, ⟨.inl ⟨rfl, rfl⟩, by omega, by omega, by omega, by omega⟩, fun k m1 H3 => ∃ qr o6, m1 = [some (.ref i), some (.ref r), some (.ref qo), some (.int (n : Int)), some (.ref qr), some (.int (tlow p pts n k)), o6, o7] ∧ k ≤ pts.length ∧ Ext H2 H3 ∧
      H3[qr]? = some (.list (intL (trow p pts n k))), ⟨H2.length, o6, rfl, by omega, (Ext.refl H2).app _, get_end⟩, ?_, ?_⟩
    · rintro k m1 H3 xt2 ⟨qr, o6, rfl, hk, E3, hqr⟩ hltk
      rw [Int.zero_add] at *
      have okx2 := okx.wx xt2
      have hfx2 : ((c.wx xt).wx xt2).fm = none := hfm
      show TB ((c.wx xt).wx xt2) [some (.ref i), some (.ref r), some (.ref qo), some (.int (n : Int)), some (.ref qr), some (.int (tlow p pts n k)), some (.int (k : Int)), o7] _ _ _
      refine TB.gen fun qq hqq => ?_
      have hF3 := (E2.trans E3).ins hF
      have lb := tlow_bd (pts := pts) (i := n) (n := k) hp
      walk_at "w"
      refine ⟨_, rfl, fun h => ?_, fun h => ?_⟩
      · have h : ¬ k = n := by
          intro e
          subst e
          simp at h
        obtain ⟨t, a1, a2, a3⟩ := (hP.ext (E2.trans E3)).at (c := (c.wx xt).wx xt2) (by omega) (show k < pts.length by omega)
        walk_at "w"
        refine ⟨_, a1, ?_⟩
        walk_at "w"
        refine ⟨_, a2, ?_⟩
        walk_at "w"
        refine ⟨by simp, ?_⟩
        have E4 : Ext H3 (H3 ++ [.list [.int (-px pts k % p), .int 1]]) := (Ext.refl H3).app _
        have hl := (trow_len (p := p) (pts := pts) (i := n) k).2
        walk_at "s"
        refine (product_cl (a := trow p pts n k) (b := [-px pts k % p, 1]) dPR bs ga (E4.ins hF3) hp (E4 _ _ hqr) get_end (by omega) (by simp) (bd64 (trow_bd hp) hp2)).use (d' := 3) (by decide) ?_
        rintro _ H5 ⟨z, rfl, hz, E5, hz5⟩
        have E35 := E4.trans E5
        have hF5 := E35.ins hF3
        obtain ⟨t1, b1, b2, b3⟩ := (hP.ext ((E2.trans E3).trans E35)).at (c := (c.wx xt).wx xt2) (by omega) (show n < pts.length by omega)
        obtain ⟨t2, d1, d2, d3⟩ := (hP.ext ((E2.trans E3).trans E35)).at (c := (c.wx xt).wx xt2) (by omega) (show k < pts.length by omega)
        walk_at "w"
        refine ⟨_, b1, ?_⟩
        walk_at "w"
        refine ⟨_, b2, ?_⟩
        walk_at "w"
        refine ⟨_, d1, ?_⟩
        walk_at "w"
        refine ⟨_, d2, ?_⟩
        walk_at "w"
        refine hqq _ _ ⟨z, some (.int (k : Int)), ?_, by omega, E3.trans E35, ?_⟩
        · unfold tlow
          rw [range_fold, tlowS, if_neg h]
          rfl
        · rw [hz5]
          unfold trow
          rw [range_fold, trowS, if_neg h]
      · have h : k = n := by
          simp at h
          omega
        walk_at "w"
        refine hqq _ _ ⟨qr, some (.int (k : Int)), ?_, by omega, E3, ?_⟩
        · unfold tlow
          rw [range_fold, tlowS, if_pos h]
        · rw [hqr]
          unfold trow
          rw [range_fold, trowS, if_pos h]
    · intro m1 H3 hJ
      have eN : ((pts.length : Int) - 0).toNat = pts.length := by omega
      rw [eN] at hJ
      obtain ⟨qr, o6, rfl, hk, E3, hqr⟩ := hJ
      have hF3 := (E2.trans E3).ins hF
      obtain ⟨t1, b1, b2, b3⟩ := (hP.ext (E2.trans E3)).at (c := c.wx xt) (by omega) (show n < pts.length by omega)
      walk_at "w"
      refine ⟨_, b1, ?_⟩
      walk_at "w"
      refine ⟨_, b3, ?_⟩
      walk_at "w"
      refine (over_cl dOV dIN gIN dPW gPW ga hF3 hp hp2 (hlow n (by omega))).use (by decide) ?_
      rintro _ H9 ⟨rfl, rfl⟩
      have fb : 0 ≤ tfac p pts n ∧ tfac p pts n < p := md (by omega)
      have hfac : py pts n * (tlow p pts n pts.length ^ (p - 2).toNat % p) % p = tfac p pts n := rfl
      rw [hfac]
      walk_at "w"
      refine TE.comp okx (Src.list okx ?_)
      walk_at "w"
      have hl := (trow_len (p := p) (pts := pts) (i := n) pts.length).2
      refine ⟨_, _, _, rfl, hqr, Turns.list (xs := intL (trow p pts n pts.length)) (by rw [List.length_map]; omega) (fun k ys H4 => H4 = H9 ∧ k ≤ (trow p pts n pts.length).length ∧ ys = intL (((trow p pts n pts.length).take k).map fun a => a * tfac p pts n % p)) ⟨rfl, by omega, rfl⟩ ?_ ?_ ?_⟩
      · rintro k ys H4 ⟨rfl, hk, rfl⟩
        exact ⟨by simp; omega, hqr⟩
      · rintro k ys H4 v ⟨rfl, hk, rfl⟩ hv
        obtain ⟨a, rfl, ha⟩ := intL_get hv
        refine ⟨[.int a], rfl, ?_⟩
        intro c' sub hnm'
        have ok' := sub.ok
        refine ⟨fun q => (by cases q), fun _ => ?_⟩
        show TE c' [some (.ref i), some (.ref r), some (.ref qo), some (.int (n : Int)), some (.ref qr), some (.int _), o6, some (.int (tfac p pts n)), some (.int a)] _ _ _
        walk_at "w"
        have hkl := (List.getElem?_eq_some_iff.mp ha).1
        refine ⟨rfl, by omega, ?_⟩
        rw [List.take_add_one, ha]
        simp [intL]
      · rintro ys H4 ⟨rfl, hk, rfl⟩
        rw [List.length_map, List.take_length]
        have hl2 := tsum_len (p := p) (pts := pts) n
        walk_at "w"
        refine (plus_cl (a := tsum p pts n) (b := (trow p pts n pts.length).map fun a => a * tfac p pts n % p) dPL bs ga (((Ext.refl H4).app _).ins hF3) hp (get_app (E3 _ _ hqo)) get_end (by omega) (by rw [List.length_map]; omega)).use (by decide) ?_
        rintro _ _ ⟨rfl, rfl⟩
        walk_at "w"
        refine hpp _ _ ⟨_, _, _, _, _, _, rfl, by omega, ((E2.trans E3).app _).app _, ?_⟩
        rw [get_end]
        unfold tsum
        rw [range_fold]
        rfl
  · intro m1 H2 hJ
    have eN : ((pts.length : Int) - 0).toNat = pts.length := by omega
    rw [eN] at hJ
    obtain ⟨qo, o3, o4, o5, o6, o7, rfl, hn, E2, hqo⟩ := hJ
    have hl2 := tsum_len (p := p) (pts := pts) pts.length
    walk_at "w"
    refine (trimmed_cl dTR bs hqo (by omega)).use (by decide) ?_
    rintro _ _ ⟨rfl, rfl⟩
    exact ⟨_, rfl, E2.len, E2.app _, get_end⟩
noncomputable def Cg (p a b : Int) : Prop := a % p = b % p
theorem Cg.rfl {p a : Int} : Cg p a a := Eq.refl _
theorem Cg.of {p a b : Int} (h : a = b) : Cg p a b := by rw [h]; exact Cg.rfl
theorem Cg.symm {p a b : Int} (h : Cg p a b) : Cg p b a := Eq.symm h
theorem Cg.trans {p a b c : Int} (h : Cg p a b) (g : Cg p b c) : Cg p a c := Eq.trans h g
theorem Cg.md {p a : Int} : Cg p (a % p) a := Int.emod_emod_of_dvd _ (Int.dvd_refl p)
theorem Cg.add {p a b c d : Int} (h : Cg p a b) (g : Cg p c d) : Cg p (a + c) (b + d) := by
  unfold Cg at *; rw [Int.add_emod, h, g, ← Int.add_emod]
theorem Cg.mul {p a b c d : Int} (h : Cg p a b) (g : Cg p c d) : Cg p (a * c) (b * d) := by
  unfold Cg at *; rw [Int.mul_emod, h, g, ← Int.mul_emod]
theorem Cg.neg {p a b : Int} (h : Cg p a b) : Cg p (-a) (-b) := by
  have := Cg.mul (Cg.rfl (p := p) (a := -1)) h
  simpa using this
theorem Cg.sub {p a b c d : Int} (h : Cg p a b) (g : Cg p c d) : Cg p (a - c) (b - d) := by
  rw [Int.sub_eq_add_neg, Int.sub_eq_add_neg]; exact h.add g.neg
theorem Cg.pow {p a b : Int} (h : Cg p a b) : ∀ n : Nat, Cg p (a ^ n) (b ^ n)
  | 0 => Cg.of (by simp)
  | n + 1 => by rw [Int.pow_succ, Int.pow_succ]; exact (Cg.pow h n).mul h
theorem Cg.small {p a b : Int} (h : Cg p a b) (a1 : 0 ≤ a ∧ a < p) (b1 : 0 ≤ b ∧ b < p) : a = b := by
  unfold Cg at h; rwa [Int.emod_eq_of_lt a1.1 a1.2, Int.emod_eq_of_lt b1.1 b1.2] at h
theorem Cg.zero {p a : Int} : Cg p a 0 ↔ a % p = 0 := by unfold Cg; rw [Int.zero_emod]
noncomputable def pz (row : List Int) (x : Int) : Int := row.foldr (fun a acc => acc * x + a) 0
theorem pz_nil (x : Int) : pz [] x = 0 := rfl
theorem pz_cons (a : Int) (l : List Int) (x : Int) : pz (a :: l) x = pz l x * x + a := rfl
theorem pval_pz (p : Int) : ∀ (row : List Int) (x : Int), Cg p (pval p row x) (pz row x)
  | [], _ => Cg.rfl
  | a :: l, x => Cg.md.trans ((Cg.mul (pval_pz p l x) Cg.rfl).add Cg.rfl)
theorem pval_bd {p : Int} (hp : 0 < p) : ∀ (row : List Int) (x : Int), 0 ≤ pval p row x ∧ pval p row x < p
  | [], _ => ⟨Int.le_refl _, hp⟩
  | a :: l, x => md hp
theorem pz_app (x : Int) : ∀ (l : List Int) (a : Int), pz (l ++ [a]) x = pz l x + a * x ^ l.length
  | [], a => by simp [pz]
  | b :: l, a => by
    rw [List.cons_append, pz_cons, pz_cons, pz_app x l a, List.length_cons, Int.pow_succ]
    grind
theorem pz_take (x : Int) (l : List Int) (n : Nat) : pz (l.take (n + 1)) x = pz (l.take n) x + l.getD n 0 * x ^ n := by
  by_cases h : n < l.length
  · rw [List.take_add_one, List.getElem?_eq_getElem h]
    simp only [Option.toList_some]
    rw [pz_app, List.length_take, Nat.min_eq_left (by omega), List.getD_eq_getElem?_getD, List.getElem?_eq_getElem h]
    rfl
  · rw [List.take_of_length_le (by omega), List.take_of_length_le (by omega), List.getD_eq_getElem?_getD, List.getElem?_eq_none (by omega)]
    simp
theorem pz_set (x : Int) : ∀ (l : List Int) (t : Nat) (v : Int), t < l.length → pz (l.set t v) x = pz l x + (v - l.getD t 0) * x ^ t
  | [], _, _, h => by simp at h
  | a :: l, 0, v, _ => by
    rw [List.set_cons_zero, pz_cons, pz_cons]
    simp
    omega
  | a :: l, t + 1, v, h => by
    rw [List.set_cons_succ, pz_cons, pz_cons, pz_set x l t v (by simpa using h), Int.pow_succ]
    simp only [List.getD_cons_succ]
    grind
theorem pz_range (x : Int) (f : Nat → Int) (n : Nat) : pz ((List.range (n + 1)).map f) x = pz ((List.range n).map f) x + f n * x ^ n := by
  rw [List.range_succ, List.map_append, List.map_singleton, pz_app]
  simp
theorem padd_pz (p x : Int) (a b : List Int) : Cg p (pz (padd p a b) x) (pz a x + pz b x) := by
  have key : ∀ n : Nat, Cg p (pz ((List.range n).map fun k => (a.getD k 0 + b.getD k 0) % p) x) (pz (a.take n) x + pz (b.take n) x) := by
    intro n
    induction n with
    | zero => simp [pz]; exact Cg.rfl
    | succ n ih =>
      rw [pz_range, pz_take, pz_take]
      refine (ih.add (Cg.md.mul Cg.rfl)).trans (Cg.of ?_)
      grind
  have h := key (max a.length b.length)
  rw [List.take_of_length_le (by omega), List.take_of_length_le (by omega)] at h
  exact h
theorem scale_pz (p x f : Int) : ∀ l : List Int, Cg p (pz (l.map fun a => a * f % p) x) (pz l x * f)
  | [] => by simp [pz]; exact Cg.rfl
  | a :: l => by
    rw [List.map_cons, pz_cons, pz_cons]
    refine (((scale_pz p x f l).mul Cg.rfl).add Cg.md).trans (Cg.of ?_)
    grind
theorem prow_pz (p x : Int) (a b out : List Int) (i : Nat) (h : i + b.length ≤ out.length) : Cg p (pz (prow p a b out i) x) (pz out x + a.getD i 0 * x ^ i * pz b x) := by
  have key : ∀ n : Nat, n ≤ b.length → Cg p (pz ((List.range n).foldl (pstep p a b i) out) x) (pz out x + a.getD i 0 * x ^ i * pz (b.take n) x) := by
    intro n
    induction n with
    | zero => intro _; simp [pz]; exact Cg.rfl
    | succ n ih =>
      intro hn
      have hl : ((List.range n).foldl (pstep p a b i) out).length = out.length := fold_len (fun _ _ => pstep_len) _ _
      have ih := ih (by omega)
      rw [range_fold, pz_take]
      generalize (List.range n).foldl (pstep p a b i) out = o at ih hl ⊢
      unfold pstep
      rw [pz_set x o (i + n) _ (by omega)]
      refine (ih.add ((Cg.md.sub Cg.rfl).mul Cg.rfl)).trans (Cg.of ?_)
      rw [Int.pow_add]
      grind
  have h2 := key b.length (Nat.le_refl _)
  rw [List.take_length] at h2
  exact h2
theorem pz_rep (x : Int) : ∀ n : Nat, pz (List.replicate n 0) x = 0
  | 0 => rfl
  | n + 1 => by rw [List.replicate_succ, pz_cons, pz_rep x n]; simp
theorem pmul_pz (p x : Int) (a b : List Int) : Cg p (pz (pmul p a b) x) (pz a x * pz b x) := by
  unfold pmul
  split
  · rename_i h
    rcases h with h | h
    · rw [List.eq_nil_of_length_eq_zero h]; simp [pz]; exact Cg.rfl
    · rw [List.eq_nil_of_length_eq_zero h]; simp [pz]; exact Cg.rfl
  · rename_i h
    have key : ∀ n : Nat, n ≤ a.length → Cg p (pz ((List.range n).foldl (prow p a b) (List.replicate (a.length + b.length - 1) 0)) x) (pz (a.take n) x * pz b x) := by
      intro n
      induction n with
      | zero => intro _; simp [pz_rep, pz_nil]; exact Cg.rfl
      | succ n ih =>
        intro hn
        have hl : ((List.range n).foldl (prow p a b) (List.replicate (a.length + b.length - 1) 0)).length = a.length + b.length - 1 := by rw [fold_len (fun _ _ => prow_len)]; simp
        have ih := ih (by omega)
        rw [range_fold, pz_take]
        generalize (List.range n).foldl (prow p a b) (List.replicate (a.length + b.length - 1) 0) = o at ih hl ⊢
        refine ((prow_pz p x a b o n (by omega)).trans (ih.add Cg.rfl)).trans (Cg.of ?_)
        grind
    have h2 := key a.length (Nat.le_refl _)
    rw [List.take_length] at h2
    exact h2
theorem trim_pz (x : Int) : ∀ (n : Nat) (l : List Int), l.length = n → pz (trim l) x = pz l x
  | 0, l, h => by rw [List.eq_nil_of_length_eq_zero h]; rfl
  | n + 1, l, h => by
    rcases List.eq_nil_or_concat l with rfl | ⟨zs, a, rfl⟩
    · rfl
    · rw [List.concat_eq_append] at *
      by_cases e : a = 0
      · subst e
        rw [trim_zero, pz_app, trim_pz x n zs (by simpa using h)]
        simp
      · rw [trim_last e]
theorem trim_len : ∀ (n : Nat) (l : List Int), l.length = n → (trim l).length ≤ l.length
  | 0, l, h => by rw [List.eq_nil_of_length_eq_zero h]; simp [trim]
  | n + 1, l, h => by
    rcases List.eq_nil_or_concat l with rfl | ⟨zs, a, rfl⟩
    · simp [trim]
    · rw [List.concat_eq_append] at *
      by_cases e : a = 0
      · subst e
        rw [trim_zero]
        have := trim_len n zs (by simpa using h)
        simp
        omega
      · rw [trim_last e]; exact Nat.le_refl _
structure Fer (p : Int) : Prop where
  two : 2 ≤ p
  inv : ∀ a : Int, a % p ≠ 0 → Cg p (a * a ^ (p - 2).toNat) 1
theorem Fer.mul {p a b : Int} (F : Fer p) (ha : a % p ≠ 0) (hb : b % p ≠ 0) : a * b % p ≠ 0 := by
  intro h
  have h1 : Cg p (a * b) 0 := Cg.zero.mpr h
  have h2 := (h1.mul (Cg.rfl (a := b ^ (p - 2).toNat)))
  have h3 : Cg p (a * b * b ^ (p - 2).toNat) a := by
    rw [Int.mul_assoc]
    have := (Cg.rfl (p := p) (a := a)).mul (F.inv b hb)
    rwa [Int.mul_one] at this
  rw [Int.zero_mul] at h2
  exact ha (Cg.zero.mp (h3.symm.trans h2))
theorem Fer.of {p : Int} (h2 : 2 ≤ p) (h : ∀ a : Nat, a < p.toNat → a ≠ 0 → ((a : Int) * (a : Int) ^ (p - 2).toNat) % p = 1) : Fer p := by
  refine ⟨h2, fun a ha => ?_⟩
  have hm := md (a := a) (p := p) (by omega)
  have := h (a % p).toNat (by omega) (by omega)
  have e : (((a % p).toNat : Nat) : Int) = a % p := by omega
  rw [e] at this
  have h3 : Cg p (a % p * (a % p) ^ (p - 2).toNat) 1 := by
    unfold Cg
    rw [this, Int.emod_eq_of_lt (by omega) (by omega)]
  exact ((Cg.md.mul (Cg.md.pow _)).symm).trans h3
noncomputable def tpr (pts : List (Int × Int)) (i : Nat) (x : Int) (n : Nat) : Int := (List.range n).foldl (fun l j => if j = i then l else l * (x - px pts j)) 1
theorem trow_pz (p x : Int) (pts : List (Int × Int)) (i : Nat) : ∀ n : Nat, Cg p (pz (trow p pts i n) x) (tpr pts i x n)
  | 0 => by simp [trow, tpr, pz]; exact Cg.rfl
  | n + 1 => by
    have ih := trow_pz p x pts i n
    unfold trow tpr at ih ⊢
    rw [range_fold, range_fold]
    generalize (List.range n).foldl (trowS p pts i) [1] = r at ih ⊢
    unfold trowS
    split
    · exact ih
    · refine (pmul_pz p x _ _).trans (ih.mul ?_)
      have : pz [-px pts n % p, 1] x = x + -px pts n % p := by simp [pz]
      rw [this, Int.sub_eq_add_neg]
      exact Cg.rfl.add Cg.md
theorem tlow_tpr (p : Int) (pts : List (Int × Int)) (i : Nat) : ∀ n : Nat, Cg p (tlow p pts i n) (tpr pts i (px pts i) n)
  | 0 => by simp [tlow, tpr]; exact Cg.rfl
  | n + 1 => by
    have ih := tlow_tpr p pts i n
    unfold tlow tpr at ih ⊢
    rw [range_fold, range_fold]
    unfold tlowS at ih ⊢
    split
    · exact ih
    · exact Cg.md.trans (ih.mul Cg.rfl)
theorem tpr_zero (pts : List (Int × Int)) (i m : Nat) (hm : m ≠ i) : ∀ n : Nat, m < n → tpr pts i (px pts m) n = 0
  | 0, h => by omega
  | n + 1, h => by
    unfold tpr
    rw [range_fold]
    by_cases e : m = n
    · subst e
      rw [if_neg hm]
      simp
    · have ih := tpr_zero pts i m hm n (by omega)
      unfold tpr at ih
      rw [ih]
      split <;> simp
noncomputable def tsm (p : Int) (pts : List (Int × Int)) (x : Int) (n : Nat) : Int := (List.range n).foldl (fun o i => o + tpr pts i x pts.length * tfac p pts i) 0
theorem tsum_pz (p x : Int) (pts : List (Int × Int)) : ∀ n : Nat, Cg p (pz (tsum p pts n) x) (tsm p pts x n)
  | 0 => by simp [tsum, tsm, pz]; exact Cg.rfl
  | n + 1 => by
    have ih := tsum_pz p x pts n
    unfold tsum tsm at ih ⊢
    rw [range_fold, range_fold]
    unfold tsumS at ih ⊢
    refine (padd_pz p x _ _).trans (ih.add ?_)
    exact (scale_pz p x _ _).trans ((trow_pz p x pts n _).mul Cg.rfl)
theorem tsm_at {p : Int} {pts : List (Int × Int)} {m : Nat} (hm : m < pts.length) : ∀ n : Nat, n ≤ pts.length → tsm p pts (px pts m) n = if m < n then tpr pts m (px pts m) pts.length * tfac p pts m else 0
  | 0, _ => by simp [tsm]
  | n + 1, h => by
    have ih := tsm_at (p := p) hm n (by omega)
    unfold tsm at ih ⊢
    rw [range_fold, ih]
    by_cases e : m = n
    · subst e
      simp
    · rw [tpr_zero pts n m e pts.length hm]
      by_cases q : m < n
      · rw [if_pos q, if_pos (by omega)]; simp
      · rw [if_neg q, if_neg (by omega)]; simp
theorem tlow_ne {p : Int} {pts : List (Int × Int)} (F : Fer p) (hd : ∀ i j, i < pts.length → j < pts.length → i ≠ j → (px pts i - px pts j) % p ≠ 0) {i : Nat} (hi : i < pts.length) : ∀ n : Nat, n ≤ pts.length → tlow p pts i n % p ≠ 0
  | 0, _ => by
    have := F.two
    simp only [tlow, List.range_zero, List.foldl_nil]
    rw [Int.emod_eq_of_lt (by omega) (by omega)]
    omega
  | n + 1, h => by
    have ih := tlow_ne F hd hi n (by omega)
    unfold tlow at ih ⊢
    rw [range_fold]
    unfold tlowS at ih ⊢
    split
    · exact ih
    · rw [Int.emod_emod_of_dvd _ (Int.dvd_refl p)]
      exact F.mul ih (hd i n hi (by omega) (by omega))
theorem thr_val {p : Int} {pts : List (Int × Int)} (F : Fer p) (hd : ∀ i j, i < pts.length → j < pts.length → i ≠ j → (px pts i - px pts j) % p ≠ 0) {m : Nat} (hm : m < pts.length) : pval p (thr p pts) (px pts m) = py pts m % p := by
  have hp := F.two
  refine Cg.small ?_ (pval_bd (by omega) _ _) (md (by omega))
  refine (pval_pz p _ _).trans ?_
  unfold thr
  rw [trim_pz _ _ _ rfl]
  refine (tsum_pz p _ pts _).trans ?_
  rw [tsm_at hm _ (Nat.le_refl _), if_pos hm]
  unfold tfac
  have h1 := (tlow_tpr p pts m pts.length).symm
  have h2 := F.inv _ (tlow_ne F hd hm _ (Nat.le_refl _))
  refine (h1.mul (Cg.md.trans (Cg.rfl.mul Cg.md))).trans ?_
  refine (Cg.of ?_).trans (((Cg.rfl (a := py pts m)).mul h2).trans ?_)
  · grind
  · rw [Int.mul_one]; exact Cg.md.symm
theorem trow_length {p : Int} {pts : List (Int × Int)} {i : Nat} : ∀ n : Nat, (trow p pts i n).length = n + 1 - (if i < n then 1 else 0)
  | 0 => by simp [trow]
  | n + 1 => by
    have ih := trow_length (p := p) (pts := pts) (i := i) n
    have hp := (trow_len (p := p) (pts := pts) (i := i) n).1
    unfold trow at ih hp ⊢
    rw [range_fold]
    generalize (List.range n).foldl (trowS p pts i) [1] = r at ih hp ⊢
    unfold trowS
    split
    · rename_i e
      subst e
      rw [ih]
      simp
    · rename_i e
      rw [pmul_len (by omega) (by simp), ih]
      by_cases q : i < n
      · rw [if_pos q, if_pos (by omega)]; simp
      · rw [if_neg q, if_neg (by omega)]; simp
theorem tsum_length {p : Int} {pts : List (Int × Int)} : ∀ n : Nat, n ≤ pts.length → (tsum p pts n).length ≤ pts.length
  | 0, _ => by simp [tsum]
  | n + 1, h => by
    have ih := tsum_length (p := p) (pts := pts) n (by omega)
    have h2 := trow_length (p := p) (pts := pts) (i := n) pts.length
    rw [if_pos (by omega)] at h2
    unfold tsum at ih ⊢
    rw [range_fold]
    unfold tsumS at ih ⊢
    rw [padd_len, List.length_map]
    omega
theorem thr_length (p : Int) (pts : List (Int × Int)) : (thr p pts).length ≤ pts.length :=
  Nat.le_trans (trim_len _ _ rfl) (tsum_length _ (Nat.le_refl _))
abbrev cf (l : List Int) (k : Nat) : Int := l.getD k 0
theorem cf_out {l : List Int} {k : Nat} (h : l.length ≤ k) : cf l k = 0 := by
  unfold cf
  rw [List.getD_eq_getElem?_getD, List.getElem?_eq_none h]; rfl
theorem trim_mem {x : Int} {l : List Int} (h : x ∈ trim l) : x ∈ l := by
  unfold trim at h
  rw [List.mem_reverse] at h
  exact List.mem_reverse.mp ((List.dropWhile_sublist _).mem h)
theorem Bd.trim {p : Int} {l : List Int} (h : Bd p l) : Bd p (trim l) := fun x hx => h x (trim_mem hx)
theorem padd_bd {p : Int} {a b : List Int} (hp : 0 < p) : Bd p (padd p a b) := fun x hx => by
  unfold padd at hx
  obtain ⟨k, _, rfl⟩ := List.mem_map.mp hx
  exact md hp
noncomputable def cell (ns : List Int) (k : Nat) : Int := ns.getD k 0
noncomputable def k_law_cell_nm : List Str := ["script", "k"]
noncomputable def k_law_cell : CSs := (.cons (.ite (.cmp .Lt (.loc 1) (.call "len" (.cons (.loc 0) .nil))) (.cons (.ret (.sub (.loc 0) (.loc 1)))
  .nil) .nil)
  (.cons (.ret (.int 0))
  .nil))
theorem law_cell_cl {G : Gx} {prog : Program} {w : World} {f sa : Addr} {ns : List Int} {k : Int} {H : MH} {xp : Addr → List MV → MH → Prop} (D : GDef G f ["script", "k"] k_law_cell_nm k_law_cell [])
    (bs : Bs G) (S : ScrG G sa ns) (hk : 0 ≤ k) : CL G prog w 1 f [.glob sa, .int k] H (fun v H' => v = .int (cell ns k.toNat) ∧ H' = H) xp := by
  refine D.cl rfl ?_
  intro c e1 e2 ok hfm hint hnm hX
  have Sc := S.scr ok
  show TB c [some (.glob sa), some (.int k)] _ _ _
  unfold k_law_cell
  walk_at "w"
  refine ⟨_, rfl, fun h => ?_, fun h => ?_⟩
  · have h : k < ns.length := by simpa using h
    walk_at "w"
    refine ⟨_, Sc.at hk h, ?_⟩
    exact ⟨rfl, rfl⟩
  · have h : ¬ k < ns.length := by simpa using h
    walk_at "w"
    refine ⟨?_, rfl⟩
    show MV.int 0 = MV.int (cell ns k.toNat)
    congr 1
    exact (cf_out (by omega)).symm
structure LawK (G : Gx) (sa : Addr) (ns : List Int) : Prop where
  bs : Bs G
  scr : ScrG G sa ns
  cell : ∃ f, GFn G "_law_cell" f ∧ GDef G f ["script", "k"] k_law_cell_nm k_law_cell []
inductive CellI : MV → Int → Prop where
  | mk {k : Int} (h : 0 ≤ k) : CellI (.int k) k
theorem TE.cell {c : Cx} {m : ML} {H : MH} {G : Gx} {d : Nat} {sa : Addr} {ns : List Int} (ok : Ok G c d) (hd : 1 ≤ d) (L : LawK G sa ns) {i : Nat} {e : CE} {post : MV → MH → Prop} (hm : m[i]? = some (some (.glob sa)))
    (h : TE c m e H (fun v H1 => ∃ k, CellI v k ∧ post (.int (cell ns k.toNat)) H1)) : TE c m (.call "_law_cell" (.cons (.loc i) (.cons e .nil))) H post := by
  obtain ⟨f, g, D⟩ := L.cell
  refine TE.call ok g (TEs.cons (TE.loc ok hm (TEs.cons (h.mono ?_))))
  rintro _ H1 ⟨k, ⟨hk⟩, hp⟩
  refine TEs.nil ?_
  refine (law_cell_cl D L.bs L.scr hk).use hd ?_
  rintro _ _ ⟨rfl, rfl⟩
  exact hp
noncomputable def k_shown_nm : List Str := ["value"]
noncomputable def k_shown : CSs := (.cons (.ite (.cmp .Is (.call "type" (.cons (.loc 0) .nil)) (.glob "str")) (.cons (.ret (.slice (.loc 0) CO.none (.some (.int 40))))
  .nil) .nil)
  (.cons (.ite (.and (.cons (.cmp .Is (.call "type" (.cons (.loc 0) .nil)) (.glob "int")) (.cons (.cmp2 (.neg (.bin .Pow (.int 10) (.int 9))) .Lt (.loc 0) .Lt (.bin .Pow (.int 10) (.int 9))) .nil))) (.cons (.ret (.call "str" (.cons (.loc 0) .nil)))
  .nil) .nil)
  (.cons (.ret (.str "something else"))
  .nil)))
noncomputable def k_Source_init_nm : List Str := ["self", "seed"]
noncomputable def k_Source_init : CSs := (.cons (.setAttr (.loc 0) "state" (.bin .Mod (.call "need_number" (.cons (.loc 1) (.cons (.int 0) (.cons (.bin .LShift (.int 1) (.int 62)) (.cons (.str "seed") .nil))))) (.bin .LShift (.int 1) (.int 31))))
  (.cons (.setAttr (.loc 0) "drawn" (.int 0))
  .nil))
noncomputable def k_Source_draw_nm : List Str := ["self", "below"]
noncomputable def k_Source_draw : CSs := (.cons (.expr (.call "need_number" (.cons (.loc 1) (.cons (.int 1) (.cons (.bin .LShift (.int 1) (.int 20)) (.cons (.str "bound") .nil))))))
  (.cons (.setAttr (.loc 0) "state" (.bin .Mod (.bin .Add (.bin .Mult (.attr (.loc 0) "state") (.int 1103515245)) (.int 12345)) (.bin .LShift (.int 1) (.int 31))))
  (.cons (.setAttr (.loc 0) "drawn" (.bin .Add (.attr (.loc 0) "drawn") (.int 1)))
  (.cons (.ret (.bin .Mod (.bin .RShift (.attr (.loc 0) "state") (.int 9)) (.loc 1)))
  .nil))))
noncomputable def k_Source_row_nm : List Str := ["self", "count", "below"]
noncomputable def k_Source_row : CSs := (.cons (.ret (.comp (.meth (.loc 0) "draw" (.cons (.loc 2) .nil)) ["k"] (.call "range" (.cons (.loc 1) .nil)) .nil))
  .nil)
theorem e20 : (1 : Int) * 2 ^ (20 : Int).toNat = 1048576 := rfl
theorem e31 : (1 : Int) * 2 ^ (31 : Int).toNat = 2147483648 := rfl
theorem e62 : (1 : Int) * 2 ^ (62 : Int).toNat = 4611686018427387904 := rfl
structure NeedK (G : Gx) (CE : Addr) : Prop where
  bs : Bs G
  sh : ∃ f, GFn G "shown" f ∧ GDef G f ["value"] k_shown_nm k_shown []
  nn : ∃ f, GFn G "need_number" f ∧ GDef G f ["value", "least", "most", "what"] k_need_number_nm k_need_number []
  ex : GExc G "ShareError" CE bmV
noncomputable def nxt (s : Int) : Int := (s * 1103515245 + 12345) % 2147483648
noncomputable def drw (s b : Int) : Int := nxt s / 512 % b
theorem nxt_bd (s : Int) : 0 ≤ nxt s ∧ nxt s < 2147483648 := ⟨Int.emod_nonneg _ (by decide), Int.emod_lt_of_pos _ (by decide)⟩
structure SrcK (G : Gx) (C : Addr) : Prop where
  bs : Bs G
  nn : ∃ f, GFn G "need_number" f ∧ GDef G f ["value", "least", "most", "what"] k_need_number_nm k_need_number []
  cls : ∃ f, GCls G "Source" C f ∧ GDef G f ["self", "seed"] k_Source_init_nm k_Source_init []
  a1 : GAtt G C "state"
  a2 : GAtt G C "drawn"
  s1 : GSto G C "state"
  s2 : GSto G C "drawn"
  dr : ∃ f, GMth G C "draw" f ∧ GDef G f ["self", "below"] k_Source_draw_nm k_Source_draw []
noncomputable abbrev srcF (s n : Int) : List (Str × MV) := [("state", .int s), ("drawn", .int n)]
noncomputable abbrev srcF1 (s : Int) : List (Str × MV) := [("state", .int s)]
theorem ins_set {H : MH} {i kk : Nat} {C : Addr} {fs gs : List (Str × MV)} (h : Ins H i C kk fs) : Ins (H.set kk (.ns gs)) i C kk gs := by
  have hne : kk ≠ i := by
    rintro rfl
    have := h.1.symm.trans h.2
    cases this
  refine ⟨?_, ?_⟩
  · rw [List.getElem?_set_ne hne]; exact h.1
  · rw [List.getElem?_set_self']; rw [h.2]; rfl
theorem set_same {H : MH} {a : Nat} {o : MO} (h : H[a]? = some o) : H.set a o = H := by
  apply List.ext_getElem?
  intro j
  by_cases e : a = j
  · subst e; rw [get_set h, h]
  · rw [List.getElem?_set_ne e]
theorem draw_cl {G : Gx} {prog : Program} {w : World} {f C : Addr} {i kk : Nat} {s n b : Int} {H : MH} {xp : Addr → List MV → MH → Prop} (K : SrcK G C) (D : GDef G f ["self", "below"] k_Source_draw_nm k_Source_draw [])
    (hS : Ins H i C kk (srcF s n)) (hs : 0 ≤ s ∧ s < 2147483648) (b0 : 1 ≤ b) (b1 : b ≤ 1048576) :
    CL G prog w 2 f [.ref i, .int b] H (fun v H' => v = .int (drw s b) ∧ H' = H.set kk (.ns (srcF (nxt s) (n + 1)))) xp := by
  have bs := K.bs
  obtain ⟨fN, gN, dN⟩ := K.nn
  have a1 := K.a1
  have a2 := K.a2
  have s1 := K.s1
  have s2 := K.s2
  have hs1 := hs.1
  have hs2 := hs.2
  refine D.cl rfl ?_
  intro c e1 e2 ok hfm hint hnm hX
  subst e1 e2
  show TB c [some (.ref i), some (.int b)] _ _ _
  unfold k_Source_draw
  walk_at "w"
  rw [e20]
  refine (need_number_cl dN bs b0 b1).use (Nat.le_refl _) ?_
  rintro _ _ ⟨rfl, rfl⟩
  walk_at "w"
  rw [e31]
  walk_at "w"
  have i1 := ins_set (gs := srcF (nxt s) n) hS
  have p1 : putF "state" (.int ((s * 1103515245 + 12345) % 2147483648)) (srcF s n) = srcF (nxt s) n := rfl
  rw [p1]
  walk_at "w"
  have i2 := ins_set (gs := srcF (nxt s) (n + 1)) i1
  have p2 : putF "drawn" (.int (n + 1)) (srcF (nxt s) n) = srcF (nxt s) (n + 1) := rfl
  rw [p2]
  walk_at "w"
  rw [show (2 : Int) ^ (9 : Int).toNat = 512 from rfl, Int.fdiv_eq_ediv_of_nonneg _ (by decide)]
  refine ⟨rfl, ?_⟩
  rw [List.set_set]
noncomputable def drws (b : Int) : Nat → Int → List Int
  | 0, _ => []
  | n + 1, s => drws b n s ++ [drw (Nat.repeat nxt n s) b]
theorem drws_len (b : Int) : ∀ (n : Nat) (s : Int), (drws b n s).length = n
  | 0, _ => rfl
  | n + 1, s => by simp [drws, drws_len b n s]
theorem drw_bd {s b : Int} (hb : 0 < b) : 0 ≤ drw s b ∧ drw s b < b := ⟨Int.emod_nonneg _ (by omega), Int.emod_lt_of_pos _ hb⟩
theorem drws_bd {b : Int} (hb : 0 < b) : ∀ (n : Nat) (s x : Int), x ∈ drws b n s → 0 ≤ x ∧ x < b
  | 0, _, _, h => by cases h
  | n + 1, s, x, h => by
    simp only [drws, List.mem_append, List.mem_singleton] at h
    rcases h with h | h
    · exact drws_bd hb n s x h
    · rw [h]; exact drw_bd hb
theorem rep_bd {s : Int} (hs : 0 ≤ s ∧ s < 2147483648) : ∀ n : Nat, 0 ≤ Nat.repeat nxt n s ∧ Nat.repeat nxt n s < 2147483648
  | 0 => hs
  | _ + 1 => nxt_bd _
theorem row_cl {G : Gx} {prog : Program} {w : World} {f C : Addr} {i kk : Nat} {s n b k : Int} {H : MH} {xp : Addr → List MV → MH → Prop} (K : SrcK G C) (D : GDef G f ["self", "count", "below"] k_Source_row_nm k_Source_row [])
    (hS : Ins H i C kk (srcF s n)) (hs : 0 ≤ s ∧ s < 2147483648) (b0 : 1 ≤ b) (b1 : b ≤ 1048576) (k1 : k ≤ 100000) (k0 : -100000 ≤ k) :
    CL G prog w 3 f [.ref i, .int k, .int b] H (fun v H' => v = .ref H.length ∧ H' = H.set kk (.ns (srcF (Nat.repeat nxt k.toNat s) (n + k.toNat))) ++ [.list (intL (drws b k.toNat s))]) xp := by
  have bs := K.bs
  obtain ⟨fD, gD, dD⟩ := K.dr
  refine D.cl rfl ?_
  intro c e1 e2 ok hfm hint hnm hX
  subst e1 e2
  show TB c [some (.ref i), some (.int k), some (.int b)] _ _ _
  unfold k_Source_row
  refine TB.cons (TS.ret (TE.comp ok (Src.range ok bs.range ?_)))
  walk_at "w"
  refine ⟨0, k, ⟨.inl ⟨rfl, rfl⟩, by omega, by omega, by omega, by omega⟩, ?_⟩
  have e0 : (k - 0).toNat = k.toNat := by omega
  refine Turns.range (x := "k") rfl (by omega) (fun j ys H1 => H1 = H.set kk (.ns (srcF (Nat.repeat nxt j s) (n + j))) ∧ ys = intL (drws b j s)) ⟨?_, rfl⟩ ?_ ?_ ?_
  · have hk := hS.2
    show H = H.set kk (.ns (srcF s (n + (0 : Nat))))
    have : n + ((0 : Nat) : Int) = n := by omega
    rw [this]
    exact (set_same hk).symm
  · rintro j ys H1 ⟨_, rfl⟩
    simp [drws_len]
  · rintro j ys H1 ⟨rfl, rfl⟩ hlt c' sub hnm'
    have ok' := sub.ok
    refine ⟨fun q => (by cases q), fun _ => ?_⟩
    show TE c' [some (.ref i), some (.int k), some (.int b), some (.int (0 + (j : Int)))] _ _ _
    have iS := ins_set (gs := srcF (Nat.repeat nxt j s) (n + j)) hS
    walk_at "w"
    refine (draw_cl K dD iS (rep_bd hs j) b0 b1).use (Nat.le_refl _) ?_
    rintro _ _ ⟨rfl, rfl⟩
    refine ⟨?_, ?_⟩
    · rw [List.set_set]
      have : n + ((j + 1 : Nat) : Int) = n + j + 1 := by omega
      rw [this]
      rfl
    · simp [drws, intL]
  · rintro ys H1 ⟨rfl, rfl⟩
    rw [e0]
    refine ⟨?_, rfl⟩
    show MV.ref _ = MV.ref _
    rw [List.length_set]
theorem src_init_cl {G : Gx} {prog : Program} {w : World} {f C : Addr} {i kk : Nat} {v : Int} {H : MH} {xp : Addr → List MV → MH → Prop} (K : SrcK G C) (D : GDef G f ["self", "seed"] k_Source_init_nm k_Source_init [])
    (hI : Ins H i C kk []) (h0 : 0 ≤ v) (h1 : v ≤ 4611686018427387904) :
    CL G prog w 2 f [.ref i, .int v] H (fun r H' => r = .none ∧ H' = H.set kk (.ns (srcF (v % 2147483648) 0))) xp := by
  have bs := K.bs
  obtain ⟨fN, gN, dN⟩ := K.nn
  have s1 := K.s1
  have s2 := K.s2
  refine D.cl rfl ?_
  intro c e1 e2 ok hfm hint hnm hX
  subst e1 e2
  show TB c [some (.ref i), some (.int v)] _ _ _
  unfold k_Source_init
  walk_at "w"
  rw [e62]
  refine (need_number_cl dN bs h0 h1).use (Nat.le_refl _) ?_
  rintro _ H1 ⟨rfl, rfl⟩
  walk_at "w"
  rw [e31]
  walk_at "w"
  have i1 : Ins (H1.set kk (.ns (srcF1 (v % 2147483648)))) i C kk (srcF1 (v % 2147483648)) := ins_set hI
  have p1 : putF "state" (.int (v % 2147483648)) [] = srcF1 (v % 2147483648) := rfl
  rw [p1]
  walk_at "w"
  refine ⟨rfl, ?_⟩
  rw [List.set_set]
  rfl
theorem TE.source {c : Cx} {m : ML} {H : MH} {G : Gx} {d : Nat} {C : Addr} (ok : Ok G c d) (hd : 3 ≤ d) (K : SrcK G C) {e : CE} {post : MV → MH → Prop}
    (h : TE c m e H (fun v H1 => ∃ k, v = .int k ∧ 0 ≤ k ∧ k ≤ 4611686018427387904 ∧ post (.ref (H1.length + 1)) (H1 ++ [.ns (srcF (k % 2147483648) 0)] ++ [.inst C H1.length]))) : TE c m (.call "Source" (.cons e .nil)) H post := by
  obtain ⟨fI, gI, dI⟩ := K.cls
  refine TE.new (d := 2) (ok.le hd) gI (TEs.cons (h.mono ?_))
  rintro _ H1 ⟨k, rfl, h0, h1, hpost⟩
  refine TEs.nil ?_
  refine (src_init_cl (kk := H1.length) K dI ⟨?_, ?_⟩ h0 h1).use (Nat.le_refl _) ?_
  · simp
  · simp
  · rintro _ _ ⟨rfl, rfl⟩
    refine ⟨rfl, ?_⟩
    have : (H1 ++ [MO.ns []] ++ [MO.inst C H1.length]).set H1.length (.ns (srcF (k % 2147483648) 0)) = H1 ++ [.ns (srcF (k % 2147483648) 0)] ++ [.inst C H1.length] := by simp
    rw [this]
    exact hpost
noncomputable def k_Field_need_nm : List Str := ["self", "a"]
noncomputable def k_Field_need : CSs := (.cons (.ret (.call "need_number" (.cons (.loc 1) (.cons (.int 0) (.cons (.bin .Sub (.attr (.loc 0) "prime") (.int 1)) (.cons (.str "number of the field") .nil))))))
  .nil)
noncomputable def k_need_counts_nm : List Str := ["field", "needed", "count"]
noncomputable def k_need_counts : CSs := (.cons (.expr (.call "need_number" (.cons (.loc 2) (.cons (.int 1) (.cons (.call "min" (.cons (.glob "MOST") (.cons (.bin .Sub (.attr (.loc 0) "prime") (.int 1)) .nil))) (.cons (.str "count of shares") .nil))))))
  (.cons (.expr (.call "need_number" (.cons (.loc 1) (.cons (.int 1) (.cons (.loc 2) (.cons (.str "count of shares that suffice") .nil))))))
  .nil))
noncomputable def k_deal_nm : List Str := ["field", "secret", "needed", "count", "source", "row"]
noncomputable def k_deal : CSs := (.cons (.expr (.call "need_counts" (.cons (.loc 0) (.cons (.loc 2) (.cons (.loc 3) .nil)))))
  (.cons (.expr (.meth (.loc 0) "need" (.cons (.loc 1) .nil)))
  (.cons (.assign 5 (.bin .Add (.list (.cons (.loc 1) .nil)) (.meth (.loc 4) "row" (.cons (.bin .Sub (.loc 2) (.int 1)) (.cons (.attr (.loc 0) "prime") .nil)))))
  (.cons (.ret (.tup (.cons (.loc 5) (.cons (.call "shares_of" (.cons (.loc 0) (.cons (.loc 5) (.cons (.loc 3) .nil)))) .nil))))
  .nil))))
noncomputable def k_shares_of_nm : List Str := ["field", "row", "count"]
noncomputable def k_shares_of : CSs := (.cons (.ret (.comp (.tup (.cons (.loc 3) (.cons (.call "value" (.cons (.loc 0) (.cons (.loc 1) (.cons (.loc 3) .nil)))) .nil))) ["x"] (.call "range" (.cons (.int 1) (.cons (.bin .Add (.loc 2) (.int 1)) .nil))) .nil))
  .nil)
noncomputable def shs (p : Int) (row : List Int) (n : Nat) : List (Int × Int) := (List.range n).map fun (k : Nat) => ((k : Int) + 1, pval p row ((k : Int) + 1))
theorem shs_len {p : Int} {row : List Int} {n : Nat} : (shs p row n).length = n := by simp [shs]
theorem shs_at {p : Int} {row : List Int} {n k : Nat} (h : k < n) : (shs p row n).getD k (0, 0) = ((k : Int) + 1, pval p row ((k : Int) + 1)) := by
  unfold shs
  rw [List.getD_eq_getElem?_getD, List.getElem?_map, List.getElem?_range h]
  rfl
theorem shares_of_cl {G : Gx} {prog : Program} {w : World} {f fV C : Addr} {i kk r : Nat} {p n : Int} {row : List Int} {H : MH} {xp : Addr → List MV → MH → Prop} (D : GDef G f ["field", "row", "count"] k_shares_of_nm k_shares_of [])
    (bs : Bs G) (ga : GAtt G C "prime") (gV : GFn G "value" fV) (dV : GDef G fV ["field", "row", "x"] k_value_nm k_value []) (hF : Ins H i C kk [("prime", .int p)]) (hp : 2 ≤ p) (hp2 : p < 2 ^ 60)
    (hr : H[r]? = some (.list (intL row))) (h0 : 0 ≤ n) (h1 : n ≤ 1000) :
    CL G prog w 2 f [.ref i, .ref r, .int n] H (fun v H' => ∃ z, v = .ref z ∧ H.length ≤ z ∧ Ext H H' ∧ PtsAt H' z (shs p row n.toNat)) xp := by
  refine D.cl rfl ?_
  intro c e1 e2 ok hfm hint hnm hX
  subst e1 e2
  show TB c [some (.ref i), some (.ref r), some (.int n)] _ _ _
  unfold k_shares_of
  refine TB.cons (TS.ret (TE.comp ok (Src.range ok bs.range ?_)))
  walk_at "w"
  refine ⟨1, n + 1, ⟨.inr rfl, by omega, by omega, by omega, by omega⟩, ?_⟩
  refine Turns.range (x := "x") rfl (by omega) (fun j ys H1 => Ext H H1 ∧ ys.length = j ∧ ∀ k, k < j → ∃ t, ys[k]? = some (.ref t) ∧ H1[t]? = some (.tup [.int ((k : Int) + 1), .int (pval p row ((k : Int) + 1))])) ⟨Ext.refl H, rfl, fun k hk => by omega⟩ ?_ ?_ ?_
  · rintro j ys H1 ⟨_, h, _⟩
    omega
  · rintro j ys H1 ⟨E1, hl, hk⟩ hlt c' sub hnm'
    have ok' := sub.ok
    refine ⟨fun q => (by cases q), fun _ => ?_⟩
    rw [Int.add_comm 1 (j : Int)]
    show TE c' [some (.ref i), some (.ref r), some (.int n), some (.int ((j : Int) + 1))] _ _ _
    walk_at "w"
    refine (value_cl dV bs ga (E1.ins hF) (E1 _ _ hr) hp hp2).use (Nat.le_refl _) ?_
    rintro _ H2 ⟨rfl, rfl⟩
    walk_at "w"
    refine ⟨Nat.le_of_ble_eq_true rfl, E1.app _, by simp [hl], fun k hk' => ?_⟩
    by_cases e : k = j
    · subst e
      exact ⟨H2.length, by rw [← hl]; simp, get_end⟩
    · obtain ⟨t, q1, q2⟩ := hk k (by omega)
      exact ⟨t, by rw [List.getElem?_append_left (by omega)]; exact q1, get_app q2⟩
  · rintro ys H1 ⟨E1, hl, hk⟩
    have e1 : (n + 1 - 1).toNat = n.toNat := by omega
    rw [e1] at hl hk
    refine ⟨H1.length, rfl, E1.len, E1.app _, ys, get_end, by rw [shs_len, hl], fun k hk' => ?_⟩
    rw [shs_len] at hk'
    obtain ⟨t, q1, q2⟩ := hk k hk'
    refine ⟨t, q1, ?_⟩
    unfold px py
    rw [shs_at hk']
    exact get_app q2
structure DealK (G : Gx) (C CS CE : Addr) : Prop extends NeedK G CE where
  S : SrcK G CS
  att : GAtt G C "prime"
  fn : ∃ f, GMth G C "need" f ∧ GDef G f ["self", "a"] k_Field_need_nm k_Field_need []
  nc : ∃ f, GFn G "need_counts" f ∧ GDef G f ["field", "needed", "count"] k_need_counts_nm k_need_counts []
  mo : ∃ t, nsIn G.K mainGlobals "MOST" = some (some (.int 200 t))
  rw : ∃ f, GMth G CS "row" f ∧ GDef G f ["self", "count", "below"] k_Source_row_nm k_Source_row []
  so : ∃ f, GFn G "shares_of" f ∧ GDef G f ["field", "row", "count"] k_shares_of_nm k_shares_of []
  va : ∃ f, GFn G "value" f ∧ GDef G f ["field", "row", "x"] k_value_nm k_value []
theorem need_cl {G : Gx} {prog : Program} {w : World} {f C CE : Addr} {i kk : Nat} {p a : Int} {H : MH} {xp : Addr → List MV → MH → Prop} (D : GDef G f ["self", "a"] k_Field_need_nm k_Field_need []) (K : NeedK G CE) (ga : GAtt G C "prime")
    (hF : Ins H i C kk [("prime", .int p)]) (h0 : 0 ≤ a) (h1 : a < p) : CL G prog w 2 f [.ref i, .int a] H (fun v H' => v = .int a ∧ H' = H) xp := by
  have bs := K.bs
  obtain ⟨fN, gN, dN⟩ := K.nn
  refine D.cl rfl ?_
  intro c e1 e2 ok hfm hint hnm hX
  subst e1 e2
  show TB c [some (.ref i), some (.int a)] _ _ _
  unfold k_Field_need
  walk_at "w"
  exact (need_number_cl dN bs h0 (by omega)).use (Nat.le_refl _) fun _ _ x => x
noncomputable def goodC (p needed count : Int) : Prop := 1 ≤ count ∧ count ≤ 200 ∧ count < p ∧ 1 ≤ needed ∧ needed ≤ count
section
variable {G : Gx} {C CS CE : Addr}
theorem need_counts_cl {prog : Program} {w : World} {f : Addr} {i kk : Nat} {p needed count : Int} {H : MH} {xp : Addr → List MV → MH → Prop} (D : GDef G f ["field", "needed", "count"] k_need_counts_nm k_need_counts []) (K : DealK G C CS CE)
    (hF : Ins H i C kk [("prime", .int p)]) (h : goodC p needed count) : CL G prog w 2 f [.ref i, .int needed, .int count] H (fun v H' => v = .none ∧ H' = H) xp := by
  have bs := K.bs
  have ga := K.att
  obtain ⟨fN, gN, dN⟩ := K.nn
  obtain ⟨t, gM⟩ := K.mo
  obtain ⟨h1, h2, h3, h4, h5⟩ := h
  refine D.cl rfl ?_
  intro c e1 e2 ok hfm hint hnm hX
  subst e1 e2
  show TB c [some (.ref i), some (.int needed), some (.int count)] _ _ _
  unfold k_need_counts
  walk_at "w"
  refine TE.glob ok gM (v := .int 200) ⟨t, rfl⟩ ?_
  walk_at "w"
  refine BC.min ok.hh ?_
  walk_at "w"
  refine (need_number_cl dN bs h1 (by omega)).use (Nat.le_refl _) ?_
  rintro _ _ ⟨rfl, rfl⟩
  walk_at "w"
  refine (need_number_cl dN bs h4 h5).use (Nat.le_refl _) ?_
  rintro _ _ ⟨rfl, rfl⟩
  walk_at "w"
  exact ⟨rfl, rfl⟩
theorem deal_cl {prog : Program} {w : World} {f : Addr} {i kk sc ks : Nat} {p secret needed count s n : Int} {H : MH} {xp : Addr → List MV → MH → Prop} (D : GDef G f ["field", "secret", "needed", "count", "source"] k_deal_nm k_deal [])
    (K : DealK G C CS CE) (hF : Ins H i C kk [("prime", .int p)]) (hS : Ins H sc CS ks (srcF s n)) (hk : kk ≠ ks) (hs : 0 ≤ s ∧ s < 2147483648) (hp : 2 ≤ p) (hp2 : p ≤ 1048576) (h : goodC p needed count) (s0 : 0 ≤ secret) (s1 : secret < p) :
    CL G prog w 5 f [.ref i, .int secret, .int needed, .int count, .ref sc] H (fun v H' => ∃ t zr zs, v = .ref t ∧ H.length ≤ t ∧ H.length ≤ zr ∧ H.length ≤ zs ∧ Ext (H.set ks (.ns (srcF (Nat.repeat nxt (needed - 1).toNat s) (n + (needed - 1).toNat)))) H' ∧
      H'[t]? = some (.tup [.ref zr, .ref zs]) ∧ H'[zr]? = some (.list (intL (secret :: drws p (needed - 1).toNat s))) ∧ PtsAt H' zs (shs p (secret :: drws p (needed - 1).toNat s) count.toNat)) xp := by
  have bs := K.bs
  have ga := K.att
  obtain ⟨fNC, gNC, dNC⟩ := K.nc
  obtain ⟨fFN, gFN, dFN⟩ := K.fn
  obtain ⟨fR, gR, dR⟩ := K.rw
  obtain ⟨fSO, gSO, dSO⟩ := K.so
  obtain ⟨fV, gV, dV⟩ := K.va
  have h' := h
  obtain ⟨h1, h2, h3, h4, h5⟩ := h
  refine D.cl rfl ?_
  intro c e1 e2 ok hfm hint hnm hX
  subst e1 e2
  show TB c [some (.ref i), some (.int secret), some (.int needed), some (.int count), some (.ref sc), none] _ _ _
  unfold k_deal
  walk_at "w"
  refine (need_counts_cl dNC K hF h').use (by decide) ?_
  rintro _ _ ⟨rfl, rfl⟩
  walk_at "w"
  refine (need_cl dFN K.toNeedK ga hF s0 s1).use (by decide) ?_
  rintro _ H1 ⟨rfl, rfl⟩
  refine TB.cons (TS.assign ok hfm rfl (TE.addL ?_))
  walk_at "w"
  refine ⟨by simp, ?_⟩
  have E1 : Ext H1 (H1 ++ [MO.list [.int secret]]) := (Ext.refl H1).app _
  have iS := E1.ins hS
  have iF := E1.ins hF
  walk_at "w"
  refine (row_cl K.S dR iS hs (by omega) hp2 (by omega) (by omega)).use (by decide) ?_
  rintro _ H2 ⟨rfl, e2⟩
  generalize hR : drws p (needed - 1).toNat s = R at e2 ⊢
  have lR : R.length = (needed - 1).toNat := by rw [← hR, drws_len]
  have hL : (H1 ++ [MO.list [.int secret]]).length = H1.length + 1 := by simp
  have hks : ks < H1.length := (List.getElem?_eq_some_iff.mp hS.2).1
  have e3 : H2 = (H1.set ks (.ns (srcF (Nat.repeat nxt (needed - 1).toNat s) (n + (needed - 1).toNat)))) ++ [.list [.int secret]] ++ [.list (intL R)] := by
    rw [e2, List.set_append_left _ _ hks]
  generalize hB : H1.set ks (.ns (srcF (Nat.repeat nxt (needed - 1).toNat s) (n + (needed - 1).toNat))) = B at e3 ⊢
  have lB : B.length = H1.length := by rw [← hB, List.length_set]
  have iB : Ins B i C kk [("prime", .int p)] := by
    rw [← hB]
    have hne : ks ≠ i := by
      rintro rfl
      have := hS.2.symm.trans hF.1
      cases this
    exact ⟨by rw [List.getElem?_set_ne hne]; exact hF.1, by rw [List.getElem?_set_ne (fun e => hk e.symm)]; exact hF.2⟩
  rw [hL]
  refine ⟨H1.length, H1.length + 1, [.int secret], intL R, rfl, rfl, ?_, ?_, by simp [lR]; omega, ?_⟩
  · rw [e3, ← lB]; exact get_app get_end
  · rw [e3, ← lB]; simp
  have E3 : Ext B (H2 ++ [.list ([.int secret] ++ intL R)]) := by rw [e3]; exact (((Ext.refl B).app _).app _).app _
  have lH2 : H2.length = H1.length + 2 := by rw [e3]; simp [lB]
  have kr : (H2 ++ [MO.list ([.int secret] ++ intL R)])[H2.length]? = some (.list (intL (secret :: R))) := get_end
  walk_at "w"
  refine (shares_of_cl dSO bs ga gV dV (E3.ins iB) hp (by omega) kr (by omega) (by omega)).use (by decide) ?_
  rintro _ H4 ⟨z, rfl, hz, E4, hP⟩
  walk_at "w"
  refine ⟨by simp, H4.length, H2.length, z, rfl, ?_, ?_, ?_, (E3.trans E4).app _, get_end, get_app (E4 _ _ kr), hP.ext ((Ext.refl H4).app _)⟩
  · have := E4.len
    simp at this
    omega
  · omega
  · simp at hz
    omega
end
noncomputable def k_need_shares_nm : List Str := ["field", "shares", "seen", "x", "y"]
noncomputable def k_need_shares : CSs := (.cons (.assign 2 (.list .nil))
  (.cons (.for [3, 4] (.loc 1) (.cons (.expr (.meth (.loc 0) "need" (.cons (.loc 3) .nil)))
  (.cons (.expr (.meth (.loc 0) "need" (.cons (.loc 4) .nil)))
  (.cons (.ite (.or (.cons (.cmp .Eq (.loc 3) (.int 0)) (.cons (.cmp .In (.loc 3) (.loc 2)) .nil))) (.cons (.raise "ShareError" (.cons (.str "a place twice, or nought") .nil))
  .nil) .nil)
  (.cons (.expr (.meth (.loc 2) "append" (.cons (.loc 3) .nil)))
  .nil)))))
  (.cons (.ret (.loc 1))
  .nil)))
noncomputable def k_rebuild_nm : List Str := ["field", "shares", "needed"]
noncomputable def k_rebuild : CSs := (.cons (.ret (.call "value_at" (.cons (.loc 0) (.cons (.loc 1) (.cons (.loc 2) (.cons (.int 0) .nil))))))
  .nil)
noncomputable def k_value_at_nm : List Str := ["field", "shares", "needed", "x", "row", "place", "y"]
noncomputable def k_value_at : CSs := (.cons (.expr (.call "need_shares" (.cons (.loc 0) (.cons (.loc 1) .nil))))
  (.cons (.expr (.call "need_number" (.cons (.loc 2) (.cons (.int 1) (.cons (.glob "MOST") (.cons (.str "count of shares that suffice") .nil))))))
  (.cons (.ite (.cmp .Lt (.call "len" (.cons (.loc 1) .nil)) (.loc 2)) (.cons (.raise "ShareError" (.cons (.str "too few shares") .nil))
  .nil) .nil)
  (.cons (.assign 4 (.call "through" (.cons (.loc 0) (.cons (.slice (.loc 1) CO.none (.some (.loc 2))) .nil))))
  (.cons (.for [5, 6] (.slice (.loc 1) (.some (.loc 2)) CO.none) (.cons (.ite (.cmp .NotEq (.call "value" (.cons (.loc 0) (.cons (.loc 4) (.cons (.loc 5) .nil)))) (.loc 6)) (.cons (.raise "ShareError" (.cons (.str "shares that do not lie together") .nil))
  .nil) .nil)
  .nil))
  (.cons (.ret (.call "value" (.cons (.loc 0) (.cons (.loc 4) (.cons (.loc 3) .nil)))))
  .nil))))))
structure Gs (p : Int) (pts : List (Int × Int)) : Prop where
  x : ∀ k, k < pts.length → 1 ≤ px pts k ∧ px pts k < p
  y : ∀ k, k < pts.length → 0 ≤ py pts k ∧ py pts k < p
  d : ∀ j k, j < pts.length → k < pts.length → px pts j = px pts k → j = k
structure PolK (G : Gx) (C CE : Addr) : Prop extends NeedK G CE where
  T : ThrK G C
  fn : ∃ f, GMth G C "need" f ∧ GDef G f ["self", "a"] k_Field_need_nm k_Field_need []
  mo : ∃ t, nsIn G.K mainGlobals "MOST" = some (some (.int 200 t))
  va : ∃ f, GFn G "value" f ∧ GDef G f ["field", "row", "x"] k_value_nm k_value []
  th : ∃ f, GFn G "through" f ∧ GDef G f ["field", "points"] k_through_nm k_through []
  ns : ∃ f, GFn G "need_shares" f ∧ GDef G f ["field", "shares"] k_need_shares_nm k_need_shares []
section
variable {G : Gx} {C CE : Addr}
theorem need_shares_cl {prog : Program} {w : World} {f : Addr} {i kk r : Nat} {p : Int} {pts : List (Int × Int)} {H : MH} {xp : Addr → List MV → MH → Prop} (D : GDef G f ["field", "shares"] k_need_shares_nm k_need_shares [])
    (K : PolK G C CE) (hF : Ins H i C kk [("prime", .int p)]) (hP : PtsAt H r pts) (hl : pts.length ≤ 1000) (g : Gs p pts) :
    CL G prog w 4 f [.ref i, .ref r] H (fun v H' => v = .ref r ∧ Ext H H') xp := by
  have bs := K.bs
  obtain ⟨fN, gN, dN⟩ := K.fn
  refine D.cl rfl ?_
  intro c e1 e2 ok hfm hint hnm hX
  subst e1 e2
  show TB c [some (.ref i), some (.ref r), none, none, none] _ _ _
  unfold k_need_shares
  walk_at "w"
  refine ⟨by simp, ?_⟩
  refine TB.cons (TS.forL' ok hfm ?_)
  walk_at "w"
  obtain ⟨refs, p1, p2, p3⟩ := id hP
  refine ⟨r, refs, rfl, get_app p1, fun j m1 H3 => ∃ o3 o4, m1 = [some (.ref i), some (.ref r), some (.ref H.length), o3, o4] ∧ Ext H H3 ∧ H3[H.length]? = some (.list (intL ((List.range j).map (px pts)))), ⟨_, _, rfl, (Ext.refl H).app _, get_end⟩, ?_, ?_, ?_⟩
  · rintro j m1 H3 ⟨_, _, _, E, _⟩
    exact E _ _ p1
  · rintro j m1 H3 v xt ⟨o3, o4, rfl, E, hs⟩ hv
    have hj : j < pts.length := by
      have := (List.getElem?_eq_some_iff.mp hv).1
      rw [p2] at this
      exact this
    obtain ⟨t, q1, q2⟩ := p3 j hj
    rw [q1] at hv
    cases hv
    refine ⟨[.int (px pts j), .int (py pts j)], ⟨by simp, rfl, t, rfl, E _ _ q2⟩, ?_⟩
    have okx := ok.wx xt
    have hfx : (c.wx xt).fm = none := hfm
    have hix : interactive (c.wx xt).env = false := hint
    show TB (c.wx xt) [some (.ref i), some (.ref r), some (.ref H.length), some (.int (px pts j)), some (.int (py pts j))] _ _ _
    have iF := E.ins hF
    have gx := g.x j hj
    have gy := g.y j hj
    walk_at "w"
    refine (need_cl dN K.toNeedK K.T.att iF (by omega) gx.2).use (by decide) ?_
    rintro _ H1 ⟨rfl, rfl⟩
    walk_at "w"
    refine (need_cl dN K.toNeedK K.T.att iF gy.1 gy.2).use (by decide) ?_
    rintro _ H1 ⟨rfl, rfl⟩
    walk_at "w"
    refine ⟨false, by show false = decide _; simp; omega, fun h => (by cases h), fun _ => ?_⟩
    walk_at "w"
    refine ⟨_, Cq.inI hs, ?_⟩
    have hn : (((List.range j).map (px pts)).any (· == px pts j)) = false := by
      rw [List.any_eq_false]
      intro x hx
      obtain ⟨k, hk, rfl⟩ := List.mem_map.mp hx
      have hk := List.mem_range.mp hk
      intro e
      have := g.d k j (by omega) hj (by simpa using e)
      omega
    rw [hn]
    refine ⟨fun h => (by cases h), fun _ => ?_⟩
    walk_at "w"
    refine ⟨fun h => (by cases h), fun _ => ?_⟩
    walk_at "w"
    refine ⟨_, _, rfl, hs, ?_⟩
    walk_at "w"
    refine ⟨_, hs, by simp; omega, ?_⟩
    walk_at "w"
    refine ⟨_, _, rfl, E.set (Nat.le_refl _), ?_⟩
    rw [List.getElem?_set_self (List.getElem?_eq_some_iff.mp hs).1, List.range_succ]
    simp [intL]
  · rintro m1 H3 ⟨o3, o4, rfl, E, _⟩
    walk_at "w"
    exact ⟨rfl, E⟩
end
theorem pt_take {pts : List (Int × Int)} {n k : Nat} (h : k < n) : (pts.take n).getD k (0, 0) = pts.getD k (0, 0) := by
  rw [List.getD_eq_getElem?_getD, List.getD_eq_getElem?_getD, List.getElem?_take_of_lt h]
theorem PtsAt.take {H H' : MH} {r q : Nat} {pts : List (Int × Int)} {refs : List MV} {n : Nat} (h1 : H[r]? = some (.list refs)) (h2 : refs.length = pts.length) (h3 : ∀ k, k < pts.length → ∃ t, refs[k]? = some (.ref t) ∧ H[t]? = some (.tup [.int (px pts k), .int (py pts k)]))
    (E : Ext H H') (hq : H'[q]? = some (.list (refs.take n))) : PtsAt H' q (pts.take n) := by
  refine ⟨_, hq, by simp [h2], fun k hk => ?_⟩
  rw [List.length_take] at hk
  obtain ⟨t, q1, q2⟩ := h3 k (by omega)
  refine ⟨t, by rw [List.getElem?_take_of_lt (by omega)]; exact q1, ?_⟩
  unfold px py
  rw [pt_take (by omega)]
  exact E _ _ q2
theorem df_of {p : Int} {pts : List (Int × Int)} (g : Gs p pts) : ∀ i j, i < pts.length → j < pts.length → i ≠ j → (px pts i - px pts j) % p ≠ 0 := by
  intro i j hi hj hne h
  have a := g.x i hi
  have b := g.x j hj
  refine hne (g.d i j hi hj ?_)
  obtain ⟨c, hc⟩ := Int.dvd_of_emod_eq_zero h
  have hp : 0 < p := by omega
  have h1 : c < 1 := by
    refine Int.not_le.mp fun q => ?_
    have := Int.mul_le_mul_of_nonneg_left q (Int.le_of_lt hp)
    omega
  have h2 : -1 < c := by
    refine Int.not_le.mp fun q => ?_
    have := Int.mul_le_mul_of_nonneg_left q (Int.le_of_lt hp)
    omega
  have : c = 0 := by omega
  subst this
  omega
theorem Gs.take {p : Int} {pts : List (Int × Int)} (g : Gs p pts) (n : Nat) : Gs p (pts.take n) := by
  have hx : ∀ k, k < (pts.take n).length → k < pts.length ∧ (pts.take n).getD k (0, 0) = pts.getD k (0, 0) := fun k hk => by
    rw [List.length_take] at hk
    exact ⟨by omega, pt_take (by omega)⟩
  refine ⟨fun k hk => ?_, fun k hk => ?_, fun j k hj hk h => ?_⟩
  · unfold px; rw [(hx k hk).2]; exact g.x k (hx k hk).1
  · unfold py; rw [(hx k hk).2]; exact g.y k (hx k hk).1
  · unfold px at h; rw [(hx j hj).2, (hx k hk).2] at h; exact g.d j k (hx j hj).1 (hx k hk).1 h
section
variable {G : Gx} {C CE : Addr}
theorem value_at_cl {prog : Program} {w : World} {f : Addr} {i kk r : Nat} {p needed x : Int} {pts : List (Int × Int)} {H : MH} {xp : Addr → List MV → MH → Prop} (D : GDef G f ["field", "shares", "needed", "x"] k_value_at_nm k_value_at [])
    (K : PolK G C CE) (F : Fer p) (hp2 : p < 2 ^ 60) (hF : Ins H i C kk [("prime", .int p)]) (hP : PtsAt H r pts) (hl : pts.length ≤ 1000) (g : Gs p pts) (h1 : 1 ≤ needed) (h2 : needed ≤ 200) (h3 : needed ≤ pts.length)
    (ht : ∀ k, needed.toNat ≤ k → k < pts.length → pval p (thr p (pts.take needed.toNat)) (px pts k) = py pts k) :
    CL G prog w 6 f [.ref i, .ref r, .int needed, .int x] H (fun v H' => v = .int (pval p (thr p (pts.take needed.toNat)) x) ∧ Ext H H') xp := by
  have bs := K.bs
  have hp := F.two
  obtain ⟨fS, gS, dS⟩ := K.ns
  obtain ⟨fN, gN, dN⟩ := K.nn
  obtain ⟨fT, gT, dT⟩ := K.th
  obtain ⟨fV, gV, dV⟩ := K.va
  obtain ⟨t0, gM⟩ := K.mo
  refine D.cl rfl ?_
  intro c e1 e2 ok hfm hint hnm hX
  subst e1 e2
  show TB c [some (.ref i), some (.ref r), some (.int needed), some (.int x), none, none, none] _ _ _
  unfold k_value_at
  walk_at "w"
  refine (need_shares_cl dS K hF hP hl g).use (by decide) ?_
  rintro _ H1 ⟨rfl, E1⟩
  walk_at "w"
  refine TE.glob ok gM (v := .int 200) ⟨t0, rfl⟩ ?_
  walk_at "w"
  refine (need_number_cl dN bs h1 h2).use (by decide) ?_
  rintro _ H1 ⟨rfl, rfl⟩
  walk_at "w"
  refine (hP.ext E1).len hl ?_
  walk_at "w"
  refine ⟨false, by show false = decide _; simp; omega, fun h => (by cases h), fun _ => ?_⟩
  refine TB.nil (TB.cons (TS.assign ok hfm rfl ?_))
  walk_at "w"
  refine TE.sliceTo ?_
  obtain ⟨refs, p1, p2, p3⟩ := hP.ext E1
  walk_at "w"
  refine ⟨needed, rfl, r, refs, rfl, p1, by omega, by omega, ?_⟩
  have hT := PtsAt.take (n := needed.toNat) p1 p2 p3 ((Ext.refl H1).app [MO.list (refs.take needed.toNat)]) get_end
  generalize hH2 : H1 ++ [MO.list (refs.take needed.toNat)] = H2 at *
  have E2 : Ext H1 H2 := by subst hH2; exact (Ext.refl H1).app _
  have gt := g.take needed.toNat
  have lt : (pts.take needed.toNat).length = needed.toNat := by rw [List.length_take]; omega
  walk_at "w"
  refine (through_cl dT K.T ((E1.trans E2).ins hF) hp hp2 hT (by omega) fun n hn => tlow_ne F (df_of gt) hn _ (Nat.le_refl _)).use (by decide) ?_
  rintro _ H3 ⟨z, rfl, hz, E3, hr⟩
  have E13 := E2.trans E3
  refine TB.cons (TS.forL' ok hfm (TE.sliceFrom ?_))
  walk_at "w"
  refine ⟨needed, rfl, r, refs, rfl, E13 _ _ p1, by omega, by omega, ?_⟩
  generalize hH4 : H3 ++ [MO.list (refs.drop needed.toNat)] = H4 at *
  have E4 : Ext H3 H4 := by subst hH4; exact (Ext.refl H3).app _
  have E14 := E13.trans E4
  have h4 : H4[H3.length]? = some (.list (refs.drop needed.toNat)) := by subst hH4; exact get_end
  have iF := (E1.trans E14).ins hF
  refine ⟨_, _, rfl, h4, fun j m1 H5 => ∃ o5 o6, m1 = [some (.ref i), some (.ref r), some (.int needed), some (.int x), some (.ref z), o5, o6] ∧ H5 = H4, ⟨_, _, rfl, rfl⟩, ?_, ?_, ?_⟩
  · rintro j m1 H5 ⟨_, _, _, rfl⟩
    exact h4
  · rintro j m1 H5 v xt ⟨o5, o6, rfl, rfl⟩ hv
    rw [List.getElem?_drop] at hv
    have hj : needed.toNat + j < pts.length := by
      have := (List.getElem?_eq_some_iff.mp hv).1
      rw [p2] at this
      exact this
    obtain ⟨t, q1, q2⟩ := p3 _ hj
    rw [q1] at hv
    cases hv
    refine ⟨[.int (px pts (needed.toNat + j)), .int (py pts (needed.toNat + j))], ⟨by simp, rfl, t, rfl, E14 _ _ q2⟩, ?_⟩
    have okx := ok.wx xt
    have hfx : (c.wx xt).fm = none := hfm
    show TB (c.wx xt) [some (.ref i), some (.ref r), some (.int needed), some (.int x), some (.ref z), some (.int (px pts (needed.toNat + j))), some (.int (py pts (needed.toNat + j)))] _ _ _
    walk_at "w"
    refine (value_cl dV bs K.T.att iF (E4 _ _ hr) hp hp2).use (by decide) ?_
    rintro _ H4 ⟨rfl, rfl⟩
    walk_at "w"
    rw [ht _ (by omega) hj]
    refine ⟨false, by show false = !decide _; simp, fun h => (by cases h), fun _ => ?_⟩
    walk_at "w"
    exact ⟨_, _, rfl, rfl⟩
  · rintro m1 H5 ⟨o5, o6, rfl, rfl⟩
    walk_at "w"
    refine (value_cl dV bs K.T.att iF (E4 _ _ hr) hp hp2).use (by decide) ?_
    rintro _ H4 ⟨rfl, rfl⟩
    exact ⟨rfl, E1.trans E14⟩
theorem value_at_x {prog : Program} {w : World} {f : Addr} {i kk r : Nat} {p needed x : Int} {pts : List (Int × Int)} {H : MH} (D : GDef G f ["field", "shares", "needed", "x"] k_value_at_nm k_value_at [])
    (K : PolK G C CE) (hF : Ins H i C kk [("prime", .int p)]) (hP : PtsAt H r pts) (hl : pts.length ≤ 1000) (g : Gs p pts) (h1 : 1 ≤ needed) (h2 : needed ≤ 200) (h3 : pts.length < needed) :
    CL G prog w 6 f [.ref i, .ref r, .int needed, .int x] H (fun _ _ => False) (fun C' _ H' => C' = CE ∧ Ext H H') := by
  have bs := K.bs
  obtain ⟨fS, gS, dS⟩ := K.ns
  obtain ⟨fN, gN, dN⟩ := K.nn
  obtain ⟨t0, gM⟩ := K.mo
  refine D.cl rfl ?_
  intro c e1 e2 ok hfm hint hnm hX
  subst e1 e2
  show TB c [some (.ref i), some (.ref r), some (.int needed), some (.int x), none, none, none] _ _ _
  unfold k_value_at
  walk_at "w"
  refine (need_shares_cl dS K hF hP hl g).use (by decide) ?_
  rintro _ H1 ⟨rfl, E1⟩
  walk_at "w"
  refine TE.glob ok gM (v := .int 200) ⟨t0, rfl⟩ ?_
  walk_at "w"
  refine (need_number_cl dN bs h1 h2).use (by decide) ?_
  rintro _ H1 ⟨rfl, rfl⟩
  walk_at "w"
  refine (hP.ext E1).len hl ?_
  walk_at "w"
  refine ⟨true, by show true = decide _; simp; omega, fun _ => ?_, fun h => (by cases h)⟩
  refine TB.cons (TS.raise ok K.ex ?_)
  walk_at "w"
  rw [hX]
  exact ⟨by simp, rfl, E1⟩
theorem rebuild_cl {prog : Program} {w : World} {f fA : Addr} {i kk r : Nat} {p needed : Int} {pts : List (Int × Int)} {H : MH} {xp : Addr → List MV → MH → Prop} (D : GDef G f ["field", "shares", "needed"] k_rebuild_nm k_rebuild []) (gA : GFn G "value_at" fA) (dA : GDef G fA ["field", "shares", "needed", "x"] k_value_at_nm k_value_at [])
    (K : PolK G C CE) (F : Fer p) (hp2 : p < 2 ^ 60) (hF : Ins H i C kk [("prime", .int p)]) (hP : PtsAt H r pts) (hl : pts.length ≤ 1000) (g : Gs p pts) (h1 : 1 ≤ needed) (h2 : needed ≤ 200) (h3 : needed ≤ pts.length)
    (ht : ∀ k, needed.toNat ≤ k → k < pts.length → pval p (thr p (pts.take needed.toNat)) (px pts k) = py pts k) :
    CL G prog w 7 f [.ref i, .ref r, .int needed] H (fun v H' => v = .int (pval p (thr p (pts.take needed.toNat)) 0) ∧ Ext H H') xp := by
  refine D.cl rfl ?_
  intro c e1 e2 ok hfm hint hnm hX
  subst e1 e2
  show TB c [some (.ref i), some (.ref r), some (.int needed)] _ _ _
  unfold k_rebuild
  walk_at "w"
  exact (value_at_cl dA K F hp2 hF hP hl g h1 h2 h3 ht).use (Nat.le_refl _) fun _ _ x => x
theorem rebuild_x {prog : Program} {w : World} {f fA : Addr} {i kk r : Nat} {p needed : Int} {pts : List (Int × Int)} {H : MH} (D : GDef G f ["field", "shares", "needed"] k_rebuild_nm k_rebuild []) (gA : GFn G "value_at" fA) (dA : GDef G fA ["field", "shares", "needed", "x"] k_value_at_nm k_value_at [])
    (K : PolK G C CE) (hF : Ins H i C kk [("prime", .int p)]) (hP : PtsAt H r pts) (hl : pts.length ≤ 1000) (g : Gs p pts) (h1 : 1 ≤ needed) (h2 : needed ≤ 200) (h3 : pts.length < needed) :
    CL G prog w 7 f [.ref i, .ref r, .int needed] H (fun _ _ => False) (fun C' _ H' => C' = CE ∧ Ext H H') := by
  refine D.cl rfl ?_
  intro c e1 e2 ok hfm hint hnm hX
  subst e1 e2
  show TB c [some (.ref i), some (.ref r), some (.int needed)] _ _ _
  unfold k_rebuild
  walk_at "w"
  exact (value_at_x dA K hF hP hl g h1 h2 h3).use2 (Nat.le_refl _) (fun _ _ h => h.elim) fun C' as H' h => by rw [hX]; exact h
end
noncomputable def sdiv (x : Int) : List Int → List Int
  | [] => []
  | [_] => []
  | _ :: b :: r => pz (b :: r) x :: sdiv x (b :: r)
theorem sdiv_len (x : Int) : ∀ (a : Int) (l : List Int), (sdiv x (a :: l)).length = l.length
  | _, [] => rfl
  | _, b :: r => by rw [sdiv, List.length_cons, sdiv_len x b r, List.length_cons]
theorem sdiv_pz (x t : Int) : ∀ (a : Int) (l : List Int), pz (a :: l) t = (t - x) * pz (sdiv x (a :: l)) t + pz (a :: l) x
  | a, [] => by simp [sdiv, pz]
  | a, b :: r => by
    rw [sdiv, pz_cons a, pz_cons a, pz_cons (pz (b :: r) x), sdiv_pz x t b r]
    generalize pz (sdiv x (b :: r)) t = S
    generalize pz (b :: r) x = P
    grind
theorem sdiv_back {p x : Int} : ∀ (a : Int) (l : List Int), (∀ c ∈ sdiv x (a :: l), Cg p c 0) → Cg p (pz (a :: l) x) 0 → ∀ c ∈ a :: l, Cg p c 0
  | a, [], _, h, c, hc => by
    rw [List.mem_singleton] at hc
    subst hc
    simpa [pz] using h
  | a, b :: r, hs, h, c, hc => by
    rw [sdiv] at hs
    have h1 : Cg p (pz (b :: r) x) 0 := hs _ (List.mem_cons_self ..)
    rcases List.mem_cons.mp hc with rfl | hc
    · rw [pz_cons] at h
      have := h.sub (h1.mul (Cg.rfl (a := x)))
      rw [Int.zero_mul, Int.sub_zero] at this
      exact (Cg.of (by omega)).trans this
    · exact sdiv_back b r (fun c hc => hs c (List.mem_cons_of_mem _ hc)) h1 c hc
theorem Fer.cancel {p a b : Int} (F : Fer p) (ha : a % p ≠ 0) (h : Cg p (a * b) 0) : Cg p b 0 := by
  refine Cg.zero.mpr (Decidable.byContradiction fun q => ?_)
  exact F.mul ha q (Cg.zero.mp h)
theorem roots {p : Int} (F : Fer p) : ∀ (xs l : List Int), l.length ≤ xs.length → xs.Pairwise (fun x y => (y - x) % p ≠ 0) → (∀ x ∈ xs, Cg p (pz l x) 0) → ∀ c ∈ l, Cg p c 0
  | _, [], _, _, _, c, hc => by cases hc
  | [], a :: l, h, _, _, _, _ => by simp at h
  | x :: xs, a :: l, h, hd, hz, c, hc => by
    have h0 := hz x (List.mem_cons_self ..)
    refine sdiv_back a l (roots F xs (sdiv x (a :: l)) (by rw [sdiv_len]; simpa using h) (List.pairwise_cons.mp hd).2 fun y hy => ?_) h0 c hc
    have h1 := hz y (List.mem_cons_of_mem _ hy)
    rw [sdiv_pz x y] at h1
    have h2 := h1.sub h0
    rw [Int.add_sub_cancel, Int.sub_zero] at h2
    exact F.cancel ((List.pairwise_cons.mp hd).1 y hy) h2
theorem pz_diff (x : Int) : ∀ (a b : List Int), a.length = b.length → pz (List.zipWith (· - ·) a b) x = pz a x - pz b x
  | [], [], _ => rfl
  | a :: l, b :: r, h => by
    rw [List.zipWith_cons_cons, pz_cons, pz_cons, pz_cons, pz_diff x l r (by simpa using h)]
    grind
  | [], _ :: _, h => by simp at h
  | _ :: _, [], h => by simp at h
theorem diff_eq {p : Int} : ∀ (a b : List Int), a.length = b.length → Bd p a → Bd p b → (∀ c ∈ List.zipWith (· - ·) a b, Cg p c 0) → a = b
  | [], [], _, _, _, _ => rfl
  | a :: l, b :: r, h, ha, hb, hz => by
    have h1 : Cg p (a - b) 0 := hz _ (by simp)
    have h2 := h1.add (Cg.rfl (a := b))
    rw [Int.sub_add_cancel, Int.zero_add] at h2
    have h3 := h2.small (ha a (by simp)) (hb b (by simp))
    rw [h3, diff_eq l r (by simpa using h) (fun x hx => ha x (by simp [hx])) (fun x hx => hb x (by simp [hx])) fun c hc => hz c (by simp [hc])]
  | [], _ :: _, h, _, _, _ => by simp at h
  | _ :: _, [], h, _, _, _ => by simp at h
theorem row_unique {p : Int} (F : Fer p) {xs a b : List Int} (hl : a.length = b.length) (hx : a.length ≤ xs.length) (hd : xs.Pairwise (fun x y => (y - x) % p ≠ 0)) (ha : Bd p a) (hb : Bd p b) (h : ∀ x ∈ xs, pval p a x = pval p b x) : a = b := by
  refine diff_eq a b hl ha hb (roots F xs _ (by simp; omega) hd fun x hx => ?_)
  rw [pz_diff x a b hl]
  have h1 := (pval_pz p a x).symm.sub (pval_pz p b x).symm
  rw [h x hx, Int.sub_self] at h1
  exact h1
noncomputable def padTo (n : Nat) (l : List Int) : List Int := l ++ List.replicate (n - l.length) 0
theorem padTo_len {n : Nat} {l : List Int} (h : l.length ≤ n) : (padTo n l).length = n := by simp [padTo]; omega
theorem pz_rep_app (x : Int) (m : Nat) : ∀ l : List Int, pz (l ++ List.replicate m 0) x = pz l x
  | [] => by rw [List.nil_append, pz_rep]; rfl
  | a :: l => by rw [List.cons_append, pz_cons, pz_cons, pz_rep_app x m l]
theorem padTo_val {p : Int} (hp : 0 < p) {n : Nat} {l : List Int} (x : Int) : pval p (padTo n l) x = pval p l x := by
  refine Cg.small ?_ (pval_bd hp _ _) (pval_bd hp _ _)
  refine (pval_pz p _ x).trans ?_
  unfold padTo
  rw [pz_rep_app]
  exact (pval_pz p _ x).symm
theorem padTo_bd {p : Int} (hp : 0 < p) {n : Nat} {l : List Int} (h : Bd p l) : Bd p (padTo n l) := fun x hx => by
  rcases List.mem_append.mp hx with q | q
  · exact h x q
  · rw [List.eq_of_mem_replicate q]; omega
theorem tsum_bd {p : Int} (hp : 0 < p) (pts : List (Int × Int)) : ∀ n : Nat, Bd p (tsum p pts n)
  | 0 => fun x hx => by simp [tsum] at hx
  | n + 1 => by unfold tsum; rw [range_fold]; exact padd_bd hp
theorem thr_bd {p : Int} (hp : 0 < p) (pts : List (Int × Int)) : Bd p (thr p pts) := (tsum_bd hp pts _).trim
theorem thr_row {p : Int} (F : Fer p) {pts : List (Int × Int)} {row : List Int} (hl : row.length = pts.length) (hb : Bd p row) (hd : ∀ i j, i < pts.length → j < pts.length → i ≠ j → (px pts i - px pts j) % p ≠ 0)
    (h : ∀ k, k < pts.length → py pts k = pval p row (px pts k)) : padTo pts.length (thr p pts) = row := by
  have hp : 0 < p := by have := F.two; omega
  refine row_unique F (xs := (List.range pts.length).map (px pts)) (by rw [padTo_len (thr_length p pts), hl]) (by rw [padTo_len (thr_length p pts)]; simp) ?_ (padTo_bd hp (thr_bd hp pts)) hb ?_
  · rw [List.pairwise_map]
    refine List.Pairwise.imp_of_mem (R := (· < ·)) (fun {a b} ha hb hlt => hd b a (List.mem_range.mp hb) (List.mem_range.mp ha) (Nat.ne_of_gt hlt)) List.pairwise_lt_range
  · intro x hx
    obtain ⟨k, hk, rfl⟩ := List.mem_map.mp hx
    have hk := List.mem_range.mp hk
    rw [padTo_val hp, thr_val F hd hk, h k hk]
    exact Int.emod_eq_of_lt (pval_bd hp _ _).1 (pval_bd hp _ _).2
theorem thr_row_val {p : Int} (F : Fer p) {pts : List (Int × Int)} {row : List Int} (hl : row.length = pts.length) (hb : Bd p row) (hd : ∀ i j, i < pts.length → j < pts.length → i ≠ j → (px pts i - px pts j) % p ≠ 0)
    (h : ∀ k, k < pts.length → py pts k = pval p row (px pts k)) (x : Int) : pval p (thr p pts) x = pval p row x := by
  have hp : 0 < p := by have := F.two; omega
  rw [← padTo_val hp (n := pts.length), thr_row F hl hb hd h]
noncomputable def cntN (f : Nat → Bool) : Nat → Nat
  | 0 => 0
  | n + 1 => cntN f n + if f n then 1 else 0
noncomputable def sumN (h : Nat → Nat) : Nat → Nat
  | 0 => 0
  | n + 1 => sumN h n + h n
theorem cntN_congr {f g : Nat → Bool} : ∀ N : Nat, (∀ m, m < N → f m = g m) → cntN f N = cntN g N
  | 0, _ => rfl
  | n + 1, h => by unfold cntN; rw [cntN_congr n fun m hm => h m (by omega), h n (by omega)]
theorem cntN_none {f : Nat → Bool} : ∀ N : Nat, (∀ m, m < N → f m = false) → cntN f N = 0
  | 0, _ => rfl
  | n + 1, h => by unfold cntN; rw [cntN_none n fun m hm => h m (by omega), h n (by omega)]; rfl
theorem cntN_one {f : Nat → Bool} {k : Nat} (hk : f k = true) (hu : ∀ m, f m = true → m = k) : ∀ N : Nat, k < N → cntN f N = 1
  | 0, h => by omega
  | n + 1, h => by
    unfold cntN
    by_cases e : k = n
    · subst e
      rw [cntN_none k fun m hm => by
        cases q : f m
        · rfl
        · have := hu m q; omega, hk]
      rfl
    · have : f n = false := by
        cases q : f n
        · rfl
        · have := hu n q; omega
      rw [cntN_one hk hu n (by omega), this]
      rfl
theorem sumN_add {h g : Nat → Nat} : ∀ N : Nat, sumN (fun v => h v + g v) N = sumN h N + sumN g N
  | 0 => rfl
  | n + 1 => by unfold sumN; rw [sumN_add n]; omega
theorem sumN_congr {h g : Nat → Nat} : ∀ N : Nat, (∀ v, v < N → h v = g v) → sumN h N = sumN g N
  | 0, _ => rfl
  | n + 1, q => by unfold sumN; rw [sumN_congr n fun v hv => q v (by omega), q n (by omega)]
theorem sumN_const (c : Nat) : ∀ N : Nat, sumN (fun _ => c) N = N * c
  | 0 => by simp [sumN]
  | n + 1 => by unfold sumN; rw [sumN_const c n, Nat.succ_mul]
theorem sumN_zero : ∀ N : Nat, sumN (fun _ => 0) N = 0
  | 0 => rfl
  | n + 1 => by unfold sumN; rw [sumN_zero n]
theorem sumN_pick (k : Nat) (b : Bool) : ∀ N : Nat, sumN (fun v => if b && (k == v) then 1 else 0) N = if b && decide (k < N) then 1 else 0
  | 0 => by simp [sumN]
  | n + 1 => by
    unfold sumN
    rw [sumN_pick k b n]
    cases b
    · simp
    · simp only [Bool.true_and]
      by_cases e : k = n
      · subst e; simp
      · have h1 : (k == n) = false := by simpa using e
        have h2 : decide (k < n + 1) = decide (k < n) := by
          by_cases q : k < n
          · simp [q]; omega
          · simp [q]; omega
        rw [h1, h2]
        simp
theorem cntN_part {f : Nat → Bool} {g : Nat → Nat} {P : Nat} (hg : ∀ m, g m < P) : ∀ N : Nat, sumN (fun v => cntN (fun m => f m && (g m == v)) N) P = cntN f N
  | 0 => by unfold cntN; exact sumN_zero P
  | n + 1 => by
    unfold cntN
    rw [sumN_add, cntN_part hg n, sumN_pick]
    simp [hg n]
noncomputable def dg (P : Nat) : Nat → Nat → List Int
  | 0, _ => []
  | n + 1, m => ((m % P : Nat) : Int) :: dg P n (m / P)
theorem dg_len (P : Nat) : ∀ (n m : Nat), (dg P n m).length = n
  | 0, _ => rfl
  | n + 1, m => by rw [dg, List.length_cons, dg_len P n]
theorem dg_bd {P : Nat} (hP : 0 < P) : ∀ (n m : Nat), Bd (P : Int) (dg P n m)
  | 0, _ => fun x hx => by cases hx
  | n + 1, m => fun x hx => by
    rcases List.mem_cons.mp hx with rfl | q
    · have := Nat.mod_lt m hP; omega
    · exact dg_bd hP n _ x q
theorem dg_end (P : Nat) : ∀ (n m : Nat), dg P (n + 1) m = dg P n m ++ [((m / P ^ n % P : Nat) : Int)]
  | 0, m => by simp [dg]
  | n + 1, m => by
    rw [dg, dg_end P n (m / P), dg, List.cons_append, Nat.div_div_eq_div_mul, Nat.pow_succ, Nat.mul_comm P]
noncomputable def nmb (P : Nat) : List Int → Nat
  | [] => 0
  | a :: l => a.toNat + P * nmb P l
theorem nmb_lt {P : Nat} (hP : 0 < P) : ∀ l : List Int, Bd (P : Int) l → nmb P l < P ^ l.length
  | [], _ => by simp [nmb]
  | a :: l, h => by
    have h1 := nmb_lt hP l fun x hx => h x (List.mem_cons_of_mem _ hx)
    have h2 := h a (List.mem_cons_self ..)
    rw [nmb, List.length_cons, Nat.pow_succ, Nat.mul_comm _ P]
    have h3 : P * (nmb P l + 1) ≤ P * P ^ l.length := Nat.mul_le_mul_left P h1
    rw [Nat.mul_succ] at h3
    omega
theorem dg_nmb {P : Nat} (hP : 0 < P) : ∀ l : List Int, Bd (P : Int) l → dg P l.length (nmb P l) = l
  | [], _ => rfl
  | a :: l, h => by
    have h2 := h a (List.mem_cons_self ..)
    have h3 : a.toNat < P := by omega
    rw [List.length_cons, dg, nmb, Nat.add_mul_mod_self_left, Nat.mod_eq_of_lt h3, Nat.add_mul_div_left _ _ hP, Nat.div_eq_of_lt h3, Nat.zero_add, dg_nmb hP l fun x hx => h x (List.mem_cons_of_mem _ hx)]
    congr 1
    omega
theorem nmb_dg {P : Nat} (hP : 0 < P) : ∀ (n m : Nat), m < P ^ n → nmb P (dg P n m) = m
  | 0, m, h => by simp at h; subst h; rfl
  | n + 1, m, h => by
    rw [dg, nmb, nmb_dg hP n (m / P) (by rw [Nat.pow_succ] at h; exact Nat.div_lt_of_lt_mul (by rw [Nat.mul_comm]; exact h))]
    have := Nat.mod_add_div m P
    omega
noncomputable def fitB (p : Int) (pts : List (Int × Int)) (row : List Int) : Bool := pts.all fun q => pval p row q.1 == q.2
theorem free_place : ∀ (n : Nat) (l : List Int), l.length = n → ∃ x : Int, 0 ≤ x ∧ x ≤ n ∧ x ∉ l
  | 0, l, h => ⟨0, by omega, by omega, by rw [List.length_eq_zero_iff.mp h]; simp⟩
  | n + 1, l, h => by
    by_cases q : ((n + 1 : Nat) : Int) ∈ l
    · obtain ⟨x, h1, h2, h3⟩ := free_place n (l.erase ((n + 1 : Nat) : Int)) (by rw [List.length_erase_of_mem q, h]; rfl)
      exact ⟨x, h1, by omega, fun h4 => h3 ((List.mem_erase_of_ne (by omega)).mpr h4)⟩
    · exact ⟨((n + 1 : Nat) : Int), by omega, by omega, q⟩
structure Gp (p : Int) (pts : List (Int × Int)) : Prop where
  x : ∀ q ∈ pts, 0 ≤ q.1 ∧ q.1 < p
  y : ∀ q ∈ pts, 0 ≤ q.2 ∧ q.2 < p
  d : (pts.map Prod.fst).Nodup
theorem dif_ne {p a b : Int} (ha : 0 ≤ a ∧ a < p) (hb : 0 ≤ b ∧ b < p) (h : a ≠ b) : (a - b) % p ≠ 0 := by
  intro q
  have h1 : Cg p (a - b) 0 := Cg.zero.mpr q
  have h2 := h1.add (Cg.rfl (a := b))
  rw [Int.sub_add_cancel, Int.zero_add] at h2
  exact h (h2.small ha hb)
theorem Gp.pw {p : Int} {pts : List (Int × Int)} (g : Gp p pts) : (pts.map Prod.fst).Pairwise (fun x y => (y - x) % p ≠ 0) := by
  refine List.Pairwise.imp_of_mem (R := (· ≠ ·)) (fun {a b} ha hb h => ?_) g.d
  obtain ⟨u, hu, rfl⟩ := List.mem_map.mp ha
  obtain ⟨v, hv, rfl⟩ := List.mem_map.mp hb
  exact dif_ne (g.x v hv) (g.x u hu) fun e => h e.symm
theorem Gp.df {p : Int} {pts : List (Int × Int)} (g : Gp p pts) : ∀ i j, i < pts.length → j < pts.length → i ≠ j → (px pts i - px pts j) % p ≠ 0 := by
  intro i j hi hj hne
  have e : ∀ k, k < pts.length → ∃ h : k < pts.length, pts.getD k (0, 0) = pts[k] := fun k hk => ⟨hk, by rw [List.getD_eq_getElem?_getD, List.getElem?_eq_getElem hk]; rfl⟩
  obtain ⟨h1, e1⟩ := e i hi
  obtain ⟨h2, e2⟩ := e j hj
  unfold px
  rw [e1, e2]
  refine dif_ne (g.x _ (List.getElem_mem _)) (g.x _ (List.getElem_mem _)) fun q => hne ?_
  have hn := List.nodup_iff_pairwise_ne.mp g.d
  rcases Nat.lt_or_gt_of_ne hne with h | h
  · have := List.pairwise_iff_getElem.mp hn i j (by simpa using hi) (by simpa using hj) h
    simp at this
    exact absurd q this
  · have := List.pairwise_iff_getElem.mp hn j i (by simpa using hj) (by simpa using hi) h
    simp at this
    exact absurd q.symm this
theorem fit_count {P : Nat} (F : Fer (P : Int)) (n : Nat) (hn : n ≤ P) : ∀ (e : Nat) (pts : List (Int × Int)), pts.length + e = n → Gp (P : Int) pts → cntN (fun m => fitB P pts (dg P n m)) (P ^ n) = P ^ e
  | 0, pts, hl, g => by
    have hP : 0 < P := by have := F.two; omega
    have hPi : (0 : Int) < P := by omega
    have hb := padTo_bd hPi (n := n) (thr_bd hPi pts)
    have hlen : (padTo n (thr P pts)).length = n := padTo_len (by have := thr_length P pts; omega)
    have hat : ∀ q ∈ pts, pval P (thr P pts) q.1 = q.2 := fun q hq => by
      obtain ⟨k, hk, rfl⟩ := List.mem_iff_getElem.mp hq
      have e : pts.getD k (0, 0) = pts[k] := by rw [List.getD_eq_getElem?_getD, List.getElem?_eq_getElem hk]; rfl
      have := thr_val F g.df hk
      unfold px py at this
      rw [e] at this
      rw [this]
      exact Int.emod_eq_of_lt (g.y _ hq).1 (g.y _ hq).2
    have hfit : fitB P pts (padTo n (thr P pts)) = true := by
      unfold fitB
      rw [List.all_eq_true]
      intro q hq
      rw [padTo_val hPi, hat q hq]
      simp
    have hu : ∀ row : List Int, row.length = n → Bd (P : Int) row → fitB P pts row = true → row = padTo n (thr P pts) := fun row h1 h2 h3 => by
      refine row_unique F (xs := pts.map Prod.fst) (by rw [h1, hlen]) (by rw [h1, List.length_map]; omega) g.pw h2 hb fun x hx => ?_
      obtain ⟨q, hq, rfl⟩ := List.mem_map.mp hx
      unfold fitB at h3 hfit
      rw [List.all_eq_true] at h3 hfit
      have a := h3 q hq
      have b := hfit q hq
      rw [beq_iff_eq] at a b
      rw [a, b]
    have hk : nmb P (padTo n (thr P pts)) < P ^ n := by
      have := nmb_lt hP _ hb
      rwa [hlen] at this
    have hd : dg P n (nmb P (padTo n (thr P pts))) = padTo n (thr P pts) := by
      have := dg_nmb hP _ hb
      rwa [hlen] at this
    rw [Nat.pow_zero]
    have hc : cntN (fun m => fitB P pts (dg P n m)) (P ^ n) = cntN (fun m => m == nmb P (padTo n (thr P pts))) (P ^ n) := cntN_congr _ fun m hm => by
      cases q : fitB P pts (dg P n m)
      · cases r : m == nmb P (padTo n (thr P pts))
        · rfl
        · rw [beq_iff_eq] at r
          rw [r, hd, hfit] at q
          cases q
      · have := hu _ (dg_len P n m) (dg_bd hP n m) q
        have h5 := nmb_dg hP n m hm
        rw [this] at h5
        rw [h5]
        simp
    rw [hc]
    exact cntN_one (k := nmb P (padTo n (thr P pts))) (by simp) (fun m hm => by simpa using hm) _ hk
  | e + 1, pts, hl, g => by
    have hP : 0 < P := by have := F.two; omega
    have hPi : (0 : Int) < P := by omega
    obtain ⟨x, x0, x1, hx⟩ := free_place pts.length (pts.map Prod.fst) (by simp)
    have hbd : ∀ m, 0 ≤ pval P (dg P n m) x ∧ pval P (dg P n m) x < P := fun m => pval_bd hPi _ _
    rw [← cntN_part (f := fun m => fitB P pts (dg P n m)) (g := fun m => (pval P (dg P n m) x).toNat) (P := P) (fun m => by have := hbd m; omega)]
    rw [sumN_congr (g := fun _ => P ^ e) P fun v hv => ?_, sumN_const, Nat.pow_succ, Nat.mul_comm]
    rw [← fit_count F n hn e ((x, (v : Int)) :: pts) (by simp; omega) ⟨?_, ?_, ?_⟩]
    · refine cntN_congr _ fun m hm => ?_
      unfold fitB
      rw [List.all_cons, Bool.and_comm]
      congr 1
      have := hbd m
      by_cases q : pval P (dg P n m) x = v
      · simp [q]
      · have h1 : (pval P (dg P n m) x == (v : Int)) = false := by simpa using q
        rw [h1]
        simp
        omega
    · intro q hq
      rcases List.mem_cons.mp hq with rfl | hq
      · exact ⟨x0, by show x < (P : Int); omega⟩
      · exact g.x q hq
    · intro q hq
      rcases List.mem_cons.mp hq with rfl | hq
      · exact ⟨by show (0 : Int) ≤ v; omega, by show (v : Int) < P; omega⟩
      · exact g.y q hq
    · rw [List.map_cons, List.nodup_cons]
      exact ⟨hx, g.d⟩
noncomputable def k_need_few_nm : List Str := ["field", "count", "total", "k"]
noncomputable def k_need_few : CSs := (.cons (.assign 2 (.int 1))
  (.cons (.for [3] (.call "range" (.cons (.loc 1) .nil)) (.cons (.assign 2 (.bin .Mult (.loc 2) (.attr (.loc 0) "prime")))
  (.cons (.ite (.cmp .Gt (.loc 2) (.int 200000)) (.cons (.raise "ShareError" (.cons (.str "too many to count one by one") .nil))
  .nil) .nil)
  .nil)))
  .nil))
noncomputable def k_fits_nm : List Str := ["field", "shares", "needed", "out", "number", "row", "rest", "k", "good", "x", "y"]
noncomputable def k_fits_turn : CSs := (.cons (.assign 5 (.list .nil))
  (.cons (.assign 6 (.loc 4))
  (.cons (.for [7] (.call "range" (.cons (.loc 2) .nil)) (.cons (.expr (.meth (.loc 5) "append" (.cons (.bin .Mod (.loc 6) (.attr (.loc 0) "prime")) .nil)))
  (.cons (.assign 6 (.bin .FloorDiv (.loc 6) (.attr (.loc 0) "prime")))
  .nil)))
  (.cons (.assign 8 (.bool true))
  (.cons (.for [9, 10] (.loc 1) (.cons (.ite (.cmp .NotEq (.call "value" (.cons (.loc 0) (.cons (.loc 5) (.cons (.loc 9) .nil)))) (.loc 10)) (.cons (.assign 8 (.bool false))
  (.cons CS.brk
  .nil)) .nil)
  .nil))
  (.cons (.ite (.plain (.loc 8)) (.cons (.setItem (.loc 3) (.sub (.loc 5) (.int 0)) (.bin .Add (.sub (.loc 3) (.sub (.loc 5) (.int 0))) (.int 1)))
  .nil) .nil)
  .nil))))))
noncomputable def k_fits : CSs := (.cons (.expr (.call "need_shares" (.cons (.loc 0) (.cons (.loc 1) .nil))))
  (.cons (.expr (.call "need_number" (.cons (.loc 2) (.cons (.int 1) (.cons (.glob "MOST") (.cons (.str "count of shares that suffice") .nil))))))
  (.cons (.expr (.call "need_few" (.cons (.loc 0) (.cons (.loc 2) .nil))))
  (.cons (.assign 3 (.bin .Mult (.list (.cons (.int 0) .nil)) (.attr (.loc 0) "prime")))
  (.cons (.for [4] (.call "range" (.cons (.bin .Pow (.attr (.loc 0) "prime") (.loc 2)) .nil)) k_fits_turn)
  (.cons (.ret (.loc 3))
  .nil))))))
theorem pow_le_of {p : Int} (hp : 1 ≤ p) : ∀ {a b : Nat}, a ≤ b → p ^ a ≤ p ^ b := by
  intro a b h
  obtain ⟨k, rfl⟩ := Nat.exists_eq_add_of_le h
  rw [Int.pow_add]
  have h1 : 0 < p ^ a := Int.pow_pos (by omega)
  have h2 : 0 < p ^ k := Int.pow_pos (by omega)
  have := Int.mul_le_mul_of_nonneg_left (show (1 : Int) ≤ p ^ k by omega) (Int.le_of_lt h1)
  omega
section
variable {G : Gx} {C CE : Addr}
theorem need_few_cl {prog : Program} {w : World} {f : Addr} {i kk : Nat} {p count : Int} {H : MH} {xp : Addr → List MV → MH → Prop} (D : GDef G f ["field", "count"] k_need_few_nm k_need_few [])
    (bs : Bs G) (ga : GAtt G C "prime") (hF : Ins H i C kk [("prime", .int p)]) (hp : 1 ≤ p) (h0 : 0 ≤ count) (h1 : count ≤ 1000) (h2 : p ^ count.toNat ≤ 200000) :
    CL G prog w 2 f [.ref i, .int count] H (fun v H' => v = .none ∧ H' = H) xp := by
  refine D.cl rfl ?_
  intro c e1 e2 ok hfm hint hnm hX
  subst e1 e2
  show TB c [some (.ref i), some (.int count), none, none] _ _ _
  unfold k_need_few
  walk_at "w"
  refine TS.forR ok hfm bs.range (by nofun) ?_ ⟨_, rfl⟩
  walk_at "w"
  refine ⟨0, count, ⟨.inl ⟨rfl, rfl⟩, by omega, by omega, by omega, by omega⟩, fun j m1 H1 => ∃ o3, m1 = [some (.ref i), some (.int count), some (.int (p ^ j)), o3] ∧ H1 = H, ⟨none, by rw [Int.pow_zero]; rfl, rfl⟩, ?_, ?_⟩
  · rintro j m1 H1 xt ⟨o3, rfl, rfl⟩ hj
    have okx := ok.wx xt
    have hfx : (c.wx xt).fm = none := hfm
    show TB (c.wx xt) [some (.ref i), some (.int count), some (.int (p ^ j)), some (.int (0 + (j : Int)))] _ _ _
    have hb : p ^ (j + 1) ≤ 200000 := Int.le_trans (pow_le_of hp (by omega)) h2
    have hb1 : p ^ j ≤ 200000 := Int.le_trans (pow_le_of hp (by omega)) h2
    have hb0 : 0 < p ^ j := Int.pow_pos (by omega)
    walk_at "w"
    refine ⟨false, by show false = decide _; rw [← Int.pow_succ]; simp; omega, fun h => (by cases h), fun _ => ?_⟩
    walk_at "w"
    exact ⟨_, by rw [Int.pow_succ]; rfl, rfl⟩
  · rintro m1 H1 ⟨o3, rfl, rfl⟩
    walk_at "w"
    exact ⟨rfl, rfl⟩
noncomputable def fitA (P n : Nat) (pts : List (Int × Int)) (a m : Nat) : Bool := fitB P pts (dg P n m) && (cf (dg P n m) 0 == (a : Int))
noncomputable def outs (P n : Nat) (pts : List (Int × Int)) (N : Nat) : List Int := (List.range P).map fun a => ((cntN (fitA P n pts a) N : Nat) : Int)
theorem outs_len {P n N : Nat} {pts : List (Int × Int)} : (outs P n pts N).length = P := by simp [outs]
theorem outs_no {P n N : Nat} {pts : List (Int × Int)} (h : fitB P pts (dg P n N) = false) : outs P n pts (N + 1) = outs P n pts N := by
  unfold outs
  refine List.map_congr_left fun a _ => ?_
  rw [cntN, fitA, h]
  rfl
theorem outs_at {P n N a : Nat} {pts : List (Int × Int)} (ha : a < P) : (outs P n pts N).getD a 0 = ((cntN (fitA P n pts a) N : Nat) : Int) := by
  unfold outs
  rw [List.getD_eq_getElem?_getD, List.getElem?_map, List.getElem?_range ha]
  rfl
theorem outs_yes {P n N a : Nat} {pts : List (Int × Int)} (h : fitB P pts (dg P n N) = true) (ha : a < P) (he : cf (dg P n N) 0 = (a : Int)) : outs P n pts (N + 1) = (outs P n pts N).set a ((outs P n pts N).getD a 0 + 1) := by
  rw [outs_at ha]
  refine List.ext_getElem (by simp [outs_len]) fun k h1 h2 => ?_
  rw [outs_len] at h1
  rw [List.getElem_set]
  have e : ∀ M, (outs P n pts M)[k]'(by rw [outs_len]; exact h1) = ((cntN (fitA P n pts k) M : Nat) : Int) := fun M => by unfold outs; simp
  rw [e (N + 1), cntN, e N]
  by_cases q : a = k
  · subst q
    have : fitA P n pts a N = true := by unfold fitA; rw [h, he]; simp
    rw [this]
    simp
  · have : fitA P n pts k N = false := by
      unfold fitA
      rw [h, he, Bool.true_and]
      exact beq_eq_false_iff_ne.mpr (by omega)
    rw [this, if_neg q]
    simp
theorem fitB_of {P : Int} {pts : List (Int × Int)} {row : List Int} (h : ∀ k, k < pts.length → pval P row (px pts k) = py pts k) : fitB P pts row = true := by
  unfold fitB
  rw [List.all_eq_true]
  intro q hq
  obtain ⟨k, hk, rfl⟩ := List.mem_iff_getElem.mp hq
  have e : pts.getD k (0, 0) = pts[k] := by rw [List.getD_eq_getElem?_getD, List.getElem?_eq_getElem hk]; rfl
  have := h k hk
  unfold px py at this
  rw [e] at this
  rw [this]
  simp
theorem fitB_not {P : Int} {pts : List (Int × Int)} {row : List Int} {k : Nat} (hk : k < pts.length) (h : pval P row (px pts k) ≠ py pts k) : fitB P pts row = false := by
  have e : pts.getD k (0, 0) = pts[k] := by rw [List.getD_eq_getElem?_getD, List.getElem?_eq_getElem hk]; rfl
  unfold px py at h
  rw [e] at h
  unfold fitB
  rw [List.all_eq_false]
  exact ⟨pts[k], List.getElem_mem _, by simpa using h⟩
theorem fits_turn {c : Cx} {d : Nat} (ok : Ok G c (d + 2)) (hfm : c.fm = none) (hint : interactive c.env = false) (bs : Bs G) (ga : GAtt G C "prime") {fV : Addr} (gV : GFn G "value" fV) (dV : GDef G fV ["field", "row", "x"] k_value_nm k_value [])
    {H H2 : MH} {i kk r oa n P N : Nat} {pts : List (Int × Int)} {o5 o6 o7 o8 o9 o10 : Option MV} (hP : 2 ≤ P) (hP2 : P ≤ 1000) (hn1 : 1 ≤ n) (hn : n ≤ 200) (hF : Ins H i C kk [("prime", .int P)]) (hpts : PtsAt H r pts) (E : Ext H H2) (ha : H.length ≤ oa) (ho : H2[oa]? = some (.list (intL (outs P n pts N)))) :
    TB c [some (.ref i), some (.ref r), some (.int (n : Int)), some (.ref oa), some (.int (N : Int)), o5, o6, o7, o8, o9, o10] k_fits_turn H2
      (fun f m1 H3 => f = .next ∧ (∃ o5 o6 o7 o8 o9 o10, m1 = [some (.ref i), some (.ref r), some (.int (n : Int)), some (.ref oa), some (.int (N : Int)), o5, o6, o7, o8, o9, o10]) ∧ Ext H H3 ∧ H3[oa]? = some (.list (intL (outs P n pts (N + 1))))) := by
  have hPi : (2 : Int) ≤ P := by omega
  unfold k_fits_turn
  walk_at "w"
  refine ⟨by simp, ?_⟩
  walk_at "w"
  -- the digits
  have hoa : oa < H2.length := (List.getElem?_eq_some_iff.mp ho).1
  refine TS.mono (show TS c _ _ _ (fun f m1 H3 => f = .next ∧ (∃ o6 o7, m1 = [some (.ref i), some (.ref r), some (.int (n : Int)), some (.ref oa), some (.int (N : Int)), some (.ref H2.length), o6, o7, o8, o9, o10]) ∧ H3 = H2 ++ [.list (intL (dg P n N))]) from TS.forR ok hfm bs.range (by nofun) ?_ ⟨_, rfl⟩) ?_
  · walk_at "w"
    refine ⟨0, (n : Int), ⟨.inl ⟨rfl, rfl⟩, by omega, by omega, by omega, by omega⟩, fun j m1 H3 => ∃ o7, m1 = [some (.ref i), some (.ref r), some (.int (n : Int)), some (.ref oa), some (.int (N : Int)), some (.ref H2.length), some (.int ((N / P ^ j : Nat) : Int)), o7, o8, o9, o10] ∧ H3 = H2 ++ [.list (intL (dg P j N))], ⟨_, by simp; rfl, rfl⟩, ?_, ?_⟩
    · rintro j m1 H3 xt ⟨o7, rfl, rfl⟩ hj
      have okx := ok.wx xt
      have hfx : (c.wx xt).fm = none := hfm
      have hix : interactive (c.wx xt).env = false := hint
      show TB (c.wx xt) [some (.ref i), some (.ref r), some (.int (n : Int)), some (.ref oa), some (.int (N : Int)), some (.ref H2.length), some (.int ((N / P ^ j : Nat) : Int)), some (.int (0 + (j : Int))), o8, o9, o10] _ _ _
      have iF := (E.app [MO.list (intL (dg P j N))]).ins hF
      walk_at "w"
      refine ⟨_, _, rfl, get_end, ?_⟩
      walk_at "w"
      refine ⟨_, get_end, by simp [dg_len]; omega, ?_⟩
      have e1 : ((N / P ^ j : Nat) : Int) % (P : Int) = ((N / P ^ j % P : Nat) : Int) := by simp
      have e2 : (H2 ++ [MO.list (intL (dg P j N))]).set H2.length (.list (intL (dg P j N) ++ [.int (((N / P ^ j : Nat) : Int) % (P : Int))])) = H2 ++ [.list (intL (dg P (j + 1) N))] := by
        rw [e1, dg_end]
        simp [intL]
      rw [e2]
      have iF2 := (E.app [MO.list (intL (dg P (j + 1) N))]).ins hF
      walk_at "w"
      refine ⟨_, BinI.div (by omega) (by omega), ?_⟩
      have e3 : (((N / P ^ j : Nat) : Int)).fdiv (P : Int) = ((N / P ^ (j + 1) : Nat) : Int) := by
        rw [Int.fdiv_eq_ediv_of_nonneg _ (by omega), Nat.pow_succ, ← Nat.div_div_eq_div_mul]
        rfl
      rw [e3]
      walk_at "w"
      exact ⟨_, rfl, rfl⟩
    · rintro m1 H3 ⟨o7, rfl, rfl⟩
      exact ⟨rfl, ⟨_, _, rfl⟩, by simp⟩
  rintro _ _ _ ⟨rfl, ⟨o6', o7', rfl⟩, rfl⟩
  generalize hR : dg P n N = row
  have lR : row.length = n := by rw [← hR, dg_len]
  have bR : Bd (P : Int) row := by rw [← hR]; exact dg_bd (by omega) n N
  generalize hH3 : H2 ++ [MO.list (intL row)] = H3
  have E3 : Ext H H3 := by rw [← hH3]; exact E.app _
  have hr3 : H3[H2.length]? = some (.list (intL row)) := by rw [← hH3]; exact get_end
  have ho3 : H3[oa]? = some (.list (intL (outs P n pts N))) := by rw [← hH3]; exact get_app ho
  have iF := E3.ins hF
  walk_at "w"
  -- the shares
  obtain ⟨refs, p1, p2, p3⟩ := hpts.ext E3
  refine TS.mono (show TS c _ _ _ (fun f m1 H4 => f = .next ∧ (∃ o9 o10, m1 = [some (.ref i), some (.ref r), some (.int (n : Int)), some (.ref oa), some (.int (N : Int)), some (.ref H2.length), o6', o7', some (.bool (fitB P pts row)), o9, o10]) ∧ H4 = H3) from TS.forL' ok hfm ?_) ?_
  · walk_at "w"
    refine ⟨r, refs, rfl, p1, fun j m1 H4 => (∃ o9 o10, m1 = [some (.ref i), some (.ref r), some (.int (n : Int)), some (.ref oa), some (.int (N : Int)), some (.ref H2.length), o6', o7', some (.bool true), o9, o10]) ∧ H4 = H3 ∧ ∀ k, k < j → pval P row (px pts k) = py pts k, ⟨⟨_, _, rfl⟩, rfl, fun k hk => by omega⟩, ?_, ?_, ?_⟩
    · rintro j m1 H4 ⟨_, rfl, _⟩
      exact p1
    · rintro j m1 H4 v xt ⟨⟨o9', o10', rfl⟩, rfl, hk⟩ hv
      have hj : j < pts.length := by
        have := (List.getElem?_eq_some_iff.mp hv).1
        rw [p2] at this
        exact this
      obtain ⟨t, q1, q2⟩ := p3 j hj
      rw [q1] at hv
      cases hv
      refine ⟨[.int (px pts j), .int (py pts j)], ⟨by simp, rfl, t, rfl, q2⟩, ?_⟩
      have okx := ok.wx xt
      have hfx : (c.wx xt).fm = none := hfm
      show TB (c.wx xt) [some (.ref i), some (.ref r), some (.int (n : Int)), some (.ref oa), some (.int (N : Int)), some (.ref H2.length), o6', o7', some (.bool true), some (.int (px pts j)), some (.int (py pts j))] _ _ _
      walk_at "w"
      refine (value_cl dV bs ga iF hr3 hPi (by omega)).use (by omega) ?_
      rintro _ H4 ⟨rfl, rfl⟩
      walk_at "w"
      by_cases e : pval P row (px pts j) = py pts j
      · refine ⟨false, by show false = !decide _; simp [e], fun h => (by cases h), fun _ => ?_⟩
        walk_at "w"
        refine ⟨⟨_, _, rfl⟩, rfl, fun k hk' => ?_⟩
        by_cases q : k = j
        · rw [q]; exact e
        · exact hk k (by omega)
      · refine ⟨true, by show true = !decide _; simp [e], fun _ => ?_, fun h => (by cases h)⟩
        walk_at "w"
        refine TS.brk ?_
        rw [fitB_not hj e]
        exact ⟨rfl, ⟨_, _, rfl⟩, rfl⟩
    · rintro m1 H4 ⟨⟨o9', o10', rfl⟩, rfl, hk⟩
      rw [fitB_of (fun k hk' => hk k (by omega))]
      exact ⟨rfl, ⟨_, _, rfl⟩, rfl⟩
  rintro _ _ _ ⟨rfl, ⟨o9', o10', rfl⟩, rfl⟩
  walk_at "w"
  refine ⟨_, rfl, fun h => ?_, fun h => ?_⟩
  · have hb := bR (row.getD 0 0) (by rw [List.getD_eq_getElem?_getD, List.getElem?_eq_getElem (by omega)]; exact List.getElem_mem _)
    have hsz : (outs P n pts N).length ≤ 1000000 := by rw [outs_len]; omega
    refine TB.cons (TS.setItem ?_)
    walk_at "w"
    refine ⟨_, Sq.listI hr3 (by omega) (by omega) (by omega), ?_⟩
    have z0 : (0 : Int).toNat = 0 := rfl
    rw [z0]
    refine ⟨_, Sq.listI ho3 hsz hb.1 (by rw [outs_len]; omega), ?_⟩
    walk_at "w"
    refine ⟨_, Sq.listI hr3 (by omega) (by omega) (by omega), ?_⟩
    rw [z0]
    refine ⟨_, Uq.listI ho3 hsz hb.1 (by rw [outs_len]; omega), ?_⟩
    walk_at "w"
    refine ⟨rfl, ⟨_, _, _, _, _, _, rfl⟩, E3.set ha, ?_⟩
    rw [List.getElem?_set_self (List.getElem?_eq_some_iff.mp ho3).1, outs_yes (a := (row.getD 0 0).toNat) (by rw [hR]; exact h) (by omega) (by rw [hR]; show row.getD 0 0 = _; omega)]
  · walk_at "w"
    refine ⟨rfl, ⟨_, _, _, _, _, _, rfl⟩, E3, ?_⟩
    rw [outs_no (by rw [hR]; exact h)]
    exact ho3
structure FitK (G : Gx) (C CE : Addr) : Prop extends PolK G C CE where
  nf : ∃ f, GFn G "need_few" f ∧ GDef G f ["field", "count"] k_need_few_nm k_need_few []
theorem fits_cl {prog : Program} {w : World} {f : Addr} {i kk r n P : Nat} {pts : List (Int × Int)} {H : MH} {xp : Addr → List MV → MH → Prop} (D : GDef G f ["field", "shares", "needed"] k_fits_nm k_fits [])
    (K : FitK G C CE) (hP : 2 ≤ P) (hP2 : P ≤ 1000) (hF : Ins H i C kk [("prime", .int P)]) (hpts : PtsAt H r pts) (hl : pts.length ≤ 1000) (g : Gs P pts) (h1 : 1 ≤ n) (h2 : n ≤ 200) (h3 : P ^ n ≤ 200000) :
    CL G prog w 6 f [.ref i, .ref r, .int (n : Int)] H (fun v H' => ∃ z, v = .ref z ∧ H.length ≤ z ∧ Ext H H' ∧ H'[z]? = some (.list (intL (outs P n pts (P ^ n))))) xp := by
  have bs := K.bs
  have ga := K.T.att
  obtain ⟨fS, gS, dS⟩ := K.ns
  obtain ⟨fN, gN, dN⟩ := K.nn
  obtain ⟨fW, gW, dW⟩ := K.nf
  obtain ⟨fV, gV, dV⟩ := K.va
  obtain ⟨t0, gM⟩ := K.mo
  refine D.cl rfl ?_
  intro c e1 e2 ok hfm hint hnm hX
  subst e1 e2
  show TB c [some (.ref i), some (.ref r), some (.int (n : Int)), none, none, none, none, none, none, none, none] _ _ _
  unfold k_fits
  walk_at "w"
  refine (need_shares_cl dS K.toPolK hF hpts hl g).use (by decide) ?_
  rintro _ H1 ⟨rfl, E1⟩
  walk_at "w"
  refine TE.glob ok gM (v := .int 200) ⟨t0, rfl⟩ ?_
  walk_at "w"
  refine (need_number_cl dN bs (by omega) (by omega)).use (by decide) ?_
  rintro _ H1 ⟨rfl, rfl⟩
  walk_at "w"
  have hpw : ((P : Int)) ^ n = ((P ^ n : Nat) : Int) := by simp
  refine (need_few_cl dW bs K.T.att (E1.ins hF) (by omega) (by omega) (by omega) (by rw [Int.toNat_natCast, hpw]; omega)).use (by decide) ?_
  rintro _ H1 ⟨rfl, rfl⟩
  refine TB.cons (TS.assign ok hfm rfl (TE.mulL ?_))
  walk_at "w"
  refine ⟨by simp, ?_⟩
  have iF2 := (E1.app [MO.list [.int 0]]).ins hF
  walk_at "w"
  refine ⟨_, _, _, rfl, rfl, get_end, by omega, by omega, ?_⟩
  generalize hH2 : H1 ++ [MO.list [.int 0]] = H2 at *
  have E2 : Ext H H2 := by rw [← hH2]; exact E1.app _
  have E3 := E2.app [MO.list (List.replicate ((P : Int)).toNat (.int 0))]
  have iF3 := E3.ins hF
  refine TB.cons (TS.forR ok hfm bs.range (by nofun) ?_ ⟨_, rfl⟩)
  walk_at "w"
  refine ⟨_, BinI.pow (by omega) (by omega) (by omega), ?_⟩
  have hpw' : ((P : Int)) ^ ((n : Int)).toNat = ((P ^ n : Nat) : Int) := by rw [Int.toNat_natCast]; exact hpw
  rw [hpw']
  walk_at "w"
  refine ⟨0, _, ⟨.inl ⟨rfl, rfl⟩, by omega, by omega, by omega, by omega⟩, fun N m1 H3 => (∃ o4 o5 o6 o7 o8 o9 o10, m1 = [some (.ref i), some (.ref r), some (.int (n : Int)), some (.ref H2.length), o4, o5, o6, o7, o8, o9, o10]) ∧ Ext H H3 ∧ H3[H2.length]? = some (.list (intL (outs P n pts N))), ⟨⟨_, _, _, _, _, _, _, rfl⟩, E3, ?_⟩, ?_, ?_⟩
  · rw [get_end]
    congr 2
    refine List.ext_getElem (by simp [outs_len]) fun k q1 q2 => ?_
    simp [intL, outs, cntN]
  · rintro N m1 H3 xt ⟨⟨o4, o5, o6, o7, o8, o9, o10, rfl⟩, E4, ho⟩ hN
    have okx := ok.wx xt
    rw [Int.zero_add] at *
    refine (fits_turn (d := 3) okx hfm hint bs K.T.att gV dV hP hP2 h1 h2 hF hpts E4 E2.len ho).mono ?_
    rintro _ m2 H4 ⟨rfl, ⟨o5', o6', o7', o8', o9', o10', rfl⟩, E5, ho5⟩
    exact ⟨⟨_, _, _, _, _, _, _, rfl⟩, E5, ho5⟩
  · rintro m1 H3 ⟨⟨o4, o5, o6, o7, o8, o9, o10, rfl⟩, E4, ho⟩
    walk_at "w"
    refine ⟨_, rfl, E2.len, E4, ?_⟩
    rw [ho]
    congr 4
end
theorem pt_get {pts : List (Int × Int)} {k : Nat} (hk : k < pts.length) : pts.getD k (0, 0) = pts[k] := by rw [List.getD_eq_getElem?_getD, List.getElem?_eq_getElem hk]; rfl
theorem Gs.gp {p : Int} {pts : List (Int × Int)} (g : Gs p pts) : Gp p pts := by
  refine ⟨fun q hq => ?_, fun q hq => ?_, ?_⟩
  · obtain ⟨k, hk, rfl⟩ := List.mem_iff_getElem.mp hq
    have := g.x k hk
    unfold px at this
    rw [pt_get hk] at this
    omega
  · obtain ⟨k, hk, rfl⟩ := List.mem_iff_getElem.mp hq
    have := g.y k hk
    unfold py at this
    rw [pt_get hk] at this
    omega
  · rw [List.nodup_iff_pairwise_ne, List.pairwise_iff_getElem]
    intro i j hi hj hij e
    rw [List.length_map] at hi hj
    rw [List.getElem_map, List.getElem_map] at e
    have := g.d i j hi hj (by unfold px; rw [pt_get hi, pt_get hj]; exact e)
    omega
theorem Gs.gp0 {p a : Int} {pts : List (Int × Int)} (g : Gs p pts) (hp : 0 < p) (h0 : 0 ≤ a) (h1 : a < p) : Gp p ((0, a) :: pts) := by
  have gp := g.gp
  refine ⟨fun q hq => ?_, fun q hq => ?_, ?_⟩
  · rcases List.mem_cons.mp hq with rfl | h
    · exact ⟨Int.le_refl _, hp⟩
    · exact gp.x q h
  · rcases List.mem_cons.mp hq with rfl | h
    · exact ⟨h0, h1⟩
    · exact gp.y q h
  · rw [List.map_cons, List.nodup_cons]
    refine ⟨fun h => ?_, gp.d⟩
    obtain ⟨q, hq, e⟩ := List.mem_map.mp h
    obtain ⟨k, hk, rfl⟩ := List.mem_iff_getElem.mp hq
    have := g.x k hk
    unfold px at this
    rw [pt_get hk, e] at this
    omega
theorem pval_zero {p : Int} {a : Int} {l : List Int} (h0 : 0 ≤ a) (h1 : a < p) : pval p (a :: l) 0 = a := by
  have hp : 0 < p := by omega
  refine Cg.small ?_ (pval_bd hp _ _) ⟨h0, h1⟩
  refine (pval_pz p _ 0).trans ?_
  rw [pz_cons, Int.mul_zero, Int.zero_add]
  exact Cg.rfl
theorem outs_few {P n : Nat} {pts : List (Int × Int)} (F : Fer (P : Int)) (hn : n ≤ P) (g : Gs P pts) (h : pts.length < n) : outs P n pts (P ^ n) = List.replicate P (((P ^ (n - 1 - pts.length) : Nat)) : Int) := by
  have hP : 0 < P := by have := F.two; omega
  refine List.ext_getElem (by simp [outs_len]) fun a h1 h2 => ?_
  rw [outs_len] at h1
  rw [List.getElem_replicate]
  have e0 : (outs P n pts (P ^ n))[a]'(by rw [outs_len]; exact h1) = ((cntN (fitA P n pts a) (P ^ n) : Nat) : Int) := by unfold outs; simp
  rw [e0]
  congr 1
  rw [← fit_count F n hn (n - 1 - pts.length) ((0, (a : Int)) :: pts) (by rw [List.length_cons]; omega) (g.gp0 (by omega) (by omega) (by omega))]
  refine cntN_congr _ fun m hm => ?_
  unfold fitA fitB
  rw [List.all_cons, Bool.and_comm]
  congr 1
  have hl := dg_len P n m
  have hb := dg_bd hP n m
  generalize dg P n m = row at *
  cases row with
  | nil => simp at hl; omega
  | cons b l =>
    have := hb b (List.mem_cons_self ..)
    show (b == (a : Int)) = (pval P (b :: l) 0 == (a : Int))
    rw [pval_zero this.1 this.2]
theorem outs_all {P : Nat} {pts : List (Int × Int)} {s : Int} {l : List Int} (F : Fer (P : Int)) (g : Gs P pts) (hb : Bd (P : Int) (s :: l)) (h : (s :: l).length ≤ pts.length) (hv : ∀ k, k < pts.length → pval P (s :: l) (px pts k) = py pts k) :
    outs P (s :: l).length pts (P ^ (s :: l).length) = (List.range P).map fun (a : Nat) => if (a : Int) = s then 1 else 0 := by
  have hP : 0 < P := by have := F.two; omega
  unfold outs
  refine List.map_congr_left fun a ha => ?_
  have ha := List.mem_range.mp ha
  have hfit := fitB_of hv
  have hu : ∀ m, fitB P pts (dg P (s :: l).length m) = true → dg P (s :: l).length m = s :: l := fun m hm => by
    refine row_unique F (xs := pts.map Prod.fst) (dg_len ..) (by rw [dg_len, List.length_map]; exact h) g.gp.pw (dg_bd hP _ _) hb fun x hx => ?_
    obtain ⟨q, hq, rfl⟩ := List.mem_map.mp hx
    unfold fitB at hm hfit
    rw [List.all_eq_true] at hm hfit
    have a := hm q hq
    have b := hfit q hq
    rw [beq_iff_eq] at a b
    rw [a, b]
  have hc : cntN (fitA P (s :: l).length pts a) (P ^ (s :: l).length) = cntN (fun m => m == nmb P (s :: l) && (s == (a : Int))) (P ^ (s :: l).length) := cntN_congr _ fun m hm => by
    unfold fitA
    cases q : fitB P pts (dg P (s :: l).length m)
    · have : (m == nmb P (s :: l)) = false := by
        refine beq_eq_false_iff_ne.mpr fun e => ?_
        rw [e, dg_nmb hP _ hb, hfit] at q
        cases q
      rw [this, Bool.false_and, Bool.false_and]
    · have e := hu m q
      have h5 := nmb_dg hP _ m hm
      rw [e] at h5
      rw [e, h5]
      simp
  rw [hc]
  by_cases e : (a : Int) = s
  · rw [if_pos e, cntN_one (k := nmb P (s :: l)) (by simp [e]) (fun m hm => by simp at hm; exact hm.1) _ (nmb_lt hP _ hb)]
    rfl
  · rw [if_neg e, cntN_none _ fun m hm => by
      have : (s == (a : Int)) = false := beq_eq_false_iff_ne.mpr fun q => e q.symm
      rw [this, Bool.and_false]]
    rfl
set_option compiler.extract_closed false
local macro_rules | `(tactic| walk_at "s") => `(tactic| with_reducible first
  | refine TE.cell (by assumption) (by decide) (by assumption) (by with_unfolding_all rfl) ?_
  | refine ⟨_, CellI.mk (by omega), ?_⟩
  | fail)
noncomputable def k13_law_nm : List Str := ["script", "field", "count", "needed", "secret", "row", "shares", "some", "counts", "x", "found"]
noncomputable def k13_4 : CSs := (.cons (.assign 10 (.str ""))
  (.cons (.try (.cons (.expr (.call "rebuild" (.cons (.loc 1) (.cons (.loc 7) (.cons (.loc 3) .nil)))))
  .nil) (.cons "ValueError" none (.cons (.assign 10 (.str "ValueError"))
  .nil) .nil))
  (.cons (.ite (.cmp .Eq (.loc 10) (.str "")) (.cons (.ret (.bool false))
  .nil) .nil)
  (.cons (.ret (.tst (.cmp .Eq (.loc 8) (.bin .Mult (.list (.cons (.bin .Pow (.attr (.loc 1) "prime") (.bin .Sub (.bin .Sub (.loc 3) (.int 1)) (.call "len" (.cons (.loc 7) .nil)))) .nil)) (.attr (.loc 1) "prime")))))
  .nil))))
noncomputable def k13_5 : CSs := (.cons (.ite (.cmp .NotEq (.call "rebuild" (.cons (.loc 1) (.cons (.loc 7) (.cons (.loc 3) .nil)))) (.loc 4)) (.cons (.ret (.bool false))
  .nil) .nil)
  (.cons (.assign 9 (.bin .Mod (.call "_law_cell" (.cons (.loc 0) (.cons (.int 7) .nil))) (.attr (.loc 1) "prime")))
  (.cons (.ite (.cmp .NotEq (.call "value_at" (.cons (.loc 1) (.cons (.loc 7) (.cons (.loc 3) (.cons (.loc 9) .nil))))) (.call "value" (.cons (.loc 1) (.cons (.loc 5) (.cons (.loc 9) .nil))))) (.cons (.ret (.bool false))
  .nil) .nil)
  (.cons (.ret (.tst (.cmp .Eq (.loc 8) (.comp (.sub (.list (.cons (.int 0) (.cons (.int 1) .nil))) (.tst (.cmp .Eq (.loc 11) (.loc 4)))) ["k"] (.call "range" (.cons (.attr (.loc 1) "prime") .nil)) .nil))))
  .nil))))
noncomputable def k13_3 : CSs := (.cons (.assign 8 (.call "fits" (.cons (.loc 1) (.cons (.loc 7) (.cons (.loc 3) .nil)))))
  (.cons (.ite (.cmp .GtE (.call "len" (.cons (.loc 7) .nil)) (.loc 3)) k13_5 .nil)
  k13_4))
noncomputable def k13_2 : CSs := (.cons (.assign 7 (.comp (.sub (.loc 6) (.loc 11)) ["k"] (.call "range" (.cons (.loc 2) .nil)) (.cons (.cmp .Eq (.bin .Mod (.bin .FloorDiv (.call "_law_cell" (.cons (.loc 0) (.cons (.int 5) .nil))) (.bin .Pow (.int 2) (.loc 11))) (.int 2)) (.int 1)) .nil)))
  (.cons (.ite (.cmp .Eq (.bin .Mod (.call "_law_cell" (.cons (.loc 0) (.cons (.int 6) .nil))) (.int 2)) (.int 1)) (.cons (.assign 7 (.comp (.sub (.loc 7) (.bin .Sub (.bin .Sub (.call "len" (.cons (.loc 7) .nil)) (.int 1)) (.loc 11))) ["k"] (.call "range" (.cons (.call "len" (.cons (.loc 7) .nil)) .nil)) .nil))
  .nil) .nil)
  k13_3))
noncomputable def k13_1 : CSs := (.cons (.ite (.cmp .NotEq (.comp (.loc 11) ["x", "y"] (.loc 6) .nil) (.comp (.bin .Add (.loc 11) (.int 1)) ["k"] (.call "range" (.cons (.loc 2) .nil)) .nil)) (.cons (.ret (.bool false))
  .nil) .nil)
  (.cons (.ite (.cmp .NotEq (.tup (.cons (.sub (.loc 5) (.int 0)) (.cons (.call "len" (.cons (.loc 5) .nil)) .nil))) (.tup (.cons (.loc 4) (.cons (.loc 3) .nil)))) (.cons (.ret (.bool false))
  .nil) .nil)
  (.cons (.ite (.cmp .NotEq (.call "shares_of" (.cons (.loc 1) (.cons (.loc 5) (.cons (.loc 2) .nil)))) (.loc 6)) (.cons (.ret (.bool false))
  .nil) .nil)
  k13_2)))
noncomputable def k13_law : CSs := (.cons (.assign 1 (.call "Field" (.cons (.sub (.list (.cons (.int 5) (.cons (.int 7) .nil))) (.bin .Mod (.call "_law_cell" (.cons (.loc 0) (.cons (.int 0) .nil))) (.int 2))) .nil)))
  (.cons (.assign 2 (.bin .Add (.int 1) (.bin .Mod (.call "_law_cell" (.cons (.loc 0) (.cons (.int 1) .nil))) (.int 4))))
  (.cons (.assign 3 (.bin .Add (.int 1) (.bin .Mod (.call "_law_cell" (.cons (.loc 0) (.cons (.int 2) .nil))) (.call "min" (.cons (.loc 2) (.cons (.int 3) .nil))))))
  (.cons (.assign 4 (.bin .Mod (.call "_law_cell" (.cons (.loc 0) (.cons (.int 3) .nil))) (.attr (.loc 1) "prime")))
  (.cons (.assignT [5, 6] (.call "deal" (.cons (.loc 1) (.cons (.loc 4) (.cons (.loc 3) (.cons (.loc 2) (.cons (.call "Source" (.cons (.bin .Mod (.call "_law_cell" (.cons (.loc 0) (.cons (.int 4) .nil))) (.bin .Pow (.int 10) (.int 9))) .nil)) .nil)))))))
  k13_1)))))
theorem isP5 : isP 5 := by
  refine ⟨by decide, fun k h1 h2 => ?_⟩
  have h3 : k ≤ 2 := by
    refine Int.not_lt.mp fun q => ?_
    have : 3 * 3 ≤ k * k := Int.mul_le_mul (by omega) (by omega) (by omega) (by omega)
    omega
  have : k = 2 := by omega
  subst this
  decide
theorem isP7 : isP 7 := by
  refine ⟨by decide, fun k h1 h2 => ?_⟩
  have h3 : k ≤ 2 := by
    refine Int.not_lt.mp fun q => ?_
    have : 3 * 3 ≤ k * k := Int.mul_le_mul (by omega) (by omega) (by omega) (by omega)
    omega
  have : k = 2 := by omega
  subst this
  decide
theorem fer7 : Fer 7 := Fer.of (by decide) (by decide +kernel)
structure K13 (G : Gx) (C CS CE : Addr) : Prop extends FitK G C CE where
  F : FieldK G C
  D : DealK G C CS CE
  de : ∃ f, GFn G "deal" f ∧ GDef G f ["field", "secret", "needed", "count", "source"] k_deal_nm k_deal []
  vat : ∃ f, GFn G "value_at" f ∧ GDef G f ["field", "shares", "needed", "x"] k_value_at_nm k_value_at []
  re : ∃ f, GFn G "rebuild" f ∧ GDef G f ["field", "shares", "needed"] k_rebuild_nm k_rebuild []
  fi : ∃ f, GFn G "fits" f ∧ GDef G f ["field", "shares", "needed"] k_fits_nm k_fits []
  ve : nsIn G.K mainGlobals "ValueError" = some none
section
variable {G : Gx} {c : Cx} {sa C CS CE : Addr} {ns : List Int}
theorem law13_4 (ok : Ok G c 200) (hfm : c.fm = none) (hint : interactive c.env = false) (L : LawK G sa ns) (K : K13 G C CS CE) {H : MH} {i kk q z P n : Nat} {pts : List (Int × Int)} {o2 o4 o5 o6 o9 : Option MV} (F : Fer (P : Int)) (hP2 : P ≤ 1000) (hF : Ins H i C kk [("prime", .int P)])
    (hq : PtsAt H q pts) (g : Gs P pts) (hl : pts.length ≤ 4) (hn1 : 1 ≤ n) (hn : n ≤ 3) (hnP : n ≤ P) (hz : H[z]? = some (.list (intL (outs P n pts (P ^ n))))) (h : pts.length < n) :
    TB c [some (.glob sa), some (.ref i), o2, some (.int (n : Int)), o4, o5, o6, some (.ref q), some (.ref z), o9, none] k13_4 H (fun fl _ _ => retv fl = .bool true) := by
  have bs := L.bs
  have ga := K.T.att
  obtain ⟨fA, gA, dA⟩ := K.vat
  obtain ⟨fR, gR, dR⟩ := K.re
  unfold k13_4
  walk_at "w"
  refine TS.tryA ok hfm ?_
  generalize hX : (fun (C_1 : Addr) (as : List MV) (m1 : ML) (H1_1 : MH) => _) = X
  have okX := ok.wX X
  have hfX : (c.wX X).fm = none := hfm
  have hiX : interactive (c.wX X).env = false := hint
  show TB (c.wX X) [some (.glob sa), some (.ref i), o2, some (.int (n : Int)), o4, o5, o6, some (.ref q), some (.ref z), o9, some (.str "")] _ _ _
  walk_at "w"
  refine (rebuild_x dR gA dA K.toPolK hF hq (by omega) g (by omega) (by omega) (by omega)).use2 (d' := 200) (by decide) (fun _ _ h => h.elim) ?_
  rintro C' as H1 ⟨rfl, E1⟩
  subst hX
  refine ⟨takesV K.ex K.ve, ?_⟩
  show TB c [some (.glob sa), some (.ref i), o2, some (.int (n : Int)), o4, o5, o6, some (.ref q), some (.ref z), o9, some (.str "ValueError")] _ _ _
  have iF := E1.ins hF
  have hq1 := hq.ext E1
  walk_at "w"
  refine ⟨false, rfl, fun h => (by cases h), fun _ => ?_⟩
  refine TB.nil (TB.cons (TS.ret (TE.tst (TV.cq ?_))))
  walk_at "s"
  refine TE.mulL ?_
  walk_at "w"
  refine hq1.len (by omega) ?_
  walk_at "w"
  refine ⟨_, BinI.pow (by omega) (by omega) (by omega), ?_⟩
  walk_at "w"
  refine ⟨by simp, ?_⟩
  have iF2 := (E1.app [MO.list [.int ((P : Int) ^ ((n : Int) - 1 - pts.length).toNat)]]).ins hF
  walk_at "w"
  refine ⟨_, _, _, rfl, rfl, get_end, by omega, by omega, ?_⟩
  have ez : (outs P n pts (P ^ n)) = List.replicate ((P : Int)).toNat ((P : Int) ^ ((n : Int) - 1 - pts.length).toNat) := by
    rw [outs_few F hnP g h, Int.toNat_natCast]
    congr 1
    have : ((n : Int) - 1 - pts.length).toNat = n - 1 - pts.length := by omega
    rw [this]
    simp
  refine ⟨_, Cq.eqI ok (get_app (get_app (E1 _ _ hz))) (ms := List.replicate ((P : Int)).toNat ((P : Int) ^ ((n : Int) - 1 - pts.length).toNat)) (by rw [get_end]; simp [intL]), ?_⟩
  rw [ez]
  simp [retv]
theorem law13_5 (ok : Ok G c 200) (hfm : c.fm = none) (hint : interactive c.env = false) (L : LawK G sa ns) (K : K13 G C CS CE) {H : MH} {i kk q z zr P : Nat} {s : Int} {l : List Int} {pts : List (Int × Int)} {o2 o6 : Option MV} {post : Fl → ML → MH → Prop} (F : Fer (P : Int)) (hP2 : P ≤ 1000) (hF : Ins H i C kk [("prime", .int P)])
    (hq : PtsAt H q pts) (g : Gs P pts) (hl : pts.length ≤ 4) (hb : Bd (P : Int) (s :: l)) (hn : (s :: l).length ≤ 3) (hr : H[zr]? = some (.list (intL (s :: l)))) (hz : H[z]? = some (.list (intL (outs P (s :: l).length pts (P ^ (s :: l).length))))) (h : (s :: l).length ≤ pts.length)
    (hv : ∀ k, k < pts.length → pval P (s :: l) (px pts k) = py pts k) (hpost : ∀ m H', post (.ret (.bool true)) m H') :
    TB c [some (.glob sa), some (.ref i), o2, some (.int ((s :: l).length : Nat)), some (.int s), some (.ref zr), o6, some (.ref q), some (.ref z), none, none] k13_5 H post := by
  have bs := L.bs
  have ga := K.T.att
  have hp := F.two
  obtain ⟨fA, gA, dA⟩ := K.vat
  obtain ⟨fR, gR, dR⟩ := K.re
  obtain ⟨fV, gV, dV⟩ := K.va
  have hs := hb s (List.mem_cons_self ..)
  have ez := outs_all F g hb h hv
  generalize hn' : (s :: l).length = n at *
  have gt := g.take n
  have lt : (pts.take n).length = n := by rw [List.length_take]; omega
  have hval : ∀ x, pval P (thr P (pts.take ((n : Int)).toNat)) x = pval P (s :: l) x := by
    rw [Int.toNat_natCast]
    refine thr_row_val F (by rw [lt, hn']) hb (df_of gt) fun k hk => ?_
    rw [lt] at hk
    unfold px py
    rw [pt_take hk]
    exact (hv k (by omega)).symm
  have h1 : 1 ≤ n := by rw [← hn']; simp
  unfold k13_5
  walk_at "w"
  refine (rebuild_cl dR gA dA K.toPolK F (by omega) hF hq (by omega) g (by omega) (by omega) (by omega) (fun k _ hk => by rw [hval]; exact hv k hk)).use (d' := 200) (by decide) ?_
  rintro _ H1 ⟨rfl, E1⟩
  rw [hval, pval_zero hs.1 hs.2]
  have iF1 := E1.ins hF
  walk_at "w"
  refine ⟨false, by show false = !decide _; simp, fun h => (by cases h), fun _ => ?_⟩
  walk_at "w"
  refine (value_at_cl dA K.toPolK F (by omega) iF1 (hq.ext E1) (by omega) g (by omega) (by omega) (by omega) (fun k _ hk => by rw [hval]; exact hv k hk)).use (d' := 200) (by decide) ?_
  rintro _ H2 ⟨rfl, E2⟩
  have E02 := E1.trans E2
  have iF2 := E02.ins hF
  rw [hval]
  walk_at "w"
  refine (value_cl dV bs ga iF2 (E02 _ _ hr) hp (by omega)).use (d' := 200) (by decide) ?_
  rintro _ H2 ⟨rfl, rfl⟩
  walk_at "w"
  refine ⟨false, by show false = !decide _; simp, fun h => (by cases h), fun _ => ?_⟩
  refine TB.nil (TB.cons (TS.ret (TE.tst (TV.cq ?_))))
  walk_at "s"
  refine TE.comp ok (Src.range ok bs.range ?_)
  walk_at "w"
  refine ⟨0, (P : Int), ⟨.inl ⟨rfl, rfl⟩, by omega, by omega, by omega, by omega⟩, ?_⟩
  refine Turns.range (x := "k") rfl (by omega) (fun j ys H3 => Ext H2 H3 ∧ ys = intL ((List.range j).map fun (a : Nat) => if (a : Int) = s then 1 else 0)) ⟨Ext.refl H2, rfl⟩ ?_ ?_ ?_
  · rintro j ys H3 ⟨_, rfl⟩
    simp [intL]
  · rintro j ys H3 ⟨E3, rfl⟩ hlt c' sub hnm'
    have ok' := sub.ok
    refine ⟨fun q => (by cases q), fun _ => ?_⟩
    rw [Int.zero_add] at *
    show TE c' [some (.glob sa), some (.ref i), o2, some (.int (n : Int)), some (.int s), some (.ref zr), o6, some (.ref q), some (.ref z), some (.int _), none, some (.int (j : Int))] _ _ _
    walk_at "w"
    refine ⟨Nat.le_of_ble_eq_true rfl, ?_⟩
    walk_at "w"
    refine TV.cmp ?_
    walk_at "w"
    refine ⟨decide ((j : Int) = s), rfl, ?_⟩
    refine ⟨.int (if (j : Int) = s then 1 else 0), Sq.listB get_end (by by_cases e : (j : Int) = s <;> simp [e]), ?_⟩
    exact ⟨E3.app _, by rw [List.range_succ]; simp [intL]⟩
  · rintro ys H3 ⟨E3, rfl⟩
    refine ⟨_, Cq.eqI ok (get_app (E3 _ _ (E02 _ _ hz))) (ms := (List.range ((P : Int) - 0).toNat).map fun (a : Nat) => if (a : Int) = s then 1 else 0) get_end, ?_⟩
    rw [ez]
    have e0 : ((P : Int) - 0).toNat = P := by omega
    rw [e0]
    simp
    exact hpost _ _
theorem law13_3 (ok : Ok G c 200) (hfm : c.fm = none) (hint : interactive c.env = false) (L : LawK G sa ns) (K : K13 G C CS CE) {H : MH} {i kk q zr P : Nat} {s : Int} {l : List Int} {pts : List (Int × Int)} {o2 o6 o8 : Option MV} (F : Fer (P : Int)) (hP2 : P ≤ 7) (hP3 : 3 ≤ P) (hF : Ins H i C kk [("prime", .int P)])
    (hq : PtsAt H q pts) (g : Gs P pts) (hl : pts.length ≤ 4) (hb : Bd (P : Int) (s :: l)) (hn : (s :: l).length ≤ 3) (hr : H[zr]? = some (.list (intL (s :: l))))
    (hv : ∀ k, k < pts.length → pval P (s :: l) (px pts k) = py pts k) :
    TB c [some (.glob sa), some (.ref i), o2, some (.int ((s :: l).length : Nat)), some (.int s), some (.ref zr), o6, some (.ref q), o8, none, none] k13_3 H (fun fl _ _ => retv fl = .bool true) := by
  have bs := L.bs
  have ga := K.T.att
  have hp := F.two
  obtain ⟨fI, gI, dI⟩ := K.fi
  have h1 : 1 ≤ (s :: l).length := by simp
  have h3 : P ^ (s :: l).length ≤ 200000 := by
    have a1 : P ^ (s :: l).length ≤ P ^ 3 := Nat.pow_le_pow_right (by omega) hn
    have a2 : P ^ 3 ≤ 7 ^ 3 := Nat.pow_le_pow_left hP2 3
    have a3 : 7 ^ 3 ≤ 200000 := by decide
    omega
  unfold k13_3
  walk_at "w"
  refine (fits_cl dI K.toFitK (by omega) (by omega) hF hq (by omega) g h1 (by omega) h3).use (d' := 200) (by decide) ?_
  rintro _ H1 ⟨z, rfl, _, E1, hz⟩
  have hq1 := hq.ext E1
  have iF1 := E1.ins hF
  walk_at "w"
  refine hq1.len (by omega) ?_
  walk_at "w"
  refine ⟨_, rfl, fun h => ?_, fun h => ?_⟩
  · have h : (s :: l).length ≤ pts.length := by simp at h ⊢; omega
    exact law13_5 ok hfm hint L K F (by omega) iF1 hq1 g hl hb hn (E1 _ _ hr) hz h hv fun _ _ => rfl
  · have h : pts.length < (s :: l).length := by simp at h ⊢; omega
    refine TB.nil ?_
    exact law13_4 ok hfm hint L K F (by omega) iF1 hq1 g hl h1 hn (by omega) hz h
structure Fr (p : Int) (row : List Int) (j : Nat) (pts : List (Int × Int)) : Prop where
  x : ∀ k, k < pts.length → 1 ≤ px pts k ∧ px pts k ≤ j
  y : ∀ k, k < pts.length → pval p row (px pts k) = py pts k
  d : ∀ a b, a < pts.length → b < pts.length → px pts a = px pts b → a = b
  l : pts.length ≤ j
theorem Fr.nil {p : Int} {row : List Int} : Fr p row 0 [] := ⟨fun k h => by simp at h, fun k h => by simp at h, fun a b h => by simp at h, by simp⟩
theorem Fr.skip {p : Int} {row : List Int} {j : Nat} {pts : List (Int × Int)} (h : Fr p row j pts) : Fr p row (j + 1) pts := ⟨fun k hk => by have := h.x k hk; omega, h.y, h.d, by have := h.l; omega⟩
theorem pt_app {pts : List (Int × Int)} {v : Int × Int} {k : Nat} : (pts ++ [v]).getD k (0, 0) = if k < pts.length then pts.getD k (0, 0) else if k = pts.length then v else (0, 0) := by
  rw [List.getD_eq_getElem?_getD, List.getD_eq_getElem?_getD]
  split
  · rename_i h; rw [List.getElem?_append_left h]
  · split
    · rename_i h; subst h; simp
    · rename_i h1 h2
      rw [List.getElem?_eq_none (by simp; omega)]
      rfl
theorem Fr.add {p : Int} {row : List Int} {j : Nat} {pts : List (Int × Int)} (h : Fr p row j pts) : Fr p row (j + 1) (pts ++ [((j : Int) + 1, pval p row ((j : Int) + 1))]) := by
  have hl := h.l
  refine ⟨fun k hk => ?_, fun k hk => ?_, fun a b ha hb e => ?_, by simp; omega⟩
  · unfold px
    rw [pt_app]
    split
    · have := h.x k (by assumption); unfold px at this; omega
    · rw [if_pos (by simp at hk; omega)]
      exact ⟨by show 1 ≤ (j : Int) + 1; omega, by show (j : Int) + 1 ≤ ((j + 1 : Nat) : Int); omega⟩
  · unfold px py
    rw [pt_app]
    split
    · exact h.y k (by assumption)
    · rw [if_pos (by simp at hk; omega)]
  · unfold px at e
    rw [pt_app, pt_app] at e
    simp only [List.length_append, List.length_cons, List.length_nil] at ha hb
    split at e
    · split at e
      · exact h.d a b (by assumption) (by assumption) e
      · rw [if_pos (by omega)] at e
        have := h.x a (by assumption)
        unfold px at this
        rw [e] at this
        simp at this
        omega
    · rw [if_pos (by omega)] at e
      split at e
      · have := h.x b (by assumption)
        unfold px at this
        rw [← e] at this
        simp at this
        omega
      · omega
theorem pt_rev {pts : List (Int × Int)} {k : Nat} (h : k < pts.length) : pts.reverse.getD k (0, 0) = pts.getD (pts.length - 1 - k) (0, 0) := by
  rw [List.getD_eq_getElem?_getD, List.getD_eq_getElem?_getD, List.getElem?_reverse h]
theorem Fr.rev {p : Int} {row : List Int} {j : Nat} {pts : List (Int × Int)} (h : Fr p row j pts) : Fr p row j pts.reverse := by
  have hl := h.l
  refine ⟨fun k hk => ?_, fun k hk => ?_, fun a b ha hb e => ?_, by simpa using hl⟩
  · rw [List.length_reverse] at hk
    unfold px
    rw [pt_rev hk]
    exact h.x _ (by omega)
  · rw [List.length_reverse] at hk
    unfold px py
    rw [pt_rev hk]
    exact h.y _ (by omega)
  · rw [List.length_reverse] at ha hb
    unfold px at e
    rw [pt_rev ha, pt_rev hb] at e
    have := h.d _ _ (by omega) (by omega) e
    omega
theorem Fr.gs {p : Int} {row : List Int} {j : Nat} {pts : List (Int × Int)} (h : Fr p row j pts) (hp : (j : Int) < p) : Gs p pts :=
  ⟨fun k hk => by have := h.x k hk; omega, fun k hk => by rw [← h.y k hk]; exact pval_bd (by omega) _ _, h.d⟩
theorem law13_2 (ok : Ok G c 200) (hfm : c.fm = none) (hint : interactive c.env = false) (L : LawK G sa ns) (K : K13 G C CS CE) {H : MH} {i kk zs zr P cn : Nat} {s : Int} {l : List Int} {o8 : Option MV} (F : Fer (P : Int)) (hP2 : P ≤ 7) (hP3 : 5 ≤ P) (hF : Ins H i C kk [("prime", .int P)])
    (hcn : cn ≤ 4) (hS : PtsAt H zs (shs P (s :: l) cn)) (hb : Bd (P : Int) (s :: l)) (hn : (s :: l).length ≤ 3) (hr : H[zr]? = some (.list (intL (s :: l)))) :
    TB c [some (.glob sa), some (.ref i), some (.int (cn : Int)), some (.int ((s :: l).length : Nat)), some (.int s), some (.ref zr), some (.ref zs), none, o8, none, none] k13_2 H (fun fl _ _ => retv fl = .bool true) := by
  have bs := L.bs
  have ga := K.T.att
  unfold k13_2
  obtain ⟨refs, p1, p2, p3⟩ := hS
  rw [shs_len] at p2 p3
  refine TB.cons (TS.assignC ok hfm (Src.range ok bs.range ?_))
  walk_at "w"
  refine ⟨0, (cn : Int), ⟨.inl ⟨rfl, rfl⟩, by omega, by omega, by omega, by omega⟩, ?_⟩
  refine Turns.range (x := "k") rfl (by omega) (fun j ys H1 => H1 = H ∧ ys.length ≤ j ∧ ∃ pts, Fr P (s :: l) j pts ∧ ys.length = pts.length ∧ ∀ k, k < pts.length → ∃ t, ys[k]? = some (.ref t) ∧ H[t]? = some (.tup [.int (px pts k), .int (py pts k)])) ⟨rfl, by simp, [], Fr.nil, rfl, fun k hk => by simp at hk⟩ ?_ ?_ ?_
  · rintro j ys H1 ⟨_, h, _⟩
    exact h
  · rintro j ys H1 ⟨rfl, hy, pts, fr, e1, e2⟩ hlt c' sub hnm'
    have ok' := sub.ok
    rw [Int.zero_add] at *
    show TT c' [some (.glob sa), some (.ref i), some (.int (cn : Int)), some (.int ((s :: l).length : Nat)), some (.int s), some (.ref zr), some (.ref zs), none, o8, none, none, some (.int (j : Int))] _ _ _
    walk_at "w"
    have h2 : 1 ≤ (2 : Int) ^ ((j : Int)).toNat ∧ (2 : Int) ^ ((j : Int)).toNat ≤ 8 := by
      have : j = 0 ∨ j = 1 ∨ j = 2 ∨ j = 3 := by omega
      rcases this with rfl | rfl | rfl | rfl <;> exact ⟨by decide, by decide⟩
    refine ⟨_, BinI.pow (by omega) (by omega) (by decide), ?_⟩
    refine ⟨_, BinI.div (by omega) (by omega), ?_⟩
    walk_at "w"
    refine ⟨_, rfl, fun _ => ?_, fun _ => ?_⟩
    · exact ⟨fun _ => ⟨rfl, by omega, pts, fr.skip, e1, e2⟩, fun h => (by cases h)⟩
    · refine ⟨fun h => (by cases h), fun _ => ?_⟩
      show TE c' [some (.glob sa), some (.ref i), some (.int (cn : Int)), some (.int ((s :: l).length : Nat)), some (.int s), some (.ref zr), some (.ref zs), none, o8, none, none, some (.int (j : Int))] _ _ _
      obtain ⟨t, q1, q2⟩ := p3 j (by omega)
      walk_at "w"
      refine ⟨.ref t, Sq.list p1 ⟨by omega, .inl ⟨by omega, by simpa using q1⟩⟩, ?_⟩
      refine ⟨rfl, by simp; omega, _, fr.add, by simp [e1], fun k hk => ?_⟩
      unfold px py
      rw [pt_app]
      by_cases hk' : k < pts.length
      · obtain ⟨t', u1, u2⟩ := e2 k hk'
        rw [if_pos hk']
        exact ⟨t', by rw [List.getElem?_append_left (by omega)]; exact u1, u2⟩
      · have hk2 : k = pts.length := by simp at hk; omega
        rw [if_neg hk', if_pos hk2]
        refine ⟨t, by rw [hk2, ← e1]; simp, ?_⟩
        unfold px py at q2
        rw [shs_at (by omega)] at q2
        exact q2
  · rintro ys H1 ⟨rfl, hy, pts, fr, e1, e2⟩
    have e0 : ((cn : Int) - 0).toNat = cn := by omega
    rw [e0] at *
    have hq : PtsAt (H1 ++ [.list ys]) H1.length pts := ⟨ys, get_end, e1, fun k hk => let ⟨t, q1, q2⟩ := e2 k hk; ⟨t, q1, get_app q2⟩⟩
    have E1 : Ext H1 (H1 ++ [.list ys]) := (Ext.refl H1).app _
    have iF1 := E1.ins hF
    have hr1 := E1 _ _ hr
    generalize H1 ++ [MO.list ys] = H2 at *
    generalize H1.length = q at *
    have hl := fr.l
    show TB c [some (.glob sa), some (.ref i), some (.int (cn : Int)), some (.int ((s :: l).length : Nat)), some (.int s), some (.ref zr), some (.ref zs), some (.ref q), o8, none, none] _ _ _
    walk_at "w"
    refine ⟨_, rfl, fun h => ?_, fun h => ?_⟩
    · refine TB.cons (TS.assignC ok hfm (Src.range ok bs.range ?_))
      obtain ⟨rf, r1, r2, r3⟩ := id hq
      walk_at "w"
      refine hq.len (by omega) ?_
      walk_at "w"
      refine ⟨0, (pts.length : Int), ⟨.inl ⟨rfl, rfl⟩, by omega, by omega, by omega, by omega⟩, ?_⟩
      refine Turns.range (x := "k") rfl (by omega) (fun j ys H1 => H1 = H2 ∧ ys.length = j ∧ ∀ k, k < j → ys[k]? = rf[pts.length - 1 - k]?) ⟨rfl, rfl, fun k hk => by omega⟩ ?_ ?_ ?_
      · rintro j ys H1 ⟨_, h, _⟩
        omega
      · rintro j ys H1 ⟨rfl, hy, e⟩ hlt c' sub hnm'
        have ok' := sub.ok
        rw [Int.zero_add] at *
        refine ⟨fun q => (by cases q), fun _ => ?_⟩
        show TE c' [some (.glob sa), some (.ref i), some (.int (cn : Int)), some (.int ((s :: l).length : Nat)), some (.int s), some (.ref zr), some (.ref zs), some (.ref q), o8, none, none, some (.int (j : Int))] _ _ _
        walk_at "w"
        refine hq.len (by omega) ?_
        walk_at "w"
        obtain ⟨t, u1, u2⟩ := r3 (pts.length - 1 - j) (by omega)
        have ei : ((pts.length : Int) - 1 - (j : Int)).toNat = pts.length - 1 - j := by omega
        refine ⟨.ref t, Sq.list r1 ⟨by omega, .inl ⟨by omega, by rw [ei]; exact u1⟩⟩, ?_⟩
        refine ⟨rfl, by simp [hy], fun k hk => ?_⟩
        by_cases hk' : k < j
        · rw [List.getElem?_append_left (by omega)]; exact e k hk'
        · have : k = j := by omega
          subst this
          rw [u1, ← hy]
          simp
      · rintro ys H1 ⟨rfl, hy, e⟩
        have e0 : ((pts.length : Int) - 0).toNat = pts.length := by omega
        rw [e0] at *
        have hq2 : PtsAt (H1 ++ [.list ys]) H1.length pts.reverse := ⟨ys, get_end, by simp [hy], fun k hk => by
          rw [List.length_reverse] at hk
          obtain ⟨t, u1, u2⟩ := r3 (pts.length - 1 - k) (by omega)
          refine ⟨t, by rw [e k hk]; exact u1, ?_⟩
          unfold px py
          rw [pt_rev hk]
          exact get_app u2⟩
        have E2 : Ext H1 (H1 ++ [.list ys]) := (Ext.refl H1).app _
        refine TB.nil ?_
        exact law13_3 ok hfm hint L K F hP2 (by omega) (E2.ins iF1) hq2 (fr.rev.gs (by omega)) (by simp; omega) hb hn (E2 _ _ hr1) fr.rev.y
    · refine TB.nil ?_
      exact law13_3 ok hfm hint L K F hP2 (by omega) iF1 hq (fr.gs (by omega)) (by omega) hb hn hr1 fr.y
noncomputable def pd (pts : List (Int × Int)) : List PyData := pts.map fun q => PyData.tuple [.int q.1, .int q.2]
theorem pd_can : ∀ pts : List (Int × Int), PyData.canLayAll0 (pd pts) = true
  | [] => rfl
  | q :: r => by
    show (PyData.canLay0 (.tuple [.int q.1, .int q.2]) && PyData.canLayAll0 (pd r)) = true
    rw [pd_can r]
    rfl
theorem pd_eqv : ∀ pts : List (Int × Int), PyData.eqvAll (pd pts) (pd pts) = true
  | [] => rfl
  | q :: r => by
    show (PyData.eqv (.tuple [.int q.1, .int q.2]) (.tuple [.int q.1, .int q.2]) && PyData.eqvAll (pd r) (pd r)) = true
    rw [pd_eqv r]
    simp [PyData.eqv, PyData.eqvAll]
theorem PtsAt.rd {H : MH} {z : Nat} {pts : List (Int × Int)} (h : PtsAt H z pts) : RD H (.ref z) (.list (pd pts)) := by
  obtain ⟨refs, h1, h2, h3⟩ := h
  refine RD.list h1 (by simp [pd, h2]) ?_
  intro k v d e1 e2
  have hk : k < pts.length := by rw [← h2]; exact (List.getElem?_eq_some_iff.mp e1).1
  obtain ⟨t, q1, q2⟩ := h3 k hk
  rw [q1] at e1
  cases e1
  have e3 : (pd pts)[k]? = some (.tuple [.int (px pts k), .int (py pts k)]) := by
    unfold pd px py
    rw [List.getElem?_map, List.getElem?_eq_getElem hk, pt_get hk]
    rfl
  rw [e3] at e2
  cases e2
  refine RD.tup q2 rfl ?_
  intro k v d e1 e2
  cases k with
  | zero => cases e1; cases e2; exact .int
  | succ k =>
    cases k with
    | zero => cases e1; cases e2; exact .int
    | succ k => simp at e1
theorem pd_depth : ∀ pts : List (Int × Int), PyData.depthAll (pd pts) ≤ 5
  | [] => by show PyData.depthAll [] ≤ 5; simp [PyData.depthAll]
  | q :: r => by
    have := pd_depth r
    show PyData.depthAll (PyData.tuple [.int q.1, .int q.2] :: pd r) ≤ 5
    simp [PyData.depthAll, PyData.depth]
    omega
theorem pd_shaped (pts : List (Int × Int)) : PySem.SeqAt.shaped (.list (pd pts)) = true := by
  have h1 := pd_can pts
  have h2 := pd_depth pts
  unfold PySem.SeqAt.shaped
  rw [Bool.and_eq_true]
  refine ⟨by show PyData.canLay0 _ = true; simp only [PyData.canLay0]; exact h1, decide_eq_true ?_⟩
  simp only [PyData.depth]
  omega
theorem law13_1 (ok : Ok G c 200) (hfm : c.fm = none) (hint : interactive c.env = false) (L : LawK G sa ns) (K : K13 G C CS CE) {H : MH} {i kk zs zr P cn : Nat} {s : Int} {l : List Int} (F : Fer (P : Int)) (hP2 : P ≤ 7) (hP3 : 5 ≤ P) (hF : Ins H i C kk [("prime", .int P)])
    (hcn : cn ≤ 4) (hS : PtsAt H zs (shs P (s :: l) cn)) (hb : Bd (P : Int) (s :: l)) (hn : (s :: l).length ≤ 3) (hr : H[zr]? = some (.list (intL (s :: l)))) :
    TB c [some (.glob sa), some (.ref i), some (.int (cn : Int)), some (.int ((s :: l).length : Nat)), some (.int s), some (.ref zr), some (.ref zs), none, none, none, none] k13_1 H (fun fl _ _ => retv fl = .bool true) := by
  have bs := L.bs
  have ga := K.T.att
  have hp := F.two
  obtain ⟨fSO, gSO, dSO⟩ := K.D.so
  obtain ⟨fV, gV, dV⟩ := K.va
  unfold k13_1
  obtain ⟨refs, p1, p2, p3⟩ := id hS
  rw [shs_len] at p2 p3
  refine TB.cons (TS.ite (TT.cq (TE.comp ok (Src.list ok ?_))))
  walk_at "w"
  refine ⟨zs, refs, _, rfl, p1, Turns.list (xs := refs) (by omega) (fun j ys H1 => H1 = H ∧ ys = intL ((List.range j).map fun (k : Nat) => (k : Int) + 1)) ⟨rfl, rfl⟩ ?_ ?_ ?_⟩
  · rintro j ys H1 ⟨rfl, rfl⟩
    exact ⟨by simp [intL], p1⟩
  · rintro j ys H1 v ⟨rfl, rfl⟩ hv
    have hj : j < cn := by
      have := (List.getElem?_eq_some_iff.mp hv).1
      omega
    obtain ⟨t, q1, q2⟩ := p3 j hj
    rw [q1] at hv
    cases hv
    unfold px py at q2
    rw [shs_at hj] at q2
    refine ⟨_, ⟨by simp, rfl, t, rfl, q2⟩, fun c' sub hnm' => ?_⟩
    have ok' := sub.ok
    refine ⟨fun q => (by cases q), fun _ => ?_⟩
    show TE c' [some (.glob sa), some (.ref i), some (.int (cn : Int)), some (.int ((s :: l).length : Nat)), some (.int s), some (.ref zr), some (.ref zs), none, none, none, none, some (.int ((j : Int) + 1)), some (.int _)] _ _ _
    walk_at "w"
    exact ⟨rfl, by rw [List.range_succ]; simp [intL]⟩
  rintro ys H1 ⟨rfl, rfl⟩
  refine TE.comp ok (Src.range ok bs.range ?_)
  walk_at "w"
  refine ⟨0, (cn : Int), ⟨.inl ⟨rfl, rfl⟩, by omega, by omega, by omega, by omega⟩, ?_⟩
  generalize hH2 : H1 ++ [MO.list (intL ((List.range refs.length).map fun (k : Nat) => (k : Int) + 1))] = H2
  have E2 : Ext H1 H2 := by rw [← hH2]; exact (Ext.refl H1).app _
  have h2 : H2[H1.length]? = some (.list (intL ((List.range refs.length).map fun (k : Nat) => (k : Int) + 1))) := by rw [← hH2]; exact get_end
  refine Turns.range (x := "k") rfl (by omega) (fun j ys H3 => H3 = H2 ∧ ys = intL ((List.range j).map fun (k : Nat) => (k : Int) + 1)) ⟨rfl, rfl⟩ ?_ ?_ ?_
  · rintro j ys H3 ⟨_, rfl⟩
    simp [intL]
  · rintro j ys H3 ⟨rfl, rfl⟩ hlt c' sub hnm'
    have ok' := sub.ok
    refine ⟨fun q => (by cases q), fun _ => ?_⟩
    rw [Int.zero_add] at *
    show TE c' [some (.glob sa), some (.ref i), some (.int (cn : Int)), some (.int ((s :: l).length : Nat)), some (.int s), some (.ref zr), some (.ref zs), none, none, none, none, some (.int (j : Int))] _ _ _
    walk_at "w"
    exact ⟨rfl, by rw [List.range_succ]; simp [intL]⟩
  rintro ys H3 ⟨rfl, rfl⟩
  have e0 : ((cn : Int) - 0).toNat = cn := by omega
  rw [e0]
  refine ⟨_, Cq.neI ok (get_app h2) get_end, fun h => (by rw [p2] at h; simp at h), fun _ => ?_⟩
  have E3 := E2.app [MO.list (intL ((List.range cn).map fun (k : Nat) => (k : Int) + 1))]
  generalize H3 ++ [MO.list (intL ((List.range cn).map fun (k : Nat) => (k : Int) + 1))] = H4 at *
  have hr4 := E3 _ _ hr
  -- the row's head and length
  refine TB.nil (TB.cons (TS.ite (TT.cq ?_)))
  walk_at "w"
  refine ⟨_, Sq.listI hr4 (by omega) (by omega) (by simp), ?_⟩
  walk_at "w"
  refine ⟨by simp, ?_⟩
  walk_at "w"
  refine ⟨by simp, ?_⟩
  have rdT : ∀ {Hx : MH} {z : Nat} {a b : Int}, Hx[z]? = some (.tup [.int a, .int b]) → RD Hx (.ref z) (.tuple [.int a, .int b]) := by
    intro Hx z a b h
    refine RD.tup h rfl ?_
    intro k v d e1 e2
    cases k with
    | zero => cases e1; cases e2; exact .int
    | succ k =>
      cases k with
      | zero => cases e1; cases e2; exact .int
      | succ k => simp at e1
  refine ⟨_, Cq.neD ok (rdT (get_app get_end)) (rdT get_end) rfl rfl, fun h => (by simp [PyData.eqv, PyData.eqvAll] at h), fun _ => ?_⟩
  generalize hH5 : H4 ++ [MO.tup [.int _, .int _]] ++ [MO.tup [.int _, .int _]] = H5
  have E5 : Ext H1 H5 := by rw [← hH5]; exact (E3.app _).app _
  refine TB.nil (TB.cons (TS.ite (TT.cq ?_)))
  have iF5 := E5.ins hF
  walk_at "w"
  refine (shares_of_cl dSO bs ga gV dV iF5 hp (by omega) (E5 _ _ hr) (by omega) (by omega)).use (d' := 200) (by decide) ?_
  rintro _ H6 ⟨z, rfl, _, E6, hz⟩
  rw [Int.toNat_natCast] at hz
  have E16 := E5.trans E6
  walk_at "w"
  refine ⟨_, Cq.neD ok hz.rd (hS.ext E16).rd (pd_shaped _) (pd_shaped _), fun h => ?_, fun _ => ?_⟩
  · have : PyData.eqv (.list (pd (shs P (s :: l) cn))) (.list (pd (shs P (s :: l) cn))) = true := by simp only [PyData.eqv]; exact pd_eqv _
    rw [this] at h
    cases h
  refine TB.nil ?_
  exact law13_2 ok hfm hint L K F hP2 hP3 (E16.ins hF) hcn (hS.ext E16) hb hn (E16 _ _ hr)
theorem fer5 : Fer 5 := Fer.of (by decide) (by decide +kernel)
theorem law13_walk (ok : Ok G c 200) (hfm : c.fm = none) (hint : interactive c.env = false) (L : LawK G sa ns) (K : K13 G C CS CE) :
    TB c [some (.glob sa), none, none, none, none, none, none, none, none, none, none] k13_law [] (fun fl _ _ => retv fl = .bool true) := by
  have bs := L.bs
  have ga := K.T.att
  obtain ⟨fD, gD, dD⟩ := K.de
  unfold k13_law
  refine TB.cons (TS.assign ok hfm rfl (TE.field ok (by decide) K.F ?_))
  walk_at "w"
  refine ⟨Nat.le_of_ble_eq_true rfl, ?_⟩
  walk_at "w"
  have hp : ∃ P : Nat, (P = 5 ∨ P = 7) ∧ Sq c ([] ++ [MO.list [.int 5, .int 7]]) (.ref ([] : MH).length) (.int (cell ns (0 : Int).toNat % 2)) (.int (P : Int)) := by
    have : cell ns (0 : Int).toNat % 2 = 0 ∨ cell ns (0 : Int).toNat % 2 = 1 := by omega
    rcases this with e | e
    · exact ⟨5, .inl rfl, by rw [e]; exact Sq.list rfl ⟨by simp, .inl ⟨by omega, rfl⟩⟩⟩
    · exact ⟨7, .inr rfl, by rw [e]; exact Sq.list rfl ⟨by simp, .inl ⟨by omega, rfl⟩⟩⟩
  obtain ⟨P, hp, hsq⟩ := hp
  have hP : isP (P : Int) := by rcases hp with rfl | rfl; exact isP5; exact isP7
  have F : Fer (P : Int) := by rcases hp with rfl | rfl; exact fer5; exact fer7
  have hp2 : 5 ≤ P := by omega
  have hp3 : P ≤ 7 := by omega
  refine ⟨_, hsq, (P : Int), rfl, hP, by omega, ?_⟩
  generalize hH0 : ([] ++ [MO.list [.int 5, .int 7]] ++ [MO.ns [("prime", .int (P : Int))]] ++ [.inst C ([] ++ [MO.list [.int 5, .int 7]] : MH).length] : MH) = H0
  have iF : Ins H0 2 C 1 [("prime", .int (P : Int))] := by subst hH0; exact ⟨rfl, rfl⟩
  have lH0 : H0.length = 3 := by subst hH0; rfl
  show TB c [some (.glob sa), some (.ref 2), none, none, none, none, none, none, none, none, none] _ _ _
  walk_at "w"
  refine BC.min ok.hh ?_
  have hc0 : 1 ≤ 1 + cell ns (Int.toNat 1) % 4 ∧ 1 + cell ns (Int.toNat 1) % 4 ≤ 4 := by omega
  generalize 1 + cell ns (Int.toNat 1) % 4 = count at *
  refine ⟨_, BinI.modP (by omega), ?_⟩
  have hn0 : 1 ≤ 1 + cell ns (Int.toNat 2) % min count 3 ∧ 1 + cell ns (Int.toNat 2) % min count 3 ≤ min count 3 := by
    have := Int.emod_nonneg (cell ns (Int.toNat 2)) (show min count 3 ≠ 0 by omega)
    have := Int.emod_lt_of_pos (cell ns (Int.toNat 2)) (show 0 < min count 3 by omega)
    omega
  walk_at "w"
  generalize 1 + cell ns (Int.toNat 2) % min count 3 = needed at *
  have hs0 := md (p := (P : Int)) (a := cell ns (Int.toNat 3)) (by omega)
  generalize cell ns (Int.toNat 3) % (P : Int) = secret at *
  refine TS.assignT ok hfm ?_
  walk_at "w"
  refine TE.source ok (by decide) K.D.S ?_
  walk_at "w"
  have hk0 := md (p := (10 : Int) ^ (9 : Int).toNat) (a := cell ns (Int.toNat 4)) (by decide)
  have hk1 : (10 : Int) ^ (9 : Int).toNat ≤ 4611686018427387904 := by decide
  generalize (10 : Int) ^ (9 : Int).toNat = tt at *
  refine ⟨_, BinI.modP (by omega), _, rfl, hk0.1, by omega, ?_⟩
  refine TEs.nil ?_
  generalize cell ns (Int.toNat 4) % tt = seed at *
  have hsd := md (p := (2147483648 : Int)) (a := seed) (by decide)
  generalize seed % 2147483648 = st at *
  generalize hH1 : H0 ++ [MO.ns (srcF st 0)] ++ [.inst CS H0.length] = H1
  have E1 : Ext H0 H1 := by subst hH1; exact ((Ext.refl H0).app _).app _
  have iF1 := E1.ins iF
  have iS : Ins H1 (H0.length + 1) CS H0.length (srcF st 0) := by
    subst hH1
    refine ⟨?_, ?_⟩ <;> simp
  have hg : goodC (P : Int) needed count := ⟨by omega, by omega, by omega, by omega, by omega⟩
  refine (deal_cl dD K.D iF1 iS (by omega) hsd (by omega) (by omega) hg hs0.1 hs0.2).use (d' := 200) (by decide) ?_
  rintro _ H2 ⟨t, zr, zs, rfl, _, _, _, E2, kt, kr, hP'⟩
  refine ⟨[.ref zr, .ref zs], ⟨by simp, rfl, t, rfl, kt⟩, ?_⟩
  have iF2 : Ins H2 2 C 1 [("prime", .int (P : Int))] := E2.ins ⟨by rw [List.getElem?_set_ne (by omega)]; exact iF1.1, by rw [List.getElem?_set_ne (by omega)]; exact iF1.2⟩
  have hcn : count = ((count.toNat : Nat) : Int) := by omega
  generalize hR : drws (P : Int) (needed - 1).toNat st = R at *
  have lR : R.length = (needed - 1).toNat := by rw [← hR, drws_len]
  have hnd : needed = (((secret :: R).length : Nat) : Int) := by simp [lR]; omega
  have bR : Bd (P : Int) (secret :: R) := by
    intro x hx
    rcases List.mem_cons.mp hx with rfl | hx
    · exact hs0
    · rw [← hR] at hx
      exact drws_bd (by omega) _ _ x hx
  show TB c [some (.glob sa), some (.ref 2), some (.int count), some (.int needed), some (.int secret), some (.ref zr), some (.ref zs), none, none, none, none] _ _ _
  rw [hcn, hnd]
  exact law13_1 ok hfm hint L K F hp3 hp2 iF2 (by omega) hP' bR (by omega) kr
end
noncomputable def scrEx (a : Addr) (ns : List Int) : Heap → Prop := fun h => ∃ vs : List Value, h.IsList a vs.toArray ∧ IntsAre vs ns ∧ ns.length ≤ 63
section
variable {G : Gx} {P : Params} (h : G.K = _root_.Mine.hd.heap_39 P)
include h
theorem z_bs : Bs G := by
  constructor <;> (rw [h]; kernel_rfl)
theorem z_f_shown : ∃ f, GFn G "shown" f ∧ GDef G f ["value"] k_shown_nm k_shown [] := by
  refine ⟨41, GFn.of ?_, GDef.of ?_ ?_⟩
  all_goals (rw [h]; kernel_rfl)
theorem z_f_need_number : ∃ f, GFn G "need_number" f ∧ GDef G f ["value", "least", "most", "what"] k_need_number_nm k_need_number [] := by
  refine ⟨48, GFn.of ?_, GDef.of ?_ ?_⟩
  all_goals (rw [h]; kernel_rfl)
theorem z_f_is_prime : ∃ f, GFn G "is_prime" f ∧ GDef G f ["n"] k_is_prime_nm k_is_prime [] := by
  refine ⟨55, GFn.of ?_, GDef.of ?_ ?_⟩
  all_goals (rw [h]; kernel_rfl)
theorem z_f_product : ∃ f, GFn G "product" f ∧ GDef G f ["field", "one", "two"] k_product_nm k_product [] := by
  refine ⟨158, GFn.of ?_, GDef.of ?_ ?_⟩
  all_goals (rw [h]; kernel_rfl)
theorem z_f_plus : ∃ f, GFn G "plus" f ∧ GDef G f ["field", "one", "two"] k_plus_nm k_plus [] := by
  refine ⟨151, GFn.of ?_, GDef.of ?_ ?_⟩
  all_goals (rw [h]; kernel_rfl)
theorem z_f_trimmed : ∃ f, GFn G "trimmed" f ∧ GDef G f ["row"] k_trimmed_nm k_trimmed [] := by
  refine ⟨146, GFn.of ?_, GDef.of ?_ ?_⟩
  all_goals (rw [h]; kernel_rfl)
theorem z_f_through : ∃ f, GFn G "through" f ∧ GDef G f ["field", "points"] k_through_nm k_through [] := by
  refine ⟨163, GFn.of ?_, GDef.of ?_ ?_⟩
  all_goals (rw [h]; kernel_rfl)
theorem z_f_value : ∃ f, GFn G "value" f ∧ GDef G f ["field", "row", "x"] k_value_nm k_value [] := by
  refine ⟨139, GFn.of ?_, GDef.of ?_ ?_⟩
  all_goals (rw [h]; kernel_rfl)
theorem z_f_need_counts : ∃ f, GFn G "need_counts" f ∧ GDef G f ["field", "needed", "count"] k_need_counts_nm k_need_counts [] := by
  refine ⟨170, GFn.of ?_, GDef.of ?_ ?_⟩
  all_goals (rw [h]; kernel_rfl)
theorem z_f_deal : ∃ f, GFn G "deal" f ∧ GDef G f ["field", "secret", "needed", "count", "source"] k_deal_nm k_deal [] := by
  refine ⟨177, GFn.of ?_, GDef.of ?_ ?_⟩
  all_goals (rw [h]; kernel_rfl)
theorem z_f_shares_of : ∃ f, GFn G "shares_of" f ∧ GDef G f ["field", "row", "count"] k_shares_of_nm k_shares_of [] := by
  refine ⟨182, GFn.of ?_, GDef.of ?_ ?_⟩
  all_goals (rw [h]; kernel_rfl)
theorem z_f_need_shares : ∃ f, GFn G "need_shares" f ∧ GDef G f ["field", "shares"] k_need_shares_nm k_need_shares [] := by
  refine ⟨189, GFn.of ?_, GDef.of ?_ ?_⟩
  all_goals (rw [h]; kernel_rfl)
theorem z_f_rebuild : ∃ f, GFn G "rebuild" f ∧ GDef G f ["field", "shares", "needed"] k_rebuild_nm k_rebuild [] := by
  refine ⟨196, GFn.of ?_, GDef.of ?_ ?_⟩
  all_goals (rw [h]; kernel_rfl)
theorem z_f_value_at : ∃ f, GFn G "value_at" f ∧ GDef G f ["field", "shares", "needed", "x"] k_value_at_nm k_value_at [] := by
  refine ⟨203, GFn.of ?_, GDef.of ?_ ?_⟩
  all_goals (rw [h]; kernel_rfl)
theorem z_f_need_few : ∃ f, GFn G "need_few" f ∧ GDef G f ["field", "count"] k_need_few_nm k_need_few [] := by
  refine ⟨210, GFn.of ?_, GDef.of ?_ ?_⟩
  all_goals (rw [h]; kernel_rfl)
theorem z_f_fits : ∃ f, GFn G "fits" f ∧ GDef G f ["field", "shares", "needed"] k_fits_nm k_fits [] := by
  refine ⟨217, GFn.of ?_, GDef.of ?_ ?_⟩
  all_goals (rw [h]; kernel_rfl)
theorem z_f_law_cell : ∃ f, GFn G "_law_cell" f ∧ GDef G f ["script", "k"] k_law_cell_nm k_law_cell [] := by
  refine ⟨257, GFn.of ?_, GDef.of ?_ ?_⟩
  all_goals (rw [h]; kernel_rfl)
theorem z_m_Field_power : ∃ f, GMth G 128 "power" f ∧ GDef G f ["self", "a", "n"] k_Field_power_nm k_Field_power [] := by
  refine ⟨104, GMth.of ?_, GDef.of ?_ ?_⟩
  all_goals (rw [h]; kernel_rfl)
theorem z_m_Field_inverse : ∃ f, GMth G 128 "inverse" f ∧ GDef G f ["self", "a"] k_Field_inverse_nm k_Field_inverse [] := by
  refine ⟨111, GMth.of ?_, GDef.of ?_ ?_⟩
  all_goals (rw [h]; kernel_rfl)
theorem z_m_Field_over : ∃ f, GMth G 128 "over" f ∧ GDef G f ["self", "a", "b"] k_Field_over_nm k_Field_over [] := by
  refine ⟨118, GMth.of ?_, GDef.of ?_ ?_⟩
  all_goals (rw [h]; kernel_rfl)
theorem z_m_Field_need : ∃ f, GMth G 128 "need" f ∧ GDef G f ["self", "a"] k_Field_need_nm k_Field_need [] := by
  refine ⟨76, GMth.of ?_, GDef.of ?_ ?_⟩
  all_goals (rw [h]; kernel_rfl)
theorem z_m_Source_draw : ∃ f, GMth G 246 "draw" f ∧ GDef G f ["self", "below"] k_Source_draw_nm k_Source_draw [] := by
  refine ⟨238, GMth.of ?_, GDef.of ?_ ?_⟩
  all_goals (rw [h]; kernel_rfl)
theorem z_m_Source_row : ∃ f, GMth G 246 "row" f ∧ GDef G f ["self", "count", "below"] k_Source_row_nm k_Source_row [] := by
  refine ⟨243, GMth.of ?_, GDef.of ?_ ?_⟩
  all_goals (rw [h]; kernel_rfl)
theorem z_c_Field : ∃ f, GCls G "Field" 128 f ∧ GDef G f ["self", "prime"] k_Field_init_nm k_Field_init [] := by
  refine ⟨69, GCls.of ?_, GDef.of ?_ ?_⟩
  all_goals (rw [h]; kernel_rfl)
theorem z_c_Source : ∃ f, GCls G "Source" 246 f ∧ GDef G f ["self", "seed"] k_Source_init_nm k_Source_init [] := by
  refine ⟨231, GCls.of ?_, GDef.of ?_ ?_⟩
  all_goals (rw [h]; kernel_rfl)
theorem z_a_Field_prime : GAtt G 128 "prime" := GAtt.of (by rw [h]; kernel_rfl)
theorem z_s_Field_prime : GSto G 128 "prime" := GSto.of (by rw [h]; kernel_rfl)
theorem z_a_Source_state : GAtt G 246 "state" := GAtt.of (by rw [h]; kernel_rfl)
theorem z_s_Source_state : GSto G 246 "state" := GSto.of (by rw [h]; kernel_rfl)
theorem z_a_Source_drawn : GAtt G 246 "drawn" := GAtt.of (by rw [h]; kernel_rfl)
theorem z_s_Source_drawn : GSto G 246 "drawn" := GSto.of (by rw [h]; kernel_rfl)
theorem z_e_ShareError : GExc G "ShareError" 31 bmV := GExc.of (by rw [h]; kernel_rfl)
theorem z_i_GREATEST : ∃ t, nsIn G.K mainGlobals "GREATEST" = some (some (.int 1048576 t)) := isSomeInt_eq (by rw [h]; kernel_rfl)
theorem z_i_MOST : ∃ t, nsIn G.K mainGlobals "MOST" = some (some (.int 200 t)) := isSomeInt_eq (by rw [h]; kernel_rfl)
theorem z_n_ValueError : nsIn G.K mainGlobals "ValueError" = some none := by rw [h]; kernel_rfl
theorem z_law {sa : Addr} {ns : List Int} (e : G.ex = scrEx sa ns) : LawK G sa ns := ⟨z_bs h, fun h x => by rw [e] at x; exact x, z_f_law_cell h⟩
theorem z_field : FieldK G 128 := ⟨z_c_Field h, z_f_need_number h, z_f_is_prime h, z_a_Field_prime h, z_s_Field_prime h, z_i_GREATEST h, z_bs h⟩
theorem z_need : NeedK G 31 := ⟨z_bs h, z_f_shown h, z_f_need_number h, z_e_ShareError h⟩
theorem z_src : SrcK G 246 := ⟨z_bs h, z_f_need_number h, z_c_Source h, z_a_Source_state h, z_a_Source_drawn h, z_s_Source_state h, z_s_Source_drawn h, z_m_Source_draw h⟩
theorem z_deal : DealK G 128 246 31 := ⟨z_need h, z_src h, z_a_Field_prime h, z_m_Field_need h, z_f_need_counts h, z_i_MOST h, z_m_Source_row h, z_f_shares_of h, z_f_value h⟩
theorem z_thr : ThrK G 128 := ⟨z_bs h, z_a_Field_prime h, z_m_Field_power h, z_m_Field_inverse h, z_m_Field_over h, z_f_product h, z_f_plus h, z_f_trimmed h⟩
theorem z_pol : PolK G 128 31 := ⟨z_need h, z_thr h, z_m_Field_need h, z_i_MOST h, z_f_value h, z_f_through h, z_f_need_shares h⟩
theorem z_K : K13 G 128 246 31 := ⟨⟨z_pol h, z_f_need_few h⟩, z_field h, z_deal h, z_f_deal h, z_f_value_at h, z_f_rebuild h, z_f_fits h, z_n_ValueError h⟩
end
end Mine
theorem PySem.Challenge.cw_ui0506_13_holds : PySem.Challenge.rw_ui0506_13.Holds := by
  refine _root_.Mine.hd ?_
  intro w s₀ s₁ mg mb G Y fa o pm cd doc dV kV ho hd hcd hD hmg hg args vals as hpre hlay hrd hwl hlo
  have KX := kIn_of Y
  refine Ground.open G ?_
  intro T B D TE TW
  wrow_args hpre hlay hrd hwl hlo
  refine enter_call ?_
  have e0 := hD.none rfl
  subst e0
  refine Mine.law_entry 200 (by decide) (G := ⟨_root_.Mine.hd.heap_39 w.params, _, _, _, mg, mb, Mine.scrEx _ _⟩) (x := "script") (nm := Mine.k13_law_nm) (k := Mine.k13_law) KX ⟨_, by assumption, by assumption, by omega⟩ T ho hd hcd rfl rfl rfl rfl ?_ ?_ ?_ ?_ ?_ ?_
  · exact BindsTo.of_eq (Mine.bind_plain rfl rfl (show List.Nodup [("script" : Str)] by simp) rfl)
  · kernel_rfl
  · kernel_rfl
  · kernel_rfl
  · intro c e1 e2 e3 ok hfm hint hnm hX
    exact Mine.law13_walk ok hfm hint (Mine.z_law rfl rfl) (Mine.z_K rfl)
  · intro L m h' tk F
    exact GoodW.toG (goodW_bool F hg (fun cls => rfl) (postW_of rfl rfl (by simp [W.same])))
