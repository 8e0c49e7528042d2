import PyProof.Rows.All
import Wide.All
import OpenK.AllK
import Wide.FinOn
import KE.BitLaws
import KE.KEqSeq
import PyProof.ExcBaseAll.ValueError
import KE.KDictOf
import KE.KDictSum
import Lean
import PySem.Challenge.RW_ui0506_12
open PySem PySem.W PyProof.Rows PySem.Calls PySem.Spec
set_option Elab.async false
set_option linter.unusedVariables false
set_option maxRecDepth 100000
set_option maxHeartbeats 8000000
set_option genSizeOf false
set_option genInjectivity false
set_option compiler.extract_closed false
namespace Mine
noncomputable def runQ (p : Program) (w : World) (n₀ : Nat) (ann : Option Value) : Nat → SharedT → Thread → Option SharedT
  | 0, _, _ => none
  | n + 1, s, t => match through t with
    | true => some s
    | false => match Fast.tw6613529449190102663 n₀ ann t with
      | false => none
      | true => match Fast.tw10156331382660048174 (Fast.tw11892475500146522536 Fast.tw14364793385576792824) p w s t with
        | some (s', t') => runQ p w n₀ ann n s' t'
        | none => none
theorem q_den : denote treeTable = Fast.tw11892475500146522536 Fast.tw14364793385576792824 := by
  rw [← Fast.te11892475500146522536, ← Fast.te14364793385576792824]
theorem runQ_of {p : Program} {w : World} {n₀ : Nat} {ann : Option Value} : ∀ {n : Nat} {s s' : SharedT} {t : Thread}, runQ p w n₀ ann n s t = some s' → topRun treeTable p w n₀ ann n s.abs t = some s'.abs
  | 0, _, _, _, h => by cases h
  | n + 1, s, s', t, h => by
    unfold runQ at h
    unfold topRun
    rw [← q_den, ← Fast.te6613529449190102663, ← Fast.te10156331382660048174] at h
    cases ht : through t with
    | true => rw [ht] at h; cases h; rfl
    | false =>
      rw [ht] at h
      cases hk : stepOk n₀ ann t with
      | false => rw [hk] at h; cases h
      | true =>
        rw [hk] at h
        cases hs : stepT (denote treeTable) p w s t with
        | none => rw [hs] at h; cases h
        | some r => obtain ⟨s₂, t₂⟩ := r; rw [hs] at h; rw [stepT_spec hs]; exact runQ_of h
noncomputable def build : List Obj → Nat → BT → Option BT
  | [], _, t => some t
  | o :: r, n, t => match ((t.ins n o).get n).isSome with
    | true => build r (n + 1) (t.ins n o)
    | false => none
theorem build_abs {life : Life} : ∀ {l pre : List Obj} {n : Nat} {t t' : BT}, build l n t = some t' → absHeap t n life = ⟨pre.toArray, life⟩ → absHeap t' (n + l.length) life = ⟨(pre ++ l).toArray, life⟩
  | [], pre, n, t, t', h, e => by cases h; simpa using e
  | o :: r, pre, n, t, t', h, e => by
    unfold build at h
    cases hk : ((t.ins n o).get n).isSome with
    | false => rw [hk] at h; cases h
    | true =>
      rw [hk] at h
      have h1 := absHeap_ins (life := life) hk
      rw [e] at h1
      have h2 := build_abs (pre := pre ++ [o]) h (h1.trans (by simp [Heap.push]))
      have e1 : n + 1 + r.length = n + (o :: r).length := by simp; omega
      rw [e1] at h2
      rw [h2]
      simp
theorem build_heap {h : Heap} {t : BT} (e : build h.objs.toList 0 .nil = some t) : absHeap t h.objs.size h.life = h := by
  have := build_abs (life := h.life) (pre := []) e (by simp [absHeap, BT.list])
  simpa using this
theorem left_quick {p q : Program} {loose : List Str} {Xt : Shared → Bool} {α : Type} {Yf : Shared → α} {Ya : World → α} {N : Nat} {g0 : Bool}
    (h : ∀ w : World, ((Fast.tw10274390034422433532 Fast.tw14364793385576792824 (opening p) w N (Fast.tw1435165496053646825 (opening p)).1 (Fast.tw1435165496053646825 (opening p)).2).bind (Fast.tw14289696077712309145 p)).bind (fun s₀ =>
      match s₀.heap.isNs mainGlobals && s₀.gens.size == 0 with
      | true => (build s₀.heap.objs.toList 0 .nil).bind fun T => (runQ p w s₀.heap.objs.size (Fast.tw8920871248978507458 s₀.heap mainGlobals "__annotations__") N ⟨T, s₀.heap.objs.size, s₀.heap.life, s₀.gens, s₀.drawn, s₀.toks, s₀.os⟩ (topStub p)).bind fun S₁ =>
        match staticsOk (Fast.tw5923862056798008813 p.main.body) s₀.heap S₁.abs.heap && namesBound p S₁.abs.heap && gensDone S₁.abs && laidKept s₀.heap S₁.abs.heap with
        | true => some (Fast.tw4187177175401517315 q loose (Fast.tw5923862056798008813 p.main.body) Xt g0 S₁.abs, Yf S₁.abs)
        | false => none
      | false => none) = some (openGood q loose, Ya w)) : LeftO p q loose Xt Yf Ya N g0 := by
  intro w
  have h := h w
  rw [← Fast.te10274390034422433532, ← Fast.te14364793385576792824, ← Fast.te1435165496053646825, ← Fast.te14289696077712309145, ← Fast.te8920871248978507458, ← Fast.te5923862056798008813, ← Fast.te4187177175401517315] at h
  obtain ⟨s₀, h0, h⟩ := Option.bind_eq_some_iff.mp h
  unfold openEnds fencedOpening
  rw [h0]
  show Option.map _ (topFrom treeTable p w N s₀) = _
  unfold topFrom
  cases hg : s₀.heap.isNs mainGlobals && s₀.gens.size == 0 with
  | false => rw [hg] at h; cases h
  | true =>
    rw [hg] at h
    obtain ⟨T, hT, h⟩ := Option.bind_eq_some_iff.mp h
    obtain ⟨S₁, hS, h⟩ := Option.bind_eq_some_iff.mp h
    have e := runQ_of hS
    have ea : (SharedT.mk T s₀.heap.objs.size s₀.heap.life s₀.gens s₀.drawn s₀.toks s₀.os).abs = s₀ := by
      unfold SharedT.abs
      rw [build_heap hT]
    rw [ea] at e
    rw [e]
    show Option.map _ (match staticsOk (importedModules p.main.body) s₀.heap S₁.abs.heap && namesBound p S₁.abs.heap && gensDone S₁.abs && laidKept s₀.heap S₁.abs.heap with | true => some S₁.abs | false => none) = _
    cases hk : staticsOk (importedModules p.main.body) s₀.heap S₁.abs.heap && namesBound p S₁.abs.heap && gensDone S₁.abs && laidKept s₀.heap S₁.abs.heap with
    | false => rw [hk] at h; cases h
    | true => rw [hk] at h; exact h
noncomputable def qv : Program := view PySem.Challenge.pw_ui0506_12 [0, 2, 3, 4, 5, 7, 8, 9, 10, 11, 12, 13, 15, 17, 18, 19, 21, 22]
noncomputable def qlo : List PySem.Str := ["GREATEST"]
noncomputable def qlv : List (PySem.Str × WData) := [("GREATEST", .int 1048576)]
set_option hygiene false in
local macro_rules | `(tactic| o_head $H) => `(tactic| (
  refine PySem.W.holds_open (q := Mine.qv) (loose := Mine.qlo) (Xt := fun s => xlAt Mine.qv Mine.qlv s && recOk [] s) (XP := XL Mine.qv Mine.qlv) (Yf := Hook.obs $H) (Ya := Hook.val $H) (YP := Hook.says $H) (N := 2846) ?hl (Hook.of $H) (Hook.keeps $H) (fun s e => xl_of s (Bool.and_eq_true_iff.mp e).1) XL.keeps (by rfl) (by rfl) (by rfl) (fun s e => recFacts_of (Bool.and_eq_true_iff.mp e).2) (by rfl) (by first | assumption | decide +kernel) (by decide +kernel) ⟨rfl, rfl, rfl, rfl, rfl, by decide +kernel⟩ ?hw ?hc
  (case hl => (refine Mine.left_quick ?_; intro w; kernel_rfl))))
set_option hygiene false in
local macro_rules | `(tactic| o_law) => `(tactic| refine PySem.W.holds_law (by kernel_rfl) fun said => ?_)
open_top hd for PySem.Challenge.rw_ui0506_12
inductive MV where
  | none
  | bool (b : Bool)
  | int (i : Int)
  | str (x : Str)
  | ref (a : Nat)
  | glob (a : Addr)
inductive MO where
  | list (xs : List MV)
  | tup (xs : List MV)
  | inst (c : Addr) (d : Nat)
  | ns (fs : List (Str × MV))
  | dI (j : Nat) (es : List (Int × MV))
  | dS (j : Nat) (es : List (Str × MV))
  | view (k : String) (d : Nat)
  | exc (c : Addr) (t : Nat)
  | setN (n : Nat)
  | lany (k : Nat)
  | junk
abbrev MH := List MO
abbrev ML := List (Option MV)
noncomputable def VR (ρ : List Addr) : MV → Value → Prop
  | .none, v => v = .none
  | .bool b, v => v = .bool b
  | .int i, v => ∃ t, v = .int i t
  | .str x, v => ∃ t, v = .str x t
  | .ref a, v => ∃ x, ρ[a]? = some x ∧ v = .ref x
  | .glob a, v => v = .ref a
noncomputable def VRs (ρ : List Addr) : List MV → List Value → Prop
  | [], vs => vs = []
  | m :: ms, vs => ∃ v r, vs = v :: r ∧ VR ρ m v ∧ VRs ρ ms r
noncomputable def NR (P : Params) (ρ : List Addr) : List (Str × MV) → List DictEntry → Prop
  | [], es => es = []
  | (x, m) :: fs, es => ∃ t v r, es = ⟨PyData.keyHash P x, .str x t, v⟩ :: r ∧ VR ρ m v ∧ NR P ρ fs r
noncomputable def PR {K : Type} (ρ : List Addr) : List (K × MV) → List (K × Value) → Prop
  | [], es => es = []
  | (k, m) :: fs, es => ∃ v r, es = (k, v) :: r ∧ VR ρ m v ∧ PR ρ fs r
def IsD {prog : Program} {w : World} {K : Type} [DecidableEq K] (knd : KeyKind prog w K) (o : Obj) (kvs : List (K × Value)) : Prop := ∃ es, o.ExactDict ∧ o.data = .dict es kvs.length ∧ KeysOf knd es ∧ Pairs knd es.toList kvs ∧ (kvs.map (·.1)).Nodup
noncomputable def OR (prog : Program) (w : World) (ρ : List Addr) : MO → Obj → Prop
  | .list xs, o => ∃ vs n, VRs ρ xs vs ∧ o = listOf vs.toArray n
  | .tup xs, o => ∃ vs n, VRs ρ xs vs ∧ o = { cls := .type "tuple", data := .seq vs.toArray n }
  | .inst c d, o => ∃ x, ρ[d]? = some x ∧ o = instObj c x
  | .ns fs, o => ∃ es n, NR w.params ρ fs es ∧ o = dictOf es n
  | .dI j fs, o => ∃ x kvs, ρ[j]? = some x ∧ (x == sysModules) = false ∧ PR ρ fs kvs ∧ IsD (intKind prog w) o kvs
  | .dS j fs, o => ∃ x kvs, ρ[j]? = some x ∧ (x == sysModules) = false ∧ PR ρ fs kvs ∧ IsD (strKind prog w) o kvs
  | .view k d, o => ∃ x, ρ[d]? = some x ∧ o = { cls := .type k, data := .fields #[.ref x] }
  | .exc c d, o => ∃ x vs, ρ[d]? = some x ∧ o.cls = .ref c ∧ o.data = .fields vs ∧ vs[0]? = some (.ref x)
  | .setN n, o => ∃ S, o.SetObjOf (intKind prog w) S n
  | .lany k, o => ∃ vs n, o = listOf vs n ∧ vs.size ≤ k
  | .junk, _ => True
theorem get_mono {ρ t : List Addr} {a : Nat} {x : Addr} (h : ρ[a]? = some x) : (ρ ++ t)[a]? = some x := by
  rw [List.getElem?_append_left (List.getElem?_eq_some_iff.mp h).1]; exact h
theorem VR.mono {ρ t : List Addr} {m : MV} {v : Value} (h : VR ρ m v) : VR (ρ ++ t) m v := by
  cases m <;> try exact h
  obtain ⟨x, hx, e⟩ := h
  exact ⟨x, get_mono hx, e⟩
theorem VRs.mono {ρ t : List Addr} : ∀ {ms : List MV} {vs : List Value}, VRs ρ ms vs → VRs (ρ ++ t) ms vs
  | [], _, h => h
  | _ :: _, _, ⟨v, r, e, h1, h2⟩ => ⟨v, r, e, h1.mono, h2.mono⟩
theorem NR.mono {P : Params} {ρ t : List Addr} : ∀ {fs : List (Str × MV)} {es : List DictEntry}, NR P ρ fs es → NR P (ρ ++ t) fs es
  | [], _, h => h
  | (_, _) :: _, _, ⟨k, v, r, e, h1, h2⟩ => ⟨k, v, r, e, h1.mono, h2.mono⟩
theorem PR.mono {K : Type} {ρ t : List Addr} : ∀ {fs : List (K × MV)} {es : List (K × Value)}, PR ρ fs es → PR (ρ ++ t) fs es
  | [], _, h => h
  | (_, _) :: _, _, ⟨v, r, e, h1, h2⟩ => ⟨v, r, e, h1.mono, h2.mono⟩
theorem OR.mono {prog : Program} {w : World} {ρ t : List Addr} {m : MO} {o : Obj} (h : OR prog w ρ m o) : OR prog w (ρ ++ t) m o := by
  cases m with
  | list xs => obtain ⟨vs, n, h, e⟩ := h; exact ⟨vs, n, h.mono, e⟩
  | tup xs => obtain ⟨vs, n, h, e⟩ := h; exact ⟨vs, n, h.mono, e⟩
  | inst c d => obtain ⟨x, hx, e⟩ := h; exact ⟨x, get_mono hx, e⟩
  | ns fs => obtain ⟨es, n, h, e⟩ := h; exact ⟨es, n, h.mono, e⟩
  | dI j fs => obtain ⟨x, es, hx, lo, h, e⟩ := h; exact ⟨x, es, get_mono hx, lo, h.mono, e⟩
  | dS j fs => obtain ⟨x, es, hx, lo, h, e⟩ := h; exact ⟨x, es, get_mono hx, lo, h.mono, e⟩
  | view k d => obtain ⟨x, hx, e⟩ := h; exact ⟨x, get_mono hx, e⟩
  | exc c d => obtain ⟨x, vs, h, e⟩ := h; exact ⟨x, vs, get_mono h, e⟩
  | setN n => exact h
  | lany k => exact h
  | junk => trivial
theorem VRs.length {ρ : List Addr} : ∀ {ms : List MV} {vs : List Value}, VRs ρ ms vs → vs.length = ms.length
  | [], _, h => by rw [h]; rfl
  | _ :: _, _, ⟨v, r, e, _, h2⟩ => by rw [e, List.length_cons, List.length_cons, h2.length]
theorem VRs.get {ρ : List Addr} : ∀ {ms : List MV} {vs : List Value} {i : Nat} {m : MV}, VRs ρ ms vs → ms[i]? = some m → ∃ v, vs[i]? = some v ∧ VR ρ m v
  | [], _, _, _, _, e => by simp at e
  | a :: ms, _, 0, m, ⟨v, r, e, h1, _⟩, hi => by
    subst e
    simp at hi
    subst hi
    exact ⟨v, rfl, h1⟩
  | a :: ms, _, i + 1, m, ⟨v, r, e, _, h2⟩, hi => by
    subst e
    simp at hi
    obtain ⟨u, hu, hr⟩ := h2.get hi
    exact ⟨u, by simpa using hu, hr⟩
theorem VRs.set {ρ : List Addr} {m : MV} {v : Value} (hv : VR ρ m v) : ∀ {ms : List MV} {vs : List Value} {i : Nat}, VRs ρ ms vs → VRs ρ (ms.set i m) (vs.set i v)
  | [], _, _, h => by rw [h]; rfl
  | _ :: _, _, 0, ⟨_, r, e, _, h2⟩ => by subst e; exact ⟨v, r, rfl, hv, h2⟩
  | _ :: _, _, i + 1, ⟨u, r, e, h1, h2⟩ => by subst e; exact ⟨u, r.set i v, rfl, h1, h2.set hv⟩
theorem VRs.append {ρ : List Addr} : ∀ {ms ms' : List MV} {vs vs' : List Value}, VRs ρ ms vs → VRs ρ ms' vs' → VRs ρ (ms ++ ms') (vs ++ vs')
  | [], _, _, _, h, h' => by rw [h]; exact h'
  | _ :: _, _, _, _, ⟨u, r, e, h1, h2⟩, h' => by subst e; exact ⟨u, r ++ _, rfl, h1, h2.append h'⟩
theorem VRs.concat {ρ : List Addr} {m : MV} : ∀ {ms : List MV} {vs : List Value}, VRs ρ (ms ++ [m]) vs → ∃ ws v, vs = ws ++ [v] ∧ VRs ρ ms ws ∧ VR ρ m v
  | [], _, ⟨v, r, e, h1, h2⟩ => by
    have hr : r = [] := h2
    subst hr
    exact ⟨[], v, e, rfl, h1⟩
  | a :: ms, _, ⟨u, r, e, h1, h2⟩ => by
    obtain ⟨ws, v, e2, h3, h4⟩ := VRs.concat (ms := ms) h2
    subst e2
    exact ⟨u :: ws, v, e, ⟨u, ws, rfl, h1, h3⟩, h4⟩
structure Cx where
  prog : Program
  w : World
  A : Around
  env : Env
  h₀ : Heap
  L : Addr
  /-- in a comprehension: what the frame's names hold, and the cells and names around it -/
  fm : Option ((Str → Option Value) × List (Addr × Obj))
  /-- the frames below: their names' objects, up to slots -/
  fr : List (Addr × Obj)
  /-- further objects that stay -/
  xt : List (Addr × Obj)
  /-- what must hold where an exception leaves -/
  X : Addr → List MV → ML → MH → Prop
  /-- the names, by their places; the scope that says their kinds -/
  nm : List Str
  sc : Scope
noncomputable def Led (h₀ : Heap) (L : Addr) (prog : Program) (w : World) (ml : Str → Option Value) (xs : List (Addr × Obj)) (ρ : List Addr) (H : MH) (h : Heap) : Prop :=
  Fr h₀ L h ml ∧ ∃ os : List Obj, os.length = H.length ∧ ρ.length = H.length ∧
    (∀ (i : Nat) (o : MO), H[i]? = some o → ∃ x, os[i]? = some x ∧ OR prog w ρ o x) ∧
    News h₀ L h (xs ++ ρ.zip os) ∧ (xs.map (·.1) ++ ρ).Nodup
noncomputable def Own (c : Cx) (mr ml : Str → Option Value) (ex : List (Addr × Obj)) : Prop :=
  match c.fm with
  | none => c.env.locals = c.L ∧ (∀ x, c.env.kindOf x = some .local → ml x = mr x) ∧
      ∀ x, c.env.kindOf x = some .cell ∨ c.env.kindOf x = some .free → ∃ a o, c.env.cells.lookup x = some a ∧ (a, o) ∈ ex ∧ o.data = .cell (mr x)
  | some (f, ox) => ml = f ∧ ∃ oC mC cs, ex = (c.env.locals, oC) :: (cs ++ ox) ∧ LCg.NsObj oC mC ∧ (∀ x, c.env.kindOf x = some .local → mC x = mr x) ∧
      (∀ x, c.env.kindOf x = some .cell ∨ c.env.kindOf x = some .free → ∃ a o, c.env.cells.lookup x = some a ∧ (a, o) ∈ cs ++ ox ∧ o.data = .cell (mr x)) ∧
      (∀ x, c.sc.names.lookup x = some .cell → c.env.kindOf x = some .cell ∧ ∃ a o, c.env.cells.lookup x = some a ∧ (a, o) ∈ cs) ∧
      ∀ x y a o, c.env.cells.lookup x = some a → c.env.cells.lookup y = some a → (a, o) ∈ cs → x = y
noncomputable def St (c : Cx) (mr : Str → Option Value) (ρ : List Addr) (H : MH) (h : Heap) : Prop :=
  ∃ ml fr ex, Own c mr ml ex ∧ TI.SameUp c.fr fr ∧ Led c.h₀ c.L c.prog c.w ml (fr ++ (c.xt ++ ex)) ρ H h
theorem St.open {c : Cx} {mr : Str → Option Value} {ρ : List Addr} {H : MH} {h : Heap} (S : St c mr ρ H h) :
    ∃ ml xs, Led c.h₀ c.L c.prog c.w ml xs ρ H h ∧ ∀ ρ' H' h', Led c.h₀ c.L c.prog c.w ml xs ρ' H' h' → St c mr ρ' H' h' := by
  obtain ⟨ml, fr, ex, o, u, l⟩ := S
  exact ⟨ml, _, l, fun ρ' H' h' l' => ⟨ml, fr, ex, o, u, l'⟩⟩
theorem St.keep {c : Cx} {mr : Str → Option Value} {ρ : List Addr} {H : MH} {h : Heap} (S : St c mr ρ H h) : ∀ b o, c.h₀.get? b = some o → h.get? b = some o := by
  obtain ⟨ml, xs, l, _⟩ := S.open
  exact l.1.keep
noncomputable def slot : List Str → Str → Option Nat
  | [], _ => none
  | y :: r, x => match slot r x with
    | some i => some (i + 1)
    | none => if y == x then some 0 else none
theorem slot_get : ∀ {nm : List Str} {x : Str} {i : Nat}, slot nm x = some i → nm[i]? = some x
  | [], _, _, h => by cases h
  | y :: r, x, i, h => by
    unfold slot at h
    cases e : slot r x with
    | some j =>
      rw [e] at h
      cases h
      simpa using slot_get e
    | none =>
      rw [e] at h
      simp only at h
      split at h
      · rename_i q
        cases h
        simpa using q
      · cases h
noncomputable def LR (mr : Str → Option Value) (nm : List Str) (ρ : List Addr) (m : ML) : Prop :=
  m.length = nm.length ∧ ∀ i x v, slot nm x = some i → m[i]? = some (some v) → ∃ vr, VR ρ v vr ∧ mr x = some vr
theorem LR.mono {mr : Str → Option Value} {nm : List Str} {ρ t : List Addr} {m : ML} (h : LR mr nm ρ m) : LR mr nm (ρ ++ t) m :=
  ⟨h.1, fun i x v e1 e2 => let ⟨vr, h1, h2⟩ := h.2 i x v e1 e2; ⟨vr, h1.mono, h2⟩⟩
theorem LR.set {mr : Str → Option Value} {nm : List Str} {ρ : List Addr} {m : ML} (h : LR mr nm ρ m) {x : Str} {i : Nat} {v : MV} {vr : Value} (hs : slot nm x = some i) (hv : VR ρ v vr) :
    LR (fun y => if y = x then some vr else mr y) nm ρ (m.set i (some v)) := by
  refine ⟨by rw [List.length_set]; exact h.1, fun j y u e1 e2 => ?_⟩
  by_cases e : y = x
  · subst e
    rw [hs] at e1
    cases e1
    rw [List.getElem?_set_self'] at e2
    cases hm : m[i]? with
    | none => rw [hm] at e2; cases e2
    | some o =>
      rw [hm] at e2
      cases e2
      exact ⟨vr, hv, by simp⟩
  · have hij : i ≠ j := by
      rintro rfl
      have h1 := slot_get hs
      have h2 := slot_get e1
      rw [h1] at h2
      cases h2
      exact e rfl
    rw [List.getElem?_set_ne hij] at e2
    obtain ⟨w, h1, h2⟩ := h.2 j y u e1 e2
    exact ⟨w, h1, by simp [e, h2]⟩
noncomputable def Fly (c : Cx) (mr : Str → Option Value) (ρ : List Addr) (H : MH) (C : Addr) (as : List MV) (e : Addr) (h : Heap) : Prop :=
  ∃ (hB : Heap) (t : Addr) (vs : List Value), St c mr ρ H hB ∧ VRs ρ as vs ∧ hB.get? e = none ∧ hB.get? t = none ∧ h.TupAt t vs ∧ hB.UpToSlots h ∧
    (TI.gone hB (c.L :: c.fr.map (·.1))).StaysIn h ∧
    ((∃ oe ws, h.get? e = some oe ∧ oe.cls = .ref C ∧ oe.data = .fields ws ∧ ws[0]? = some (.ref t) ∧ ws[1]? = some .none) ∨
     ∃ fl, h.TracedAtW (TI.gone hB (c.L :: c.fr.map (·.1))) e (.ref C) (.ref t) fl ∧ (fl = .none ∨ fl = rawInt c.L))
noncomputable def Kx (c : Cx) (ρ : List Addr) (s : Shared) (E : Value → Shared → Prop) : Prop :=
  ∀ t C as e m' mr' H' h' tk, c.X C as m' H' → Fly c mr' (ρ ++ t) H' C as e h' → LR mr' c.nm (ρ ++ t) m' → E (.ref e) { s with heap := h', toks := tk }
theorem Kx.mono {c : Cx} {ρ t : List Addr} {s : Shared} {E : Value → Shared → Prop} {h : Heap} {tk : Nat} (k : Kx c ρ s E) : Kx c (ρ ++ t) { s with heap := h, toks := tk } E := by
  intro t' C as e m' mr' H' h' tk' hX hF hL
  rw [List.append_assoc] at hF hL
  exact k (t ++ t') C as e m' mr' H' h' tk' hX hF hL
noncomputable def EV (c : Cx) (m : ML) (e : PySem.Expr) (H : MH) (post : MV → MH → Prop) : Prop :=
  ∀ (mr : Str → Option Value) (ρ : List Addr) (s : Shared) (Q : Value → Shared → Prop) (E : Value → Shared → Prop), St c mr ρ H s.heap → LR mr c.nm ρ m →
    (∀ t v vr H' h' tk, post v H' → VR (ρ ++ t) v vr → St c mr (ρ ++ t) H' h' → Q vr { s with heap := h', toks := tk }) → Kx c ρ s E →
    wpAny (model c.prog c.w) c.A (eval e c.env) Q E s
theorem EV.mono {c : Cx} {m : ML} {e : PySem.Expr} {H : MH} {p q : MV → MH → Prop} (h : EV c m e H p) (hp : ∀ v H', p v H' → q v H') : EV c m e H q :=
  fun mr ρ s Q E S l k kx => h mr ρ s Q E S l (fun t v vr H' h' tk hv => k t v vr H' h' tk (hp _ _ hv)) kx
theorem nil_of {c : Cx} {mr : Str → Option Value} {ρ : List Addr} {H : MH} {h : Heap} (S : St c mr ρ H h) : St c mr (ρ ++ []) H h := by rw [List.append_nil]; exact S
theorem ns_of {oC : Obj} {mC : Str → Option Value} {h : Heap} {C : Addr} (hC : LCg.NsObj oC mC) (e : h.get? C = some oC) : h.Ns C mC := hC.ns e
noncomputable def kcl : Option NameKind → Nat
  | some .local => 1
  | some .cell => 2
  | some .free => 2
  | some .globalImplicit => 3
  | _ => 0
noncomputable def rdb (sc : Scope) (x : Str) : Bool := (x != ("__debug__" : Str)) && (x != ("__classdict__" : Str)) && (kcl (sc.names.lookup x) == 1 || kcl (sc.names.lookup x) == 2)
noncomputable def glb (sc : Scope) (x : Str) : Bool := (x != ("__debug__" : Str)) && kcl (sc.names.lookup x) == 3
theorem kcl1 {k : Option NameKind} (h : kcl k = 1) : k = some .local := by
  unfold kcl at h
  split at h <;> first | rfl | cases h
theorem kcl2 {k : Option NameKind} (h : kcl k = 2) : k = some .cell ∨ k = some .free := by
  unfold kcl at h
  split at h <;> first | (exact .inl rfl) | (exact .inr rfl) | cases h
theorem kcl3 {k : Option NameKind} (h : kcl k = 3) : k = some .globalImplicit := by
  unfold kcl at h
  split at h <;> first | rfl | cases h
structure Gx where
  K : Frag
  p : Program
  loose : List Str
  mean : ExcName → Option Value
  mg : Str → Option Value
  mb : Str → Option Value
  /-- what else stands in the heap -/
  ex : Heap → Prop
structure Ok (G : Gx) (c : Cx) (d : Nat) : Prop where
  frames : ∃ env₀ outer, c.A.frames = some (env₀ :: outer) ∧ env₀.frame = some c.L ∧ env₀.scope.kind = .function ∧ TI.Frs outer c.fr ∧ (c.fm = none → env₀ = c.env)
  kin : G.K.In c.h₀
  top : Top G.p G.loose G.mean G.mg G.mb c.h₀
  hh : c.A.handled = none
  dep : c.A.depth + d < recursionLimit
  uni : c.A.units + 8 * d + 64 < cLine
  fn : c.env.scope.kind = .function
  gl : c.env.globals = mainGlobals
  bi : c.env.builtins = builtinsNs
  ap : c.fm = none → c.env.cells.Pairwise fun x y => x.2 ≠ y.2
  kd : ∀ x, kcl (c.env.kindOf x) = kcl (c.sc.names.lookup x)
  fs : c.fm = none → c.env.scope = c.sc
  ex : G.ex c.h₀
theorem read {G : Gx} {c : Cx} {d : Nat} (ok : Ok G c d) {mr : Str → Option Value} {ρ : List Addr} {H : MH} {s : Shared} {x : Str} {pos : Pos} {v : Value} {Q E} (S : St c mr ρ H s.heap) (hx : rdb c.sc x = true) (hv : mr x = some v) (h : Q v s) :
    wpAny (model c.prog c.w) c.A (eval (.Name x pos) c.env) Q E s := by
  unfold rdb at hx
  simp only [Bool.and_eq_true, Bool.or_eq_true, beq_iff_eq, bne_iff_ne, ne_eq] at hx
  obtain ⟨⟨hd, hcd⟩, hx⟩ := hx
  rw [← ok.kd] at hx
  have hd' : (x == ("__debug__" : Str)) = false := by simpa using hd
  have hcd' : (x == ("__classdict__" : Str)) = false := by simpa using hcd
  have hk := ok.fn
  refine wpAny_Name ?_ hd'
  obtain ⟨ml, fr, ex, o, u, F, os, a1, a2, a3, N, a5⟩ := S
  unfold Own at o
  have cellRead : ∀ a o, c.env.cells.lookup x = some a → (a, o) ∈ fr ++ (c.xt ++ ex) → o.data = .cell (mr x) → (c.env.kindOf x = some .cell ∨ c.env.kindOf x = some .free) → wpAny (model c.prog c.w) c.A (loadName c.env x) Q E s := by
    intro a o e1 e2 e3 hk'
    rw [hv] at e3
    have hc : s.heap.IsCell a (some v) := ⟨o, (N _ (List.mem_append_left _ e2)).1, e3⟩
    rcases hk' with hk' | hk'
    · exact wpAny_loadName_cell hk hk' e1 hc h
    · exact wpAny_loadName_free hk hk' e1 hc h hcd'
  cases hf : c.fm with
  | none =>
    rw [hf] at o
    obtain ⟨oL, o1, o2⟩ := o
    rcases hx with hx | hx
    · exact wpAny_loadName_local hk (kcl1 hx) (by rw [oL]; exact F.ns) ((o1 x (kcl1 hx)).trans hv) h
    · obtain ⟨a, ob, e1, e2, e3⟩ := o2 x (kcl2 hx)
      exact cellRead a ob e1 (List.mem_append_right _ (List.mem_append_right _ e2)) e3 (kcl2 hx)
  | some f =>
    obtain ⟨f, ox⟩ := f
    rw [hf] at o
    obtain ⟨rfl, oC, mC, cs, q1, q2, q3, o2, _, _⟩ := o
    have hox : ∀ p ∈ cs ++ ox, p ∈ fr ++ (c.xt ++ ex) := fun p hp => List.mem_append_right _ (List.mem_append_right _ (by rw [q1]; exact .tail _ hp))
    rcases hx with hx | hx
    · exact wpAny_loadName_local hk (kcl1 hx) (ns_of q2 (N _ (List.mem_append_left _ (List.mem_append_right _ (List.mem_append_right _ (by rw [q1]; exact .head _))))).1) ((q3 x (kcl1 hx)).trans hv) h
    · obtain ⟨a, ob, e1, e2, e3⟩ := o2 x (kcl2 hx)
      exact cellRead a ob e1 (hox _ e2) e3 (kcl2 hx)
theorem mem_zip_of {ρ : List Addr} {os : List Obj} {i : Nat} {a : Addr} {x : Obj} (h1 : ρ[i]? = some a) (h2 : os[i]? = some x) : (a, x) ∈ ρ.zip os := by
  have : (ρ.zip os)[i]? = some (a, x) := by
    rw [List.getElem?_zip_eq_some]
    exact ⟨h1, h2⟩
  exact List.mem_of_getElem? this
section
variable {h₀ h h' : Heap} {L : Addr} {prog : Program} {w : World} {ml : Str → Option Value} {xs : List (Addr × Obj)} {ρ : List Addr} {H : MH}
theorem Led.get (S : Led h₀ L prog w ml xs ρ H h) {i : Nat} {o : MO} (hi : H[i]? = some o) : ∃ a x, ρ[i]? = some a ∧ OR prog w ρ o x ∧ News h₀ L h [(a, x)] := by
  obtain ⟨F, os, a1, a2, a3, N, a5⟩ := S
  obtain ⟨x, hx, hr⟩ := a3 i o hi
  have hlt : i < ρ.length := by rw [a2]; exact (List.getElem?_eq_some_iff.mp hi).1
  refine ⟨ρ[i], x, List.getElem?_eq_getElem hlt, hr, fun p hp => ?_⟩
  rw [List.mem_singleton.mp hp]
  exact N _ (List.mem_append_right _ (mem_zip_of (List.getElem?_eq_getElem hlt) hx))
theorem zip_append_one {os : List Obj} {l : Addr} {x : Obj} (h : ρ.length = os.length) : (ρ ++ [l]).zip (os ++ [x]) = ρ.zip os ++ [(l, x)] := by
  rw [List.zip_append h]
  rfl
theorem led_addr {os : List Obj} (a1 : os.length = H.length) (a2 : ρ.length = H.length) {a : Addr} (ha : a ∈ xs.map (·.1) ++ ρ) : ∃ p ∈ xs ++ ρ.zip os, p.1 = a := by
  rcases List.mem_append.mp ha with ha | ha
  · obtain ⟨p, hp, rfl⟩ := List.mem_map.mp ha
    exact ⟨p, List.mem_append_left _ hp, rfl⟩
  · obtain ⟨i, hi, rfl⟩ := List.getElem_of_mem ha
    have hi' : i < os.length := by rw [a1, ← a2]; exact hi
    exact ⟨(ρ[i], os[i]), List.mem_append_right _ (mem_zip_of (List.getElem?_eq_getElem hi) (List.getElem?_eq_getElem hi')), rfl⟩
theorem Led.alloc {os : List Obj} {l : Addr} {x : Obj} {o : MO}
    (a1 : os.length = H.length) (a2 : ρ.length = H.length) (a3 : ∀ (i : Nat) (o : MO), H[i]? = some o → ∃ x, os[i]? = some x ∧ OR prog w ρ o x)
    (a5 : (xs.map (·.1) ++ ρ).Nodup)
    (F : Fr h₀ L h' ml) (N : News h₀ L h' ((l, x) :: (xs ++ ρ.zip os))) (hl : ∀ p ∈ xs ++ ρ.zip os, p.1 ≠ l) (ho : OR prog w (ρ ++ [l]) o x) :
    Led h₀ L prog w ml xs (ρ ++ [l]) (H ++ [o]) h' := by
  refine ⟨F, os ++ [x], by simp [a1], by simp [a2], ?_, ?_, ?_⟩
  · intro i o' hi
    by_cases hlt : i < H.length
    · rw [List.getElem?_append_left hlt] at hi
      obtain ⟨y, hy, hr⟩ := a3 i o' hi
      exact ⟨y, by rw [List.getElem?_append_left (by rw [a1]; exact hlt)]; exact hy, hr.mono⟩
    · rw [List.getElem?_append_right (Nat.le_of_not_lt hlt)] at hi
      have hz : i - H.length = 0 := by
        have := (List.getElem?_eq_some_iff.mp hi).1
        simp at this
        omega
      rw [hz] at hi
      simp at hi
      subst hi
      refine ⟨x, ?_, ho⟩
      rw [List.getElem?_append_right (by rw [a1]; exact Nat.le_of_not_lt hlt), a1, hz]
      rfl
  · intro p hp
    rw [zip_append_one (by rw [a1, a2])] at hp
    refine N p ?_
    rw [← List.append_assoc] at hp
    rcases List.mem_append.mp hp with hp | hp
    · exact .tail _ hp
    · rw [List.mem_singleton.mp hp]; exact .head _
  · rw [← List.append_assoc, List.nodup_append]
    refine ⟨a5, by simp, ?_⟩
    intro a ha b hb e
    rw [List.mem_singleton.mp hb] at e
    obtain ⟨p, hp, e2⟩ := led_addr (os := os) a1 a2 ha
    exact hl p hp (e2.trans e)
theorem Led.upd (S : Led h₀ L prog w ml xs ρ H h) {i : Nat} {o o' : MO} {a : Addr} {x' : Obj} (hi : H[i]? = some o) (ha : ρ[i]? = some a)
    (hs : Heap.SameBut a h h') (hx : h'.get? a = some x') (ho : OR prog w ρ o' x') : Led h₀ L prog w ml xs ρ (H.set i o') h' := by
  obtain ⟨F, os, a1, a2, a3, N, a5⟩ := S
  obtain ⟨x, hx0, _⟩ := a3 i o hi
  have hm : (a, x) ∈ ρ.zip os := mem_zip_of ha hx0
  have na := N _ (List.mem_append_right _ hm)
  have hlt : i < H.length := (List.getElem?_eq_some_iff.mp hi).1
  refine ⟨F.change hs na.2.1 na.2.2, os.set i x', by simp [a1], by simp [a2], ?_, ?_, a5⟩
  · intro j o1 hj
    by_cases e : i = j
    · subst e
      rw [List.getElem?_set_self hlt] at hj
      cases hj
      exact ⟨x', List.getElem?_set_self (by rw [a1]; exact hlt), ho⟩
    · rw [List.getElem?_set_ne e] at hj
      obtain ⟨y, hy, hr⟩ := a3 j o1 hj
      exact ⟨y, by rw [List.getElem?_set_ne e]; exact hy, hr⟩
  · intro p hp
    rw [List.nodup_append] at a5
    rcases List.mem_append.mp hp with hp | hp
    · have P := N p (List.mem_append_left _ hp)
      have hne : p.1 ≠ a := fun e => a5.2.2 p.1 (List.mem_map_of_mem hp) a (List.mem_of_getElem? ha) e
      exact ⟨(hs.2 _ hne).trans P.1, P.2⟩
    · obtain ⟨j, hj, e⟩ := List.getElem_of_mem hp
      obtain ⟨b, y⟩ := p
      have e' : (ρ.zip (os.set i x'))[j]? = some (b, y) := by rw [List.getElem?_eq_getElem hj, e]
      rw [List.getElem?_zip_eq_some] at e'
      by_cases eij : i = j
      · subst eij
        rw [ha, List.getElem?_set_self (by rw [a1]; exact hlt)] at e'
        obtain ⟨e1, e2⟩ := e'
        cases e1; cases e2
        exact ⟨hx, na.2⟩
      · rw [List.getElem?_set_ne eij] at e'
        have P := N _ (List.mem_append_right _ (mem_zip_of e'.1 e'.2))
        have hne : b ≠ a := by
          intro e3
          subst e3
          have l1 := (List.getElem?_eq_some_iff.mp ha).1
          exact eij ((List.getElem?_inj l1 a5.2.1).mp (ha.trans e'.1.symm))
        exact ⟨(hs.2 _ hne).trans P.1, P.2⟩
theorem Led.grow (S : Led h₀ L prog w ml xs ρ H h) (hk : ∀ b o, h.get? b = some o → h'.get? b = some o) : Led h₀ L prog w ml xs ρ H h' := by
  obtain ⟨F, os, a1, a2, a3, N, a5⟩ := S
  exact ⟨F.keeps hk, os, a1, a2, a3, N.grown hk, a5⟩
end
theorem St.get {c : Cx} {mr : Str → Option Value} {ρ : List Addr} {H : MH} {h : Heap} (S : St c mr ρ H h) {i : Nat} {o : MO} (hi : H[i]? = some o) :
    ∃ a x, ρ[i]? = some a ∧ OR c.prog c.w ρ o x ∧ News c.h₀ c.L h [(a, x)] := by
  obtain ⟨ml, xs, l, _⟩ := S.open
  exact l.get hi
theorem St.upd {c : Cx} {mr : Str → Option Value} {ρ : List Addr} {H : MH} {h h' : Heap} (S : St c mr ρ H h) {i : Nat} {o o' : MO} {a : Addr} {x' : Obj} (hi : H[i]? = some o) (ha : ρ[i]? = some a)
    (hs : Heap.SameBut a h h') (hx : h'.get? a = some x') (ho : OR c.prog c.w ρ o' x') : St c mr ρ (H.set i o') h' := by
  obtain ⟨ml, xs, l, back⟩ := S.open
  exact back _ _ _ (l.upd hi ha hs hx ho)
theorem St.grow {c : Cx} {mr : Str → Option Value} {ρ : List Addr} {H : MH} {h h' : Heap} (S : St c mr ρ H h) (hk : ∀ b o, h.get? b = some o → h'.get? b = some o) : St c mr ρ H h' := by
  obtain ⟨ml, xs, l, back⟩ := S.open
  exact back _ _ _ (l.grow hk)
theorem last_get {ρ : List Addr} {H : MH} {l : Addr} (a2 : ρ.length = H.length) : (ρ ++ [l])[H.length]? = some l := by
  rw [List.getElem?_append_right (by rw [a2]; exact Nat.le_refl _), a2, Nat.sub_self]
  rfl
noncomputable def stb (sc : Scope) (x : Str) : Bool := sc.names.lookup x == some .local || sc.names.lookup x == some .cell
theorem store' {c : Cx} (hap : c.fm = none → c.env.cells.Pairwise fun x y => x.2 ≠ y.2) (hk : c.env.scope.kind = .function) (hfs : c.fm = none → c.env.scope = c.sc) {mr : Str → Option Value} {ρ : List Addr} {H : MH} {s : Shared} {x : Str} {v : Value} {Q E} (S : St c mr ρ H s.heap) (hfm : c.fm = none) (hx : stb c.sc x = true)
    (h : ∀ h' tk, St c (fun y => if y = x then some v else mr y) ρ H h' → Q () { s with heap := h', toks := tk }) :
    wpAny (model c.prog c.w) c.A (storeName c.env x v) Q E s := by
  unfold stb at hx
  replace hap := hap hfm
  rw [← hfs hfm] at hx
  simp only [Bool.or_eq_true, beq_iff_eq] at hx
  change c.env.kindOf x = some .local ∨ c.env.kindOf x = some .cell at hx
  obtain ⟨ml, fr, ex, o, u, F, os, a1, a2, a3, N, a5⟩ := S
  unfold Own at o
  rw [hfm] at o
  obtain ⟨oL, o1, o2⟩ := o
  rcases hx with hx | hx
  · refine wpAny_storeName_local hx (by rw [oL]; exact F.ns) (fun h' hn hs => ?_) (by rw [hk]; rfl)
    rw [oL] at hn hs
    refine h h' _ ⟨_, fr, ex, ?_, u, F.set hn hs, os, a1, a2, a3, N.set hs, a5⟩
    unfold Own
    rw [hfm]
    refine ⟨oL, fun y hy => ?_, fun y hy => ?_⟩
    · by_cases e : y = x
      · simp [e]
      · simp [e, o1 y hy]
    · have hne : y ≠ x := by
        rintro rfl
        rw [hx] at hy
        rcases hy with hy | hy <;> cases hy
      simp only [if_neg hne]
      exact o2 y hy
  · obtain ⟨a, ob, e1, e2, e3⟩ := o2 x (.inl hx)
    have hmem : (a, ob) ∈ fr ++ (c.xt ++ ex) := List.mem_append_right _ (List.mem_append_right _ e2)
    have hN := N _ (List.mem_append_left _ hmem)
    refine wpAny_storeName_cell hk hx e1 ⟨ob, hN.1, e3⟩ fun h' hv hs => ?_
    obtain ⟨o', ho', hd'⟩ := hv
    have hF : Fr c.h₀ c.L h' ml := F.change hs hN.2.1 hN.2.2
    let f : Addr × Obj → Addr × Obj := fun p => if p.1 = a then (a, o') else p
    have hfst : ∀ l : List (Addr × Obj), (l.map f).map (·.1) = l.map (·.1) := by
      intro l
      induction l with
      | nil => rfl
      | cons p l ih =>
        simp only [List.map_cons, ih]
        congr 1
        show (if p.1 = a then (a, o') else p).1 = p.1
        split
        · rename_i q; exact q.symm
        · rfl
    have hnd := a5
    rw [List.nodup_append] at hnd
    obtain ⟨nd1, nd2, nd3⟩ := hnd
    have hfix : ∀ p ∈ fr ++ c.xt, f p = p := by
      intro p hp
      show (if p.1 = a then (a, o') else p) = p
      rw [if_neg]
      intro q
      rw [List.map_append, List.map_append, ← List.append_assoc, ← List.map_append, List.nodup_append] at nd1
      exact nd1.2.2 p.1 (List.mem_map_of_mem hp) a (List.mem_map_of_mem (f := (·.1)) e2) q
    have hfix1 : fr.map f = fr := by
      have := List.map_congr_left (l := fr) (f := f) (g := id) (fun p hp => hfix p (List.mem_append_left _ hp))
      rw [this]; simp
    have hfix2 : c.xt.map f = c.xt := by
      have := List.map_congr_left (l := c.xt) (f := f) (g := id) (fun p hp => hfix p (List.mem_append_right _ hp))
      rw [this]; simp
    refine h h' _ ⟨ml, fr, ex.map f, ?_, u, hF, os, a1, a2, a3, ?_, ?_⟩
    · unfold Own
      rw [hfm]
      refine ⟨oL, fun y hy => ?_, fun y hy => ?_⟩
      · have hne : y ≠ x := by
          rintro rfl
          rw [hx] at hy
          cases hy
        simp only [if_neg hne]
        exact o1 y hy
      · by_cases e : y = x
        · subst e
          refine ⟨a, o', e1, ?_, by simp [hd']⟩
          have : f (a, ob) = (a, o') := by show (if a = a then (a, o') else _) = _; rw [if_pos rfl]
          rw [← this]
          exact List.mem_map_of_mem e2
        · obtain ⟨b, oy, y1, y2, y3⟩ := o2 y hy
          have hba : b ≠ a := fun q => e (name_of_addr hap (mem_of_lookup y1) (q ▸ mem_of_lookup e1))
          refine ⟨b, oy, y1, ?_, by simp [e, y3]⟩
          have : f (b, oy) = (b, oy) := by show (if b = a then (a, o') else _) = _; rw [if_neg hba]
          rw [← this]
          exact List.mem_map_of_mem y2
    · intro p hp
      have hsplit : fr ++ (c.xt ++ ex.map f) = (fr ++ (c.xt ++ ex)).map f := by simp only [List.map_append, hfix1, hfix2]
      rw [hsplit] at hp
      rcases List.mem_append.mp hp with hp | hp
      · obtain ⟨q, hq, rfl⟩ := List.mem_map.mp hp
        have P := N q (List.mem_append_left _ hq)
        show h'.get? (f q).1 = some (f q).2 ∧ _
        by_cases e : q.1 = a
        · have : f q = (a, o') := by show (if q.1 = a then (a, o') else q) = _; rw [if_pos e]
          rw [this]
          exact ⟨ho', hN.2⟩
        · have : f q = q := by show (if q.1 = a then (a, o') else q) = _; rw [if_neg e]
          rw [this]
          exact ⟨(hs.2 _ e).trans P.1, P.2⟩
      · have P := N p (List.mem_append_right _ hp)
        refine ⟨(hs.2 _ fun q => ?_).trans P.1, P.2⟩
        exact nd3 a (List.mem_map_of_mem (f := (·.1)) hmem) p.1 (List.of_mem_zip (show (p.1, p.2) ∈ _ from hp)).1 q.symm
    · have hsplit : fr ++ (c.xt ++ ex.map f) = (fr ++ (c.xt ++ ex)).map f := by simp only [List.map_append, hfix1, hfix2]
      rw [hsplit, hfst]
      exact a5
theorem store {G : Gx} {c : Cx} {d : Nat} (ok : Ok G c d) {mr : Str → Option Value} {ρ : List Addr} {H : MH} {s : Shared} {x : Str} {v : Value} {Q E} (S : St c mr ρ H s.heap) (hfm : c.fm = none) (hx : stb c.sc x = true)
    (h : ∀ h' tk, St c (fun y => if y = x then some v else mr y) ρ H h' → Q () { s with heap := h', toks := tk }) :
    wpAny (model c.prog c.w) c.A (storeName c.env x v) Q E s := store' ok.ap ok.fn ok.fs S hfm hx h
theorem su_addrs : ∀ {a b : List (Addr × Obj)}, TI.SameUp a b → b.map (·.1) = a.map (·.1)
  | [], [], _ => rfl
  | [], _ :: _, h => False.elim h
  | _ :: _, [], h => False.elim h
  | _ :: _, _ :: _, ⟨h1, _, h3⟩ => by simp only [List.map_cons, h1, su_addrs h3]
abbrev FA (c : Cx) : List Addr := c.L :: c.fr.map (·.1)
structure FlyB (c : Cx) (mr : Str → Option Value) (ρ : List Addr) (H : MH) (as : List MV) (e : Addr) (h hB : Heap) (t : Addr) (vs : List Value) : Prop where
  st : St c mr ρ H hB
  vr : VRs ρ as vs
  en : hB.get? e = none
  tn : hB.get? t = none
  tup : h.TupAt t vs
  up : hB.UpToSlots h
  stay : (TI.gone hB (FA c)).StaysIn h
noncomputable def FlyH (c : Cx) (mr : Str → Option Value) (ρ : List Addr) (H : MH) (C : Addr) (as : List MV) (e : Addr) (fl : Value) (h : Heap) : Prop :=
  ∃ hB t vs, FlyB c mr ρ H as e h hB t vs ∧ h.TracedAtW (TI.gone hB (FA c)) e (.ref C) (.ref t) fl
section
variable {c : Cx} {mr : Str → Option Value} {ρ : List Addr} {H : MH} {C : Addr} {as : List MV} {e : Addr} {h hB : Heap} {t : Addr} {vs : List Value} {G : Gx} {d : Nat}
theorem Fly.split (f : Fly c mr ρ H C as e h) : ∃ hB t vs, FlyB c mr ρ H as e h hB t vs ∧
    ((∃ oe ws, h.get? e = some oe ∧ oe.cls = .ref C ∧ oe.data = .fields ws ∧ ws[0]? = some (.ref t) ∧ ws[1]? = some .none) ∨
     ∃ fl, h.TracedAtW (TI.gone hB (FA c)) e (.ref C) (.ref t) fl ∧ (fl = .none ∨ fl = rawInt c.L)) := by
  obtain ⟨hB, t, vs, a1, a2, a3, a4, a5, a6, a7, a8⟩ := f
  exact ⟨hB, t, vs, ⟨a1, a2, a3, a4, a5, a6, a7⟩, a8⟩
theorem FlyB.fly (b : FlyB c mr ρ H as e h hB t vs) (x : (∃ oe ws, h.get? e = some oe ∧ oe.cls = .ref C ∧ oe.data = .fields ws ∧ ws[0]? = some (.ref t) ∧ ws[1]? = some .none) ∨
     ∃ fl, h.TracedAtW (TI.gone hB (FA c)) e (.ref C) (.ref t) fl ∧ (fl = .none ∨ fl = rawInt c.L)) : Fly c mr ρ H C as e h :=
  ⟨hB, t, vs, b.st, b.vr, b.en, b.tn, b.tup, b.up, b.stay, x⟩
theorem FlyH.fly {fl : Value} (f : FlyH c mr ρ H C as e fl h) (hfl : fl = .none ∨ fl = rawInt c.L) : Fly c mr ρ H C as e h := by
  obtain ⟨hB, t, vs, b, x⟩ := f
  exact b.fly (.inr ⟨fl, x, hfl⟩)
theorem FlyB.frames (ok : Ok G c d) (b : FlyB c mr ρ H as e h hB t vs) : ∃ env₀ outer, c.A.frames = some (env₀ :: outer) ∧ env₀.frame = some c.L ∧ (c.fm = none → env₀ = c.env) ∧ h.FunFrames (TI.gone hB (FA c)) (env₀ :: outer) := by
  obtain ⟨env₀, outer, hA, hf, hk, Fs, he⟩ := ok.frames
  refine ⟨env₀, outer, hA, hf, he, ?_⟩
  obtain ⟨ml, fr, ex, own, u, F, os, a1, a2, a3, N, a5⟩ := b.st
  have Fs' := Fs.up u
  obtain ⟨fr', u', ht'⟩ := TI.sameUp_of (h' := h) (frs := fr) fun p hp => b.up p.1 p.2 (N p (List.mem_append_left _ (List.mem_append_left _ hp))).1 fun ws q => by
    obtain ⟨es, ep, hd⟩ := Fs'.dict p hp
    rw [hd] at q; cases q
  refine Heap.FunFrames.cons (by rw [hk]; decide) hf (b.up.ns F.ns) (TI.gone_none (.head _)) ((Fs'.up u').fun fun q hq => ⟨ht' q hq, TI.gone_none (.tail _ ?_)⟩)
  rw [← su_addrs u, ← su_addrs u']
  exact List.mem_map_of_mem hq
theorem FlyB.st' (ok : Ok G c d) (b : FlyB c mr ρ H as e h hB t vs) : St c mr ρ H h := by
  obtain ⟨env₀, outer, hA, hf, hk, Fs, he⟩ := ok.frames
  obtain ⟨ml, fr, ex, own, u, F, os, a1, a2, a3, N, a5⟩ := b.st
  have Fs' := Fs.up u
  obtain ⟨fr', u', ht'⟩ := TI.sameUp_of (h' := h) (frs := fr) fun p hp => b.up p.1 p.2 (N p (List.mem_append_left _ (List.mem_append_left _ hp))).1 fun ws q => by
    obtain ⟨es, ep, hd⟩ := Fs'.dict p hp
    rw [hd] at q; cases q
  have hFA : FA c = c.L :: fr.map (·.1) := by unfold FA; rw [su_addrs u]
  have nd := a5
  rw [List.map_append, List.append_assoc, List.nodup_append] at nd
  refine ⟨ml, fr', ex, own, u.trans u', ⟨b.up.ns F.ns, fun x o ex => b.stay x o ((TI.gone_get ?_).trans (F.keep x o ex)), F.above⟩, os, a1, a2, a3, ?_, ?_⟩
  · rw [hFA]
    exact TI.base_apart (frs := fr) F N (fun p hp => List.mem_append_left _ (List.mem_append_left _ hp)) ex
  · intro p hp
    rw [List.append_assoc] at hp
    rcases List.mem_append.mp hp with hp | hp
    · obtain ⟨q, hq, e1⟩ := u'.fwd p hp
      have P := N q (List.mem_append_left _ (List.mem_append_left _ hq))
      exact ⟨ht' p hp, by rw [e1]; exact P.2.1, by rw [e1]; exact P.2.2⟩
    · have P := N p (by rw [List.append_assoc]; exact List.mem_append_right _ hp)
      refine ⟨b.stay _ _ ((TI.gone_get ?_).trans P.1), P.2⟩
      rw [hFA]
      intro hm
      rcases List.mem_cons.mp hm with q | hm
      · exact P.2.1 q
      · refine nd.2.2 p.1 hm p.1 ?_ rfl
        rcases List.mem_append.mp hp with hp | hp
        · exact List.mem_append_left _ (List.mem_map_of_mem hp)
        · exact List.mem_append_right _ (List.of_mem_zip (show (p.1, p.2) ∈ _ from hp)).1
  · rw [List.map_append, su_addrs u', ← List.map_append]
    exact a5
theorem Fly.st (ok : Ok G c d) (f : Fly c mr ρ H C as e h) : St c mr ρ H h := by
  obtain ⟨hB, t, vs, b, _⟩ := f.split
  exact b.st' ok
theorem FlyB.base (b : FlyB c mr ρ H as e h hB t vs) : (TI.gone hB (FA c)).get? e = none := TI.none_of (fun _ _ q => (TI.gone_some q).2) b.en
theorem FlyB.on {h' : Heap} (b : FlyB c mr ρ H as e h hB t vs) (up : h.UpToSlots h') (st : (TI.gone hB (FA c)).StaysIn h') : FlyB c mr ρ H as e h' hB t vs :=
  ⟨b.st, b.vr, b.en, b.tn, b.tup.of_slots up, b.up.trans up, st⟩
end
section
variable {c : Cx} {mr : Str → Option Value} {ρ : List Addr} {H : MH} {C : Addr} {as : List MV} {e : Addr} {G : Gx} {d : Nat} {M : Model} {A : Around} {s : Shared} {Q : Unit → Shared → Prop} {E : Value → Shared → Prop}
theorem setFlightW {base : Heap} {cls a0 fl : Value} (o : Option Addr) (hkb : base.StaysIn s.heap) (ht : s.heap.TracedAtW base e cls a0 fl)
    (h : ∀ h', base.StaysIn h' → h'.TracedAtW base e cls a0 (o.elim .none fun f => rawInt f) → (∀ b x, s.heap.get? b = some x → (∀ vs, x.data ≠ .fields vs) → h'.get? b = some x) → Q () { s with heap := h' }) :
    wpAny M A (setFlight (.ref e) o) Q E s := by
  obtain ⟨oe, vs, T, oT, ts, he, hcls, hd, h1, hnT, hTe, hT, hdT, h3⟩ := ht
  have hsz3 : 3 < ts.size := (Array.getElem?_eq_some_iff.mp h3).1
  have other : ∀ b, b ≠ T → (s.heap.update T (Obj.mapFields (·.setIfInBounds 3 (o.elim Value.none fun f => rawInt f)))).get? b = s.heap.get? b :=
    fun b hb => Heap.get?_update_other _ _ (Ne.symm hb)
  have noRecord : ∀ b o, s.heap.get? b = some o → (∀ vs, o.data ≠ .fields vs) → b ≠ T := fun b o hb hnf q => by
    rw [q, hT] at hb; injection hb with hb; subst hb; exact hnf ts hdT
  unfold setFlight
  refine wpAny_bind (wpAny_field he hd h1 ?_)
  rw [if_pos (show (Value.ref T != Value.none) = true from by simp)]
  refine wpAny_setField hT hdT hsz3 (h _ (fun b o hbo => (other b fun q => by rw [q, hnT] at hbo; cases hbo).trans (hkb b o hbo)) ?_ fun b o hb hnf => (other b (noRecord b o hb hnf)).trans hb)
  exact ⟨oe, vs, T, _, _, (other e (Ne.symm hTe)).trans he, hcls, hd, h1, hnT, hTe, Heap.get?_update_self _ hT (Obj.isFreed_of_fields (Obj.data_mapFields hdT _)), Obj.data_mapFields hdT _, by simp [hsz3]⟩
theorem FlyH.flight {fl : Value} (o : Option Addr) (f : FlyH c mr ρ H C as e fl s.heap) (k : ∀ h', FlyH c mr ρ H C as e (o.elim .none fun f => rawInt f) h' → Q () { s with heap := h' }) : wpAny M A (setFlight (.ref e) o) Q E s := by
  obtain ⟨hB, t, vs, b, x⟩ := f
  exact setFlightW o b.stay x fun h' k1 k2 k3 => k h' ⟨hB, t, vs, b.on (fun a x ha hn => ⟨x.slots, k3 a x ha hn⟩) k1, k2⟩
theorem Fly.note (ok : Ok G c d) (hfm : c.fm = none) (hA : A.frames = c.A.frames) (f : Fly c mr ρ H C as e s.heap) (k : ∀ h', FlyH c mr ρ H C as e (rawInt c.L) h' → Q () { s with heap := h' }) :
    wpAny M A (noteFrame (.ref e) c.env) Q E s := by
  obtain ⟨hB, t, vs, b, x⟩ := f.split
  obtain ⟨env₀, outer, hA0, hf, he0, hFF⟩ := b.frames ok
  have he1 := he0 hfm
  subst he1
  rw [hA0] at hA
  rcases x with ⟨oe, ws, q1, q2, q3, q4, q5⟩ | ⟨fl, x, rfl | rfl⟩
  · unfold noteFrame
    simp only [hf]
    refine wpAny_bind (wpAny_field q1 q3 q5 ?_)
    rw [if_neg (by decide)]
    refine wpAny_entryW (a0 := .ref t) hA hFF hf q1 b.stay b.base q3 (Array.getElem?_eq_some_iff.mp q5).1 q4 fun h' hN => ?_
    obtain ⟨k1, k2, k3, k4⟩ := hN
    rw [q2] at k3
    exact k h' ⟨hB, t, vs, b.on k4 k1, k3⟩
  · refine wpAny_noteFrame_onW hA hFF hf x b.stay b.base fun h' hN => ?_
    obtain ⟨k1, k2, k3, k4⟩ := hN
    exact k h' ⟨hB, t, vs, b.on k4 k1, k3⟩
  · exact wpAny_noteFrame_againW hf x (k s.heap ⟨hB, t, vs, b, x⟩)
theorem Fly.leave (ok : Ok G c d) (hfm : c.fm = none) (hA : A.frames = c.A.frames) (f : Fly c mr ρ H C as e s.heap) (k : ∀ h', FlyH c mr ρ H C as e .none h' → Q () { s with heap := h' }) :
    wpAny M A (leaving c.env (.ref e)) Q E s := by
  unfold leaving
  refine wpAny_bind (f.note ok hfm hA fun h' f' => ?_)
  exact f'.flight none k
theorem Kx.pass (ok : Ok G c d) (hfm : c.fm = none) {A' : Around} (hA : A.frames = c.A.frames) (k : Kx c ρ s E) : Kx c ρ s (notedBy M A c.env (cameBackBy M A' c.env E)) := by
  intro t C as e m' mr' H' h' tk hX hF hL
  obtain ⟨_, _, _, _, _, _, he⟩ := ok.frames
  have hfr : c.env.frame = some c.L := by
    obtain ⟨env₀, outer, _, hf, _, _, he⟩ := ok.frames
    rw [← he hfm]; exact hf
  unfold notedBy
  refine Fly.note (s := { s with heap := h', toks := tk }) ok hfm hA hF fun h2 f2 => ?_
  unfold cameBackBy
  obtain ⟨hB, t', vs, b, x⟩ := id f2
  obtain ⟨oe, ws, T, oT, ts, q1, q2, q3, q4, q5, q6, q7, q8, q9⟩ := id x
  refine wpAny_bind (wpAny_field q1 q3 q4 ?_)
  rw [if_neg (by simp)]
  rw [hfr]
  refine FlyH.flight (s := { s with heap := h2, toks := tk }) (some c.L) f2 fun h3 f3 => ?_
  exact k t C as e m' mr' H' h3 tk hX (f3.fly (.inr rfl)) hL
end
structure Over (c c' : Cx) (mr ml : Str → Option Value) (fr ex : List (Addr × Obj)) (oL : Obj) : Prop where
  prog : c'.prog = c.prog
  w : c'.w = c.w
  h₀ : c'.h₀ = c.h₀
  fr' : c'.fr = (c.L, oL) :: fr
  xt' : c'.xt = c.xt ++ ex
  su : TI.SameUp c.fr fr
  own : Own c mr ml ex
  ns : ∀ (h : Heap) sl, h.get? c.L = some { oL with slots := sl } → h.Ns c.L ml
  above : c.h₀.objs.size ≤ c.L
theorem Over.back {c c' : Cx} {mr ml mr' : Str → Option Value} {fr ex : List (Addr × Obj)} {oL : Obj} {ρ : List Addr} {H : MH} {h h' : Heap} (O : Over c c' mr ml fr ex oL) (S : St c' mr' ρ H h)
    (hk : ∀ b o, b ≠ c'.L → h.get? b = some o → h'.get? b = some o) : St c mr ρ H h' := by
  obtain ⟨ml', fr', ex', own', u', F', os, a1, a2, a3, N', a5⟩ := S
  obtain ⟨ep, ew, e0, ef, ex0, su, own, ns, above⟩ := O
  rw [ef] at u'
  cases fr' with
  | nil => exact False.elim u'
  | cons q fr'' =>
    obtain ⟨u1, ⟨sl, u2⟩, u3⟩ := u'
    obtain ⟨qa, qo⟩ := q
    simp only at u1 u2
    subst u1 u2
    have hmem : ∀ p ∈ (fr'' ++ (c.xt ++ ex)) ++ ρ.zip os, p ∈ ((c.L, { oL with slots := sl }) :: fr'' ++ (c'.xt ++ ex')) ++ ρ.zip os := by
      intro p hp
      rw [ex0]
      simp only [List.mem_append, List.mem_cons, List.cons_append] at hp ⊢
      rcases hp with (hp | hp | hp) | hp <;> simp [hp]
    have hL := N' (c.L, { oL with slots := sl }) (List.mem_append_left _ (.head _))
    have hnd : (c.L :: ((fr'' ++ (c.xt ++ ex)).map (·.1) ++ ρ)).Nodup := by
      refine List.Nodup.sublist ?_ a5
      rw [ex0]
      simp only [List.cons_append, List.map_cons, List.map_append, List.append_assoc]
      refine List.Sublist.cons_cons _ ?_
      refine List.Sublist.append (List.Sublist.refl _) ?_
      refine List.Sublist.append (List.Sublist.refl _) ?_
      refine List.Sublist.append (List.Sublist.refl _) ?_
      exact List.sublist_append_right _ _
    rw [List.nodup_cons] at hnd
    refine ⟨ml, fr'', ex, own, su.trans u3, ⟨ns _ sl (hk _ _ hL.2.1 hL.1), fun b o e => hk b o ?_ (F'.keep b o (by rw [e0]; exact e)), above⟩, os, a1, a2, ?_, ?_, hnd.2⟩
    · rintro rfl
      have := F'.above
      rw [e0] at this
      exact absurd (Heap.lt_size e) (Nat.not_lt.mpr this)
    · rw [← ep, ← ew]; exact a3
    · intro p hp
      have P := N' p (hmem p hp)
      refine ⟨hk _ _ P.2.1 P.1, ?_, by rw [← e0]; exact P.2.2⟩
      intro q
      refine hnd.1 ?_
      rw [← q]
      rcases List.mem_append.mp hp with hp | hp
      · exact List.mem_append_left _ (List.mem_map_of_mem hp)
      · exact List.mem_append_right _ (List.of_mem_zip (show (p.1, p.2) ∈ _ from hp)).1
theorem Over.fly {c c' : Cx} {mr ml mr' : Str → Option Value} {fr ex : List (Addr × Obj)} {oL : Obj} {ρ : List Addr} {H : MH} {C : Addr} {as : List MV} {e : Addr} {h : Heap} (O : Over c c' mr ml fr ex oL)
    (f : FlyH c' mr' ρ H C as e .none h) : Fly c mr ρ H C as e h := by
  obtain ⟨hB, t, vs, b, x⟩ := f
  have hg : ∀ b o, (TI.gone hB [c'.L]).get? b = some o → b ≠ c'.L ∧ hB.get? b = some o := fun b o q => by
    obtain ⟨h1, h2⟩ := TI.gone_some q
    exact ⟨fun e => h1 (by rw [e]; exact .head _), h2⟩
  have hin : ∀ b o, (TI.gone (TI.gone hB [c'.L]) (FA c)).get? b = some o → (TI.gone hB (FA c')).get? b = some o := fun b o q => by
    obtain ⟨h1, h2⟩ := TI.gone_some q
    obtain ⟨h3, h4⟩ := hg b o h2
    refine (TI.gone_get ?_).trans h4
    unfold FA at h1 ⊢
    rw [O.fr', List.map_cons, su_addrs O.su]
    intro hm
    rcases List.mem_cons.mp hm with q | hm
    · exact h3 q
    · exact h1 hm
  refine FlyB.fly (hB := TI.gone hB [c'.L]) (t := t) (vs := vs) ⟨O.back b.st fun b o hb q => (TI.gone_get (by simpa using hb)).trans q, b.vr, TI.none_of (fun b o q => (hg b o q).2) b.en, TI.none_of (fun b o q => (hg b o q).2) b.tn, b.tup,
    fun a o q hn => b.up a o (hg a o q).2 hn, fun a o q => b.stay a o (hin a o q)⟩ (.inr ⟨.none, ?_, .inl rfl⟩)
  obtain ⟨oe, ws, T, oT, ts, q1, q2, q3, q4, q5, q6, q7, q8, q9⟩ := x
  exact ⟨oe, ws, T, oT, ts, q1, q2, q3, q4, TI.none_of hin q5, q6, q7, q8, q9⟩
noncomputable def CL (G : Gx) (prog : Program) (w : World) (d : Nat) (f : Addr) (args : List MV) (H : MH) (post : MV → MH → Prop) (xp : Addr → List MV → MH → Prop) : Prop :=
  ∀ (c : Cx) (mr : Str → Option Value) (ρ : List Addr) (s : Shared) (Q : Value → Shared → Prop) (E : Value → Shared → Prop) (vs : List Value), c.prog = prog → c.w = w → Ok G c d → St c mr ρ H s.heap → VRs ρ args vs →
    (∀ t v vr H' h' tk, post v H' → VR (ρ ++ t) v vr → St c mr (ρ ++ t) H' h' → Q vr { s with heap := h', toks := tk }) →
    (∀ t C as e H' h' tk, xp C as H' → Fly c mr (ρ ++ t) H' C as e h' → E (.ref e) { s with heap := h', toks := tk }) →
    codeAny (model prog w) c.A (.call (.ref f) ⟨vs, []⟩) (fun r s' => match r with | .ok (.ret v) => Q v s' | .ok _ => False | .error e => E e s') s
theorem CL.mono {G : Gx} {prog : Program} {w : World} {d : Nat} {f : Addr} {args : List MV} {H : MH} {p q : MV → MH → Prop} {xp xq : Addr → List MV → MH → Prop} (h : CL G prog w d f args H p xp) (hp : ∀ v H', p v H' → q v H')
    (hx : ∀ C as H', xp C as H' → xq C as H') : CL G prog w d f args H q xq :=
  fun c mr ρ s Q E vs e1 e2 o S l k kx => h c mr ρ s Q E vs e1 e2 o S l (fun t v vr H' h' tk hv => k t v vr H' h' tk (hp _ _ hv)) fun t C as e H' h' tk hv => kx t C as e H' h' tk (hx _ _ _ hv)
inductive Fl where
  | next
  | brk
  | cont
  | ret (v : MV)
noncomputable def FlR (ρ : List Addr) : Fl → Flow → Prop
  | .next, f => f = .next
  | .brk, f => f = .brk
  | .cont, f => f = .cont
  | .ret m, f => ∃ v, f = .ret v ∧ VR ρ m v
noncomputable def retv : Fl → MV
  | .ret v => v
  | _ => .none
noncomputable def EX (c : Cx) (m : ML) (ss : List Stmt) (H : MH) (post : Fl → ML → MH → Prop) : Prop :=
  ∀ (mr : Str → Option Value) (ρ : List Addr) (s : Shared) (Q : Flow → Shared → Prop) (E : Value → Shared → Prop), St c mr ρ H s.heap → LR mr c.nm ρ m →
    (∀ t f fr m' mr' H' h' tk, post f m' H' → FlR (ρ ++ t) f fr → St c mr' (ρ ++ t) H' h' → LR mr' c.nm (ρ ++ t) m' → Q fr { s with heap := h', toks := tk }) → Kx c ρ s E →
    wpAny (model c.prog c.w) c.A (execs ss c.env) Q E s
theorem bindL_off {k : Str → Option NameKind} {x : Str} : ∀ {names : List Str} {vals : List Value} {m₀ : Str → Option Value}, x ∉ names → bindL k (names.zip vals) m₀ x = m₀ x
  | [], _, _, _ => rfl
  | _ :: _, [], _, _ => rfl
  | n :: ns, v :: vs, m₀, h => by
    have hn : x ≠ n := fun e => h (e ▸ .head _)
    rw [List.zip_cons_cons]
    unfold bindL
    rw [bindL_off fun q => h (.tail _ q)]
    split <;> simp [hn]
theorem bindC_off {k : Str → Option NameKind} {x : Str} : ∀ {names : List Str} {vals : List Value} {m₀ : Str → Option Value}, x ∉ names → bindC k (names.zip vals) m₀ x = m₀ x
  | [], _, _, _ => rfl
  | _ :: _, [], _, _ => rfl
  | n :: ns, v :: vs, m₀, h => by
    have hn : x ≠ n := fun e => h (e ▸ .head _)
    rw [List.zip_cons_cons]
    unfold bindC
    rw [bindC_off fun q => h (.tail _ q)]
    split <;> simp [hn]
theorem bindL_at {k : Str → Option NameKind} {x : Str} {v : Value} (hk : k x = some .local) : ∀ {names : List Str} {vals : List Value} {i : Nat} {m₀ : Str → Option Value}, names.Nodup → names[i]? = some x → vals[i]? = some v → bindL k (names.zip vals) m₀ x = some v
  | [], _, _, _, _, e, _ => by simp at e
  | _ :: _, [], _, _, _, _, e => by simp at e
  | n :: ns, u :: us, 0, m₀, hn, e1, e2 => by
    simp at e1 e2
    subst e1 e2
    rw [List.zip_cons_cons]
    unfold bindL
    rw [bindL_off (List.nodup_cons.mp hn).1, if_pos hk]
    simp
  | n :: ns, u :: us, i + 1, m₀, hn, e1, e2 => by
    rw [List.zip_cons_cons]
    unfold bindL
    exact bindL_at hk (List.nodup_cons.mp hn).2 (by simpa using e1) (by simpa using e2)
theorem bindC_at {k : Str → Option NameKind} {x : Str} {v : Value} (hk : k x ≠ some .local) : ∀ {names : List Str} {vals : List Value} {i : Nat} {m₀ : Str → Option Value}, names.Nodup → names[i]? = some x → vals[i]? = some v → bindC k (names.zip vals) m₀ x = some v
  | [], _, _, _, _, e, _ => by simp at e
  | _ :: _, [], _, _, _, _, e => by simp at e
  | n :: ns, u :: us, 0, m₀, hn, e1, e2 => by
    simp at e1 e2
    subst e1 e2
    rw [List.zip_cons_cons]
    unfold bindC
    rw [bindC_off (List.nodup_cons.mp hn).1, if_neg hk]
    simp
  | n :: ns, u :: us, i + 1, m₀, hn, e1, e2 => by
    rw [List.zip_cons_cons]
    unfold bindC
    exact bindC_at hk (List.nodup_cons.mp hn).2 (by simpa using e1) (by simpa using e2)
theorem cells_get {cm : Str → Option Value} {x : Str} {a : Addr} : ∀ {cs : List (Str × Addr)} {cells : List (Addr × Obj)}, CellsAre cm cs cells → cs.lookup x = some a → ∃ o, (a, o) ∈ cells ∧ o.data = .cell (cm x)
  | _, _, .nil, h => by cases h
  | _, _, .cons (n := n) (c := b) (o := o) hd X, h => by
    rw [List.lookup_cons] at h
    by_cases e : x = n
    · subst e
      simp at h
      subst h
      exact ⟨o, .head _, hd⟩
    · have hb : (x == n) = false := by simpa using e
      rw [hb] at h
      obtain ⟨o', h1, h2⟩ := cells_get X h
      exact ⟨o', .tail _ h1, h2⟩
theorem cells_addrs {cm : Str → Option Value} : ∀ {cs : List (Str × Addr)} {cells : List (Addr × Obj)}, CellsAre cm cs cells → cells.map (·.1) = cs.map (·.2)
  | _, _, .nil => rfl
  | _, _, .cons hd X => by simp only [List.map_cons, cells_addrs X]
noncomputable def start (nm : List Str) (args : List MV) : ML := args.map some ++ List.replicate (nm.length - args.length) none
noncomputable def fnb (scope : Scope) (names nm : List Str) : Bool :=
  names == nm.take names.length && decide nm.Nodup && names.all (fun x => stb scope x) && !scope.isCoroutine && !scope.isGenerator && scope.kind == .function &&
    decide (((cellsFrom 0 scope.names []).map (·.1)).Nodup) && scope.names.all (fun p => p.2 != .free)
theorem nofree {x : Str} : ∀ {l : List (Str × NameKind)}, l.all (fun p => p.2 != .free) = true → l.lookup x ≠ some .free
  | [], _, h => by cases h
  | (y, k) :: r, h, e => by
    simp only [List.all_cons, Bool.and_eq_true] at h
    rw [List.lookup_cons] at e
    by_cases q : x = y
    · subst q
      simp at e
      rw [e] at h
      exact absurd h.1 (by decide)
    · have hb : (x == y) = false := by simpa using q
      rw [hb] at e
      exact nofree h.2 e
theorem CL.body {G : Gx} {prog : Program} {w : World} {d : Nat} {f : Addr} {args : List MV} {H : MH} {post : MV → MH → Prop} {xp : Addr → List MV → MH → Prop}
    {name qual : Str} {params : Arguments} {body : List Stmt} {scope : Scope} {dV kV doc pm cdv ct oc : Value} {an od : Option Addr} {osl : Array (Option Value)} {names nm : List Str} {dm : List MV} {dv : List Value}
    (hf : G.K.lookup f = some ⟨oc, od, .func (fnOf name qual params body scope dV kV doc pm an cdv ct), osl⟩) (hcd : codeIn G.K cdv qual = true)
    (hb : ∀ (s : Shared) (vs : List Value), G.K.In s.heap → vs.length = args.length → BindsTo s (fnOf name qual params body scope dV kV doc pm an cdv ct) ⟨vs, []⟩ (names.zip (vs ++ dv)))
    (hdm : VRs [] dm dv) (hl : (args ++ dm).length = names.length) (hfn : fnb scope names nm = true)
    (h : ∀ c : Cx, c.prog = prog → c.w = w → Ok G c d → c.fm = none → c.nm = nm → c.sc = scope → c.X = (fun C as _ H => xp C as H) → EX c (start nm (args ++ dm)) body H (fun fl _ H' => post (retv fl) H')) :
    CL G prog w (d + 1) f args H post xp := by
  intro c mr ρ s Q E vs ep ew ok S hvs k kx
  subst ep ew
  unfold fnb at hfn
  simp only [Bool.and_eq_true, beq_iff_eq, decide_eq_true_eq, Bool.not_eq_true', List.all_eq_true] at hfn
  obtain ⟨⟨⟨⟨⟨⟨⟨hn1, hn2⟩, hn3⟩, hco⟩, hgen⟩, hk⟩, hnd⟩, hnf⟩ := hfn
  have hnf' : scope.names.all (fun p => p.2 != .free) = true := List.all_eq_true.mpr hnf
  obtain ⟨ml, fr, ex, own, u, F, os, a1, a2, a3, N, a5⟩ := id S
  obtain ⟨env₀, outer, hA, hfr, hkf, Fs, _⟩ := ok.frames
  have X := ok.kin.keeps F.keep
  have hnn : names.Nodup := by rw [hn1]; exact (List.take_sublist _ _).nodup hn2
  have hvd : VRs ρ (args ++ dm) (vs ++ dv) := hvs.append (by simpa using hdm.mono (t := ρ))
  have hlen : (vs ++ dv).length = names.length := by rw [hvd.length, hl]
  have hmemn : ∀ x ∈ names.zip (vs ++ dv), scope.names.lookup x.1 = some .local ∨ scope.names.lookup x.1 = some .cell := fun x hx => by
    have := hn3 x.1 (List.of_mem_zip (show (x.1, x.2) ∈ _ from hx)).1
    unfold stb at this
    simpa using this
  refine codeAny_call_function (by have := ok.dep; omega) (X _ _ hf) rfl hco hgen rfl (codeRec_of X hcd) (hb s vs X hvs.length _ _ _ _ ?_)
  refine wpAny_newFunctionEnv_cells hk (fun x hx => (hmemn x hx).imp id fun q => ⟨q, cellsFrom_some _ _ _ (.inl q)⟩) fun env' he s' x => ?_
  subst he
  refine ⟨(ok.top.nolimit.keeps F.keep).keeps x.toInCall.keep, codeAny_func ?_⟩
  obtain ⟨h₁, tk, rfl, hk₁⟩ := x.done
  obtain ⟨cells, NC, Y⟩ := Cl.news (h₀ := s.heap) (Nat.le_refl _) fun n c hm => ⟨x.cell n c (lookup_of_mem_nodup (cellsFrom_names scope.names 0 (s.heap.objs.size + 1) [] [] rfl ▸ hnd) hm), x.above n c hm⟩
  obtain ⟨oL, es, eP, hL, hLd, hLk, hLf⟩ := F.ns
  have hLt := Heap.lt_size hL
  let env' : Env := envOfC qual scope s.heap.objs.size f cdv
  let mr' : Str → Option Value := fun y => if env'.kindOf y = some .local then bindL env'.kindOf (names.zip (vs ++ dv)) (fun _ => none) y else bindC env'.kindOf (names.zip (vs ++ dv)) (fun _ => none) y
  let c' : Cx := { prog := c.prog, w := c.w, A := c.A.deeper env', env := env', h₀ := c.h₀, L := s.heap.objs.size, fm := none, fr := (c.L, oL) :: fr, xt := c.xt ++ ex, X := fun C as _ H => xp C as H, nm := nm, sc := scope }
  have O : Over c c' mr ml fr ex oL := ⟨rfl, rfl, rfl, rfl, rfl, u, own, fun h' sl e => ⟨_, es, eP, e, hLd, hLk, hLf⟩, F.above⟩
  have ok' : Ok G c' d := by
    refine ⟨⟨env', env₀ :: outer, Around.frames_deeper hA, rfl, hk, ⟨by rw [hkf]; decide, hfr, ⟨es, eP, hLd⟩, Fs.up u⟩, fun _ => rfl⟩, ok.kin, ok.top, ok.hh, ?_, ?_, hk, rfl, rfl, fun _ => x.apart, fun _ => rfl, fun _ => rfl, ok.ex⟩
    · have := ok.dep
      show c.A.depth + 1 + d < recursionLimit
      omega
    · have := ok.uni
      show c.A.units + 3 + 8 * d + 64 < cLine
      omega
  have hall : ∀ p ∈ (fr ++ (c.xt ++ ex)) ++ ρ.zip os, h₁.get? p.1 = some p.2 ∧ p.1 ≠ s.heap.objs.size ∧ c.h₀.get? p.1 = none := fun p hp => ⟨hk₁ _ _ (N p hp).1, Nat.ne_of_lt (Heap.lt_size (N p hp).1), (N p hp).2.2⟩
  have S' : St c' mr' ρ H h₁ := by
    refine ⟨bindL env'.kindOf (names.zip (vs ++ dv)) (fun _ => none), (c.L, oL) :: fr, cells, ?_, TI.SameUp.refl _, ⟨x.toInCall.ns, fun b o e => hk₁ b o (F.keep b o e), Nat.le_trans F.above (Nat.le_of_lt hLt)⟩, os, a1, a2, a3, ?_, ?_⟩
    · refine ⟨rfl, fun y hy => ?_, fun y hy => ?_⟩
      · show _ = if env'.kindOf y = some .local then _ else _
        rw [if_pos hy]
      · rcases hy with hy | hy
        · have hs : ((cellsFrom (s.heap.objs.size + 1) scope.names []).lookup y).isSome = true := cellsFrom_some _ _ _ (.inl hy)
          obtain ⟨a, ha⟩ := Option.isSome_iff_exists.mp hs
          obtain ⟨o, h1, h2⟩ := cells_get Y ha
          refine ⟨a, o, ha, h1, h2.trans ?_⟩
          have hnl : ¬ env'.kindOf y = some .local := by
            intro q
            have q' : env'.kindOf y = some .cell := hy
            rw [q] at q'
            cases q'
          show _ = Data.cell (if env'.kindOf y = some .local then _ else _)
          rw [if_neg hnl]
          rfl
        · exact absurd hy (nofree hnf')
    · intro p hp
      replace hp : p ∈ (((c.L, oL) :: fr) ++ ((c.xt ++ ex) ++ cells)) ++ ρ.zip os := hp
      simp only [List.cons_append, List.append_assoc, List.mem_cons, List.mem_append] at hp
      rcases hp with rfl | hp | hp | hp | hp | hp
      · exact ⟨hk₁ _ _ hL, Nat.ne_of_lt hLt, Heap.get?_none_of_le F.above⟩
      · exact hall p (by simp [hp])
      · exact hall p (by simp [hp])
      · exact hall p (by simp [hp])
      · exact ⟨(NC p hp).1, (NC p hp).2.1, TI.none_of F.keep (NC p hp).2.2⟩
      · exact hall p (by simp [hp])
    · have hLn : c.L ∉ (fr ++ (c.xt ++ ex)).map (·.1) ++ ρ := fun q => by
        obtain ⟨p, hp, e⟩ := led_addr (os := os) a1 a2 q
        exact (N p hp).2.1 e
      have hcn : ∀ a ∈ cells.map (·.1), s.heap.get? a = none := fun a ha => by
        obtain ⟨p, hp, rfl⟩ := List.mem_map.mp ha
        exact (NC p hp).2.2
      have hcnd : (cells.map (·.1)).Nodup := by
        rw [cells_addrs Y]
        exact List.pairwise_map.mpr x.apart
      have hp : ((((c.L, oL) :: fr) ++ ((c.xt ++ ex) ++ cells)).map (·.1) ++ ρ).Perm (cells.map (·.1) ++ (c.L :: ((fr ++ (c.xt ++ ex)).map (·.1) ++ ρ))) := by
        simp only [List.map_append, List.map_cons, List.cons_append, List.append_assoc]
        have : ∀ (A B C R : List Addr), (A ++ (B ++ (C ++ R))).Perm (C ++ (A ++ (B ++ R))) := by
          intro A B C R
          have h1 : ((A ++ B) ++ C ++ R).Perm (C ++ (A ++ B) ++ R) := List.perm_append_comm.append_right R
          simpa [List.append_assoc] using h1
        have h2 := this (c.L :: fr.map (·.1)) (c.xt.map (·.1) ++ ex.map (·.1)) (cells.map (·.1)) ρ
        simpa [List.append_assoc] using h2
      rw [hp.nodup_iff, List.nodup_append]
      refine ⟨hcnd, List.nodup_cons.mpr ⟨hLn, a5⟩, fun a ha b hb e => ?_⟩
      subst e
      have h0 := hcn a ha
      rcases List.mem_cons.mp hb with q | q
      · rw [q, hL] at h0; cases h0
      · obtain ⟨p, hp, e⟩ := led_addr (os := os) a1 a2 q
        have := (N p hp).1
        rw [e, h0] at this
        cases this
  have l' : LR mr' nm ρ (start nm (args ++ dm)) := by
    have hle : names.length ≤ nm.length := by
      have := congrArg List.length hn1
      rw [List.length_take] at this
      omega
    refine ⟨by unfold start; rw [List.length_append, List.length_map, List.length_replicate]; omega, fun i y v e1 e2 => ?_⟩
    unfold start at e2
    by_cases hi : i < (args ++ dm).length
    · rw [List.getElem?_append_left (by rw [List.length_map]; exact hi), List.getElem?_map] at e2
      cases q : (args ++ dm)[i]? with
      | none => rw [q] at e2; cases e2
      | some v' =>
        rw [q] at e2
        cases e2
        obtain ⟨vr, g1, g2⟩ := hvd.get q
        have hy : names[i]? = some y := by
          rw [hn1, List.getElem?_take_of_lt (by rw [← hl]; exact hi)]
          exact slot_get e1
        refine ⟨vr, g2, ?_⟩
        show (if env'.kindOf y = some .local then _ else _) = _
        split
        · rename_i q; exact bindL_at q hnn hy g1
        · rename_i q; exact bindC_at q hnn hy g1
    · rw [List.getElem?_append_right (by rw [List.length_map]; omega), List.getElem?_replicate] at e2
      split at e2 <;> cases e2
  refine h c' rfl rfl ok' rfl rfl rfl rfl mr' ρ { s with heap := h₁, toks := tk } _ _ S' l' ?_ ?_
  · intro t fl fr' m' mr'' H' h' tk' hp hfl S2 _
    have S3 : St c mr (ρ ++ t) H' h' := O.back S2 fun b o _ q => q
    cases fl with
    | ret v =>
      obtain ⟨vr, rfl, hv⟩ := hfl
      exact k t v vr H' h' tk' hp hv S3
    | next => subst hfl; exact k t .none .none H' h' tk' hp rfl S3
    | brk => subst hfl; exact k t .none .none H' h' tk' hp rfl S3
    | cont => subst hfl; exact k t .none .none H' h' tk' hp rfl S3
  · intro t C as e m' mr'' H' h' tk' hX hF hL'
    refine Fly.leave (c := c') (s := { s with heap := h', toks := tk' }) ok' rfl rfl hF fun h2 f2 => ?_
    exact kx t C as e H' h2 tk' hX (O.fly f2)
mutual
inductive CE where
  | int (i : Int)
  | str (x : Str)
  | none
  | bool (b : Bool)
  | loc (i : Nat)
  | glob (x : Str)
  | bin (op : Operator) (a b : CE)
  | neg (a : CE)
  | tst (t : CT)
  | ite (t : CT) (a b : CE)
  | call (g : Str) (as : CEs)
  | meth (o : CE) (n : Str) (as : CEs)
  | attr (o : CE) (n : Str)
  | sub (o i : CE)
  | slice (o : CE) (lo hi : CO)
  | list (as : CEs)
  | tup (as : CEs)
  | dict0
  | comp (elt : CE) (tg : List Str) (it : CE) (cs : CTs)
inductive CEs where
  | nil
  | cons (e : CE) (r : CEs)
inductive CO where
  | none
  | some (e : CE)
inductive CT where
  | cmp (op : CmpOp) (a b : CE)
  | cmp2 (a : CE) (o1 : CmpOp) (b : CE) (o2 : CmpOp) (c : CE)
  | not (t : CT)
  | and (ts : CTs)
  | or (ts : CTs)
  | plain (e : CE)
inductive CTs where
  | nil
  | cons (t : CT) (r : CTs)
end
mutual
inductive CS where
  | assign (i : Nat) (e : CE)
  | assignT (is : List Nat) (e : CE)
  | setItem (o i e : CE)
  | setAttr (o : CE) (n : Str) (e : CE)
  | swap (o1 i1 o2 i2 e1 e2 : CE)
  | expr (e : CE)
  | ite (t : CT) (a b : CSs)
  | while (t : CT) (b : CSs)
  | for (tg : List Nat) (it : CE) (b : CSs)
  | ret (e : CE)
  | ret0
  | raise (g : Str) (as : CEs)
  | raiseFrom (g : Str) (as : CEs) (c : CE)
  | try (b : CSs) (h : CHs)
  | brk
  | cont
  | pass
inductive CSs where
  | nil
  | cons (s : CS) (r : CSs)
inductive CHs where
  | nil
  | cons (g : Str) (x : Option Nat) (b : CSs) (r : CHs)
end
noncomputable def kids : PySem.Expr → List PySem.Expr
  | .BinOp l _ r _ => [l, r]
  | .UnaryOp _ x _ => [x]
  | .IfExp a b c _ => [a, b, c]
  | .Compare l _ rs _ => l :: rs
  | .Call f as _ _ => f :: as
  | .Attribute o _ _ => [o]
  | .Subscript o i _ => [o, i]
  | .List es _ => es
  | .Tuple es _ _ => es
  | .BoolOp _ es _ => es
  | .ListComp el [⟨t, i, ifs, _⟩] _ _ => el :: t :: i :: ifs
  | .Slice l h _ _ => l.toList ++ h.toList
  | _ => []
noncomputable def numOf : PySem.Expr → Nat
  | .Constant _ k _ => k
  | .Tuple _ k _ => k
  | _ => 0
noncomputable def scOf : PySem.Expr → Scope
  | .ListComp _ _ s _ => s
  | _ => default
noncomputable def kid (i : Nat) (e : PySem.Expr) : PySem.Expr := (kids e).getD i e
noncomputable def nth (i : Nat) (es : List PySem.Expr) : PySem.Expr := es.getD i (.Name "" default)
noncomputable def reNames (ns : List Str) (es : List PySem.Expr) : List PySem.Expr := match ns with
  | [] => []
  | x :: r => .Name x (nth 0 es).pos :: reNames r es.tail
noncomputable def reTg (ns : List Str) (e : PySem.Expr) : PySem.Expr := match ns with
  | [x] => .Name x e.pos
  | ns => .Tuple (reNames ns (kids e)) (numOf e) e.pos
mutual
noncomputable def reE : CE → List Str → PySem.Expr → PySem.Expr
  | .int i => fun _ e => .Constant (.int i) (numOf e) e.pos
  | .str x => fun _ e => .Constant (.str x) (numOf e) e.pos
  | .none => fun _ e => .Constant .none (numOf e) e.pos
  | .bool b => fun _ e => .Constant (.bool b) (numOf e) e.pos
  | .loc i => fun nm e => .Name (nm.getD i "") e.pos
  | .glob x => fun _ e => .Name x e.pos
  | .bin op a b => fun nm e => .BinOp (reE a nm (kid 0 e)) op (reE b nm (kid 1 e)) e.pos
  | .neg a => fun nm e => .UnaryOp .USub (reE a nm (kid 0 e)) e.pos
  | .tst t => fun nm e => reT t nm e
  | .ite t a b => fun nm e => .IfExp (reT t nm (kid 0 e)) (reE a nm (kid 1 e)) (reE b nm (kid 2 e)) e.pos
  | .call g as => fun nm e => .Call (.Name g (kid 0 e).pos) (reEs as nm (kids e).tail) [] e.pos
  | .meth o n as => fun nm e => .Call (.Attribute (reE o nm (kid 0 (kid 0 e))) n (kid 0 e).pos) (reEs as nm (kids e).tail) [] e.pos
  | .attr o n => fun nm e => .Attribute (reE o nm (kid 0 e)) n e.pos
  | .sub o i => fun nm e => .Subscript (reE o nm (kid 0 e)) (reE i nm (kid 1 e)) e.pos
  | .slice o lo hi => fun nm e => .Subscript (reE o nm (kid 0 e)) (.Slice (reO lo nm (nth 0 (kids (kid 1 e)))) (reO hi nm (nth 0 (kids (kid 1 e)).reverse)) Option.none (kid 1 e).pos) e.pos
  | .list as => fun nm e => .List (reEs as nm (kids e)) e.pos
  | .tup as => fun nm e => .Tuple (reEs as nm (kids e)) (numOf e) e.pos
  | .dict0 => fun _ e => .Dict [] [] e.pos
  | .comp elt tg it cs => fun nm e => .ListComp (reE elt (nm ++ tg) (kid 0 e)) [⟨reTg tg (kid 1 e), reE it nm (kid 2 e), reTs cs (nm ++ tg) ((kids e).drop 3), 0⟩] (scOf e) e.pos
noncomputable def reEs : CEs → List Str → List PySem.Expr → List PySem.Expr
  | .nil => fun _ _ => []
  | .cons a r => fun nm es => reE a nm (nth 0 es) :: reEs r nm es.tail
noncomputable def reO : CO → List Str → PySem.Expr → Option PySem.Expr
  | .none => fun _ _ => Option.none
  | .some a => fun nm e => Option.some (reE a nm e)
noncomputable def reT : CT → List Str → PySem.Expr → PySem.Expr
  | .cmp op a b => fun nm e => .Compare (reE a nm (kid 0 e)) [op] [reE b nm (kid 1 e)] e.pos
  | .cmp2 a o1 b o2 c => fun nm e => .Compare (reE a nm (kid 0 e)) [o1, o2] [reE b nm (kid 1 e), reE c nm (kid 2 e)] e.pos
  | .not t => fun nm e => .UnaryOp .Not (reT t nm (kid 0 e)) e.pos
  | .and ts => fun nm e => .BoolOp .And (reTs ts nm (kids e)) e.pos
  | .or ts => fun nm e => .BoolOp .Or (reTs ts nm (kids e)) e.pos
  | .plain a => fun nm e => reE a nm e
noncomputable def reTs : CTs → List Str → List PySem.Expr → List PySem.Expr
  | .nil => fun _ _ => []
  | .cons t r => fun nm es => reT t nm (nth 0 es) :: reTs r nm es.tail
end
noncomputable def notSup : PySem.Expr → Bool
  | .Call (.Name _ _) [] [] _ => false
  | _ => true
noncomputable def notSlice : PySem.Expr → Bool
  | .Slice .. => false
  | _ => true
noncomputable def notStar : PySem.Expr → Bool
  | .Starred .. => false
  | _ => true
noncomputable def notComp : PySem.Expr → Bool
  | .ListComp .. => false
  | .SetComp .. => false
  | .DictComp .. => false
  | _ => true
noncomputable def notTuple : PySem.Expr → Bool
  | .Tuple .. => false
  | _ => true
noncomputable def plainX : PySem.Expr → Bool
  | .UnaryOp .Not _ _ => false
  | .BoolOp .. => false
  | .IfExp .. => false
  | .Compare .. => false
  | _ => true
noncomputable def nonPlain : CT → Bool
  | .plain _ => false
  | _ => true
noncomputable def plainC : CE → Bool
  | .tst _ => false
  | .ite .. => false
  | _ => true
noncomputable def nsup : CE → Bool
  | .call _ .nil => false
  | _ => true
noncomputable def okNames (p : Str → Bool) : List Str → Bool
  | [] => true
  | x :: r => p x && !r.contains x && okNames p r
noncomputable def tgk (scope : Scope) (x : Str) : Bool := scope.names.lookup x == some .local || scope.names.lookup x == some .cell
noncomputable def compb (sc scope : Scope) (tg : List Str) : Bool :=
  scope.kind == .function && scope.names.all fun p => match p.2 with
    | .local => (p.1 == (".0" : Str) || tg.contains p.1) && scope.names.lookup p.1 == some .local
    | .cell => tg.contains p.1 && scope.names.lookup p.1 == some .cell
    | .free => kcl (sc.names.lookup p.1) == 2 && !tg.contains p.1
    | .globalImplicit => true
    | _ => false
noncomputable def lenEs : CEs → Nat
  | .nil => 0
  | .cons _ r => lenEs r + 1
noncomputable def okSlot (nm : List Str) (i : Nat) : Bool := slot nm (nm.getD i "") == some i
mutual
noncomputable def wfE : CE → List Str → Scope → PySem.Expr → Bool
  | .int _ => fun _ _ _ => true
  | .str _ => fun _ _ _ => true
  | .none => fun _ _ _ => true
  | .bool _ => fun _ _ _ => true
  | .loc i => fun nm sc _ => okSlot nm i && rdb sc (nm.getD i "")
  | .glob x => fun _ sc _ => glb sc x
  | .bin _ a b => fun nm sc e => wfE a nm sc (kid 0 e) && wfE b nm sc (kid 1 e)
  | .neg a => fun nm sc e => wfE a nm sc (kid 0 e)
  | .tst t => fun nm sc e => nonPlain t && wfT t nm sc e
  | .ite t a b => fun nm sc e => wfT t nm sc (kid 0 e) && wfE a nm sc (kid 1 e) && wfE b nm sc (kid 2 e)
  | .call g as => fun nm sc e => glb sc g && wfEs as nm sc (kids e).tail
  | .meth o _ as => fun nm sc e => nsup o && (kid 0 e).pos.endLine == e.pos.line && lenEs as < 30 && wfE o nm sc (kid 0 (kid 0 e)) && wfEs as nm sc (kids e).tail
  | .attr o _ => fun nm sc e => nsup o && wfE o nm sc (kid 0 e)
  | .sub o i => fun nm sc e => wfE o nm sc (kid 0 e) && wfE i nm sc (kid 1 e)
  | .slice o lo hi => fun nm sc e => wfE o nm sc (kid 0 e) && wfO lo nm sc (nth 0 (kids (kid 1 e))) && wfO hi nm sc (nth 0 (kids (kid 1 e)).reverse)
  | .list as => fun nm sc e => wfEs as nm sc (kids e)
  | .tup as => fun nm sc e => wfEs as nm sc (kids e)
  | .dict0 => fun _ _ _ => true
  | .comp elt tg it cs => fun nm sc e => !nm.contains (".0" : Str) && !tg.isEmpty && okNames (tgk (scOf e)) tg && compb sc (scOf e) tg && wfE it nm sc (kid 2 e) && wfTs cs (nm ++ tg) (scOf e) ((kids e).drop 3) && wfE elt (nm ++ tg) (scOf e) (kid 0 e)
noncomputable def wfEs : CEs → List Str → Scope → List PySem.Expr → Bool
  | .nil => fun _ _ _ => true
  | .cons a r => fun nm sc es => wfE a nm sc (nth 0 es) && wfEs r nm sc es.tail
noncomputable def wfO : CO → List Str → Scope → PySem.Expr → Bool
  | .none => fun _ _ _ => true
  | .some a => fun nm sc e => wfE a nm sc e
noncomputable def wfT : CT → List Str → Scope → PySem.Expr → Bool
  | .cmp _ a b => fun nm sc e => wfE a nm sc (kid 0 e) && wfE b nm sc (kid 1 e)
  | .cmp2 a _ b _ c => fun nm sc e => wfE a nm sc (kid 0 e) && wfE b nm sc (kid 1 e) && wfE c nm sc (kid 2 e)
  | .not t => fun nm sc e => wfT t nm sc (kid 0 e)
  | .and ts => fun nm sc e => wfTs ts nm sc (kids e)
  | .or ts => fun nm sc e => wfTs ts nm sc (kids e)
  | .plain a => fun nm sc e => plainC a && wfE a nm sc e
noncomputable def wfTs : CTs → List Str → Scope → List PySem.Expr → Bool
  | .nil => fun _ _ _ => true
  | .cons t r => fun nm sc es => wfT t nm sc (nth 0 es) && wfTs r nm sc es.tail
end
noncomputable def exps : Stmt → List PySem.Expr
  | .Assign ts v _ => v :: ts
  | .Expr v _ => [v]
  | .If t _ _ _ => [t]
  | .While t _ _ _ => [t]
  | .For t i _ _ _ => [t, i]
  | .Return v _ => v.toList
  | .Raise x c _ => x.toList ++ c.toList
  | _ => []
noncomputable def bl0 : Stmt → List Stmt
  | .If _ b _ _ => b
  | .While _ b _ _ => b
  | .For _ _ b _ _ => b
  | .Try b _ _ _ _ => b
  | _ => []
noncomputable def bl1 : Stmt → List Stmt
  | .If _ _ b _ => b
  | _ => []
noncomputable def hsOf : Stmt → List ExceptHandler
  | .Try _ h _ _ _ => h
  | _ => []
noncomputable def ex (i : Nat) (st : Stmt) : PySem.Expr := nth i (exps st)
noncomputable def hBody : ExceptHandler → List Stmt
  | .ExceptHandler _ _ b _ => b
noncomputable def hPos : ExceptHandler → Pos
  | .ExceptHandler _ _ _ p => p
noncomputable def hTy : ExceptHandler → Pos
  | .ExceptHandler (some t) _ _ _ => t.pos
  | .ExceptHandler none _ _ p => p
noncomputable def nthS (ss : List Stmt) : Stmt := ss.headD (.Pass default)
noncomputable def nthH (hs : List ExceptHandler) : ExceptHandler := hs.headD (.ExceptHandler none none [] default)
noncomputable def atNm (nm : List Str) (is : List Nat) : List Str := is.map fun i => nm.getD i ""
mutual
noncomputable def reS : CS → List Str → Stmt → Stmt
  | .assign i a => fun nm st => .Assign [.Name (nm.getD i "") (ex 1 st).pos] (reE a nm (ex 0 st)) st.pos
  | .assignT is a => fun nm st => .Assign [.Tuple (reNames (atNm nm is) (kids (ex 1 st))) (numOf (ex 1 st)) (ex 1 st).pos] (reE a nm (ex 0 st)) st.pos
  | .setItem o i a => fun nm st => .Assign [.Subscript (reE o nm (kid 0 (ex 1 st))) (reE i nm (kid 1 (ex 1 st))) (ex 1 st).pos] (reE a nm (ex 0 st)) st.pos
  | .setAttr o n a => fun nm st => .Assign [.Attribute (reE o nm (kid 0 (ex 1 st))) n (ex 1 st).pos] (reE a nm (ex 0 st)) st.pos
  | .swap o1 i1 o2 i2 a1 a2 => fun nm st => .Assign [.Tuple [.Subscript (reE o1 nm (kid 0 (kid 0 (ex 1 st)))) (reE i1 nm (kid 1 (kid 0 (ex 1 st)))) (kid 0 (ex 1 st)).pos, .Subscript (reE o2 nm (kid 0 (kid 1 (ex 1 st)))) (reE i2 nm (kid 1 (kid 1 (ex 1 st)))) (kid 1 (ex 1 st)).pos] (numOf (ex 1 st)) (ex 1 st).pos]
      (.Tuple [reE a1 nm (kid 0 (ex 0 st)), reE a2 nm (kid 1 (ex 0 st))] (numOf (ex 0 st)) (ex 0 st).pos) st.pos
  | .expr a => fun nm st => .Expr (reE a nm (ex 0 st)) st.pos
  | .ite t a b => fun nm st => .If (reT t nm (ex 0 st)) (reSs a nm (bl0 st)) (reSs b nm (bl1 st)) st.pos
  | .while t b => fun nm st => .While (reT t nm (ex 0 st)) (reSs b nm (bl0 st)) [] st.pos
  | .for is it b => fun nm st => .For (reTg (atNm nm is) (ex 0 st)) (reE it nm (ex 1 st)) (reSs b nm (bl0 st)) [] st.pos
  | .ret a => fun nm st => .Return (some (reE a nm (ex 0 st))) st.pos
  | .ret0 => fun _ st => .Return none st.pos
  | .raise g as => fun nm st => .Raise (some (.Call (.Name g (kid 0 (ex 0 st)).pos) (reEs as nm (kids (ex 0 st)).tail) [] (ex 0 st).pos)) none st.pos
  | .raiseFrom g as c => fun nm st => .Raise (some (.Call (.Name g (kid 0 (ex 0 st)).pos) (reEs as nm (kids (ex 0 st)).tail) [] (ex 0 st).pos)) (some (reE c nm (ex 1 st))) st.pos
  | .try b h => fun nm st => .Try (reSs b nm (bl0 st)) (reHs h nm (hsOf st)) [] [] st.pos
  | .brk => fun _ st => .Break st.pos
  | .cont => fun _ st => .Continue st.pos
  | .pass => fun _ st => .Pass st.pos
noncomputable def reSs : CSs → List Str → List Stmt → List Stmt
  | .nil => fun _ _ => []
  | .cons a r => fun nm ss => reS a nm (nthS ss) :: reSs r nm ss.tail
noncomputable def reHs : CHs → List Str → List ExceptHandler → List ExceptHandler
  | .nil => fun _ _ => []
  | .cons g x b r => fun nm hs => .ExceptHandler (some (.Name g (hTy (nthH hs)))) (x.map fun i => nm.getD i "") (reSs b nm (hBody (nthH hs))) (hPos (nthH hs)) :: reHs r nm hs.tail
end
noncomputable def isComp : CE → Bool
  | .comp .. => true
  | _ => false
noncomputable def isTup : CE → Bool
  | .tup .. => true
  | _ => false
noncomputable def notNilS : CSs → Bool
  | .nil => false
  | _ => true
mutual
noncomputable def wfS : CS → List Str → Scope → Stmt → Bool
  | .assign i a => fun nm sc st => okSlot nm i && stb sc (nm.getD i "") && wfE a nm sc (ex 0 st)
  | .assignT is a => fun nm sc st => is.all (fun i => okSlot nm i && stb sc (nm.getD i "")) && decide (1 < is.length) && !isTup a && !isComp a && wfE a nm sc (ex 0 st)
  | .setItem o i a => fun nm sc st => wfE o nm sc (kid 0 (ex 1 st)) && wfE i nm sc (kid 1 (ex 1 st)) && wfE a nm sc (ex 0 st)
  | .setAttr o _ a => fun nm sc st => wfE o nm sc (kid 0 (ex 1 st)) && wfE a nm sc (ex 0 st)
  | .swap o1 i1 o2 i2 a1 a2 => fun nm sc st => wfE o1 nm sc (kid 0 (kid 0 (ex 1 st))) && wfE i1 nm sc (kid 1 (kid 0 (ex 1 st))) && wfE o2 nm sc (kid 0 (kid 1 (ex 1 st))) && wfE i2 nm sc (kid 1 (kid 1 (ex 1 st))) && wfE a1 nm sc (kid 0 (ex 0 st)) && wfE a2 nm sc (kid 1 (ex 0 st))
  | .expr a => fun nm sc st => !isComp a && wfE a nm sc (ex 0 st)
  | .ite t a b => fun nm sc st => wfT t nm sc (ex 0 st) && wfSs a nm sc (bl0 st) && wfSs b nm sc (bl1 st)
  | .while t b => fun nm sc st => wfT t nm sc (ex 0 st) && wfSs b nm sc (bl0 st)
  | .for is it b => fun nm sc st => !is.isEmpty && is.all (fun i => okSlot nm i && stb sc (nm.getD i "")) && wfE it nm sc (ex 1 st) && wfSs b nm sc (bl0 st)
  | .ret a => fun nm sc st => wfE a nm sc (ex 0 st)
  | .ret0 => fun _ _ _ => true
  | .raise g as => fun nm sc st => glb sc g && wfEs as nm sc (kids (ex 0 st)).tail
  | .raiseFrom g as c => fun nm sc st => glb sc g && wfEs as nm sc (kids (ex 0 st)).tail && wfE c nm sc (ex 1 st)
  | .try b h => fun nm sc st => wfSs b nm sc (bl0 st) && wfHs h nm sc (hsOf st)
  | .brk => fun _ _ _ => true
  | .cont => fun _ _ _ => true
  | .pass => fun _ _ _ => true
noncomputable def wfSs : CSs → List Str → Scope → List Stmt → Bool
  | .nil => fun _ _ _ => true
  | .cons a r => fun nm sc ss => wfS a nm sc (nthS ss) && wfSs r nm sc ss.tail
noncomputable def wfHs : CHs → List Str → Scope → List ExceptHandler → Bool
  | .nil => fun _ _ _ => true
  | .cons g x b r => fun nm sc hs => glb sc g && notNilS b && (match x with
      | none => true
      | some i => okSlot nm i && sc.names.lookup (nm.getD i "") == some .local) && wfSs b nm sc (hBody (nthH hs)) && wfHs r nm sc hs.tail
end
noncomputable def AR (c : Cx) (m : ML) (es : List PySem.Expr) (pos : Pos) (H : MH) (post : List MV → MH → Prop) : Prop :=
  ∀ (mr : Str → Option Value) (ρ : List Addr) (s : Shared) (Q : List Value → Shared → Prop) (E : Value → Shared → Prop), St c mr ρ H s.heap → LR mr c.nm ρ m →
    (∀ t vs vrs H' h' tk, post vs H' → VRs (ρ ++ t) vs vrs → St c mr (ρ ++ t) H' h' → Q vrs { s with heap := h', toks := tk }) → Kx c ρ s E →
    wpAny (model c.prog c.w) c.A (spliced (backTo pos (starEach es c.env))) Q E s
noncomputable def IT (c : Cx) (m : ML) (e : PySem.Expr) (H : MH) (post : Bool → MH → Prop) : Prop :=
  ∀ (whole : Sem Value) (mr : Str → Option Value) (ρ : List Addr) (s : Shared) (Q : Bool → Shared → Prop) (E : Value → Shared → Prop), (plainX e = true → whole = eval e c.env) → St c mr ρ H s.heap → LR mr c.nm ρ m →
    (∀ t b H' h' tk, post b H' → St c mr (ρ ++ t) H' h' → Q b { s with heap := h', toks := tk }) → Kx c ρ s E →
    wpAny (model c.prog c.w) c.A (isTrue e c.env whole) Q E s
noncomputable def IB (c : Cx) (m : ML) (op : BoolOp) (es : List PySem.Expr) (H : MH) (post : Bool → MH → Prop) : Prop :=
  ∀ (mr : Str → Option Value) (ρ : List Addr) (s : Shared) (Q : Bool → Shared → Prop) (E : Value → Shared → Prop), St c mr ρ H s.heap → LR mr c.nm ρ m →
    (∀ t b H' h' tk, post b H' → St c mr (ρ ++ t) H' h' → Q b { s with heap := h', toks := tk }) → Kx c ρ s E →
    wpAny (model c.prog c.w) c.A (allTrue op es c.env) Q E s
noncomputable def X1 (c : Cx) (m : ML) (st : Stmt) (H : MH) (post : Fl → ML → MH → Prop) : Prop :=
  ∀ (mr : Str → Option Value) (ρ : List Addr) (s : Shared) (Q : Flow → Shared → Prop) (E : Value → Shared → Prop), St c mr ρ H s.heap → LR mr c.nm ρ m →
    (∀ t f fr m' mr' H' h' tk, post f m' H' → FlR (ρ ++ t) f fr → St c mr' (ρ ++ t) H' h' → LR mr' c.nm (ρ ++ t) m' → Q fr { s with heap := h', toks := tk }) → Kx c ρ s E →
    wpAny (model c.prog c.w) c.A (exec st c.env) Q E s
def TE (c : Cx) (m : ML) (a : CE) (H : MH) (post : MV → MH → Prop) : Prop := ∀ e, wfE a c.nm c.sc e = true → EV c m (reE a c.nm e) H post
def TEs (c : Cx) (m : ML) (as : CEs) (H : MH) (post : List MV → MH → Prop) : Prop := ∀ es pos, wfEs as c.nm c.sc es = true → AR c m (reEs as c.nm es) pos H post
def TT (c : Cx) (m : ML) (t : CT) (H : MH) (post : Bool → MH → Prop) : Prop := ∀ e, wfT t c.nm c.sc e = true → IT c m (reT t c.nm e) H post
def TTs (c : Cx) (m : ML) (op : BoolOp) (ts : CTs) (H : MH) (post : Bool → MH → Prop) : Prop := ∀ es, wfTs ts c.nm c.sc es = true → IB c m op (reTs ts c.nm es) H post
def TV (c : Cx) (m : ML) (t : CT) (H : MH) (post : MV → MH → Prop) : Prop := ∀ e, nonPlain t = true → wfT t c.nm c.sc e = true → EV c m (reT t c.nm e) H post
def TS (c : Cx) (m : ML) (a : CS) (H : MH) (post : Fl → ML → MH → Prop) : Prop := ∀ st, wfS a c.nm c.sc st = true → X1 c m (reS a c.nm st) H post
def TB (c : Cx) (m : ML) (b : CSs) (H : MH) (post : Fl → ML → MH → Prop) : Prop := ∀ ss, wfSs b c.nm c.sc ss = true → EX c m (reSs b c.nm ss) H post
section
variable {c : Cx} {m : ML} {H : MH} {G : Gx} {d : Nat}
theorem TE.mono {a : CE} {p q : MV → MH → Prop} (h : TE c m a H p) (hp : ∀ v H', p v H' → q v H') : TE c m a H q := fun e he => (h e he).mono hp
theorem TT.mono {t : CT} {p q : Bool → MH → Prop} (h : TT c m t H p) (hp : ∀ v H', p v H' → q v H') : TT c m t H q :=
  fun e he wh mr ρ s Q E hw S l k kx => h e he wh mr ρ s Q E hw S l (fun t v H' h' tk hv => k t v H' h' tk (hp _ _ hv)) kx
theorem TS.mono {a : CS} {p q : Fl → ML → MH → Prop} (h : TS c m a H p) (hp : ∀ f m' H', p f m' H' → q f m' H') : TS c m a H q :=
  fun st hs mr ρ s Q E S l k kx => h st hs mr ρ s Q E S l (fun t f fr m' mr' H' h' tk hv => k t f fr m' mr' H' h' tk (hp _ _ _ hv)) kx
theorem TB.mono {a : CSs} {p q : Fl → ML → MH → Prop} (h : TB c m a H p) (hp : ∀ f m' H', p f m' H' → q f m' H') : TB c m a H q :=
  fun st hs mr ρ s Q E S l k kx => h st hs mr ρ s Q E S l (fun t f fr m' mr' H' h' tk hv => k t f fr m' mr' H' h' tk (hp _ _ _ hv)) kx
theorem and2 {a b : Bool} (h : (a && b) = true) : a = true ∧ b = true := (Bool.and_eq_true a b).mp h
theorem and3 {a b c : Bool} (h : (a && b && c) = true) : a = true ∧ b = true ∧ c = true := ⟨(and2 (and2 h).1).1, (and2 (and2 h).1).2, (and2 h).2⟩
theorem TE.int {i : Int} {post : MV → MH → Prop} (h : post (.int i) H) : TE c m (.int i) H post := by
  intro e he mr ρ s Q E S l k kx
  exact wpAny_Constant_int (k [] (.int i) _ H s.heap _ h ⟨_, rfl⟩ (nil_of S))
theorem TE.str {x : Str} {post : MV → MH → Prop} (h : post (.str x) H) : TE c m (.str x) H post := by
  intro e he mr ρ s Q E S l k kx
  exact wpAny_Constant_str (k [] (.str x) _ H s.heap _ h ⟨_, rfl⟩ (nil_of S))
theorem TE.none {post : MV → MH → Prop} (h : post .none H) : TE c m .none H post := by
  intro e he mr ρ s Q E S l k kx
  exact wpAny_Constant_none (k [] .none _ H s.heap s.toks h rfl (nil_of S))
theorem TE.bool {b : Bool} {post : MV → MH → Prop} (h : post (.bool b) H) : TE c m (.bool b) H post := by
  intro e he mr ρ s Q E S l k kx
  exact wpAny_Constant_bool (k [] (.bool b) _ H s.heap s.toks h rfl (nil_of S))
theorem TE.loc (ok : Ok G c d) {i : Nat} {v : MV} {post : MV → MH → Prop} (hm : m[i]? = some (some v)) (h : post v H) : TE c m (.loc i) H post := by
  intro e he mr ρ s Q E S l k kx
  obtain ⟨h1, h2⟩ := and2 he
  obtain ⟨vr, h3, h4⟩ := l.2 _ _ _ (beq_iff_eq.mp h1) hm
  exact read ok S h2 h4 (k [] v vr H s.heap s.toks h (by rw [List.append_nil]; exact h3) (nil_of S))
theorem nameG (ok : Ok G c d) {mr : Str → Option Value} {ρ : List Addr} {s : Shared} {x : Str} {pos : Pos} {v : Value} {Q E} (S : St c mr ρ H s.heap) (hx : glb c.sc x = true) (hg : nsIn G.K mainGlobals x = some (some v)) (h : Q v s) :
    wpAny (model c.prog c.w) c.A (eval (.Name x pos) c.env) Q E s := by
  unfold glb at hx
  simp only [Bool.and_eq_true, beq_iff_eq, bne_iff_ne, ne_eq] at hx
  have hd' : (x == ("__debug__" : Str)) = false := by simpa using hx.1
  have hk := kcl3 ((ok.kd x).trans hx.2)
  exact Name_function_global ok.fn hk (loadGlobal_global (env := c.env) (by rw [ok.gl]; exact ok.top.g.keeps S.keep) (mg_of ok.kin ok.top.g hg) h) hd'
theorem nameB (ok : Ok G c d) {mr : Str → Option Value} {ρ : List Addr} {s : Shared} {x : Str} {pos : Pos} {v : Value} {Q E} (S : St c mr ρ H s.heap) (hx : glb c.sc x = true) (hg : nsIn G.K mainGlobals x = some Option.none)
    (hb : bootBuiltins x = some v) (hn : x ≠ "__name__") (h : Q v s) : wpAny (model c.prog c.w) c.A (eval (.Name x pos) c.env) Q E s := by
  unfold glb at hx
  simp only [Bool.and_eq_true, beq_iff_eq, bne_iff_ne, ne_eq] at hx
  have hd' : (x == ("__debug__" : Str)) = false := by simpa using hx.1
  have hk := kcl3 ((ok.kd x).trans hx.2)
  have T := topRead_of ok.top
  exact Name_function_global ok.fn hk (loadGlobal_builtin (env := c.env) (by rw [ok.gl]; exact T.g.keeps S.keep) (mg_none_of ok.kin T.g hg) (by rw [ok.bi]; exact T.b.keeps S.keep) ((T.builtins x hn).trans hb) h) hd'
theorem TE.glob (ok : Ok G c d) {x : Str} {v : MV} {vr : Value} {post : MV → MH → Prop} (hg : nsIn G.K mainGlobals x = some (some vr)) (hv : VR [] v vr) (h : post v H) : TE c m (.glob x) H post := by
  intro e he mr ρ s Q E S l k kx
  exact nameG ok S he hg (k [] v vr H s.heap s.toks h (by rw [List.append_nil]; have := hv.mono (t := ρ); rwa [List.nil_append] at this) (nil_of S))
theorem fm {a p : Int} (h : 0 < p) : a.fmod p = a % p := Int.fmod_eq_emod_of_nonneg _ (by omega)
inductive BinI : Operator → MV → MV → MV → Prop where
  | add {x y : Int} : BinI .Add (.int x) (.int y) (.int (x + y))
  | sub {x y : Int} : BinI .Sub (.int x) (.int y) (.int (x - y))
  | mul {x y : Int} (h : IntMulOk x y) : BinI .Mult (.int x) (.int y) (.int (x * y))
  | mod {x y : Int} (h : y ≠ 0) : BinI .Mod (.int x) (.int y) (.int (x.fmod y))
  | modP {x y : Int} (h : 0 < y) : BinI .Mod (.int x) (.int y) (.int (x % y))
  | div {x y : Int} (h : y ≠ 0) (h2 : y.natAbs < 1073741824) : BinI .FloorDiv (.int x) (.int y) (.int (x.fdiv y))
  | band {x y : Int} : BinI .BitAnd (.int x) (.int y) (.int (Builtin.bitAnd x y))
  | shr {x y : Int} (h : 0 ≤ y) : BinI .RShift (.int x) (.int y) (.int (x.fdiv (2 ^ y.toNat)))
  | pow {x y : Int} (h0 : 0 ≤ y) (h1 : y ≤ 1000000) (h2 : x.natAbs < 2 ^ 64) : BinI .Pow (.int x) (.int y) (.int (x ^ y.toNat))
  | shl {x y : Int} (h0 : 0 ≤ y) (h1 : y ≤ 1000000) (h2 : x.natAbs < 2 ^ 64) : BinI .LShift (.int x) (.int y) (.int (x * 2 ^ y.toNat))
  | smul {x : Str} {n : Int} (h : MulOk x n) : BinI .Mult (.str x) (.int n) (.str (Txt.mul x n))
  | cat {x y : Str} (h : x.length + y.length ≤ 1000000) : BinI .Add (.str x) (.str y) (.str (x ++ y))
theorem bin_ok {op : Operator} {a b v : MV} {x y : Value} {ρ : List Addr} {s : Shared} {Q E} (hh : c.A.handled = Option.none) (hb : BinI op a b v) (ha : VR ρ a x) (hy : VR ρ b y) (k : ∀ z tk, VR ρ v z → Q z { s with toks := tk }) :
    wpAny (model c.prog c.w) c.A (binaryOp op x y) Q E s := by
  cases hb <;> obtain ⟨t, rfl⟩ := ha <;> obtain ⟨u, rfl⟩ := hy
  case add => exact add_int (k _ _ ⟨_, rfl⟩)
  case sub => exact sub_int (k _ _ ⟨_, rfl⟩)
  case mul h => exact mul_int (k _ _ ⟨_, rfl⟩) h
  case mod h => exact mod_int' h (k _ _ ⟨_, rfl⟩)
  case modP h => exact mod_int' (Int.ne_of_gt h) (by rw [fm h]; exact k _ _ ⟨_, rfl⟩)
  case div h h2 => exact floordiv_int h (k _ _ ⟨_, rfl⟩) (.inl (PyProof.noPylong_small h2))
  case band => exact and_int (k _ _ ⟨_, rfl⟩)
  case shr h => exact rshift_int_or hh (fun hn => absurd hn (Int.not_lt.mpr h)) fun _ => k _ _ ⟨_, rfl⟩
  case pow h0 h1 h2 => exact pow_int_small h0 h1 h2 (k _ _ ⟨_, rfl⟩)
  case shl h0 h1 h2 => exact lshift_int_small h0 h1 h2 (k _ _ ⟨_, rfl⟩)
  case smul h => exact SB.mul h fun _ _ => k _ _ ⟨_, rfl⟩
  case cat h => exact add_str (fun _ _ => k _ _ ⟨_, rfl⟩) (Nat.le_trans h (by decide))
theorem TE.op (ok : Ok G c d) {op : Operator} {a b : CE} {post : MV → MH → Prop} (h : TE c m a H (fun x H1 => TE c m b H1 (fun y H2 => ∃ v, BinI op x y v ∧ post v H2))) : TE c m (.bin op a b) H post := by
  intro e he mr ρ s Q E S l k kx
  obtain ⟨h2, h3⟩ := and2 he
  refine wpAny_BinOp ?_
  refine h _ h2 mr ρ s _ E S l ?_ kx
  intro t x xr H1 hp1 tk1 hr hx S1
  refine hr _ h3 mr (ρ ++ t) _ _ E S1 l.mono ?_ kx.mono
  rintro t' y yr H2 hp2 tk2 ⟨v, hv, hp⟩ hy S2
  refine bin_ok ok.hh hv hx.mono hy ?_
  intro z tk hz
  rw [List.append_assoc] at hz S2
  exact k (t ++ t') v z H2 hp2 tk hp hz S2
inductive NegI : MV → MV → Prop where
  | mk {i : Int} : NegI (.int i) (.int (-i))
theorem TE.negI {a : CE} {post : MV → MH → Prop} (h : TE c m a H (fun x H1 => ∃ v, NegI x v ∧ post v H1)) : TE c m (.neg a) H post := by
  intro e he mr ρ s Q E S l k kx
  refine wpAny_UnaryOp ?_
  refine h _ he mr ρ s _ E S l ?_ kx
  rintro t a ar H1 h1 tk1 ⟨v, ⟨⟩, hp⟩ ⟨u, rfl⟩ S1
  exact neg_int (k t _ _ H1 h1 _ hp ⟨_, rfl⟩ S1)
end
noncomputable def Cq (c : Cx) (op : CmpOp) (H : MH) (a b : MV) (r : Bool) : Prop :=
  ∀ (mr : Str → Option Value) (ρ : List Addr) (s : Shared) (Q : Value → Shared → Prop) (E : Value → Shared → Prop) (va vb : Value), St c mr ρ H s.heap → VR ρ a va → VR ρ b vb →
    (∀ h' tk, St c mr ρ H h' → Q (.bool r) { s with heap := h', toks := tk }) → wpAny (model c.prog c.w) c.A (compareOp op va vb) Q E s
noncomputable def cmpN (op : CmpOp) (x y : Int) : Option Bool := match op with
  | .Lt => some (decide (x < y))
  | .LtE => some (decide (x ≤ y))
  | .Gt => some (decide (y < x))
  | .GtE => some (decide (y ≤ x))
  | .Eq => some (decide (x = y))
  | .NotEq => some (!decide (x = y))
  | _ => none
noncomputable def cmpQ (op : CmpOp) (e : Bool) : Option Bool := match op with
  | .Eq => some e
  | .NotEq => some (!e)
  | _ => none
noncomputable def cmpZ (op : CmpOp) (e : Bool) : Option Bool := match op with
  | .Is => some e
  | .IsNot => some (!e)
  | _ => none
noncomputable def cmpV (op : CmpOp) : MV → MV → Option Bool
  | .int x, .int y => cmpN op x y
  | .str x, .str y => cmpQ op (decide (x = y))
  | .bool x, .bool y => cmpQ op (x == y)
  | .none, .none => cmpZ op true
  | .ref _, .none => cmpZ op false
  | _, _ => none
noncomputable def Cmp (op : CmpOp) (a b : MV) (r : Bool) : Prop := match cmpV op a b with
  | some s => r = s
  | none => False
section
variable {c : Cx} {m : ML} {H : MH} {G : Gx} {d : Nat}
theorem cq_of {op : CmpOp} {a b : MV} {r : Bool} (h : Cmp op a b r) : Cq c op H a b r := by
  intro mr ρ s Q E va vb S ha hb k
  have k' := k s.heap s.toks S
  cases a with
  | int x =>
    cases b with
    | int y =>
      obtain ⟨t, rfl⟩ := ha
      obtain ⟨u, rfl⟩ := hb
      cases op with
      | Lt => have e : r = _ := h; subst e; exact lt_int k'
      | LtE => have e : r = _ := h; subst e; exact le_int k'
      | Gt => have e : r = _ := h; subst e; exact gt_int k'
      | GtE => have e : r = _ := h; subst e; exact ge_int k'
      | Eq => have e : r = _ := h; subst e; exact PyProof.Rows.eq_int (by rw [show (x == y) = decide (x = y) from rfl]; exact k')
      | NotEq => have e : r = _ := h; subst e; exact PyProof.Rows.ne_int (by rw [show (x != y) = !decide (x = y) from rfl]; exact k')
      | _ => exact False.elim h
    | _ => exact False.elim h
  | str x =>
    cases b with
    | str y =>
      obtain ⟨t, rfl⟩ := ha
      obtain ⟨u, rfl⟩ := hb
      cases op with
      | Eq => have e : r = _ := h; subst e; exact PyProof.Rows.eq_str (by rw [show (x == y) = decide (x = y) from rfl]; exact k')
      | NotEq => have e : r = _ := h; subst e; exact PyProof.Rows.ne_str (by rw [show (x != y) = !decide (x = y) from rfl]; exact k')
      | _ => exact False.elim h
    | _ => exact False.elim h
  | bool x =>
    cases b with
    | bool y =>
      cases ha
      cases hb
      cases op with
      | Eq => have e : r = _ := h; subst e; exact PyProof.Rows.eq_bool k'
      | NotEq => have e : r = _ := h; subst e; exact PyProof.Rows.ne_bool k'
      | _ => exact False.elim h
    | _ => exact False.elim h
  | none =>
    cases b with
    | none =>
      cases ha
      cases hb
      cases op with
      | Is => have e : r = _ := h; subst e; exact is_none_none k'
      | IsNot => have e : r = _ := h; subst e; exact isnot_none_none k'
      | _ => exact False.elim h
    | _ => exact False.elim h
  | ref i =>
    cases b with
    | none =>
      obtain ⟨x, _, rfl⟩ := ha
      cases hb
      cases op with
      | Is => have e : r = _ := h; subst e; exact is_none_ne (by intro q; cases q) k'
      | IsNot => have e : r = _ := h; subst e; exact isnot_none_ne (by intro q; cases q) k'
      | _ => exact False.elim h
    | _ => exact False.elim h
  | glob i => exact False.elim h
theorem re_marks {a : CE} {nm : List Str} {sc : Scope} {e : PySem.Expr} {op : CmpOp} (h : wfE a nm sc e = true) : behindInMarks op (reE a nm e) = false := by
  cases a with
  | tst t =>
    have h1 : (nonPlain t && wfT t nm sc e) = true := h
    have h2 := (and2 h1).1
    cases t <;> first | rfl | cases h2
  | _ => rfl
theorem TT.cq {op : CmpOp} {a b : CE} {post : Bool → MH → Prop} (h : TE c m a H (fun x H1 => TE c m b H1 (fun y H2 => ∃ r, Cq c op H2 x y r ∧ post r H2))) : TT c m (.cmp op a b) H post := by
  intro e he
  obtain ⟨h2, h3⟩ := and2 he
  intro wh mr ρ s Q E _ S l k kx
  refine wpAny_isTrue_Compare1 ?_ (re_marks h3)
  refine h _ h2 mr ρ s _ E S l ?_ kx
  intro t x xr H1 hp1 tk1 hr hx S1
  refine hr _ h3 mr (ρ ++ t) _ _ E S1 l.mono ?_ kx.mono
  rintro t' y yr H2 hp2 tk2 ⟨r, hq, hp⟩ hy S2
  refine hq mr _ _ _ E _ _ S2 hx.mono hy ?_
  intro h' tk S3
  refine wpAny_truthy_bool ?_
  rw [List.append_assoc] at S3
  exact k (t ++ t') r H2 h' tk hp S3
theorem TT.cmp {op : CmpOp} {a b : CE} {post : Bool → MH → Prop} (h : TE c m a H (fun x H1 => TE c m b H1 (fun y H2 => ∃ r, Cmp op x y r ∧ post r H2))) : TT c m (.cmp op a b) H post :=
  TT.cq (h.mono fun x H1 h1 => h1.mono fun y H2 ⟨r, hr, hp⟩ => ⟨r, cq_of hr, hp⟩)
theorem TV.cq {op : CmpOp} {a b : CE} {post : MV → MH → Prop} (h : TE c m a H (fun x H1 => TE c m b H1 (fun y H2 => ∃ r, Cq c op H2 x y r ∧ post (.bool r) H2))) : TV c m (.cmp op a b) H post := by
  intro e _ he
  obtain ⟨h2, h3⟩ := and2 he
  intro mr ρ s Q E S l k kx
  refine wpAny_Compare1 ?_ (re_marks h3)
  refine h _ h2 mr ρ s _ E S l ?_ kx
  intro t x xr H1 hp1 tk1 hr hx S1
  refine hr _ h3 mr (ρ ++ t) _ _ E S1 l.mono ?_ kx.mono
  rintro t' y yr H2 hp2 tk2 ⟨r, hq, hp⟩ hy S2
  refine hq mr _ _ _ E _ _ S2 hx.mono hy ?_
  intro h' tk S3
  rw [List.append_assoc] at S3
  exact k (t ++ t') (.bool r) _ H2 h' tk hp rfl S3
theorem TV.cmp {op : CmpOp} {a b : CE} {post : MV → MH → Prop} (h : TE c m a H (fun x H1 => TE c m b H1 (fun y H2 => ∃ r, Cmp op x y r ∧ post (.bool r) H2))) : TV c m (.cmp op a b) H post :=
  TV.cq (h.mono fun x H1 h1 => h1.mono fun y H2 ⟨r, hr, hp⟩ => ⟨r, cq_of hr, hp⟩)
theorem TE.tst {t : CT} {post : MV → MH → Prop} (h : TV c m t H post) : TE c m (.tst t) H post := by
  intro e he
  exact h e (and2 he).1 (and2 he).2
theorem TT.not {t : CT} {post : Bool → MH → Prop} (h : TT c m t H (fun b H1 => post (!b) H1)) : TT c m (.not t) H post := by
  intro e he
  intro wh mr ρ s Q E _ S l k kx
  refine isTrue_not ?_
  refine h _ he _ mr ρ s _ E (fun _ => rfl) S l ?_ kx
  intro t b H1 h1 tk1 hp S1
  exact k t (!b) H1 h1 tk1 hp S1
theorem TTs.andNil {post : Bool → MH → Prop} (h : post true H) : TTs c m .And .nil H post := by
  intro es he
  intro mr ρ s Q E S l k kx
  refine wpAny_pure ?_
  exact k [] true H s.heap s.toks h (nil_of S)
theorem TTs.orNil {post : Bool → MH → Prop} (h : post false H) : TTs c m .Or .nil H post := by
  intro es he
  intro mr ρ s Q E S l k kx
  refine wpAny_pure ?_
  exact k [] false H s.heap s.toks h (nil_of S)
theorem TTs.and {t : CT} {r : CTs} {post : Bool → MH → Prop} (h : TT c m t H (fun b H1 => (b = false → post false H1) ∧ (b = true → TTs c m .And r H1 post))) : TTs c m .And (.cons t r) H post := by
  intro es he
  have he := and2 he
  intro mr ρ s Q E S l k kx
  refine isTrue_and (whole := Sem.pure .none) (pos := ⟨0, 0, 0, 0⟩) ?_
  refine h _ he.1 _ mr ρ s _ E (fun _ => rfl) S l ?_ kx
  intro t b H1 h1 tk1 hp S1
  cases b with
  | false => exact k t false H1 h1 tk1 (hp.1 rfl) S1
  | true =>
    refine hp.2 rfl _ he.2 mr (ρ ++ t) _ _ E S1 l.mono ?_ kx.mono
    intro t' b H2 h2 tk2 hp2 S2
    rw [List.append_assoc] at S2
    exact k (t ++ t') b H2 h2 tk2 hp2 S2
theorem TTs.or {t : CT} {r : CTs} {post : Bool → MH → Prop} (h : TT c m t H (fun b H1 => (b = true → post true H1) ∧ (b = false → TTs c m .Or r H1 post))) : TTs c m .Or (.cons t r) H post := by
  intro es he
  have he := and2 he
  intro mr ρ s Q E S l k kx
  refine isTrue_or (whole := Sem.pure .none) (pos := ⟨0, 0, 0, 0⟩) ?_
  refine h _ he.1 _ mr ρ s _ E (fun _ => rfl) S l ?_ kx
  intro t b H1 h1 tk1 hp S1
  cases b with
  | true => exact k t true H1 h1 tk1 (hp.1 rfl) S1
  | false =>
    refine hp.2 rfl _ he.2 mr (ρ ++ t) _ _ E S1 l.mono ?_ kx.mono
    intro t' b H2 h2 tk2 hp2 S2
    rw [List.append_assoc] at S2
    exact k (t ++ t') b H2 h2 tk2 hp2 S2
theorem TT.and {ts : CTs} {post : Bool → MH → Prop} (h : TTs c m .And ts H post) : TT c m (.and ts) H post := by
  intro e he
  intro wh mr ρ s Q E _ S l k kx
  exact h _ he mr ρ s Q E S l k kx
theorem TT.or {ts : CTs} {post : Bool → MH → Prop} (h : TTs c m .Or ts H post) : TT c m (.or ts) H post := by
  intro e he
  intro wh mr ρ s Q E _ S l k kx
  exact h _ he mr ρ s Q E S l k kx
noncomputable def Tru (H : MH) : MV → Bool → Prop
  | .bool b, r => r = b
  | .int i, r => r = !decide (i = 0)
  | .none, r => r = false
  | _, _ => False
theorem isTrue_of {e : PySem.Expr} {env : Env} {wh : Sem Value} (h : plainX e = true) : isTrue e env wh = (do let v ← wh; standAt e.pos; holding [v] (truthy v)) := by
  cases e with
  | UnaryOp op x pos => cases op <;> first | rfl | cases h
  | BoolOp _ _ _ => cases h
  | IfExp _ _ _ _ => cases h
  | Compare _ _ _ _ => cases h
  | _ => rfl
theorem TT.plain {a : CE} {post : Bool → MH → Prop} (h : TE c m a H (fun v H1 => ∃ r, Tru H1 v r ∧ post r H1)) : TT c m (.plain a) H post := by
  intro e he
  have he := and2 he
  have hpl : plainX (reE a c.nm e) = true := by
    have h0 := he.1
    cases a <;> first | rfl | cases h0
  intro wh mr ρ s Q E hw S l k kx
  rw [hw hpl]
  refine isTrue_plain ?_ (isTrue_of hpl)
  refine h _ he.2 mr ρ s _ E S l ?_ kx
  rintro t v vr H1 h1 tk1 ⟨r, hr, hp⟩ hv S1
  cases v with
  | bool b =>
    have e1 : vr = .bool b := hv
    have e2 : r = b := hr
    subst e1 e2
    exact wpAny_truthy_bool (k t r H1 h1 tk1 hp S1)
  | int i =>
    obtain ⟨u, rfl⟩ := hv
    have e2 : r = !decide (i = 0) := hr
    subst e2
    exact truthy_int (k t _ H1 h1 tk1 hp S1)
  | none =>
    have e1 : vr = .none := hv
    have e2 : r = false := hr
    subst e1 e2
    exact truthy_none (k t _ H1 h1 tk1 hp S1)
  | _ => exact hr.elim
theorem TE.ite {t : CT} {a b : CE} {post : MV → MH → Prop} (h : TT c m t H (fun r H1 => (r = true → TE c m a H1 post) ∧ (r = false → TE c m b H1 post))) : TE c m (.ite t a b) H post := by
  intro e he
  have he := and3 he
  intro mr ρ s Q E S l k kx
  refine wpAny_IfExp ?_
  refine h _ he.1 _ mr ρ s _ E (fun _ => rfl) S l ?_ kx
  intro t b' H1 h1 tk1 hp S1
  have fin : ∀ e, EV c m e H1 post → wpAny (model c.prog c.w) c.A (eval e c.env) Q E { s with heap := h1, toks := tk1 } := by
    intro e he
    refine he mr (ρ ++ t) _ _ E S1 l.mono ?_ kx.mono
    intro t' v vr H2 h2 tk2 hp2 hv S2
    rw [List.append_assoc] at hv S2
    exact k (t ++ t') v vr H2 h2 tk2 hp2 hv S2
  cases b' with
  | true => exact fin _ (hp.1 rfl _ he.2.1)
  | false => exact fin _ (hp.2 rfl _ he.2.2)
end
section
variable {c : Cx} {m : ML} {H : MH} {G : Gx} {d : Nat}
theorem star_cons {e : PySem.Expr} {es : List PySem.Expr} {env : Env} (h : notStar e = true) : starEach (e :: es) env = (false, eval e env) :: starEach es env := by
  cases e with
  | Starred _ _ => cases h
  | _ => rfl
theorem tst_of {t : CT} {nm : List Str} {sc : Scope} {e : PySem.Expr} (h : wfE (.tst t) nm sc e = true) : nonPlain t = true := by
  have h1 : (nonPlain t && wfT t nm sc e) = true := h
  exact (and2 h1).1
theorem star_re {a : CE} {nm : List Str} {sc : Scope} {e : PySem.Expr} (h : wfE a nm sc e = true) : notStar (reE a nm e) = true := by
  cases a with
  | tst t => have h2 := tst_of h; cases t <;> first | rfl | cases h2
  | _ => rfl
theorem slice_re {a : CE} {nm : List Str} {sc : Scope} {e : PySem.Expr} (h : wfE a nm sc e = true) : notSlice (reE a nm e) = true := by
  cases a with
  | tst t => have h2 := tst_of h; cases t <;> first | rfl | cases h2
  | _ => rfl
theorem comp_re {a : CE} {nm : List Str} {sc : Scope} {e : PySem.Expr} (h : wfE a nm sc e = true) (hn : isComp a = false) : notComp (reE a nm e) = true := by
  cases a with
  | tst t => have h2 := tst_of h; cases t <;> first | rfl | cases h2
  | comp _ _ _ _ => cases hn
  | _ => rfl
theorem star_plain {nm : List Str} {sc : Scope} {pos : Pos} {env : Env} : ∀ {as : CEs} {es : List PySem.Expr}, wfEs as nm sc es = true → (backTo pos (starEach (reEs as nm es) env)).any (·.1) = false
  | .nil, es, h => rfl
  | .cons a r, es, h => by
    have h := and2 h
    have := star_plain (pos := pos) (env := env) h.2
    show (backTo pos (starEach (reE a nm (nth 0 es) :: reEs r nm es.tail) env)).any (·.1) = false
    rw [star_cons (star_re h.1)]
    unfold backTo at this ⊢
    simp only [List.map_cons, List.any_cons, Bool.false_or]
    exact this
theorem TEs.nil {post : List MV → MH → Prop} (h : post [] H) : TEs c m .nil H post := by
  intro es pos he
  intro mr ρ s Q E S l k kx
  refine args_nil ?_
  exact k [] [] [] H s.heap s.toks h rfl (nil_of S)
theorem TEs.cons {a : CE} {r : CEs} {post : List MV → MH → Prop} (h : TE c m a H (fun v H1 => TEs c m r H1 (fun vs H2 => post (v :: vs) H2))) : TEs c m (.cons a r) H post := by
  intro es pos he
  obtain ⟨h2, h3⟩ := and2 he
  intro mr ρ s Q E S l k kx
  refine args_cons ?_ (star_cons (star_re h2))
  refine h _ h2 mr ρ s _ E S l ?_ kx
  intro t v vr H1 hp1 tk1 hr hv S1
  refine hr _ pos h3 mr (ρ ++ t) _ _ E S1 l.mono ?_ kx.mono
  intro t' vs vrs H2 hp2 tk2 hp hvs S2
  have hv' := hv.mono (t := t')
  rw [List.append_assoc] at hvs S2 hv'
  exact k (t ++ t') (v :: vs) (vr :: vrs) H2 hp2 tk2 hp ⟨vr, vrs, rfl, hv', hvs⟩ S2
theorem TE.list {as : CEs} {post : MV → MH → Prop} (h : TEs c m as H (fun vs H1 => vs.length ≤ 1000 ∧ post (.ref H1.length) (H1 ++ [.list vs]))) : TE c m (.list as) H post := by
  intro e he
  intro mr ρ s Q E S lr k kx
  refine List_ ?_
  refine h _ _ he mr ρ s _ E S lr ?_ kx
  rintro t vs vrs H1 h1 tk1 ⟨hsz, hp⟩ hvs S1
  obtain ⟨ml, xs, ⟨F, os, a1, a2, a3, N, a5⟩, back⟩ := S1.open
  refine newList_K F N ?_ (by rw [hvs.length]; exact Nat.le_trans hsz (by decide))
  intro l h' F' N' hl
  have := k (t ++ [l]) (.ref H1.length) (.ref l) _ h' tk1 hp
  rw [← List.append_assoc] at this
  exact this ⟨l, last_get a2, rfl⟩ (back _ _ _ (Led.alloc a1 a2 a3 a5 F' N' (fun p hp => Nat.ne_of_lt (hl p hp)) ⟨vrs, 0, hvs.mono, rfl⟩))
theorem TE.tup {as : CEs} {post : MV → MH → Prop} (h : TEs c m as H (fun vs H1 => vs.length ≤ 1000 ∧ post (.ref H1.length) (H1 ++ [.tup vs]))) : TE c m (.tup as) H post := by
  intro e he
  intro mr ρ s Q E S lr k kx
  refine Tuple_ ?_
  refine h _ _ he mr ρ s _ E S lr ?_ kx
  rintro t vs vrs H1 h1 tk1 ⟨hsz, hp⟩ hvs S1
  obtain ⟨ml, xs, ⟨F, os, a1, a2, a3, N, a5⟩, back⟩ := S1.open
  refine newTuple_N F N ?_ (by rw [hvs.length]; exact Nat.le_trans hsz (by decide))
  intro h' F' N'
  have := k (t ++ [h1.objs.size]) (.ref H1.length) (.ref h1.objs.size) _ h' tk1 hp
  rw [← List.append_assoc] at this
  exact this ⟨_, last_get a2, rfl⟩ (back _ _ _ (Led.alloc a1 a2 a3 a5 F' N' (fun p hp => Nat.ne_of_lt (Heap.lt_size (N p hp).1)) ⟨vrs, 0, hvs.mono, rfl⟩))
theorem isList_of {h₀ h : Heap} {L a : Addr} {vs : List Value} {n : Nat} (N : News h₀ L h [(a, listOf vs.toArray n)]) : h.IsList a vs.toArray := ⟨_, (N _ (.head _)).1, rfl, n, rfl⟩
theorem St.list {mr : Str → Option Value} {ρ : List Addr} {h : Heap} (S : St c mr ρ H h) {i : Nat} {xs : List MV} (hi : H[i]? = some (.list xs)) {x : Addr} (hx : ρ[i]? = some x) :
    ∃ vs n, VRs ρ xs vs ∧ News c.h₀ c.L h [(x, listOf vs.toArray n)] := by
  obtain ⟨y, o, hy, ⟨vs, n, hvs, rfl⟩, No⟩ := S.get hi
  rw [hx] at hy
  cases hy
  exact ⟨vs, n, hvs, No⟩
theorem St.tup {mr : Str → Option Value} {ρ : List Addr} {h : Heap} (S : St c mr ρ H h) {i : Nat} {xs : List MV} (hi : H[i]? = some (.tup xs)) {x : Addr} (hx : ρ[i]? = some x) :
    ∃ vs, VRs ρ xs vs ∧ IsTup h x vs.toArray := by
  obtain ⟨y, o, hy, ⟨vs, n, hvs, rfl⟩, No⟩ := S.get hi
  rw [hx] at hy
  cases hy
  exact ⟨vs, hvs, _, (No _ (.head _)).1, rfl, n, rfl⟩
noncomputable def At (xs : List MV) (n : Int) (v : MV) : Prop := xs.length ≤ 1000000 ∧ ((0 ≤ n ∧ xs[n.toNat]? = some v) ∨ (n < 0 ∧ -(xs.length : Int) ≤ n ∧ xs[(n + xs.length).toNat]? = some v))
theorem subscripted_of {nm : List Str} {sc : Scope} {i : PySem.Expr} (h : notSlice i = true) (a : Value) (k : Value) : subscripted i false a k = operate [a, k] (getItem a k) := by
  cases i with
  | Slice _ _ _ _ => cases h
  | _ => rfl
noncomputable def Sq (c : Cx) (H : MH) (o i v : MV) : Prop :=
  ∀ (mr : Str → Option Value) (ρ : List Addr) (s : Shared) (Q : Value → Shared → Prop) (E : Value → Shared → Prop) (vo vi : Value) (base sl : PySem.Expr), notSlice sl = true → St c mr ρ H s.heap → VR ρ o vo → VR ρ i vi →
    (∀ vr tk, VR ρ v vr → Q vr { s with toks := tk }) → wpAny (model c.prog c.w) c.A (subscriptTail base sl vo vi) Q E s
theorem TE.sq {o i : CE} {post : MV → MH → Prop} (h : TE c m o H (fun x H1 => TE c m i H1 (fun y H2 => ∃ v, Sq c H2 x y v ∧ post v H2))) : TE c m (.sub o i) H post := by
  intro e he
  obtain ⟨h2, h3⟩ := and2 he
  have h1 := slice_re h3
  intro mr ρ s Q E S lr k kx
  refine Subscript_ ?_
  refine h _ h2 mr ρ s _ E S lr ?_ kx
  intro t x xr H1 hp1 tk1 hr hx S1
  refine hr _ h3 mr (ρ ++ t) _ _ E S1 lr.mono ?_ kx.mono
  rintro t' y yr H2 hp2 tk2 ⟨v, hq, hp⟩ hy S2
  refine hq mr _ _ _ E _ _ _ _ h1 S2 hx.mono hy ?_
  intro vr tk hv
  rw [List.append_assoc] at hv S2
  exact k (t ++ t') v vr H2 hp2 tk hp hv S2
theorem Sq.list {a : Nat} {xs : List MV} {n : Int} {v : MV} (ha : H[a]? = some (.list xs)) (hn : At xs n v) : Sq c H (.ref a) (.int n) v := by
  rintro mr ρ s Q E _ _ base sl hsl S ⟨x, hx, rfl⟩ ⟨u, rfl⟩ k
  obtain ⟨vs, ep, hvs, No⟩ := S.list ha hx
  have L := isList_of No
  obtain ⟨hsz, hn⟩ := hn
  rcases hn with ⟨h0, hv⟩ | ⟨h0, h3, hv⟩
  · obtain ⟨vr, e1, e2⟩ := hvs.get hv
    have hlt := (List.getElem?_eq_some_iff.mp hv).1
    exact tail_any L.typeIs slot_list_getitem.lookup (wpAny_getItem_list L h0 (by omega) (by simpa using e1) (k vr _ e2)) (subscripted_of (nm := []) (sc := c.sc) hsl _ _)
  · obtain ⟨vr, e1, e2⟩ := hvs.get hv
    have hlen : vs.toArray.size = xs.length := by rw [List.size_toArray, hvs.length]
    exact tail_any L.typeIs slot_list_getitem.lookup (wpAny_getItem_list_neg L h0 (by rw [hlen]; exact h3) (by omega) (by rw [hlen]; simpa using e1) (k vr _ e2)) (subscripted_of (nm := []) (sc := c.sc) hsl _ _)
theorem Sq.glob {a : Addr} {vs : List Value} {n : Int} {i : Int} {t : Tok} (ha : c.h₀.IsList a vs.toArray) (h0 : 0 ≤ n) (hsz : vs.length ≤ 1000000) (hv : vs[n.toNat]? = some (.int i t)) : Sq c H (.glob a) (.int n) (.int i) := by
  rintro mr ρ s Q E _ _ base sl hsl S rfl ⟨u, rfl⟩ k
  have L : s.heap.IsList a vs.toArray := ha.at fun o e => S.keep _ o e
  have hlt := (List.getElem?_eq_some_iff.mp hv).1
  exact tail_any L.typeIs slot_list_getitem.lookup (wpAny_getItem_list L h0 (by omega) (by simpa using hv) (k _ _ ⟨t, rfl⟩)) (subscripted_of (nm := []) (sc := c.sc) hsl _ _)
theorem TB.nil {post : Fl → ML → MH → Prop} (h : post .next m H) : TB c m .nil H post := by
  intro ss hs
  intro mr ρ s Q E S l k kx
  refine wpAny_execs_nil ?_
  exact k [] .next .next m mr H s.heap s.toks h rfl (nil_of S) (by rw [List.append_nil]; exact l)
theorem TB.cons {a : CS} {r : CSs} {post : Fl → ML → MH → Prop} (h : TS c m a H (fun f m1 H1 => match f with | .next => TB c m1 r H1 post | f => post f m1 H1)) : TB c m (.cons a r) H post := by
  intro ss hs
  have hs := and2 hs
  intro mr ρ s Q E S l k kx
  refine wpAny_execs_cons ?_
  refine h _ hs.1 mr ρ s _ E S l ?_ kx
  intro t f fr m1 mr1 H1 h1 tk1 hp hf S1 l1
  cases f with
  | next =>
    subst hf
    refine hp _ hs.2 mr1 (ρ ++ t) _ _ E S1 l1 ?_ kx.mono
    intro t' f fr m2 mr2 H2 h2 tk2 hp2 hf2 S2 l2
    rw [List.append_assoc] at hf2 S2 l2
    exact k (t ++ t') f fr m2 mr2 H2 h2 tk2 hp2 hf2 S2 l2
  | brk => subst hf; exact k t .brk .brk m1 mr1 H1 h1 tk1 hp rfl S1 l1
  | cont => subst hf; exact k t .cont .cont m1 mr1 H1 h1 tk1 hp rfl S1 l1
  | ret v =>
    obtain ⟨vr, rfl, hv⟩ := hf
    exact k t (.ret v) (.ret vr) m1 mr1 H1 h1 tk1 hp ⟨vr, rfl, hv⟩ S1 l1
theorem TS.ret {a : CE} {post : Fl → ML → MH → Prop} (h : TE c m a H (fun v H1 => post (.ret v) m H1)) : TS c m (.ret a) H post := by
  intro st hs
  intro mr ρ s Q E S l k kx
  refine wpAny_Return_some ?_
  refine h _ hs mr ρ s _ E S l ?_ kx
  intro t v vr H1 h1 tk1 hp hv S1
  exact k t (.ret v) (.ret vr) m mr H1 h1 tk1 hp ⟨vr, rfl, hv⟩ S1 l.mono
theorem TS.brk {post : Fl → ML → MH → Prop} (h : post .brk m H) : TS c m .brk H post := by
  intro st hs
  intro mr ρ s Q E S l k kx
  refine wpAny_Break ?_
  exact k [] .brk .brk m mr H s.heap s.toks h rfl (nil_of S) (by rw [List.append_nil]; exact l)
theorem TS.cont {post : Fl → ML → MH → Prop} (h : post .cont m H) : TS c m .cont H post := by
  intro st hs
  intro mr ρ s Q E S l k kx
  refine wpAny_Continue ?_
  exact k [] .cont .cont m mr H s.heap s.toks h rfl (nil_of S) (by rw [List.append_nil]; exact l)
theorem swaps_not {v : PySem.Expr} {t : Option PySem.Expr} {n : Nat} {env : Env} (h : notComp v = true) : swapsWith v t n env = pure false := by
  cases v <;> first | rfl | cases h
theorem TS.assign (ok : Ok G c d) (hfm : c.fm = none) {i : Nat} {a : CE} {post : Fl → ML → MH → Prop} (hn : isComp a = false) (h : TE c m a H (fun v H1 => post .next (m.set i (some v)) H1)) : TS c m (.assign i a) H post := by
  intro st hs
  obtain ⟨h1, h2, h3⟩ := and3 hs
  have h1 := beq_iff_eq.mp h1
  intro mr ρ s Q E S l k kx
  refine wpAny_Assign_Name ?_ (swaps_not (comp_re h3 hn))
  refine h _ h3 mr ρ s _ E S l ?_ kx
  intro t v vr H1 hp1 tk1 hp hv S1
  refine store ok S1 hfm h2 ?_
  intro h' tk S2
  exact k t .next .next _ _ H1 h' tk hp rfl S2 (l.mono.set h1 hv)
theorem TS.ite {t : CT} {a b : CSs} {post : Fl → ML → MH → Prop} (h : TT c m t H (fun r H1 => (r = true → TB c m a H1 post) ∧ (r = false → TB c m b H1 post))) : TS c m (.ite t a b) H post := by
  intro st hs
  have hs := and3 hs
  intro mr ρ s Q E S l k kx
  refine wpAny_If ?_
  refine h _ hs.1 _ mr ρ s _ E (fun _ => rfl) S l ?_ kx
  intro t b H1 h1 tk1 hp S1
  have fin : ∀ ss, EX c m ss H1 post → wpAny (model c.prog c.w) c.A (execs ss c.env) Q E { s with heap := h1, toks := tk1 } := by
    intro ss hss
    refine hss mr (ρ ++ t) _ _ E S1 l.mono ?_ kx.mono
    intro t' f fr m2 mr2 H2 h2 tk2 hp2 hf2 S2 l2
    rw [List.append_assoc] at hf2 S2 l2
    exact k (t ++ t') f fr m2 mr2 H2 h2 tk2 hp2 hf2 S2 l2
  cases b with
  | true => exact fin _ (hp.1 rfl _ hs.2.1)
  | false => exact fin _ (hp.2 rfl _ hs.2.2)
theorem TS.expr (hi : interactive c.env = false) {a : CE} {post : Fl → ML → MH → Prop} (h : TE c m a H (fun _ H1 => post .next m H1)) : TS c m (.expr a) H post := by
  intro st hs
  have hs := and2 hs
  intro mr ρ s Q E S l k kx
  refine wpAny_Expr_any ?_ hi (swaps_not (comp_re hs.2 (by simpa using hs.1)))
  refine h _ hs.2 mr ρ s _ E S l ?_ kx
  intro t v vr H1 h1 tk1 hp hv S1
  exact k t .next .next m mr H1 h1 tk1 hp rfl S1 l.mono
theorem swaps_at {v o i : PySem.Expr} {p : Pos} {n : Nat} {env : Env} : swapsWith v (some (.Subscript o i p)) n env = pure false := by
  cases v <;> rfl
theorem swaps_attr {v o : PySem.Expr} {x : Str} {p : Pos} {n : Nat} {env : Env} : swapsWith v (some (.Attribute o x p)) n env = pure false := by
  cases v <;> rfl
noncomputable def Uq (c : Cx) (H : MH) (o i v : MV) (H' : MH) : Prop :=
  ∀ (mr : Str → Option Value) (ρ : List Addr) (s : Shared) (Q : Unit → Shared → Prop) (E : Value → Shared → Prop) (vo vi vv : Value), St c mr ρ H s.heap → VR ρ o vo → VR ρ i vi → VR ρ v vv →
    (∀ t h' tk, St c mr (ρ ++ t) H' h' → Q () { s with heap := h', toks := tk }) → wpAny (model c.prog c.w) c.A (setItem vo vi vv) Q E s
theorem TS.setItem {o i a : CE} {post : Fl → ML → MH → Prop} (h : TE c m a H (fun v H1 => TE c m o H1 (fun x H2 => TE c m i H2 (fun y H3 => ∃ H4, Uq c H3 x y v H4 ∧ post .next m H4)))) : TS c m (.setItem o i a) H post := by
  intro st hs
  obtain ⟨h2, h3, h4⟩ := and3 hs
  intro mr ρ s Q E S l k kx
  refine wpAny_Assign_Subscript ?_ swaps_at
  refine h _ h4 mr ρ s _ E S l ?_ kx
  intro t v vr H1 hp1 tk1 h12 hv S1
  refine h12 _ h2 mr _ _ _ E S1 l.mono ?_ kx.mono
  intro t' x xr H2 hp2 tk2 h23 hx S2
  refine h23 _ h3 mr _ _ _ E S2 l.mono.mono ?_ kx.mono.mono
  rintro t'' y yr H3 hp3 tk3 ⟨H4, hq, hp⟩ hy S3
  refine hq mr _ _ _ E _ _ _ S3 hx.mono hy (hv.mono).mono ?_
  intro t3 h' tk S4
  have e1 : ρ ++ t ++ t' ++ t'' ++ t3 = ρ ++ (t ++ (t' ++ (t'' ++ t3))) := by simp only [List.append_assoc]
  rw [e1] at S4
  exact k _ .next .next m mr H4 h' tk hp rfl S4 l.mono
theorem Uq.list {a : Nat} {xs : List MV} {n : Int} {v : MV} (ha : H[a]? = some (.list xs)) (hsz : xs.length ≤ 1000000) (h0 : 0 ≤ n) (hlt : n < xs.length) : Uq c H (.ref a) (.int n) v (H.set a (.list (xs.set n.toNat v))) := by
  rintro mr ρ s Q E _ _ vv S ⟨x, hx, rfl⟩ ⟨u, rfl⟩ hv k
  obtain ⟨vs, ep, hvs, No⟩ := S.list ha hx
  have hlen : vs.toArray.size = xs.length := by rw [List.size_toArray, hvs.length]
  have ho := (No _ (.head _)).1
  refine ki_setAt ho h0 (by omega) (by rw [hlen]; exact hlt) ?_
  have hS := S.upd (h' := s.heap.update x (Obj.mapSeq (·.setIfInBounds n.toNat vv))) (o' := .list (xs.set n.toNat v)) ha hx (Heap.SameBut.update ..)
    (x' := listOf (vs.set n.toNat vv).toArray ep) ?_ ⟨vs.set n.toNat vv, ep, hvs.set hv, rfl⟩
  · exact k [] _ _ (nil_of hS)
  · have e : Obj.mapSeq (·.setIfInBounds n.toNat vv) (listOf vs.toArray ep) = listOf (vs.set n.toNat vv).toArray ep := by
      have e1 : vs.toArray.setIfInBounds n.toNat vv = (vs.set n.toNat vv).toArray := by
        apply Array.toList_inj.mp
        simp
      simp [Obj.mapSeq, e1]
    rw [Heap.get?_update_self _ ho (by rw [e]; rfl), e]
end
noncomputable def Cx.wx (c : Cx) (xt : List (Addr × Obj)) : Cx := { c with xt := xt }
theorem Ok.wx {G : Gx} {c : Cx} {d : Nat} (ok : Ok G c d) (xt : List (Addr × Obj)) : Ok G (c.wx xt) d :=
  ⟨ok.frames, ok.kin, ok.top, ok.hh, ok.dep, ok.uni, ok.fn, ok.gl, ok.bi, ok.ap, ok.kd, ok.fs, ok.ex⟩
section
variable {c : Cx} {m : ML} {H : MH} {G : Gx} {d : Nat}
theorem TS.while (ok : Ok G c d) (hfm : c.fm = none) {t : CT} {b : CSs} {post : Fl → ML → MH → Prop} (I : Nat → ML → MH → Prop) (n : Nat) (h0 : I n m H)
    (turn : ∀ k m1 H1, I k m1 H1 → TT c m1 t H1 (fun r H2 => (r = true → TB c m1 b H2 (fun f m3 H3 => match f with
        | .next => ∃ j, j < k ∧ I j m3 H3
        | .cont => ∃ j, j < k ∧ I j m3 H3
        | .brk => post .next m3 H3
        | .ret v => post (.ret v) m3 H3)) ∧ (r = false → post .next m1 H2))) : TS c m (.while t b) H post := by
  intro st hs
  have hs := and2 hs
  intro mr ρ s Q E S lr k kx
  refine wpAny_While ?_
  let J : Nat → Shared → Prop := fun j s' => ∃ t m1 mr1 H1 h' tk, s' = { s with heap := h', toks := tk } ∧ I j m1 H1 ∧ St c mr1 (ρ ++ t) H1 h' ∧ LR mr1 c.nm (ρ ++ t) m1
  refine codeAny_whileLoop J ?_ n ⟨[], m, mr, H, s.heap, s.toks, rfl, h0, nil_of S, by rw [List.append_nil]; exact lr⟩
  rintro j _ ⟨t, m1, mr1, H1, h1, tk1, rfl, hI, S1, l1⟩
  have kx1 := (kx.mono (t := t) (h := h1) (tk := tk1)).pass (M := model c.prog c.w) (A := c.A) (A' := c.A) ok hfm rfl
  refine turn j m1 H1 hI _ hs.1 _ mr1 (ρ ++ t) _ _ _ (fun _ => rfl) S1 l1 ?_ kx1
  intro t' b H2 h2 tk2 hb S2
  have l2 := l1.mono (t := t')
  cases b with
  | false =>
    refine wpAny_execs_nil ?_
    have := k (t ++ t') .next .next m1 mr1 H2 h2 tk2 (hb.2 rfl) rfl
    rw [← List.append_assoc] at this
    exact this S2 l2
  | true =>
    refine hb.1 rfl _ hs.2 mr1 (ρ ++ t ++ t') _ _ _ S2 l2 ?_ kx1.mono
    intro t'' f fr m3 mr3 H3 h3 tk3 hp hf S3 l3
    have e : ρ ++ t ++ t' ++ t'' = ρ ++ (t ++ (t' ++ t'')) := by simp only [List.append_assoc]
    rw [e] at S3 l3 hf
    cases f with
    | next =>
      subst hf
      obtain ⟨i, hi, hI'⟩ := hp
      exact ⟨i, hi, _, m3, mr3, H3, h3, tk3, rfl, hI', S3, l3⟩
    | cont =>
      subst hf
      obtain ⟨i, hi, hI'⟩ := hp
      exact ⟨i, hi, _, m3, mr3, H3, h3, tk3, rfl, hI', S3, l3⟩
    | brk =>
      subst hf
      exact k _ .next .next m3 mr3 H3 h3 tk3 hp rfl S3 l3
    | ret v =>
      obtain ⟨vr, rfl, hv⟩ := hf
      exact k _ (.ret v) (.ret vr) m3 mr3 H3 h3 tk3 hp ⟨vr, rfl, hv⟩ S3 l3
theorem Led.addX {h₀ h : Heap} {L : Addr} {prog : Program} {w : World} {ml : Str → Option Value} {fr xt ex : List (Addr × Obj)} {ρ : List Addr} {o : Obj} (S : Led h₀ L prog w ml (fr ++ (xt ++ ex)) ρ H h) (ho : o.isFreed = false) :
    Led h₀ L prog w ml (fr ++ (((h.objs.size, o) :: xt) ++ ex)) ρ H (h.push o) := by
  obtain ⟨F, os, a1, a2, a3, N, a5⟩ := S
  have hn : h.objs.size ∉ (fr ++ (xt ++ ex)).map (·.1) ++ ρ := fun q => by
    obtain ⟨p, hp, e⟩ := led_addr (os := os) a1 a2 q
    have := Heap.lt_size (N p hp).1
    rw [e] at this
    exact Nat.lt_irrefl _ this
  refine ⟨F.push o, os, a1, a2, a3, fun p hp => N.push F o ho p ?_, ?_⟩
  · simp only [List.cons_append, List.mem_append, List.mem_cons] at hp ⊢
    rcases hp with (hp | hp | hp | hp) | hp <;> simp [hp]
  · have hp : ((fr ++ (((h.objs.size, o) :: xt) ++ ex)).map (·.1) ++ ρ).Perm (h.objs.size :: ((fr ++ (xt ++ ex)).map (·.1) ++ ρ)) := by
      simp only [List.map_append, List.map_cons, List.cons_append, List.append_assoc]
      exact List.perm_middle
    rw [hp.nodup_iff]
    exact List.nodup_cons.mpr ⟨hn, a5⟩
theorem St.addX {mr : Str → Option Value} {ρ : List Addr} {h : Heap} {o : Obj} (S : St c mr ρ H h) (ho : o.isFreed = false) : St (c.wx ((h.objs.size, o) :: c.xt)) mr ρ H (h.push o) := by
  obtain ⟨ml, fr, ex, own, u, l⟩ := S
  exact ⟨ml, fr, ex, own, u, l.addX ho⟩
theorem St.dropX {mr : Str → Option Value} {ρ : List Addr} {h : Heap} {p : Addr × Obj} (S : St (c.wx (p :: c.xt)) mr ρ H h) : St c mr ρ H h := by
  obtain ⟨ml, fr, ex, own, u, F, os, a1, a2, a3, N, a5⟩ := S
  refine ⟨ml, fr, ex, ?_, u, F, os, a1, a2, a3, fun q hq => N q ?_, ?_⟩
  · exact own
  · show q ∈ (fr ++ ((p :: c.xt) ++ ex)) ++ ρ.zip os
    simp only [List.cons_append, List.mem_append, List.mem_cons] at hq ⊢
    rcases hq with (hp | hp | hp) | hp <;> simp [hp]
  · replace a5 : ((fr ++ ((p :: c.xt) ++ ex)).map (·.1) ++ ρ).Nodup := a5
    refine List.Nodup.sublist ?_ a5
    simp only [List.map_append, List.map_cons, List.cons_append, List.append_assoc]
    exact List.Sublist.append (List.Sublist.refl _) (List.sublist_cons_self _ _)
theorem St.itr {mr : Str → Option Value} {ρ : List Addr} {h : Heap} {p : Addr × Obj} (S : St (c.wx (p :: c.xt)) mr ρ H h) : h.get? p.1 = some p.2 ∧ p.1 ≠ c.L ∧ c.h₀.get? p.1 = none := by
  obtain ⟨ml, fr, ex, own, u, F, os, a1, a2, a3, N, a5⟩ := S
  exact N p (List.mem_append_left _ (List.mem_append_right _ (List.mem_append_left _ (.head _))))
theorem St.turnX {mr : Str → Option Value} {ρ : List Addr} {h h' : Heap} {I : Addr} {o o' : Obj} (S : St (c.wx ((I, o) :: c.xt)) mr ρ H h) (hI : h'.get? I = some o')
    (hk : ∀ b x, b ≠ I → h.get? b = some x → h'.get? b = some x) : St (c.wx ((I, o') :: c.xt)) mr ρ H h' := by
  have nI := S.itr
  obtain ⟨ml, fr, ex, own, u, F, os, a1, a2, a3, N, a5⟩ := S
  replace N : News c.h₀ c.L h ((fr ++ (((I, o) :: c.xt) ++ ex)) ++ ρ.zip os) := N
  replace a5 : ((fr ++ (((I, o) :: c.xt) ++ ex)).map (·.1) ++ ρ).Nodup := a5
  have hne : ∀ b x, c.h₀.get? b = some x → b ≠ I := fun b x e q => by
    have := nI.2.2
    rw [q] at e
    have e' : c.h₀.get? I = none := this
    rw [e'] at e
    cases e
  refine ⟨ml, fr, ex, ?_, u, ⟨F.ns.at' fun x e => hk _ x (fun q => nI.2.1 q.symm) e, fun b x e => hk b x (hne b x e) (F.keep b x e), F.above⟩, os, a1, a2, a3, ?_, (by show ((fr ++ (((I, o') :: c.xt) ++ ex)).map (·.1) ++ ρ).Nodup; simpa [List.map_append] using a5)⟩
  · exact own
  · show News c.h₀ c.L h' ((fr ++ (((I, o') :: c.xt) ++ ex)) ++ ρ.zip os)
    have hp : ((fr ++ (((I, o) :: c.xt) ++ ex)).map (·.1) ++ ρ).Perm (I :: ((fr ++ (c.xt ++ ex)).map (·.1) ++ ρ)) := by
      simp only [List.map_append, List.map_cons, List.cons_append, List.append_assoc]
      exact List.perm_middle
    have hnd := List.nodup_cons.mp (hp.nodup_iff.mp a5)
    intro p hp
    have hsplit : p = (I, o') ∨ p ∈ (fr ++ (c.xt ++ ex)) ++ ρ.zip os := by
      simp only [List.cons_append, List.mem_append, List.mem_cons] at hp ⊢
      rcases hp with (hp | hp | hp | hp) | hp <;> simp [hp]
    rcases hsplit with rfl | hq
    · exact ⟨hI, nI.2⟩
    · have P := N p (by
        simp only [List.cons_append, List.mem_append, List.mem_cons] at hq ⊢
        rcases hq with (hp | hp | hp) | hp <;> simp [hp])
      refine ⟨hk _ _ (fun e => ?_) P.1, P.2⟩
      refine hnd.1 ?_
      rw [← e]
      rcases List.mem_append.mp hq with hq | hq
      · exact List.mem_append_left _ (List.mem_map_of_mem hq)
      · exact List.mem_append_right _ (List.of_mem_zip (show (p.1, p.2) ∈ _ from hq)).1
theorem St.endX {mr : Str → Option Value} {ρ : List Addr} {h h' : Heap} {I : Addr} {o : Obj} (S : St (c.wx ((I, o) :: c.xt)) mr ρ H h)
    (hk : ∀ b x, b ≠ I → h.get? b = some x → h'.get? b = some x) : St c mr ρ H h' := by
  have nI := S.itr
  obtain ⟨ml, fr, ex, own, u, F, os, a1, a2, a3, N, a5⟩ := S
  replace N : News c.h₀ c.L h ((fr ++ (((I, o) :: c.xt) ++ ex)) ++ ρ.zip os) := N
  replace a5 : ((fr ++ (((I, o) :: c.xt) ++ ex)).map (·.1) ++ ρ).Nodup := a5
  have hne : ∀ b x, c.h₀.get? b = some x → b ≠ I := fun b x e q => by
    have := nI.2.2
    rw [q] at e
    have e' : c.h₀.get? I = none := this
    rw [e'] at e
    cases e
  have hp : ((fr ++ (((I, o) :: c.xt) ++ ex)).map (·.1) ++ ρ).Perm (I :: ((fr ++ (c.xt ++ ex)).map (·.1) ++ ρ)) := by
    simp only [List.map_append, List.map_cons, List.cons_append, List.append_assoc]
    exact List.perm_middle
  have hnd := List.nodup_cons.mp (hp.nodup_iff.mp a5)
  refine ⟨ml, fr, ex, ?_, u, ⟨F.ns.at' fun x e => hk _ x (fun q => nI.2.1 q.symm) e, fun b x e => hk b x (hne b x e) (F.keep b x e), F.above⟩, os, a1, a2, a3, ?_, hnd.2⟩
  · exact own
  · intro p hq
    have P := N p (by
      simp only [List.cons_append, List.mem_append, List.mem_cons] at hq ⊢
      rcases hq with (hp | hp | hp) | hp <;> simp [hp])
    refine ⟨hk _ _ (fun e => ?_) P.1, P.2⟩
    refine hnd.1 ?_
    rw [← e]
    rcases List.mem_append.mp hq with hq | hq
    · exact List.mem_append_left _ (List.mem_map_of_mem hq)
    · exact List.mem_append_right _ (List.of_mem_zip (show (p.1, p.2) ∈ _ from hq)).1
theorem Fly.dropX {mr : Str → Option Value} {ρ : List Addr} {h : Heap} {p : Addr × Obj} {C : Addr} {as : List MV} {e : Addr} (f : Fly (c.wx (p :: c.xt)) mr ρ H C as e h) : Fly c mr ρ H C as e h := by
  obtain ⟨hB, t, vs, b, x⟩ := f.split
  exact FlyB.fly (c := c) ⟨b.st.dropX, b.vr, b.en, b.tn, b.tup, b.up, b.stay⟩ x
theorem Kx.addX {ρ : List Addr} {s : Shared} {E : Value → Shared → Prop} {p : Addr × Obj} (k : Kx c ρ s E) : Kx (c.wx (p :: c.xt)) ρ s E :=
  fun t C as e m' mr' H' h' tk hX hF hL => k t C as e m' mr' H' h' tk hX (hF.dropX) hL
end
noncomputable def setAll : List Nat → List MV → ML → ML
  | i :: is, v :: vs, m => setAll is vs (m.set i (some v))
  | _, _, m => m
noncomputable def Parts (H : MH) : List Nat → MV → List MV → Prop
  | [_], v, vs => vs = [v]
  | is, v, vs => 1 < is.length ∧ vs.length = is.length ∧ ∃ a, v = .ref a ∧ H[a]? = some (.tup vs)
noncomputable def okT (nm : List Str) (sc : Scope) (is : List Nat) : Bool := is.all (fun i => okSlot nm i && stb sc (nm.getD i ""))
section
variable {c : Cx} {m : ML} {H : MH} {G : Gx} {d : Nat}
theorem each_length {nm : List Str} {env : Env} : ∀ (is : List Nat) (es : List PySem.Expr), (assignEach (reNames (atNm nm is) es) env).length = is.length ∧ (assignEach (reNames (atNm nm is) es) env).findIdx? (·.1) = none
  | [], _ => ⟨rfl, rfl⟩
  | i :: is, es => by
    obtain ⟨h1, h2⟩ := each_length (nm := nm) (env := env) is es.tail
    refine ⟨?_, ?_⟩
    · show ((false, _) :: assignEach (reNames (atNm nm is) es.tail) env).length = _
      simp [h1]
    · show ((false, _) :: assignEach (reNames (atNm nm is) es.tail) env).findIdx? (·.1) = none
      rw [List.findIdx?_cons]
      simp [h2]
theorem assignIn (ok : Ok G c d) (hfm : c.fm = none) {Q : Unit → Shared → Prop} {E : Value → Shared → Prop} {ρ : List Addr} : ∀ {is : List Nat} {ts : List PySem.Expr} {vs : List MV} {vrs : List Value} {m : ML} {mr : Str → Option Value} {s : Shared},
    okT c.nm c.sc is = true → VRs ρ vs vrs → vs.length = is.length → St c mr ρ H s.heap → LR mr c.nm ρ m →
    (∀ mr' h' tk, St c mr' ρ H h' → LR mr' c.nm ρ (setAll is vs m) → Q () { s with heap := h', toks := tk }) →
    wpAny (model c.prog c.w) c.A (assignInOrder ((assignEach (reNames (atNm c.nm is) ts) c.env).map (·.2)) vrs) Q E s
  | [], ts, vs, vrs, m, mr, s, _, hv, hl, S, l, k => by
    cases vs with
    | nil =>
      have e : vrs = [] := hv
      subst e
      exact wpAny_pure (k mr s.heap s.toks S l)
    | cons _ _ => simp at hl
  | i :: is, ts, vs, vrs, m, mr, s, h, hv, hl, S, l, k => by
    have h1 : (okSlot c.nm i && stb c.sc (c.nm.getD i "") && okT c.nm c.sc is) = true := h
    obtain ⟨h1, h2, h3⟩ := and3 h1
    cases vs with
    | nil => simp at hl
    | cons v vs =>
      obtain ⟨vr, r, rfl, hv1, hv2⟩ := hv
      show wpAny _ _ (do holding r (assign (.Name (c.nm.getD i "") (nth 0 ts).pos) c.env vr); assignInOrder ((assignEach (reNames (atNm c.nm is) ts.tail) c.env).map (·.2)) r) Q E s
      refine wpAny_bind (wpAny_holding (wpAny_assign_Name ?_))
      refine store ok S hfm h2 ?_
      intro h' tk S2
      refine assignIn ok hfm (s := { s with heap := h', toks := tk }) h3 hv2 (by simpa using hl) S2 (l.set (beq_iff_eq.mp h1) hv1) ?_
      intro mr' h'' tk' S3 l3
      exact k mr' h'' tk' S3 l3
theorem ext_grow {h h' : Heap} (he : Heap.ExtBut h.objs.size h h') : ∀ b o, h.get? b = some o → h'.get? b = some o := fun b o e => he b o (Nat.ne_of_lt (Heap.lt_size e)) e
theorem assignTup (ok : Ok G c d) (hfm : c.fm = none) {Q : Unit → Shared → Prop} {E : Value → Shared → Prop} {ρ : List Addr} {is : List Nat} {ts : List PySem.Expr} {n : Nat} {p : Pos} {v : MV} {vr : Value} {vs : List MV} {mr : Str → Option Value} {s : Shared}
    (ht : okT c.nm c.sc is = true) (h1 : 1 < is.length) (hv : VR ρ v vr) (hp : Parts H is v vs) (S : St c mr ρ H s.heap) (l : LR mr c.nm ρ m)
    (k : ∀ mr' h' tk, St c mr' ρ H h' → LR mr' c.nm ρ (setAll is vs m) → Q () { s with heap := h', toks := tk }) : wpAny (model c.prog c.w) c.A (assign (.Tuple (reNames (atNm c.nm is) ts) n p) c.env vr) Q E s := by
  have hp' : 1 < is.length ∧ vs.length = is.length ∧ ∃ a, v = .ref a ∧ H[a]? = some (.tup vs) := by
    cases is with
    | nil => simp at h1
    | cons i r =>
      cases r with
      | nil => simp at h1
      | cons _ _ => exact hp
  obtain ⟨_, hl, a, rfl, ha⟩ := hp'
  obtain ⟨x, hx, rfl⟩ := hv
  obtain ⟨ws, hws, T⟩ := S.tup ha hx
  obtain ⟨q1, q2⟩ := each_length (nm := c.nm) (env := c.env) is ts
  refine assign_Tuple_tuple ok.hh T (by rw [q1, List.size_toArray, hws.length, hl]) q2 ?_
  intro h' he
  refine assignIn ok hfm (s := { s with heap := h' }) ht (by simpa using hws) hl (S.grow (ext_grow he)) l ?_
  intro mr' h'' tk' S3 l3
  exact k mr' h'' tk' S3 l3
theorem assignTg (ok : Ok G c d) (hfm : c.fm = none) {Q : Unit → Shared → Prop} {E : Value → Shared → Prop} {ρ : List Addr} {is : List Nat} {e : PySem.Expr} {v : MV} {vr : Value} {vs : List MV} {mr : Str → Option Value} {s : Shared}
    (h0 : is.isEmpty = false) (ht : okT c.nm c.sc is = true) (hv : VR ρ v vr) (hp : Parts H is v vs) (S : St c mr ρ H s.heap) (l : LR mr c.nm ρ m)
    (k : ∀ mr' h' tk, St c mr' ρ H h' → LR mr' c.nm ρ (setAll is vs m) → Q () { s with heap := h', toks := tk }) : wpAny (model c.prog c.w) c.A (assign (reTg (atNm c.nm is) e) c.env vr) Q E s := by
  cases is with
  | nil => cases h0
  | cons i r =>
    cases r with
    | nil =>
      have h1 : (okSlot c.nm i && stb c.sc (c.nm.getD i "") && true) = true := ht
      obtain ⟨h1, h2, _⟩ := and3 h1
      have e : vs = [v] := hp
      subst e
      refine wpAny_assign_Name (store ok S hfm h2 ?_)
      intro h' tk S2
      exact k _ h' tk S2 (l.set (beq_iff_eq.mp h1) hv)
    | cons j r =>
      have q : reTg (atNm c.nm (i :: j :: r)) e = .Tuple (reNames (atNm c.nm (i :: j :: r)) (kids e)) (numOf e) e.pos := rfl
      rw [q]
      exact assignTup ok hfm ht (by simp) hv hp S l k
noncomputable def NX (c : Cx) (I : Addr) (T : Nat → Obj → Prop) (good : MH → Prop) (item : Nat → MH → Option MV) (ρ₀ : List Addr) : Prop :=
  ∀ (i : Nat) (oI : Obj) (mr : Str → Option Value) (t : List Addr) (H : MH) (s : Shared) (Q : Option Value → Shared → Prop) (E : Value → Shared → Prop), T i oI → good H → St (c.wx ((I, oI) :: c.xt)) mr (ρ₀ ++ t) H s.heap →
    (∀ mv vr oI' h' tk, item i H = some mv → VR (ρ₀ ++ t) mv vr → T (i + 1) oI' → h'.get? I = some oI' → (∀ b o, b ≠ I → s.heap.get? b = some o → h'.get? b = some o) → Q (some vr) { s with heap := h', toks := tk }) →
    (∀ h' tk, item i H = none → (∀ b o, b ≠ I → s.heap.get? b = some o → h'.get? b = some o) → Q none { s with heap := h', toks := tk }) →
    wpAny (model c.prog c.w) c.A (pyNext (.ref I)) Q E s
noncomputable def GoOk (T : Nat → Obj → Prop) : Prop := ∀ i o, T i o → ∃ n vs, o.cls = .type n ∧ o.data = .fields vs ∧ ["enumerate", "zip", "dict_itemiterator", "dict_reverseitemiterator", "odict_iterator", "itertools.zip_longest", "itertools.pairwise"].contains n = false
theorem letOwned {T : Nat → Obj → Prop} (g : GoOk T) {i : Nat} {o : Obj} (hT : T i o) {I : Addr} {target : PySem.Expr} {v : Value} {s : Shared} {Q : Unit → Shared → Prop} {E : Value → Shared → Prop} {M : Model} {A : Around} (hI : s.heap.get? I = some o) (h : Q () s) :
    wpAny M A (letOwnedTupleGo target (.ref I) v) Q E s := by
  obtain ⟨n, vs, h1, h2, h3⟩ := g i o hT
  have key : wpAny M A (do
    let (.ref r, .ref a) := (Value.ref I, v) | return
    let o ← load r
    match o.cls, o.data with
    | .type n, .fields vs =>
      if ["enumerate", "zip", "dict_itemiterator", "dict_reverseitemiterator", "odict_iterator", "itertools.zip_longest", "itertools.pairwise"].contains n && vs[0]? == some (rawInt a) then
        rule "for.unpacks-the-owned-tuple"
        updateField r 0 .none
    | _, _ => pure ()) Q E s := by
    cases v with
    | ref a =>
      refine wpAny_bind (wpAny_load hI ?_)
      simp only [h1, h2, h3, Bool.false_and, Bool.false_eq_true, if_false]
      exact wpAny_pure h
    | _ => exact wpAny_pure h
  cases target with
  | Tuple _ _ _ => exact key
  | List _ _ => exact key
  | _ => exact wpAny_pure h
theorem forCore (ok : Ok G c d) (hfm : c.fm = none) {is : List Nat} {e : PySem.Expr} {b : CSs} {body : List Stmt} {post : Fl → ML → MH → Prop} (he : is.isEmpty = false) (ht : okT c.nm c.sc is = true) (hb : wfSs b c.nm c.sc body = true)
    {I : Addr} {T : Nat → Obj → Prop} {good : MH → Prop} {item : Nat → MH → Option MV} {ρ : List Addr} (nx : NX c I T good item ρ) (go : GoOk T)
    (J : Nat → ML → MH → Prop) (B : Nat) (h0 : J 0 m H) (hB : ∀ i m H, J i m H → i ≤ B ∧ good H)
    (turn : ∀ i m1 H1 v xt, J i m1 H1 → item i H1 = some v → ∃ vs, Parts H1 is v vs ∧ TB (c.wx xt) (setAll is vs m1) b H1 (fun f m2 H2 => match f with
      | .next => J (i + 1) m2 H2
      | .cont => J (i + 1) m2 H2
      | .brk => post .next m2 H2
      | .ret v => post (.ret v) m2 H2))
    (done : ∀ i m1 H1, J i m1 H1 → item i H1 = none → post .next m1 H1)
    {mr : Str → Option Value} {s : Shared} {Q : Flow → Shared → Prop} {E : Value → Shared → Prop} {oI : Obj} (hT : T 0 oI) (S : St (c.wx ((I, oI) :: c.xt)) mr ρ H s.heap) (lr : LR mr c.nm ρ m)
    (k : ∀ t f fr m' mr' H' h' tk, post f m' H' → FlR (ρ ++ t) f fr → St c mr' (ρ ++ t) H' h' → LR mr' c.nm (ρ ++ t) m' → Q fr { s with heap := h', toks := tk }) (kx : Kx c ρ s E) :
    codeAny (model c.prog c.w) c.A (.forLoop (reTg (atNm c.nm is) e) (.ref I) (reSs b c.nm body) [] c.env) (fun r s' => match r with | .ok f => Q f s' | .error e => cameBackBy (model c.prog c.w) c.A c.env E e s') s := by
  let L : Nat → Shared → Prop := fun n s' => ∃ i t m1 mr1 H1 h' tk o, s' = { s with heap := h', toks := tk } ∧ n = B + 1 - i ∧ J i m1 H1 ∧ T i o ∧ St (c.wx ((I, o) :: c.xt)) mr1 (ρ ++ t) H1 h' ∧ LR mr1 c.nm (ρ ++ t) m1
  refine codeAny_forLoop_any L ?_ (B + 1) ⟨0, [], m, mr, H, s.heap, s.toks, oI, rfl, rfl, h0, hT, nil_of S, by rw [List.append_nil]; exact lr⟩
  rintro n _ ⟨i, t, m1, mr1, H1, h1, tk1, o, rfl, rfl, hJ, hTi, S1, l1⟩
  have kx1 := (kx.mono (t := t) (h := h1) (tk := tk1)).pass (M := model c.prog c.w) (A := c.A) (A' := c.A) ok hfm rfl
  refine nx i o mr1 t H1 _ _ _ hTi (hB i m1 H1 hJ).2 S1 ?_ ?_
  · intro mv vr oI' h2 tk2 hi hv hT' hI hkeep
    have S2 := S1.turnX hI hkeep
    refine letOwned go hT' hI ?_
    obtain ⟨vs, hp, hturn⟩ := turn i m1 H1 mv ((I, oI') :: c.xt) hJ hi
    refine assignTg (c := c.wx ((I, oI') :: c.xt)) (s := { s with heap := h2, toks := tk2 }) (ok.wx _) hfm he ht hv hp S2 l1 ?_
    intro mr3 h3 tk3 S3 l3
    refine hturn _ hb mr3 (ρ ++ t) { s with heap := h3, toks := tk3 } _ _ S3 l3 ?_ ?_
    · intro t' f fr m4 mr4 H4 h4 tk4 hp4 hf S4 l4
      rw [List.append_assoc] at hf S4 l4
      cases f with
      | next =>
        subst hf
        have := (hB _ _ _ hp4).1
        exact ⟨B + 1 - (i + 1), by omega, i + 1, t ++ t', m4, mr4, H4, h4, tk4, oI', rfl, rfl, hp4, hT', S4, l4⟩
      | cont =>
        subst hf
        have := (hB _ _ _ hp4).1
        exact ⟨B + 1 - (i + 1), by omega, i + 1, t ++ t', m4, mr4, H4, h4, tk4, oI', rfl, rfl, hp4, hT', S4, l4⟩
      | brk =>
        subst hf
        exact k (t ++ t') .next .next m4 mr4 H4 h4 tk4 hp4 rfl (S4.dropX) l4
      | ret v =>
        obtain ⟨vr', rfl, hv'⟩ := hf
        exact k (t ++ t') (.ret v) (.ret vr') m4 mr4 H4 h4 tk4 hp4 ⟨vr', rfl, hv'⟩ (S4.dropX) l4
    · exact Kx.addX (c := c) (p := (I, oI')) fun t' C as e m' mr' H' h' tk hX hF hL => kx1 t' C as e m' mr' H' h' tk hX hF hL
  · intro h2 tk2 hi hkeep
    refine wpAny_execs_nil ?_
    have S2 : St c mr1 (ρ ++ t) H1 h2 := S1.endX hkeep
    exact k t .next .next m1 mr1 H1 h2 tk2 (done i m1 H1 hJ hi) rfl S2 l1
end
section
variable {c : Cx} {m : ML} {H : MH} {G : Gx} {d : Nat}
noncomputable def itemL (a : Nat) (i : Nat) (H : MH) : Option MV := match H[a]? with
  | some (.list xs) => xs[i]?
  | _ => none
theorem NX.list {I l : Addr} {a : Nat} {ρ : List Addr} (hh : c.A.handled = none) (hl : ρ[a]? = some l) :
    NX c I (fun i o => o.cls = .type "list_iterator" ∧ o.data = .fields #[.ref l, .int i 0]) (fun H => ∃ xs, H[a]? = some (.list xs)) (itemL a) ρ := by
  rintro i oI mr t H s Q E ⟨hc, hd⟩ ⟨xs, ha⟩ S k1 k2
  obtain ⟨vs, ep, hvs, No⟩ := S.list ha (get_mono hl)
  have hit : s.heap.IsListIter I l i := ⟨oI, S.itr.1, hc, hd⟩
  have L := isList_of No
  have hitem : itemL a i H = xs[i]? := by unfold itemL; rw [ha]
  cases hx : xs[i]? with
  | some mv =>
    obtain ⟨vr, e1, e2⟩ := hvs.get hx
    refine wpAny_pyNext_list_item hit L (x := vr) (by simpa using e1) fun h' hit' hs' => ?_
    obtain ⟨o', ho', hc', hd'⟩ := hit'
    exact k1 mv vr o' h' s.toks (hitem.trans hx) e2 ⟨hc', hd'⟩ ho' fun b o hb e => (hs'.2 b hb).trans e
  | none =>
    have hn : vs.toArray[i]? = none := by
      have : xs.length ≤ i := List.getElem?_eq_none_iff.mp hx
      simp only [List.getElem?_toArray]
      exact List.getElem?_eq_none_iff.mpr (by rw [hvs.length]; exact this)
    exact wpAny_pyNext_list_end hh hit L hn fun h' he' => k2 h' s.toks (hitem.trans hx) fun b o hb e => he' b o hb e
theorem and4 {a b c d : Bool} (h : (a && b && c && d) = true) : a = true ∧ b = true ∧ c = true ∧ d = true := ⟨(and3 (and2 h).1).1, (and3 (and2 h).1).2.1, (and3 (and2 h).1).2.2, (and2 h).2⟩
theorem ne_of {is : List Nat} (h : (!is.isEmpty) = true) : is.isEmpty = false := by simpa using h
theorem folded_of {nm : List Str} {sc : Scope} {a : CE} {e : PySem.Expr} {env : Env} (h : wfE a nm sc e = true) (v : Value) : foldedSetIterable (reE a nm e) env v = pure v := by
  cases a with
  | tst t => have h2 := tst_of h; cases t <;> first | rfl | cases h2
  | _ => rfl
theorem TS.forL (ok : Ok G c d) (hfm : c.fm = none) {is : List Nat} {it : CE} {b : CSs} {post : Fl → ML → MH → Prop}
    (h : TE c m it H (fun l H1 => ∃ a, l = .ref a ∧ ∃ (J : Nat → ML → MH → Prop) (B : Nat), J 0 m H1 ∧ (∀ i m2 H2, J i m2 H2 → i ≤ B ∧ ∃ xs, H2[a]? = some (.list xs)) ∧
      (∀ i m1 H2 v xt, J i m1 H2 → itemL a i H2 = some v → ∃ vs, Parts H2 is v vs ∧ TB (c.wx xt) (setAll is vs m1) b H2 (fun f m2 H3 => match f with
        | .next => J (i + 1) m2 H3
        | .cont => J (i + 1) m2 H3
        | .brk => post .next m2 H3
        | .ret v => post (.ret v) m2 H3)) ∧
      (∀ i m1 H2, J i m1 H2 → itemL a i H2 = none → post .next m1 H2))) : TS c m (.for is it b) H post := by
  intro st hs
  obtain ⟨h0, h1, h2, h3⟩ := and4 hs
  have h0 := ne_of h0
  intro mr ρ s Q E S lr k kx
  refine wpAny_For ?_ (folded_of h2)
  refine h _ h2 mr ρ s _ E S lr ?_ kx
  rintro t l lv H1 hp1 tk1 ⟨a, rfl, J, B, hJ0, hJ, turn, done⟩ hl S1
  obtain ⟨y, hy, rfl⟩ := hl
  obtain ⟨xs, ha⟩ := (hJ 0 m H1 hJ0).2
  obtain ⟨vs, ep, hvs, No⟩ := S1.list ha hy
  refine wpAny_pyIter_list (isList_of No) ?_
  refine forCore ok hfm h0 h1 h3 (NX.list ok.hh hy) (fun i o hT => ⟨_, _, hT.1, hT.2, rfl⟩) J B hJ0 hJ turn done (mr := mr) ⟨rfl, rfl⟩ (S1.addX rfl) lr.mono ?_ kx.mono
  intro t' f fr m' mr' H' h' tk hp hf S' l'
  rw [List.append_assoc] at hf S' l'
  exact k (t ++ t') f fr m' mr' H' h' tk hp hf S' l'
theorem TS.forL' (ok : Ok G c d) (hfm : c.fm = none) {is : List Nat} {it : CE} {b : CSs} {post : Fl → ML → MH → Prop}
    (h : TE c m it H (fun l H1 => ∃ a xs, l = .ref a ∧ H1[a]? = some (.list xs) ∧ ∃ (J : Nat → ML → MH → Prop), J 0 m H1 ∧ (∀ i m2 H2, J i m2 H2 → H2[a]? = some (.list xs)) ∧
      (∀ i m1 H2 v xt, J i m1 H2 → xs[i]? = some v → ∃ vs, Parts H2 is v vs ∧ TB (c.wx xt) (setAll is vs m1) b H2 (fun f m2 H3 => match f with
        | .next => J (i + 1) m2 H3
        | .cont => J (i + 1) m2 H3
        | .brk => post .next m2 H3
        | .ret v => post (.ret v) m2 H3)) ∧
      (∀ m1 H2, J xs.length m1 H2 → post .next m1 H2))) : TS c m (.for is it b) H post := by
  refine TS.forL ok hfm (h.mono fun l H1 h1 => ?_)
  obtain ⟨a, xs, rfl, ha, J, h0, hJ, turn, done⟩ := h1
  refine ⟨a, rfl, fun i m2 H2 => i ≤ xs.length ∧ J i m2 H2, xs.length, ⟨Nat.zero_le _, h0⟩, fun i m2 H2 q => ⟨q.1, xs, hJ i m2 H2 q.2⟩, ?_, ?_⟩
  · intro i m1 H2 v xt q hi
    have hx : xs[i]? = some v := by unfold itemL at hi; rw [hJ i m1 H2 q.2] at hi; exact hi
    have hlt := (List.getElem?_eq_some_iff.mp hx).1
    obtain ⟨vs, hp, ht⟩ := turn i m1 H2 v xt q.2 hx
    refine ⟨vs, hp, ht.mono fun f m2 H3 hf => ?_⟩
    cases f with
    | next => exact ⟨hlt, hf⟩
    | cont => exact ⟨hlt, hf⟩
    | brk => exact hf
    | ret v => exact hf
  · intro i m1 H2 q hi
    have hx : xs[i]? = none := by unfold itemL at hi; rw [hJ i m1 H2 q.2] at hi; exact hi
    have : i = xs.length := Nat.le_antisymm q.1 (List.getElem?_eq_none_iff.mp hx)
    exact done m1 H2 (this ▸ q.2)
noncomputable def itemR (a b : Int) (i : Nat) (_ : MH) : Option MV := if a + i < b then some (.int (a + i)) else none
theorem NX.range {I : Addr} {a b : Int} {ρ : List Addr} (hh : c.A.handled = none) :
    NX c I (fun i o => o = { cls := .type "range_iterator", data := .fields #[rawInt (a + i), rawInt (((b - a).toNat : Int) - i), rawInt 1] }) (fun _ => True) (itemR a b) ρ := by
  rintro i oI mr t H s Q E rfl _ S k1 k2
  have hI : IsRangeIter s.heap I (a + i) (((b - a).toNat : Int) - i) 1 := S.itr.1
  by_cases hlt : a + i < b
  · refine wpAny_pyNext_range_item hI (by omega) fun h' hit' hs' => ?_
    refine k1 (.int (a + i)) (.int (a + i) s.toks) _ h' _ (by unfold itemR; rw [if_pos hlt]) ⟨_, rfl⟩ ?_ hit' fun b o hb e => (hs'.2 b hb).trans e
    have e1 : a + (i : Int) + 1 = a + ((i + 1 : Nat) : Int) := by omega
    have e2 : ((b - a).toNat : Int) - (i : Int) - 1 = ((b - a).toNat : Int) - ((i + 1 : Nat) : Int) := by omega
    rw [e1, e2]
  · exact wpAny_pyNext_range_end hh hI (by omega) fun h' he' => k2 h' s.toks (by unfold itemR; rw [if_neg hlt]) fun b o hb e => he' b o hb e
noncomputable def Rng (vs : List MV) (a b : Int) : Prop := ((vs = [.int b] ∧ a = 0) ∨ vs = [.int a, .int b]) ∧ -(2 ^ 62) ≤ a ∧ a < 2 ^ 62 ∧ -(2 ^ 62) ≤ b ∧ b < 2 ^ 62
theorem call_range {mr : Str → Option Value} {ρ : List Addr} {s : Shared} {vs : List MV} {vrs : List Value} {a b : Int} {Q E} (S : St c mr ρ H s.heap) (hr : Rng vs a b) (hv : VRs ρ vs vrs)
    (k : ∀ h' tk t₁ u₁ v₁, IsRange h' s.heap.objs.size a b 1 t₁ u₁ v₁ → St c mr ρ H h' → s.heap.objs.size < h'.objs.size → Q (.ref s.heap.objs.size) { s with heap := h', toks := tk }) :
    wpAny (model c.prog c.w) c.A (call (.type "range") vrs) Q E s := by
  obtain ⟨ml, xs, ⟨F, os, a1, a2, a3, N, a5⟩, back⟩ := S.open
  obtain ⟨hvs, _⟩ := hr
  have hlt : ∀ h' t₁ u₁ v₁, IsRange h' s.heap.objs.size a b 1 t₁ u₁ v₁ → s.heap.objs.size < h'.objs.size := fun h' t₁ u₁ v₁ hr => by
    unfold IsRange at hr
    exact Heap.lt_size hr
  rcases hvs with ⟨rfl, rfl⟩ | rfl
  · obtain ⟨v, r, rfl, ⟨tt, rfl⟩, hr⟩ := hv
    have hr' : r = [] := hr
    subst hr'
    exact range1_rows F N fun h' tk t₁ u₁ v₁ hr _ _ hkeep => k h' tk t₁ u₁ v₁ hr (S.grow hkeep) (hlt _ _ _ _ hr)
  · obtain ⟨v, r, rfl, ⟨tt, rfl⟩, v2, r2, rfl, ⟨uu, rfl⟩, hr⟩ := hv
    have hr' : r2 = [] := hr
    subst hr'
    exact range2_rows F N fun h' tk t₁ u₁ v₁ hr _ _ hkeep => k h' tk t₁ u₁ v₁ hr (S.grow hkeep) (hlt _ _ _ _ hr)
theorem callType (ok : Ok G c d) {g : Str} {T : String} {as : CEs} {e : PySem.Expr} (hg : nsIn G.K mainGlobals g = some Option.none) (hb : bootBuiltins g = some (.type T)) (hn : g ≠ "__name__")
    (he : wfE (.call g as) c.nm c.sc e = true) (hne : as ≠ .nil) {mr : Str → Option Value} {ρ : List Addr} {s : Shared} {Q : Value → Shared → Prop} {E : Value → Shared → Prop} {p : List MV → MH → Prop} (S : St c mr ρ H s.heap) (l : LR mr c.nm ρ m) (kx : Kx c ρ s E)
    (h : TEs c m as H p) (k : ∀ t vs vrs H' h' tk, p vs H' → VRs (ρ ++ t) vs vrs → St c mr (ρ ++ t) H' h' → wpAny (model c.prog c.w) c.A (call (.type T) vrs) Q E { s with heap := h', toks := tk }) :
    wpAny (model c.prog c.w) c.A (eval (reE (.call g as) c.nm e) c.env) Q E s := by
  obtain ⟨h2, h3⟩ := and2 he
  refine Call_ ?_ rfl
  refine nameB ok S h2 hg hb hn ?_
  cases as with
  | nil => exact absurd rfl hne
  | cons a r =>
    have h4 := and2 h3
    refine PyProof.Rows.callWith_type1 ?_ (star_cons (star_re h4.1)) (star_plain h4.2)
    refine h _ _ h3 mr ρ s _ E S l ?_ kx
    intro t vs vrs H' h' tk hp hv S'
    exact k t vs vrs H' h' tk hp hv S'
theorem callBuiltin (ok : Ok G c d) {g : Str} {T : String} {as : CEs} {e : PySem.Expr} (hg : nsIn G.K mainGlobals g = some Option.none) (hb : bootBuiltins g = some (.builtin T)) (hn : g ≠ "__name__")
    (he : wfE (.call g as) c.nm c.sc e = true) (hne : as ≠ .nil) {mr : Str → Option Value} {ρ : List Addr} {s : Shared} {Q : Value → Shared → Prop} {E : Value → Shared → Prop} {p : List MV → MH → Prop} (S : St c mr ρ H s.heap) (l : LR mr c.nm ρ m) (kx : Kx c ρ s E)
    (h : TEs c m as H p) (k : ∀ t vs vrs H' h' tk, p vs H' → VRs (ρ ++ t) vs vrs → St c mr (ρ ++ t) H' h' → wpAny (model c.prog c.w) c.A (call (.builtin T) vrs) Q E { s with heap := h', toks := tk }) :
    wpAny (model c.prog c.w) c.A (eval (reE (.call g as) c.nm e) c.env) Q E s := by
  obtain ⟨h2, h3⟩ := and2 he
  refine Call_ ?_ rfl
  refine nameB ok S h2 hg hb hn ?_
  cases as with
  | nil => exact absurd rfl hne
  | cons a r =>
    have h4 := and2 h3
    refine PyProof.Rows.callWith_builtin1 ?_ (star_cons (star_re h4.1)) (star_plain h4.2)
    refine h _ _ h3 mr ρ s _ E S l ?_ kx
    intro t vs vrs H' h' tk hp hv S'
    exact k t vs vrs H' h' tk hp hv S'
theorem TS.forR (ok : Ok G c d) (hfm : c.fm = none) (hg : nsIn G.K mainGlobals "range" = some none) {is : List Nat} {as : CEs} {b : CSs} {post : Fl → ML → MH → Prop} (hne : as ≠ .nil)
    (h : TEs c m as H (fun vs H1 => ∃ a b', Rng vs a b' ∧ ∃ (J : Nat → ML → MH → Prop), J 0 m H1 ∧
      (∀ i m1 H2 xt, J i m1 H2 → a + i < b' → TB (c.wx xt) (setAll is [.int (a + i)] m1) b H2 (fun f m2 H3 => match f with
        | .next => J (i + 1) m2 H3
        | .cont => J (i + 1) m2 H3
        | .brk => post .next m2 H3
        | .ret v => post (.ret v) m2 H3)) ∧
      (∀ m1 H2, J (b' - a).toNat m1 H2 → post .next m1 H2))) (h1i : ∃ i, is = [i]) : TS c m (.for is (.call "range" as) b) H post := by
  obtain ⟨i0, rfl⟩ := h1i
  intro st hs
  obtain ⟨h0, h1, h2, h3⟩ := and4 hs
  have h0 := ne_of h0
  intro mr ρ s Q E S lr k kx
  refine wpAny_For ?_ (folded_of h2)
  refine callType ok (T := "range") hg boot_range (by decide) h2 hne S lr kx h ?_
  rintro t vs vrs H1 hp1 tk1 ⟨a, b', hr, J, hJ0, turn, done⟩ hv S1
  refine call_range S1 hr hv ?_
  intro h' tk t₁ u₁ v₁ hR S2 _
  refine wpAny_pyIter_range hR (small_one hr.2.1 hr.2.2.1 hr.2.2.2.1 hr.2.2.2.2) ?_
  refine forCore (post := post) ok hfm h0 h1 h3 (NX.range (a := a) (b := b') ok.hh) (fun i o hT => by subst hT; exact ⟨_, _, rfl, rfl, rfl⟩) (fun i m2 H2 => i ≤ (b' - a).toNat ∧ J i m2 H2) (b' - a).toNat ⟨Nat.zero_le _, hJ0⟩ (fun i m2 H2 q => ⟨q.1, trivial⟩) ?_ ?_ (mr := mr) ?_ (S2.addX rfl) lr.mono ?_ kx.mono
  · intro i m1 H2 v xt q hi
    unfold itemR at hi
    split at hi
    · rename_i hlt
      cases hi
      refine ⟨_, rfl, (turn i m1 H2 xt q.2 hlt).mono fun f m2 H3 hf => ?_⟩
      cases f with
      | next => exact ⟨by omega, hf⟩
      | cont => exact ⟨by omega, hf⟩
      | brk => exact hf
      | ret v => exact hf
    · cases hi
  · intro i m1 H2 q hi
    unfold itemR at hi
    split at hi
    · cases hi
    · rename_i hge
      have : i = (b' - a).toNat := by have := q.1; omega
      exact done m1 H2 (this ▸ q.2)
  · rw [rangeSize_nat]
    simp
  · intro t' f fr m' mr' H' h'' tk' hp hf S' l'
    rw [List.append_assoc] at hf S' l'
    exact k (t ++ t') f fr m' mr' H' h'' tk' hp hf S' l'
theorem TEs.one {a : CE} {p : MV → MH → Prop} (h : TE c m a H p) : TEs c m (.cons a .nil) H (fun vs H1 => ∃ v, vs = [v] ∧ p v H1) := TEs.cons (h.mono fun v H1 h1 => TEs.nil ⟨v, rfl, h1⟩)
theorem NX.rev {I l : Addr} {a : Nat} {xs : List MV} {ρ : List Addr} (hh : c.A.handled = none) (hl : ρ[a]? = some l) :
    NX c I (fun i o => o.cls = .type "list_reverseiterator" ∧ o.data = .fields #[.ref l, rawInt ((xs.length : Int) - 1 - i)] ∧ i ≤ xs.length) (fun H => H[a]? = some (.list xs)) (fun i _ => xs.reverse[i]?) ρ := by
  rintro i oI mr t H s Q E ⟨hc, hd, hle⟩ ha S k1 k2
  obtain ⟨vs, ep, hvs, No⟩ := S.list ha (get_mono hl)
  have hI := S.itr.1
  have L := isList_of No
  by_cases hlt : i < xs.length
  · have hx : xs.reverse[i]? = some (xs[xs.length - 1 - i]'(by omega)) := by
      rw [List.getElem?_reverse hlt]
      exact List.getElem?_eq_getElem (by omega)
    have hx' : xs[xs.length - 1 - i]? = some (xs[xs.length - 1 - i]'(by omega)) := List.getElem?_eq_getElem (by omega)
    obtain ⟨vr, e1, e2⟩ := hvs.get hx'
    have e0 : (xs.length : Int) - 1 - i = ((xs.length - 1 - i : Nat) : Int) := by omega
    have hit : s.heap.IsRevIter I l ((xs.length - 1 - i : Nat) : Int) := ⟨oI, hI, hc, by rw [hd, e0]⟩
    refine wpAny_pyNext_rev_item hit L (x := vr) (by simpa using e1) fun h' hit' hs' => ?_
    obtain ⟨o', ho', hc', hd'⟩ := hit'
    refine k1 _ vr o' h' s.toks hx e2 ⟨hc', ?_, hlt⟩ ho' fun b o hb e => (hs'.2 b hb).trans e
    rw [hd']
    have e3 : ((xs.length - 1 - i : Nat) : Int) - 1 = (xs.length : Int) - 1 - ((i + 1 : Nat) : Int) := by omega
    rw [e3]
  · have e0 : (xs.length : Int) - 1 - i = -1 := by omega
    have hit : s.heap.IsRevIter I l (-1) := ⟨oI, hI, hc, by rw [hd, e0]⟩
    refine wpAny_pyNext_rev_end hh hit fun h' he' => k2 h' s.toks ?_ fun b o hb e => he' b o hb e
    exact List.getElem?_eq_none_iff.mpr (by rw [List.length_reverse]; omega)
theorem TS.forRev (ok : Ok G c d) (hfm : c.fm = none) (hg : nsIn G.K mainGlobals "reversed" = some none) {is : List Nat} {x : CE} {b : CSs} {post : Fl → ML → MH → Prop}
    (h : TE c m x H (fun v H1 => ∃ a xs, v = .ref a ∧ H1[a]? = some (.list xs) ∧ ∃ (J : Nat → ML → MH → Prop), J 0 m H1 ∧ (∀ i m2 H2, J i m2 H2 → H2[a]? = some (.list xs)) ∧
      (∀ i m1 H2 v xt, J i m1 H2 → xs.reverse[i]? = some v → ∃ vs, Parts H2 is v vs ∧ TB (c.wx xt) (setAll is vs m1) b H2 (fun f m2 H3 => match f with
        | .next => J (i + 1) m2 H3
        | .cont => J (i + 1) m2 H3
        | .brk => post .next m2 H3
        | .ret v => post (.ret v) m2 H3)) ∧
      (∀ m1 H2, J xs.length m1 H2 → post .next m1 H2))) : TS c m (.for is (.call "reversed" (.cons x .nil)) b) H post := by
  intro st hs
  obtain ⟨h0, h1, h2, h3⟩ := and4 hs
  have h0 := ne_of h0
  intro mr ρ s Q E S lr k kx
  refine wpAny_For ?_ (folded_of h2)
  refine callType ok (T := "reversed") hg boot_reversed (by decide) h2 (by intro q; cases q) S lr kx (TEs.one h) ?_
  rintro t vs vrs H1 hp1 tk1 ⟨v, rfl, a, xs, rfl, ha, J, hJ0, hJ, turn, done⟩ ⟨vr, r, rfl, ⟨y, hy, rfl⟩, hr⟩ S1
  have hr' : r = [] := hr
  subst hr'
  obtain ⟨ws, ep, hws, No⟩ := S1.list ha hy
  have hlen : ws.toArray.size = xs.length := by rw [List.size_toArray, hws.length]
  refine call_reversed_list (isList_of No) ?_
  have S2 := S1.addX (o := revObj y ((ws.toArray.size : Int) - 1)) rfl
  refine wpAny_pyIter_revIter ⟨_, Heap.get?_push_size _ rfl, rfl, rfl⟩ ?_
  refine forCore (post := post) ok hfm h0 h1 h3 (NX.rev (xs := xs) ok.hh hy) (fun i o hT => ⟨_, _, hT.1, hT.2.1, rfl⟩) (fun i m2 H2 => i ≤ xs.length ∧ J i m2 H2) xs.length ⟨Nat.zero_le _, hJ0⟩ (fun i m2 H2 q => ⟨q.1, hJ i m2 H2 q.2⟩) ?_ ?_ (mr := mr) ⟨rfl, ?_, Nat.zero_le _⟩ S2 lr.mono ?_ kx.mono
  · intro i m1 H2 v xt q hi
    have hlt := (List.getElem?_eq_some_iff.mp hi).1
    rw [List.length_reverse] at hlt
    obtain ⟨vs, hp, ht⟩ := turn i m1 H2 v xt q.2 hi
    refine ⟨vs, hp, ht.mono fun f m2 H3 hf => ?_⟩
    cases f with
    | next => exact ⟨hlt, hf⟩
    | cont => exact ⟨hlt, hf⟩
    | brk => exact hf
    | ret v => exact hf
  · intro i m1 H2 q hi
    have h5 := List.getElem?_eq_none_iff.mp hi
    rw [List.length_reverse] at h5
    have : i = xs.length := Nat.le_antisymm q.1 h5
    exact done m1 H2 (this ▸ q.2)
  · show Data.fields #[.ref y, rawInt ((ws.toArray.size : Int) - 1)] = _
    rw [hlen]
    simp
  · intro t' f fr m' mr' H' h'' tk' hp hf S' l'
    rw [List.append_assoc] at hf S' l'
    exact k (t ++ t') f fr m' mr' H' h'' tk' hp hf S' l'
end
theorem Ok.le {G : Gx} {c : Cx} {d d' : Nat} (h : d ≤ d') (ok : Ok G c d') : Ok G c d :=
  ⟨ok.frames, ok.kin, ok.top, ok.hh, by have := ok.dep; omega, by have := ok.uni; omega, ok.fn, ok.gl, ok.bi, ok.ap, ok.kd, ok.fs, ok.ex⟩
theorem CL.le {G : Gx} {prog : Program} {w : World} {d d' : Nat} {f : Addr} {args : List MV} {H : MH} {p : MV → MH → Prop} {xp : Addr → List MV → MH → Prop} (h : d ≤ d') (q : CL G prog w d f args H p xp) : CL G prog w d' f args H p xp :=
  fun c mr ρ s Q E vs e1 e2 ok S l k kx => q c mr ρ s Q E vs e1 e2 (ok.le h) S l k kx
structure GFn (G : Gx) (g : Str) (f : Addr) : Prop where
  ns : nsIn G.K mainGlobals g = some (some (.ref f))
  keep : keepIn G.K (.ref f) = true
structure GCls (G : Gx) (g : Str) (C fI : Addr) : Prop extends GFn G g C where
  makes : makesIn G.K C = true
  init : findIn G.K (.ref C) "__init__" = some (some (.ref fI))
  fn : isFn G.K (.ref fI) = true
structure GAtt (G : Gx) (C : Addr) (name : Str) : Prop where
  plain : plainGet G.K C name = true
  dict : hasDictIn G.K C = true
  find : findIn G.K (.ref C) name = some none
structure GSto (G : Gx) (C : Addr) (name : Str) : Prop where
  set : findIn G.K (.ref C) "__setattr__" = some (some (.builtin "object.__setattr__"))
  over : plainOver G.K C = true
  taker : takerIn G.K C name = some none
  dict : hasDictIn G.K C = true
structure GMth (G : Gx) (C : Addr) (name : Str) (f : Addr) : Prop where
  plain : plainGet G.K C name = true
  find : findIn G.K (.ref C) name = some (some (.ref f))
  fn : isFn G.K (.ref f) = true
  keep : keepIn G.K (.ref f) = true
noncomputable def GDef (G : Gx) (f : Addr) (names nm : List Str) (b : CSs) (dm : List MV) : Prop :=
  ∃ (name qual : Str) (params : Arguments) (body : List Stmt) (scope : Scope) (dV kV doc pm cdv ct oc : Value) (an od : Option Addr) (osl : Array (Option Value)) (dv : List Value),
    G.K.lookup f = some ⟨oc, od, .func (fnOf name qual params body scope dV kV doc pm an cdv ct), osl⟩ ∧ codeIn G.K cdv qual = true ∧
    (∀ (s : Shared) (vs : List Value), G.K.In s.heap → vs.length + dm.length = names.length → BindsTo s (fnOf name qual params body scope dV kV doc pm an cdv ct) ⟨vs, []⟩ (names.zip (vs ++ dv))) ∧
    VRs [] dm dv ∧ fnb scope names nm = true ∧ wfSs b nm scope body = true ∧ reSs b nm body = body
theorem GDef.cl {G : Gx} {prog : Program} {w : World} {d : Nat} {f : Addr} {names nm : List Str} {b : CSs} {dm args : List MV} {H : MH} {post : MV → MH → Prop} {xp : Addr → List MV → MH → Prop}
    (D : GDef G f names nm b dm) (hl : args.length + dm.length = names.length)
    (h : ∀ c : Cx, c.prog = prog → c.w = w → Ok G c d → c.fm = none → interactive c.env = false → c.nm = nm → c.X = (fun C as _ H => xp C as H) → TB c (start nm (args ++ dm)) b H (fun fl _ H' => post (retv fl) H')) :
    CL G prog w (d + 1) f args H post xp := by
  obtain ⟨name, qual, params, body, scope, dV, kV, doc, pm, cdv, ct, oc, an, od, osl, dv, h1, h2, h3, h4, h5, h6, h7⟩ := D
  refine CL.body (names := names) (nm := nm) h1 h2 (fun s vs X hv => h3 s vs X (by rw [hv]; exact hl)) h4 (by rw [List.length_append]; exact hl) h5 ?_
  intro c e1 e2 ok e3 e4 e5 e6
  have hb := h c e1 e2 ok e3 ?_ e4 e6 body (by rw [e4, e5]; exact h6)
  · rw [e4, h7] at hb
    exact hb
  have := ok.fn
  unfold interactive
  rw [this]
  rfl
section
variable {c : Cx} {m : ML} {H : MH} {G : Gx} {d : Nat}
theorem runCL {f : Addr} {vs : List MV} {vrs : List Value} {mr : Str → Option Value} {ρ t : List Addr} {s : Shared} {Q : Value → Shared → Prop} {E : Value → Shared → Prop} {H1 : MH} {h1 : Heap} {tk1 : Nat} {post : MV → MH → Prop} (ok : Ok G c d)
    (hcl : CL G c.prog c.w d f vs H1 post (fun C as H' => c.X C as m H')) (S1 : St c mr (ρ ++ t) H1 h1) (hvs : VRs (ρ ++ t) vs vrs) (l : LR mr c.nm ρ m)
    (k : ∀ t v vr H' h' tk, post v H' → VR (ρ ++ t) v vr → St c mr (ρ ++ t) H' h' → Q vr { s with heap := h', toks := tk }) (kx : Kx c ρ s E) :
    wpAny (model c.prog c.w) c.A (call (.ref f) vrs) Q E { s with heap := h1, toks := tk1 } := by
  refine wpAny_call ?_
  refine hcl c mr (ρ ++ t) _ _ E vrs rfl rfl ok S1 hvs ?_ ?_
  · intro t' v vr H2 h2 tk2 hp hv S2
    rw [List.append_assoc] at hv S2
    exact k (t ++ t') v vr H2 h2 tk2 hp hv S2
  · intro t' C as e H2 h2 tk2 hx hF
    rw [List.append_assoc] at hF
    exact kx (t ++ t') C as e m mr H2 h2 tk2 hx hF l.mono
theorem TE.call (ok : Ok G c d) {g : Str} {f : Addr} {a : CE} {r : CEs} {post : MV → MH → Prop} (hg : GFn G g f) (h : TEs c m (.cons a r) H (fun vs H1 => CL G c.prog c.w d f vs H1 post (fun C as H' => c.X C as m H'))) : TE c m (.call g (.cons a r)) H post := by
  intro e he
  obtain ⟨h2, h3⟩ := and2 he
  intro mr ρ s Q E S l k kx
  refine Call_ ?_ rfl
  refine nameG ok S h2 hg.ns ?_
  have h4 := and2 h3
  refine callWith_K ok.kin hg.keep ?_ (star_cons (star_re h4.1)) (star_plain h4.2)
  refine h _ _ h3 mr ρ s _ E S l ?_ kx
  intro t vs vrs H1 h1 tk1 hcl hvs S1
  exact ⟨ok.kin.keeps S1.keep, runCL ok hcl S1 hvs l k kx⟩
theorem NR.find {P : Params} {ρ : List Addr} {x : Str} {mv : MV} : ∀ {fs : List (Str × MV)} {es : List DictEntry}, NR P ρ fs es → fs.lookup x = some mv →
    ∃ e : DictEntry, es.find? (·.key.isStr x) = some e ∧ VR ρ mv e.val
  | [], _, _, h => by simp at h
  | (y, m) :: fs, _, ⟨t, v, r, e, h1, h2⟩, h => by
    subst e
    by_cases hx : x = y
    · subst hx
      simp only [List.lookup, beq_self_eq_true] at h
      cases h
      exact ⟨⟨PyData.keyHash P x, .str x t, v⟩, by simp [List.find?, Value.isStr], h1⟩
    · have hb : (x == y) = false := by simpa using hx
      have hb' : (y == x) = false := by simpa using fun e => hx e.symm
      simp only [List.lookup, hb] at h
      obtain ⟨e, h3, h4⟩ := h2.find h
      exact ⟨e, by simp only [List.find?, Value.isStr, hb']; exact h3, h4⟩
theorem NR.get {P : Params} {ρ : List Addr} {x : Str} {mv : MV} {fs : List (Str × MV)} {es : List DictEntry} (h : NR P ρ fs es) (hx : fs.lookup x = some mv) :
    ∃ v, getL x es = some (some v) ∧ VR ρ mv v := by
  obtain ⟨e, h1, h2⟩ := h.find hx
  exact ⟨e.val, by unfold getL; rw [h1], h2⟩
theorem NR.miss {P : Params} {ρ : List Addr} {x : Str} : ∀ {fs : List (Str × MV)} {es : List DictEntry}, NR P ρ fs es → fs.lookup x = none → es.find? (·.key.isStr x) = none ∧ es.any (·.refKey) = false
  | [], _, h, _ => by rw [h]; exact ⟨rfl, rfl⟩
  | (y, m) :: fs, _, ⟨t, v, r, e, h1, h2⟩, h => by
    subst e
    by_cases hx : x = y
    · subst hx
      simp only [List.lookup, beq_self_eq_true] at h
      cases h
    · have hb : (x == y) = false := by simpa using hx
      have hb' : (y == x) = false := by simpa using fun e => hx e.symm
      simp only [List.lookup, hb] at h
      obtain ⟨h3, h4⟩ := h2.miss h
      refine ⟨by simp only [List.find?, Value.isStr, hb']; exact h3, ?_⟩
      rw [List.any_cons, h4, Bool.or_false]
      rfl
theorem NR.none' {P : Params} {ρ : List Addr} {x : Str} {fs : List (Str × MV)} {es : List DictEntry} (h : NR P ρ fs es) (hx : fs.lookup x = none) : getL x es = some none := by
  obtain ⟨h1, h2⟩ := h.miss hx
  unfold getL
  rw [h1]
  simp only [h2]
  rfl
theorem NR.length {P : Params} {ρ : List Addr} : ∀ {fs : List (Str × MV)} {es : List DictEntry}, NR P ρ fs es → es.length = fs.length
  | [], _, h => by rw [h]; rfl
  | (_, _) :: _, _, ⟨_, _, _, e, _, h2⟩ => by rw [e, List.length_cons, List.length_cons, h2.length]
noncomputable def putF (x : Str) (v : MV) : List (Str × MV) → List (Str × MV)
  | [] => [(x, v)]
  | p :: r => if p.1 = x then (x, v) :: r else p :: putF x v r
theorem NR.put {P : Params} {ρ : List Addr} {x : Str} {mv : MV} {v : Value} {t : Tok} (hv : VR ρ mv v) : ∀ {fs : List (Str × MV)} {es : List DictEntry}, NR P ρ fs es →
    NR P ρ (putF x mv fs) (putL x (PyData.keyHash P x) (.str x t) v es)
  | [], _, h => by
    rw [h]
    exact ⟨t, v, [], rfl, hv, rfl⟩
  | (y, m) :: fs, _, ⟨u, w, r, e, h1, h2⟩ => by
    subst e
    unfold putF putL
    by_cases hy : y = x
    · subst hy
      have hb : Value.isStr (.str y u) y = true := by simp [Value.isStr]
      simp only [hb, if_true]
      exact ⟨u, v, r, rfl, hv, h2⟩
    · have hb : Value.isStr (.str y u) x = false := by simpa [Value.isStr] using hy
      simp only [if_neg hy, hb, Bool.false_eq_true, if_false]
      exact ⟨u, w, _, rfl, h1, h2.put hv⟩
theorem NR.some {P : Params} {ρ : List Addr} {x : Str} {fs : List (Str × MV)} {es : List DictEntry} (h : NR P ρ fs es) : (getL x es).isSome = true := by
  cases hx : fs.lookup x with
  | none => rw [h.none' hx]; rfl
  | some v => obtain ⟨u, e, _⟩ := h.get hx; rw [e]; rfl
theorem putF_length (x : Str) (v : MV) : ∀ m : List (Str × MV), (putF x v m).length ≤ m.length + 1
  | [] => Nat.le_refl _
  | p :: r => by
    unfold putF
    split
    · simp
    · have := putF_length x v r
      simp only [List.length_cons]
      omega
theorem VR.handed {ρ : List Addr} {m : MV} {v : Value} (h : VR ρ m v) : handedIn v = true := by
  cases m with
  | none => rw [show v = .none from h]; rfl
  | bool b => rw [show v = .bool b from h]; rfl
  | int i => obtain ⟨t, rfl⟩ := h; rfl
  | str x => obtain ⟨t, rfl⟩ := h; rfl
  | ref a => obtain ⟨x, _, rfl⟩ := h; rfl
  | glob a => rw [show v = .ref a from h]; rfl
noncomputable def Ins (H : MH) (i : Nat) (C : Addr) (k : Nat) (fs : List (Str × MV)) : Prop := H[i]? = some (.inst C k) ∧ H[k]? = some (.ns fs)
theorem St.inst {mr : Str → Option Value} {ρ : List Addr} {h : Heap} (S : St c mr ρ H h) {i k : Nat} {C : Addr} {fs : List (Str × MV)} (hi : Ins H i C k fs) :
    ∃ x dx es n, ρ[i]? = some x ∧ ρ[k]? = some dx ∧ NR c.w.params ρ fs es ∧ InstAt h x (instObj C dx) C (some (dictOf es n)) ∧ h.get? dx = some (dictOf es n) := by
  obtain ⟨x, o, hx, ⟨dx, hdx, rfl⟩, Nx⟩ := S.get hi.1
  obtain ⟨dx', o', hdx', ⟨es, n, hes, rfl⟩, Nd⟩ := S.get hi.2
  rw [hdx] at hdx'
  cases hdx'
  exact ⟨x, dx, es, n, hx, hdx, hes, ⟨(Nx _ (.head _)).1, rfl, rfl, (Nd _ (.head _)).1⟩, (Nd _ (.head _)).1⟩
theorem base_of {o : PySem.Expr} {name : Str} {env : Env} {wh : Sem Value} (h : notSup o = true) : attributeBase o name env wh = wh := by
  unfold attributeBase
  split
  · rename_i id p pos
    cases h
  · rfl
theorem sup_re {a : CE} {nm : List Str} {sc : Scope} {e : PySem.Expr} (h : wfE a nm sc e = true) (hs : nsup a = true) : notSup (reE a nm e) = true := by
  cases a with
  | tst t => have h2 := tst_of h; cases t <;> first | rfl | cases h2
  | call g as => cases as <;> first | rfl | cases hs
  | _ => rfl
theorem TE.attr (ok : Ok G c d) {o : CE} {name : Str} {post : MV → MH → Prop}
    (h : TE c m o H (fun l H1 => ∃ a C k fs v, l = .ref a ∧ Ins H1 a C k fs ∧ fs.lookup name = some v ∧ GAtt G C name ∧ post v H1)) : TE c m (.attr o name) H post := by
  intro e he
  obtain ⟨h2', h3⟩ := and2 he
  have h2 := sup_re (nm := c.nm) (e := kid 0 e) h3 h2'
  let ob := reE o c.nm (kid 0 e)
  let pos := e.pos
  intro mr ρ s Q E S l k kx
  have hev : eval (.Attribute ob name pos) c.env = (do
    let o ← eval ob c.env
    standAt pos.atName
    let r ← holding [o] (getAttr o name true)
    letTemporaryGo ob o r
    pure r) := by
    show (do
      let o ← attributeBase ob name c.env (eval ob c.env)
      standAt pos.atName
      let r ← holding [o] (getAttr o name true)
      letTemporaryGo ob o r
      pure r) = _
    rw [base_of h2]
  refine Attribute_any_ ?_ hev
  refine h _ h3 mr ρ s _ E S l ?_ kx
  rintro t lv lr H1 h1 tk1 ⟨a, C, kk, fs, v, rfl, hi, hv, ga, hp⟩ ⟨x, hx, rfl⟩ S1
  obtain ⟨x', dx, es, n, hx', hdx, hes, I, _⟩ := S1.inst hi
  rw [hx] at hx'
  cases hx'
  obtain ⟨vr, hg, hvr⟩ := hes.get hv
  obtain ⟨ml, xs, led, _⟩ := S1.open
  exact get_own led.1 ok.kin I ga.plain ga.dict ga.find rfl hg hvr.handed (k t v vr H1 h1 _ hp hvr S1)
theorem star_all {nm : List Str} {sc : Scope} {pos : Pos} {env : Env} : ∀ {as : CEs} {es : List PySem.Expr}, wfEs as nm sc es = true → (backTo pos (starEach (reEs as nm es) env)).all (!·.1) = true
  | .nil, es, h => rfl
  | .cons a r, es, h => by
    have h := and2 h
    have := star_all (pos := pos) (env := env) h.2
    show (backTo pos (starEach (reE a nm (nth 0 es) :: reEs r nm es.tail) env)).all (!·.1) = true
    rw [star_cons (star_re h.1)]
    unfold backTo at this ⊢
    simp only [List.map_cons, List.all_cons, Bool.not_false, Bool.true_and]
    exact this
theorem len_re {nm : List Str} : ∀ (as : CEs) (es : List PySem.Expr), (reEs as nm es).length = lenEs as
  | .nil, _ => rfl
  | .cons a r, es => by
    show (reE a nm (nth 0 es) :: reEs r nm es.tail).length = lenEs r + 1
    rw [List.length_cons, len_re r]
theorem meth_eval {ob : PySem.Expr} {name : Str} {apos pos : Pos} {args : List PySem.Expr} {as : CEs} {es : List PySem.Expr} (ha : args = reEs as c.nm es) (h1 : notSup ob = true) (h2 : (apos.endLine == pos.line) = true) (h3 : args.length < 30) (h4 : wfEs as c.nm c.sc es = true) :
    eval (.Call (.Attribute ob name apos) args [] pos) c.env = (do
      let ov ← eval ob c.env
      standAt apos.atName
      let (f, first) ← holding [ov] (getMethod ov name (do return (← importBound ob c.env).getD true))
      callWith pos f first (backTo pos (starEach args c.env)) []) := by
  show (do
    let ov ← attributeBase ob name c.env (eval ob c.env)
    standAt apos.atName
    methodCall ob name apos pos c.env ov (args.length + 0) (backTo pos (starEach args c.env)) []) = _
  rw [base_of h1]
  have hf : methodCallForm (args.length + 0) (backTo pos (starEach args c.env)) [] = true := by
    unfold methodCallForm
    rw [ha, star_all h4, ← ha]
    simpa using h3
  unfold methodCall methodCallPos calleeOf
  simp only [hf, h2, Bool.not_true, Bool.false_or, if_true]
  rfl
end
section
variable {c : Cx} {m : ML} {H : MH} {G : Gx} {d : Nat}
noncomputable def MCall (c : Cx) (m : ML) (H : MH) (l : MV) (name : Str) (as : CEs) (post : MV → MH → Prop) : Prop :=
  ∀ (mr : Str → Option Value) (ρ : List Addr) (s : Shared) (Q : Value → Shared → Prop) (E : Value → Shared → Prop) (vr : Value) (pl : Sem Bool) (pos : Pos) (args : List PySem.Expr), St c mr ρ H s.heap → LR mr c.nm ρ m → VR ρ l vr →
    wfEs as c.nm c.sc args = true →
    (∀ t v vr H' h' tk, post v H' → VR (ρ ++ t) v vr → St c mr (ρ ++ t) H' h' → Q vr { s with heap := h', toks := tk }) → Kx c ρ s E →
    wpAny (model c.prog c.w) c.A (getMethod vr name pl) (fun fx s₂ => wpAny (model c.prog c.w) c.A (callWith pos fx.1 fx.2 (backTo pos (starEach (reEs as c.nm args) c.env)) []) Q E s₂) E s
theorem TE.mcall {o : CE} {name : Str} {as : CEs} {post : MV → MH → Prop} (h : TE c m o H (fun l H1 => MCall c m H1 l name as post)) : TE c m (.meth o name as) H post := by
  intro e he
  obtain ⟨he, h6⟩ := and2 he
  obtain ⟨h2, h3, h4, h5⟩ := and4 he
  intro mr ρ s Q E S l k kx
  refine MethodCall_ ?_ (meth_eval rfl (sup_re h5 h2) h3 (by rw [len_re]; exact of_decide_eq_true h4) h6)
  refine h _ h5 mr ρ s _ E S l ?_ kx
  intro t lv lr H1 hp1 tk1 hm hl S1
  refine hm mr (ρ ++ t) { s with heap := hp1, toks := tk1 } Q E lr _ e.pos (kids e).tail S1 l.mono hl h6 ?_ kx.mono
  intro t' v vr H2 h2 tk2 hp hv S2
  rw [List.append_assoc] at hv S2
  exact k (t ++ t') v vr H2 h2 tk2 hp hv S2
theorem MCall.own (ok : Ok G c d) {a : Nat} {C : Addr} {kk : Nat} {fs : List (Str × MV)} {name : Str} {f : Addr} {x : CE} {r : CEs} {post : MV → MH → Prop} (hi : Ins H a C kk fs) (hno : fs.lookup name = none) (gm : GMth G C name f)
    (h : TEs c m (.cons x r) H (fun vs H1 => CL G c.prog c.w d f (.ref a :: vs) H1 post (fun C as H' => c.X C as m H'))) : MCall c m H (.ref a) name (.cons x r) post := by
  rintro mr ρ s Q E _ pl pos args S l ⟨y, hy, rfl⟩ hes k kx
  obtain ⟨x', dx, ens, n, hx', hdx, hen, I, _⟩ := S.inst hi
  rw [hy] at hx'
  cases hx'
  obtain ⟨ml, xs, led, _⟩ := S.open
  refine method_inst led.1 ok.kin I gm.plain gm.find gm.fn (hen.none' hno) ?_
  have h4 := and2 hes
  refine callWith_K ok.kin gm.keep ?_ (star_cons (star_re h4.1)) (star_plain h4.2)
  refine h _ _ hes mr ρ s _ E S l ?_ kx
  intro t vs vrs H1 h1 tk1 hcl hvs S1
  refine ⟨ok.kin.keeps S1.keep, ?_⟩
  exact runCL ok hcl S1 ⟨_, _, rfl, VR.mono ⟨y, hy, rfl⟩, hvs⟩ l k kx
theorem TE.meth (ok : Ok G c d) {o : CE} {name : Str} {x : CE} {r : CEs} {post : MV → MH → Prop} (h : TE c m o H (fun l H1 => ∃ a C kk fs f, l = .ref a ∧ Ins H1 a C kk fs ∧ fs.lookup name = Option.none ∧ GMth G C name f ∧
      TEs c m (.cons x r) H1 (fun vs H2 => CL G c.prog c.w d f (.ref a :: vs) H2 post (fun C as H' => c.X C as m H')))) : TE c m (.meth o name (.cons x r)) H post :=
  TE.mcall (h.mono fun l H1 ⟨a, C, kk, fs, f, e, hi, hno, gm, hA⟩ => e ▸ MCall.own ok hi hno gm hA)
theorem TE.append {o x : CE} {post : MV → MH → Prop} (h : TE c m o H (fun l H1 => ∃ a xs, l = .ref a ∧ H1[a]? = some (.list xs) ∧
      TE c m x H1 (fun v H2 => ∃ ys, H2[a]? = some (.list ys) ∧ ys.length ≤ 1000000 ∧ post .none (H2.set a (.list (ys ++ [v])))))) : TE c m (.meth o "append" (.cons x .nil)) H post := by
  refine TE.mcall (h.mono ?_)
  rintro l H1 ⟨a, xs, rfl, ha, hx⟩ mr ρ s Q E _ pl pos args S lr ⟨y, hy, rfl⟩ hes k kx
  obtain ⟨vs, ep, hvs, No⟩ := S.list ha hy
  refine PySem.Calls.getMethod_list_append (No _ (.head _)).1 rfl rfl ?_
  have h4 := and2 hes
  refine callWith_method1 ?_ (star_cons (star_re h4.1)) (star_plain h4.2)
  refine (TEs.one hx) _ _ hes mr ρ s _ E S lr ?_ kx
  rintro t vs vrs H2 h2 tk2 ⟨v, rfl, ys, hy2, hsz, hp⟩ ⟨vr, r, rfl, hv, hr⟩ S2
  have hr' : r = [] := hr
  subst hr'
  obtain ⟨ws, ep2, hws, No2⟩ := S2.list hy2 (get_mono hy)
  refine append_at (No2 _ (.head _)).1 (fun h' hs' hg => ?_) (by rw [List.size_toArray, hws.length]; exact Nat.le_trans hsz (by decide))
  have S3 := S2.upd (o' := .list (ys ++ [v])) hy2 (get_mono hy) hs' hg ⟨ws ++ [vr], ep2 + 1, hws.append ⟨vr, [], rfl, hv, rfl⟩, by simp⟩
  exact k t .none .none _ h' tk2 hp rfl S3
theorem TE.pop {o : CE} {post : MV → MH → Prop} (h : TE c m o H (fun l H1 => ∃ a ys v, l = .ref a ∧ H1[a]? = some (.list (ys ++ [v])) ∧ ys.length ≤ 1000000 ∧ post v (H1.set a (.list ys)))) : TE c m (.meth o "pop" .nil) H post := by
  refine TE.mcall (h.mono ?_)
  rintro l H1 ⟨a, ys, v, rfl, ha, hsz, hp⟩ mr ρ s Q E _ pl pos args S lr ⟨y, hy, rfl⟩ hes k kx
  obtain ⟨vs, ep, hvs, No⟩ := S.list ha hy
  obtain ⟨ws, vr, rfl, hws, hvr⟩ := hvs.concat
  have ho := (No _ (.head _)).1
  refine getMethod_list_of PySem.F.slot_list_pop PySem.F.type_list_pop (isList_of No) ⟨_, ho, rfl⟩ ?_
  · refine callWith_method0 ?_
    have hz' : (ws ++ [vr]).toArray.size ≤ sizeLine := by
      rw [List.size_toArray, List.length_append, hws.length]
      exact Nat.le_trans (Nat.add_le_add_right hsz 1) (by decide)
    have hk : (ws ++ [vr]).toArray.size - 1 = ws.length := by rw [List.size_toArray, List.length_append]; rfl
    have hy' : (ws ++ [vr]).toArray[(ws ++ [vr]).toArray.size - 1]? = some vr := by rw [hk]; simp
    refine call_meets PySem.F.slot_list_pop ⟨_, ho, rfl⟩ PySem.F.entry_list_pop (PySem.F.args_list_pop_1 _) (PySem.MeetsSeq.list_pop_last y _ ep vr hy' hz') ⟨ho, ?_⟩
    have e : Obj.mapSeq (·.eraseIdxIfInBounds ((ws ++ [vr]).toArray.size - 1)) (listOf (ws ++ [vr]).toArray ep) = listOf ws.toArray (ep + 1) := by
      have e1 : (ws ++ [vr]).toArray.eraseIdxIfInBounds ((ws ++ [vr]).toArray.size - 1) = ws.toArray := by rw [hk, kl_erase, List.append_nil]
      simp only [Obj.mapSeq, e1]
      simp
    have S3 := S.upd (o' := .list ys) ha hy (Heap.SameBut.update ..) (h' := s.heap.update y (Obj.mapSeq (·.eraseIdxIfInBounds ((ws ++ [vr]).toArray.size - 1)))) (x' := listOf ws.toArray (ep + 1))
      (by rw [Heap.get?_update_self _ ho (by rw [e]; rfl)]; exact congrArg some e) ⟨ws, ep + 1, hws, rfl⟩
    exact k [] v vr _ _ _ hp (by rw [List.append_nil]; exact hvr) (nil_of S3)
theorem upd_mk {d : Addr} {o o' : Obj} {post : List (Addr × Obj)} (h2 : ∀ p ∈ post, p.1 ≠ d) : ∀ {pre : List (Addr × Obj)}, (∀ p ∈ pre, p.1 ≠ d) → Upd d o o' (pre ++ (d, o) :: post) (pre ++ (d, o') :: post)
  | [], _ => .head h2
  | p :: _, h => .tail (h p (.head _)) (upd_mk h2 fun q hq => h q (.tail _ hq))
theorem upd_zip {xt : List (Addr × Obj)} {ρ : List Addr} {os : List Obj} {i : Nat} {a : Addr} {x x' : Obj} (hn : (xt.map (·.1) ++ ρ).Nodup) (ha : ρ[i]? = some a) (hx : os[i]? = some x) :
    Upd a x x' (xt ++ ρ.zip os) (xt ++ ρ.zip (os.set i x')) := by
  rw [List.nodup_append] at hn
  obtain ⟨_, hn2, hn3⟩ := hn
  have key : ∀ (ρ : List Addr) (os : List Obj) (i : Nat), ρ.Nodup → ρ[i]? = some a → os[i]? = some x →
      ∃ pre post, ρ.zip os = pre ++ (a, x) :: post ∧ ρ.zip (os.set i x') = pre ++ (a, x') :: post ∧ (∀ p ∈ pre, p.1 ≠ a) ∧ ∀ p ∈ post, p.1 ≠ a := by
    intro ρ
    induction ρ with
    | nil => intro os i _ h; simp at h
    | cons b ρ ih =>
      intro os i hnd h1 h2
      cases os with
      | nil => simp at h2
      | cons y os =>
        cases i with
        | zero =>
          simp at h1 h2
          subst h1 h2
          refine ⟨[], ρ.zip os, rfl, rfl, ?_, ?_⟩
          · intro p hp
            cases hp
          · intro p hp e
            exact (List.nodup_cons.mp hnd).1 (e ▸ (List.of_mem_zip (show (p.1, p.2) ∈ _ from hp)).1)
        | succ i =>
          simp at h1 h2
          obtain ⟨pre, post, e1, e2, e3, e4⟩ := ih os i (List.nodup_cons.mp hnd).2 h1 h2
          refine ⟨(b, y) :: pre, post, by simp [e1], by simp [e2], ?_, e4⟩
          intro p hp
          rcases List.mem_cons.mp hp with rfl | hp
          · intro e
            exact (List.nodup_cons.mp hnd).1 (by rw [show b = a from e]; exact List.mem_of_getElem? h1)
          · exact e3 p hp
  obtain ⟨pre, post, e1, e2, e3, e4⟩ := key ρ os i hn2 ha hx
  rw [e1, e2, ← List.append_assoc, ← List.append_assoc]
  refine upd_mk e4 ?_
  intro p hp
  rcases List.mem_append.mp hp with hp | hp
  · exact fun e => hn3 p.1 (List.mem_map_of_mem hp) a (List.mem_of_getElem? ha) e
  · exact e3 p hp
theorem TS.setAttr (ok : Ok G c d) {o a : CE} {name : Str} {post : Fl → ML → MH → Prop} (h : TE c m a H (fun v H1 => TE c m o H1 (fun l H2 => ∃ x C kk fs, l = .ref x ∧ Ins H2 x C kk fs ∧ fs.length ≤ 900 ∧ GSto G C name ∧
      post .next m (H2.set kk (.ns (putF name v fs)))))) : TS c m (.setAttr o name a) H post := by
  intro st hs
  obtain ⟨h2, h3⟩ := and2 hs
  intro mr ρ s Q E S lr k kx
  refine plainObj_wpAny_Assign_Attribute ?_ swaps_attr
  refine h _ h3 mr ρ s _ E S lr ?_ kx
  intro t v vr H1 h1 tk1 h12 hv S1
  refine h12 _ h2 mr _ _ _ E S1 lr.mono ?_ kx.mono
  rintro t' l lv H2 h2 tk2 ⟨a, C, dd, fs, rfl, hi, hsz, gs, hp⟩ ⟨x, hx, rfl⟩ S2
  obtain ⟨x', dx, es, n, hx', hdx, hes, I, hdo⟩ := S2.inst hi
  rw [hx] at hx'
  cases hx'
  obtain ⟨ml, xs, ⟨F, os, a1, a2, a3, N, a5⟩, back⟩ := S2.open
  have hv' := hv.mono (t := t')
  obtain ⟨ob, hob, hor⟩ := a3 dd _ hi.2
  have hobe : ob = dictOf es n := by
    have h1 := (N _ (List.mem_append_right _ (mem_zip_of hdx hob))).1
    rw [hdo] at h1
    exact (Option.some.inj h1).symm
  subst hobe
  have hlen : (putL name (PyData.keyHash c.w.params name) (.str name (tk2 + 1)) vr es).length ≤ 1000 := by
    rw [(hes.put (x := name) (t := tk2 + 1) hv').length]
    have := putF_length name v fs
    omega
  refine set_dict F ok.kin N I rfl gs.set gs.over gs.taker gs.dict hes.some (e := rfl) (upd_zip a5 hdx hob) hlen ?_
  intro h' F' N'
  have hlt : dd < H2.length := (List.getElem?_eq_some_iff.mp hi.2).1
  have S3 : St c mr (ρ ++ t ++ t') (H2.set dd (.ns (putF name v fs))) h' := by
    refine back _ _ _ ⟨F', os.set dd _, by rw [List.length_set, List.length_set]; exact a1, by rw [List.length_set]; exact a2, ?_, N', a5⟩
    intro j o1 hj
    by_cases ej : dd = j
    · subst ej
      rw [List.getElem?_set_self hlt] at hj
      cases hj
      exact ⟨_, List.getElem?_set_self (by rw [a1]; exact hlt), _, _, hes.put hv', rfl⟩
    · rw [List.getElem?_set_ne ej] at hj
      obtain ⟨y, hy, hr⟩ := a3 j o1 hj
      exact ⟨y, by rw [List.getElem?_set_ne ej]; exact hy, hr⟩
  rw [List.append_assoc] at S3
  exact k (t ++ t') .next .next m mr _ h' (tk2 + 2) hp rfl S3 lr.mono
theorem TE.new (ok : Ok G c (d + 1)) {g : Str} {C fI : Addr} {a : CE} {r : CEs} {post : MV → MH → Prop} (hg : GCls G g C fI)
    (h : TEs c m (.cons a r) H (fun vs H1 => CL G c.prog c.w d fI (.ref (H1.length + 1) :: vs) (H1 ++ [.ns []] ++ [.inst C H1.length]) (fun v H2 => v = .none ∧ post (.ref (H1.length + 1)) H2) (fun C as H' => c.X C as m H'))) :
    TE c m (.call g (.cons a r)) H post := by
  intro e he
  obtain ⟨h2, h3⟩ := and2 he
  intro mr ρ s Q E S l k kx
  refine Call_ ?_ rfl
  refine nameG ok S h2 hg.ns ?_
  have h4 := and2 h3
  · skip
    refine callWith_K ok.kin hg.keep ?_ (star_cons (star_re h4.1)) (star_plain h4.2)
    refine h _ _ h3 mr ρ s _ E S l ?_ kx
    intro t vs vrs H1 h1 tk1 hcl hvs S1
    refine ⟨ok.kin.keeps S1.keep, ?_⟩
    obtain ⟨ml, xs, ⟨F, os, a1, a2, a3, N, a5⟩, back⟩ := S1.open
    refine call_cls F ok.kin N hg.makes hg.init hg.fn ?_
    intro x dx h' F' N' hlt hdx
    have N1 : News c.h₀ c.L h' ((dx, dictOf [] 0) :: (xs ++ (ρ ++ t).zip os)) := fun p hp => N' p (.tail _ hp)
    have SA : Led c.h₀ c.L c.prog c.w ml xs (ρ ++ t ++ [dx]) (H1 ++ [.ns []]) h' := Led.alloc a1 a2 a3 a5 F' N1 (fun p hp => Nat.ne_of_lt (hlt p hp)) ⟨[], 0, rfl, rfl⟩
    obtain ⟨_, os2, b1, b2, b3, NB, b5⟩ := id SA
    have NB' : News c.h₀ c.L h' ((x, instObj C dx) :: (xs ++ (ρ ++ t ++ [dx]).zip os2)) := fun p hp => by
      rcases List.mem_cons.mp hp with rfl | hp
      · exact N' _ (.head _)
      · exact NB p hp
    have hltx : ∀ p ∈ xs ++ (ρ ++ t ++ [dx]).zip os2, p.1 ≠ x := by
      intro p hp
      refine Nat.ne_of_lt ?_
      rcases List.mem_append.mp hp with hp | hp
      · exact Nat.lt_trans (hlt p (List.mem_append_left _ hp)) hdx
      · have hm := (List.of_mem_zip (show (p.1, p.2) ∈ _ from hp)).1
        rcases List.mem_append.mp hm with hm | hm
        · obtain ⟨i, hi, e⟩ := List.getElem_of_mem hm
          have hi' : i < os.length := by rw [a1, ← a2]; exact hi
          have := hlt ((ρ ++ t)[i], os[i]) (List.mem_append_right _ (mem_zip_of (List.getElem?_eq_getElem hi) (List.getElem?_eq_getElem hi')))
          rw [← e]
          exact Nat.lt_trans this hdx
        · rw [List.mem_singleton.mp hm]; exact hdx
    have SB := back _ _ _ (Led.alloc b1 b2 b3 b5 F' NB' hltx (o := .inst C H1.length) ⟨dx, get_mono (last_get a2), rfl⟩)
    have hself : (ρ ++ t ++ [dx] ++ [x])[H1.length + 1]? = some x := by
      have hl : (ρ ++ t ++ [dx]).length = H1.length + 1 := by rw [List.length_append, a2]; rfl
      rw [List.getElem?_append_right (by rw [hl]; exact Nat.le_refl _), hl, Nat.sub_self]; rfl
    let c' : Cx := { c with A := c.A.under (.builtin "type.__call__" ⟨.ref C :: vrs, []⟩) }
    have ok' : Ok G c' d := by
      refine ⟨ok.frames, ok.kin, ok.top, ok.hh, ?_, ?_, ok.fn, ok.gl, ok.bi, ok.ap, ok.kd, ok.fs, ok.ex⟩
      · have := ok.dep
        show c.A.depth + 1 + d < recursionLimit
        omega
      · have h9 := ok.uni
        have hu : (c.A.under (.builtin "type.__call__" ⟨.ref C :: vrs, []⟩)).units ≤ c.A.units + 8 := by
          show c.A.units + Code.cUnits _ ≤ c.A.units + 8
          exact Nat.add_le_add_left (Nat.le_of_ble_eq_true rfl) _
        show (c.A.under (.builtin "type.__call__" ⟨.ref C :: vrs, []⟩)).units + 8 * d + 64 < cLine
        omega
    have e0 : ∀ t', ρ ++ t ++ [dx] ++ [x] ++ t' = ρ ++ (t ++ ([dx] ++ ([x] ++ t'))) := fun t' => by simp only [List.append_assoc]
    refine codeAny_mono (hcl c' mr _ _ (fun v s' => v = .none ∧ Q (.ref x) s') E (.ref x :: vrs) rfl rfl ok' SB ⟨_, _, rfl, ⟨x, hself, rfl⟩, (hvs.mono).mono⟩ ?_ ?_) ?_
    · rintro t' v vr H2 h2 tk2 ⟨rfl, hp⟩ hv S2
      refine ⟨hv, ?_⟩
      have S2' : St c mr (ρ ++ t ++ [dx] ++ [x] ++ t') H2 h2 := S2
      rw [e0] at S2'
      refine k _ (.ref (H1.length + 1)) (.ref x) H2 h2 tk2 hp ⟨x, ?_, rfl⟩ S2'
      rw [← e0]
      exact get_mono hself
    · intro t' C' as e H2 h2 tk2 hx hF
      have hF' : Fly c mr (ρ ++ t ++ [dx] ++ [x] ++ t') H2 C' as e h2 := hF
      rw [e0] at hF'
      exact kx _ C' as e m mr H2 h2 tk2 hx hF' l.mono
    · intro r s' hr
      cases r with
      | error e => exact hr
      | ok f =>
        cases f with
        | ret v => exact hr
        | _ => exact hr
end
section
variable {c : Cx} {m : ML} {H : MH} {G : Gx} {d : Nat}
noncomputable def BC (c : Cx) (f : Value) (args : List MV) (H : MH) (post : MV → MH → Prop) : Prop :=
  ∀ (mr : Str → Option Value) (ρ : List Addr) (s : Shared) (Q : Value → Shared → Prop) (E : Value → Shared → Prop) (vs : List Value), St c mr ρ H s.heap → VRs ρ args vs →
    (∀ t v vr H' h' tk, post v H' → VR (ρ ++ t) v vr → St c mr (ρ ++ t) H' h' → Q vr { s with heap := h', toks := tk }) →
    wpAny (model c.prog c.w) c.A (PySem.call f vs) Q E s
theorem TE.bc (ok : Ok G c d) {g : Str} {T : String} {a : CE} {r : CEs} {post : MV → MH → Prop} (hg : nsIn G.K mainGlobals g = some Option.none) (hb : bootBuiltins g = some (.builtin T)) (hn : g ≠ "__name__")
    (h : TEs c m (.cons a r) H (fun vs H1 => BC c (.builtin T) vs H1 post)) : TE c m (.call g (.cons a r)) H post := by
  intro e he mr ρ s Q E S l k kx
  refine callBuiltin ok hg hb hn he (by intro q; cases q) S l kx h ?_
  intro t vs vrs H1 h1 tk1 hbc hv S1
  refine hbc mr (ρ ++ t) _ Q E vrs S1 hv ?_
  intro t' v vr H2 h2 tk2 hp hv S2
  rw [List.append_assoc] at hv S2
  exact k (t ++ t') v vr H2 h2 tk2 hp hv S2
theorem TE.tc (ok : Ok G c d) {g : Str} {T : String} {a : CE} {r : CEs} {post : MV → MH → Prop} (hg : nsIn G.K mainGlobals g = some Option.none) (hb : bootBuiltins g = some (.type T)) (hn : g ≠ "__name__")
    (h : TEs c m (.cons a r) H (fun vs H1 => BC c (.type T) vs H1 post)) : TE c m (.call g (.cons a r)) H post := by
  intro e he mr ρ s Q E S l k kx
  refine callType ok hg hb hn he (by intro q; cases q) S l kx h ?_
  intro t vs vrs H1 h1 tk1 hbc hv S1
  refine hbc mr (ρ ++ t) _ Q E vrs S1 hv ?_
  intro t' v vr H2 h2 tk2 hp hv S2
  rw [List.append_assoc] at hv S2
  exact k (t ++ t') v vr H2 h2 tk2 hp hv S2
theorem one_of {ρ : List Addr} {a : MV} {vs : List Value} (h : VRs ρ [a] vs) : ∃ v, vs = [v] ∧ VR ρ a v := by
  obtain ⟨v, r, rfl, h1, h2⟩ := h
  have : r = [] := h2
  subst this
  exact ⟨v, rfl, h1⟩
theorem two_of {ρ : List Addr} {a b : MV} {vs : List Value} (h : VRs ρ [a, b] vs) : ∃ v u, vs = [v, u] ∧ VR ρ a v ∧ VR ρ b u := by
  obtain ⟨v, r, rfl, h1, h2⟩ := h
  obtain ⟨u, rfl, h3⟩ := one_of h2
  exact ⟨v, u, rfl, h1, h3⟩
theorem BC.len {a : Nat} {xs : List MV} {post : MV → MH → Prop} (ha : H[a]? = some (.list xs)) (hsz : xs.length ≤ 1000000) (h : post (.int xs.length) H) : BC c (.builtin "len") [.ref a] H post := by
  intro mr ρ s Q E vs S hv k
  obtain ⟨v, rfl, x, hx, rfl⟩ := one_of hv
  obtain ⟨ws, ep, hws, No⟩ := S.list ha hx
  have hlen : ws.toArray.size = xs.length := by rw [List.size_toArray, hws.length]
  refine len_list (isList_of No) (by rw [hlen]; omega) ?_
  rw [hlen]
  exact k [] (.int xs.length) (.int xs.length (s.toks + 1)) H s.heap (s.toks + 1 + 1) h ⟨_, rfl⟩ (nil_of S)
theorem BC.lenG {a : Addr} {vs : List Value} {post : MV → MH → Prop} (hl : c.h₀.IsList a vs.toArray) (hsz : vs.length ≤ 1000000) (h : post (.int vs.length) H) : BC c (.builtin "len") [.glob a] H post := by
  intro mr ρ s Q E ws S hv k
  obtain ⟨v, rfl, e⟩ := one_of hv
  have e' : v = .ref a := e
  subst e'
  have hlen : vs.toArray.size = vs.length := List.size_toArray ..
  refine len_list (hl.at fun o e => S.keep _ o e) (by rw [hlen]; omega) ?_
  rw [hlen]
  exact k [] (.int vs.length) (.int vs.length (s.toks + 1)) H s.heap (s.toks + 1 + 1) h ⟨_, rfl⟩ (nil_of S)
theorem BC.max (hh : c.A.handled = none) {a b : Int} {post : MV → MH → Prop} (h : post (.int (max a b)) H) : BC c (.builtin "max") [.int a, .int b] H post := by
  intro mr ρ s Q E vs S hv k
  obtain ⟨v, u, rfl, ⟨t1, rfl⟩, ⟨t2, rfl⟩⟩ := two_of hv
  refine max_two_ints hh fun h' tk hk => ?_
  by_cases hq : b > a
  · rw [if_pos hq]
    exact k [] (.int (Max.max a b)) _ H h' tk h ⟨t2, by rw [Int.max_eq_right (by omega)]⟩ (nil_of (S.grow hk))
  · rw [if_neg hq]
    exact k [] (.int (Max.max a b)) _ H h' tk h ⟨t1, by rw [Int.max_eq_left (by omega)]⟩ (nil_of (S.grow hk))
abbrev intL (ns : List Int) : List MV := ns.map MV.int
theorem intL_are {ρ : List Addr} : ∀ {ns : List Int} {vs : List Value}, VRs ρ (intL ns) vs → IntsAre vs ns
  | [], _, h => by rw [show _ = [] from h]; exact .nil
  | n :: ns, _, ⟨v, r, e, ⟨t, h1⟩, h2⟩ => by
    subst e h1
    exact .cons _ _ (intL_are h2)
theorem BC.list {a : Nat} {xs : List MV} {post : MV → MH → Prop} (ha : H[a]? = some (.list xs)) (hsz : xs.length ≤ 1000000) (h : post (.ref H.length) (H ++ [.list xs])) : BC c (.type "list") [.ref a] H post := by
  intro mr ρ s Q E vs S hv k
  obtain ⟨v, rfl, x, hx, rfl⟩ := one_of hv
  obtain ⟨ws, ep, hws, No⟩ := S.list ha hx
  obtain ⟨ml, xt, ⟨F, os, a1, a2, a3, N, a5⟩, back⟩ := S.open
  refine list_copyK F N (isList_of No) ?_ (by rw [List.size_toArray, hws.length]; exact Nat.le_trans hsz (by decide))
  intro D n h' F' N' hlt
  exact k [D] (.ref H.length) (.ref D) _ h' s.toks h ⟨D, last_get a2, rfl⟩ (back _ _ _ (Led.alloc a1 a2 a3 a5 F' N' (fun p hp => Nat.ne_of_lt (hlt p hp)) ⟨ws, n, hws.mono, rfl⟩))
theorem TE.binH {op : Operator} {a b : CE} {post : MV → MH → Prop} (h : TE c m a H (fun x H1 => TE c m b H1 (fun y H2 => ∀ (mr : Str → Option Value) (ρ : List Addr) (s : Shared) (Q : Value → Shared → Prop) (E : Value → Shared → Prop) (vx vy : Value),
      St c mr ρ H2 s.heap → VR ρ x vx → VR ρ y vy → (∀ t v vr H' h' tk, post v H' → VR (ρ ++ t) v vr → St c mr (ρ ++ t) H' h' → Q vr { s with heap := h', toks := tk }) → wpAny (model c.prog c.w) c.A (binaryOp op vx vy) Q E s))) : TE c m (.bin op a b) H post := by
  intro e he
  obtain ⟨h2, h3⟩ := and2 he
  intro mr ρ s Q E S l k kx
  refine wpAny_BinOp ?_
  refine h _ h2 mr ρ s _ E S l ?_ kx
  intro t x xr H1 hp1 tk1 hr hx S1
  refine hr _ h3 mr (ρ ++ t) _ _ E S1 l.mono ?_ kx.mono
  intro t' y yr H2 hp2 tk2 hq hy S2
  refine hq mr _ _ _ E _ _ S2 hx.mono hy ?_
  intro t'' v vr H' h' tk hp hv S3
  have e1 : ρ ++ t ++ t' ++ t'' = ρ ++ (t ++ (t' ++ t'')) := by simp only [List.append_assoc]
  rw [e1] at hv S3
  exact k _ v vr H' h' tk hp hv S3
theorem TE.addL {a b : CE} {post : MV → MH → Prop} (h : TE c m a H (fun x H1 => TE c m b H1 (fun y H2 => ∃ i j xs ys, x = .ref i ∧ y = .ref j ∧ H2[i]? = some (.list xs) ∧ H2[j]? = some (.list ys) ∧ xs.length + ys.length ≤ 1000000 ∧
      post (.ref H2.length) (H2 ++ [.list (xs ++ ys)])))) : TE c m (.bin .Add a b) H post := by
  refine TE.binH (h.mono fun x H1 h1 => h1.mono ?_)
  rintro y H2 ⟨i, j, xs, ys, rfl, rfl, hi, hj, hsz, hp⟩ mr ρ s Q E _ _ S ⟨p, hp1, rfl⟩ ⟨q, hq1, rfl⟩ k
  obtain ⟨vs, n1, hvs, N1⟩ := S.list hi hp1
  obtain ⟨ws, n2, hws, N2⟩ := S.list hj hq1
  obtain ⟨ml, xt, ⟨F, os, a1, a2, a3, N, a5⟩, back⟩ := S.open
  refine add_lists F N (isList_of N1) (isList_of N2) (fun h' F' N' => ?_) (by rw [hvs.length, hws.length]; exact Nat.le_trans hsz (by decide))
  exact k [s.heap.objs.size] (.ref H2.length) _ _ h' s.toks hp ⟨_, last_get a2, rfl⟩ (back _ _ _ (Led.alloc a1 a2 a3 a5 F' N' (fun p hp => Nat.ne_of_lt (Heap.lt_size (N p hp).1)) ⟨vs ++ ws, 0, hvs.mono.append hws.mono, rfl⟩))
theorem VRs.rep {ρ : List Addr} {v : MV} {vr : Value} (h : VR ρ v vr) : ∀ n : Nat, VRs ρ (List.replicate n v) (List.replicate n vr)
  | 0 => rfl
  | n + 1 => ⟨vr, List.replicate n vr, rfl, h, VRs.rep h n⟩
theorem rep_one (v : Value) : ∀ n : Nat, List.foldl (fun x1 x2 => x1 ++ x2) (#[] : Array Value) (List.replicate n #[v]) = (List.replicate n v).toArray := by
  have key : ∀ (n : Nat) (acc : List Value), List.foldl (fun x1 x2 => x1 ++ x2) acc.toArray (List.replicate n #[v]) = (acc ++ List.replicate n v).toArray := by
    intro n
    induction n with
    | zero => intro acc; simp
    | succ n ih =>
      intro acc
      rw [List.replicate_succ, List.foldl_cons]
      have : acc.toArray ++ #[v] = (acc ++ [v]).toArray := by simp
      rw [this, ih]
      simp [List.replicate_succ]
  intro n
  have := key n []
  simpa using this
theorem TE.mulL {a b : CE} {post : MV → MH → Prop} (h : TE c m a H (fun x H1 => TE c m b H1 (fun y H2 => ∃ i v n, x = .ref i ∧ y = .int n ∧ H2[i]? = some (.list [v]) ∧ -1000000 ≤ n ∧ n ≤ 1000000 ∧
      post (.ref H2.length) (H2 ++ [.list (List.replicate n.toNat v)])))) : TE c m (.bin .Mult a b) H post := by
  refine TE.binH (h.mono fun x H1 h1 => h1.mono ?_)
  rintro y H2 ⟨i, v, n, rfl, rfl, hi, hlo, hhi, hp⟩ mr ρ s Q E _ _ S ⟨p, hp1, rfl⟩ ⟨u, rfl⟩ k
  obtain ⟨vs, n1, hvs, N1⟩ := S.list hi hp1
  obtain ⟨vr, rfl, hvr⟩ := one_of hvs
  obtain ⟨ml, xt, ⟨F, os, a1, a2, a3, N, a5⟩, back⟩ := S.open
  refine mul_list F N (N1 _ (.head _)).1 (by omega) (by omega) (by simp; omega) ?_
  intro h' F' N'
  have e : (List.foldl (fun x1 x2 => x1 ++ x2) (#[] : Array Value) (List.replicate (if ([vr].toArray).isEmpty = true then 0 else n.toNat) [vr].toArray)) = (List.replicate n.toNat vr).toArray := rep_one vr n.toNat
  rw [e] at N'
  exact k [s.heap.objs.size] (.ref H2.length) _ _ h' s.toks hp ⟨_, last_get a2, rfl⟩ (back _ _ _ (Led.alloc a1 a2 a3 a5 F' N' (fun p hp => Nat.ne_of_lt (Heap.lt_size (N p hp).1)) ⟨List.replicate n.toNat vr, 0, VRs.rep hvr.mono _, rfl⟩))
noncomputable def tyOf : MV → Option String
  | .int _ => some "int"
  | .str _ => some "str"
  | .bool _ => some "bool"
  | _ => none
theorem tyIs {v : MV} {T : String} {ρ : List Addr} {vr : Value} {s : Shared} (h : tyOf v = some T) (hv : VR ρ v vr) : s.TypeIs vr T := by
  cases v <;> simp only [tyOf] at h <;> cases h
  · rw [show vr = _ from hv]; exact PySem.typeIs_bool ..
  · obtain ⟨t, rfl⟩ := hv; exact typeIs_int ..
  · obtain ⟨t, rfl⟩ := hv; exact typeIs_str ..
theorem TT.tyAny (ok : Ok G c d) (hg : nsIn G.K mainGlobals "type" = some Option.none) {op : CmpOp} {neg : Bool} (hop : (op = .Is ∧ neg = false) ∨ (op = .IsNot ∧ neg = true)) {a : CE} {N : Str} {T' : String} (hgN : nsIn G.K mainGlobals N = some Option.none) (hbN : bootBuiltins N = some (.type T')) (hnN : N ≠ "__name__") {post : Bool → MH → Prop}
    (h : TE c m a H (fun v H1 => ∃ T, tyOf v = some T ∧ post (if neg then !decide (T = T') else decide (T = T')) H1)) : TT c m (.cmp op (.call "type" (.cons a .nil)) (.glob N)) H post := by
  intro e he
  obtain ⟨h2, h3⟩ := and2 he
  intro wh mr ρ s Q E _ S lr k kx
  refine wpAny_isTrue_Compare1 ?_ (re_marks h3)
  refine callType ok (T := "type") hg PyProof.Rows.boot_type (by decide) h2 (by intro q; cases q) S lr kx (TEs.one h) ?_
  rintro t vs vrs H1 hp1 tk1 ⟨v, rfl, T, hT, hp⟩ hv S1
  obtain ⟨vr, rfl, hvr⟩ := one_of hv
  refine call_type_of (tyIs hT hvr) ?_ ?_
  · cases v <;> simp only [tyOf] at hT <;> cases hT <;> decide
  · refine nameB (s := { s with heap := hp1, toks := tk1 }) ok S1 h3 hgN hbN hnN ?_
    have hbe : ∀ T T' : String, (Value.type T == Value.type T') = decide (T = T') := fun T T' => by
      by_cases q : T = T'
      · subst q; simp
      · have : (Value.type T == Value.type T') = false := by simpa using q
        rw [this, decide_eq_false q]
    rcases hop with ⟨rfl, rfl⟩ | ⟨rfl, rfl⟩
    · refine wpAny_pure (a := Value.bool (Value.type T == Value.type T')) ?_
      refine wpAny_truthy_bool ?_
      rw [hbe]
      exact k t _ H1 hp1 tk1 hp S1
    · refine isnot_type ?_
      refine wpAny_truthy_bool ?_
      rw [hbe]
      exact k t _ H1 hp1 tk1 hp S1
end
noncomputable def isTgN (scope : Scope) : List Str → List PySem.Expr → Bool
  | [], [] => true
  | x :: xs, .Name y _ :: es => x == y && tgk scope x && !xs.contains x && isTgN scope xs es
  | _, _ => false
noncomputable def isTg (scope : Scope) (tg : List Str) : PySem.Expr → Bool
  | .Name y p => isTgN scope tg [.Name y p]
  | .Tuple ts _ _ => isTgN scope tg ts && decide (1 < tg.length)
  | _ => false
theorem tgN_re {scope : Scope} : ∀ (tg : List Str) (es : List PySem.Expr), okNames (tgk scope) tg = true → isTgN scope tg (reNames tg es) = true
  | [], _, _ => rfl
  | x :: r, es, h => by
    have h1 : (tgk scope x && !r.contains x && okNames (tgk scope) r) = true := h
    obtain ⟨a, b, e⟩ := and3 h1
    show (x == x && tgk scope x && !r.contains x && isTgN scope r (reNames r es.tail)) = true
    rw [a, b, tgN_re r es.tail e]
    simp
theorem tg_re {scope : Scope} {tg : List Str} {e : PySem.Expr} (h0 : (!tg.isEmpty) = true) (h : okNames (tgk scope) tg = true) : isTg scope tg (reTg tg e) = true := by
  cases tg with
  | nil => cases h0
  | cons x r =>
    cases r with
    | nil => exact tgN_re [x] [e] h
    | cons y r =>
      show (isTgN scope (x :: y :: r) (reNames (x :: y :: r) (kids e)) && decide (1 < (x :: y :: r).length)) = true
      rw [tgN_re _ _ h]
      simp
noncomputable def clF (env : Env) : List (Str × NameKind) → List (Str × Addr) → List (Str × Addr)
  | [], acc => acc
  | (n, k) :: r, acc => if k == .free then clF env r ((n, (env.cells.lookup n).getD 0) :: acc) else clF env r acc
theorem closure_of {env : Env} : ∀ (names : List (Str × NameKind)) (acc : List (Str × Addr)), (∀ p ∈ names, p.2 = .free → (env.cells.lookup p.1).isSome = true) →
    (forIn names acc fun (x : Str × NameKind) cs => if x.2 == .free then do let a ← cellOf env x.1; pure (ForInStep.yield ((x.1, a) :: cs)) else pure (ForInStep.yield cs) : Sem (List (Str × Addr))) = pure (clF env names acc)
  | [], acc, _ => rfl
  | (n, k) :: r, acc, h => by
    rw [List.forIn_cons]
    by_cases hk : (k == .free) = true
    · have hk' : k = .free := by simpa using hk
      obtain ⟨a, ha⟩ := Option.isSome_iff_exists.mp (h _ (.head _) hk')
      have hc : cellOf env n = pure a := by unfold cellOf; rw [ha]
      simp only [hk, if_true, hc]
      unfold clF
      rw [if_pos hk, ha]
      exact closure_of r _ fun p hp => h p (.tail _ hp)
    · unfold clF
      rw [if_neg hk]
      simp only [hk]
      exact closure_of r _ fun p hp => h p (.tail _ hp)
theorem closureFor_of {scope : Scope} {env : Env} (h : ∀ p ∈ scope.names, p.2 = .free → (env.cells.lookup p.1).isSome = true) : closureFor scope env = pure (clF env scope.names []) := by
  have := closure_of (env := env) scope.names [] h
  show (forIn scope.names ([] : List (Str × Addr)) (fun (x : Str × NameKind) cs => if x.2 == .free then do let a ← cellOf env x.1; pure (ForInStep.yield ((x.1, a) :: cs)) else pure (ForInStep.yield cs)) >>= fun cs => (pure cs : Sem (List (Str × Addr)))) = _
  rw [this]
  rfl
theorem clF_at {env : Env} {x : Str} : ∀ {names : List (Str × NameKind)} {acc : List (Str × Addr)}, (∀ p ∈ acc, env.cells.lookup p.1 = some p.2) → (∀ p ∈ names, p.2 = .free → (env.cells.lookup p.1).isSome = true) →
    ((x, NameKind.free) ∈ names ∨ (acc.lookup x).isSome = true) → (clF env names acc).lookup x = env.cells.lookup x
  | [], acc, ha, _, h => by
    rcases h with h | h
    · cases h
    · obtain ⟨a, ea⟩ := Option.isSome_iff_exists.mp h
      show acc.lookup x = _
      rw [ea, ha _ (mem_of_lookup ea)]
  | (n, k) :: r, acc, ha, hn, h => by
    unfold clF
    by_cases hk : (k == .free) = true
    · have hk' : k = .free := by simpa using hk
      rw [if_pos hk]
      obtain ⟨a, ea⟩ := Option.isSome_iff_exists.mp (hn _ (.head _) hk')
      refine clF_at ?_ (fun p hp => hn p (.tail _ hp)) ?_
      · intro p hp
        rcases List.mem_cons.mp hp with rfl | hp
        · rw [ea]; rfl
        · exact ha p hp
      · rcases h with h | h
        · rcases List.mem_cons.mp h with e | h
          · cases e
            exact .inr (by rw [List.lookup_cons]; simp)
          · exact .inl h
        · by_cases q : x = n
          · subst q
            exact .inr (by rw [List.lookup_cons]; simp)
          · have hb : (x == n) = false := by simpa using q
            exact .inr (by rw [List.lookup_cons, hb]; exact h)
    · rw [if_neg hk]
      refine clF_at ha (fun p hp => hn p (.tail _ hp)) ?_
      rcases h with h | h
      · rcases List.mem_cons.mp h with e | h
        · cases e
          exact absurd rfl hk
        · exact .inl h
      · exact .inr h
theorem clF_mem {env : Env} {p : Str × Addr} : ∀ {names : List (Str × NameKind)} {acc : List (Str × Addr)}, (∀ q ∈ names, q.2 = .free → (env.cells.lookup q.1).isSome = true) → p ∈ clF env names acc → p ∈ acc ∨ ((p.1, NameKind.free) ∈ names ∧ env.cells.lookup p.1 = some p.2)
  | [], acc, _, h => .inl h
  | (n, k) :: r, acc, hn, h => by
    unfold clF at h
    by_cases hk : (k == .free) = true
    · have hk' : k = .free := by simpa using hk
      rw [if_pos hk] at h
      obtain ⟨a, ea⟩ := Option.isSome_iff_exists.mp (hn _ (.head _) hk')
      rcases clF_mem (fun q hq => hn q (.tail _ hq)) h with h | h
      · rcases List.mem_cons.mp h with rfl | h
        · refine .inr ⟨by rw [hk']; exact .head _, ?_⟩
          have ea : env.cells.lookup n = some a := ea
          show env.cells.lookup n = some _
          rw [ea]
          rfl
        · exact .inl h
      · exact .inr ⟨.tail _ h.1, h.2⟩
    · rw [if_neg hk] at h
      rcases clF_mem (fun q hq => hn q (.tail _ hq)) h with h | h
      · exact .inl h
      · exact .inr ⟨.tail _ h.1, h.2⟩
theorem kcl_relabel {scope : Scope} {env : Env} (x : Str) : kcl ((relabel scope env).names.lookup x) = kcl (scope.names.lookup x) := by
  unfold relabel
  show kcl (List.lookup x (scope.names.map fun (n, k) => if (k == .free && env.scope.kind == .function && env.kindOf n == some .cell) then (n, .cell) else (n, k))) = _
  generalize scope.names = l
  induction l with
  | nil => rfl
  | cons p r ih =>
    obtain ⟨n, k⟩ := p
    rw [List.map_cons]
    by_cases hc : (k == NameKind.free && env.scope.kind == .function && env.kindOf n == some .cell) = true
    · have hk : k = .free := by
        simp only [Bool.and_eq_true, beq_iff_eq] at hc
        exact hc.1.1
      simp only [hc, if_true, List.lookup_cons]
      cases x == n with
      | true => rw [hk]; rfl
      | false => exact ih
    · have e : (match (n, k) with | (n, k) => if (k == NameKind.free && env.scope.kind == .function && env.kindOf n == some .cell) = true then (n, NameKind.cell) else (n, k)) = (n, k) := if_neg hc
      rw [e, List.lookup_cons, List.lookup_cons]
      cases x == n with
      | true => rfl
      | false => exact ih
structure Sub (G : Gx) (c c' : Cx) (d : Nat) : Prop where
  ok : Ok G c' d
  prog : c'.prog = c.prog
  w : c'.w = c.w
  h₀ : c'.h₀ = c.h₀
section
variable {c : Cx} {m : ML} {H : MH} {G : Gx} {d : Nat}
noncomputable def Cx.comp (c : Cx) (scope : Scope) (tg : List Str) (cl : List (Str × Addr)) (C : Addr) (ml : Str → Option Value) (ox fr xt : List (Addr × Obj)) : Cx :=
  { c with env := compEnvC scope cl C c.env, fm := some (ml, ox), fr := fr, xt := xt, X := fun _ _ _ _ => False, nm := c.nm ++ tg, sc := scope }
theorem comp_ok (ok : Ok G c d) {scope : Scope} {tg : List Str} {cl : List (Str × Addr)} {C : Addr} {ml : Str → Option Value} {ox fr xt : List (Addr × Obj)} (hk : scope.kind = .function) (hfr : TI.SameUp c.fr fr) : Ok G (c.comp scope tg cl C ml ox fr xt) d := by
  obtain ⟨env₀, outer, h1, h2, h3, h4, h5⟩ := ok.frames
  refine ⟨⟨env₀, outer, h1, h2, h3, h4.up hfr, fun q => (by cases q)⟩, ok.kin, ok.top, ok.hh, ok.dep, ok.uni, hk, ok.gl, ok.bi, fun q => (by cases q), fun x => kcl_relabel x, fun q => (by cases q), ok.ex⟩
theorem storeC {mr : Str → Option Value} {ρ : List Addr} {s : Shared} {x : Str} {v : Value} {f : Str → Option Value} {ox : List (Addr × Obj)} {Q E} (hfm : c.fm = some (f, ox)) (hk : c.env.scope.kind = .function) (S : St c mr ρ H s.heap) (hx : c.env.kindOf x = some .local)
    (h : ∀ h' tk, St c (fun y => if y = x then some v else mr y) ρ H h' → Q () { s with heap := h', toks := tk }) :
    wpAny (model c.prog c.w) c.A (storeName c.env x v) Q E s := by
  obtain ⟨ml, fr, ex, o, u, F, os, a1, a2, a3, N, a5⟩ := S
  unfold Own at o
  rw [hfm] at o
  obtain ⟨e0, oC, mC, cs, q1, q2, q3, o2, o3, o4⟩ := o
  obtain ⟨oy, hoy⟩ : ∃ oy, oy = cs ++ ox := ⟨_, rfl⟩
  rw [← hoy] at q1 o2
  subst q1
  have hC := N (c.env.locals, oC) (List.mem_append_left _ (List.mem_append_right _ (List.mem_append_right _ (.head _))))
  refine wpAny_storeName_local hx (q2.ns hC.1) (fun h' hn hs => ?_) (by rw [hk]; rfl)
  obtain ⟨oC', hC', hoC'⟩ := LCg.ns_obj hn
  refine h h' _ ⟨ml, fr, (c.env.locals, oC') :: oy, ?_, u, F.change hs hC.2.1 hC.2.2, os, a1, a2, a3, ?_, (by simpa [List.map_append] using a5)⟩
  · unfold Own
    rw [hfm]
    refine ⟨e0, oC', _, cs, by rw [hoy], hoC', fun y hy => ?_, fun y hy => ?_, o3, o4⟩
    · by_cases e : y = x
      · simp [e]
      · simp [e, q3 y hy]
    · have hne : y ≠ x := by
        rintro rfl
        rw [hx] at hy
        rcases hy with hy | hy <;> cases hy
      simp only [if_neg hne, ← hoy]
      exact o2 y hy
  · have hp : ((fr ++ (c.xt ++ (c.env.locals, oC) :: oy)).map (·.1) ++ ρ).Perm (c.env.locals :: ((fr ++ (c.xt ++ oy)).map (·.1) ++ ρ)) := by
      simp only [List.map_append, List.map_cons, List.append_assoc]
      have h1 := List.perm_middle (a := c.env.locals) (l₁ := fr.map (·.1) ++ c.xt.map (·.1)) (l₂ := oy.map (·.1) ++ ρ)
      simpa [List.append_assoc] using h1
    have hnd := List.nodup_cons.mp (hp.nodup_iff.mp a5)
    intro p hp
    have hsplit : p = (c.env.locals, oC') ∨ p ∈ (fr ++ (c.xt ++ oy)) ++ ρ.zip os := by
      simp only [List.mem_append, List.mem_cons] at hp ⊢
      rcases hp with (hp | hp | hp | hp) | hp <;> simp [hp]
    rcases hsplit with rfl | hq
    · exact ⟨hC', hC.2⟩
    · have P := N p (by
        simp only [List.mem_append, List.mem_cons] at hq ⊢
        rcases hq with (hp | hp | hp) | hp <;> simp [hp])
      refine ⟨(hs.2 _ fun e => ?_).trans P.1, P.2⟩
      refine hnd.1 ?_
      rw [← e]
      rcases List.mem_append.mp hq with hq | hq
      · exact List.mem_append_left _ (List.mem_map_of_mem hq)
      · exact List.mem_append_right _ (List.of_mem_zip (show (p.1, p.2) ∈ _ from hq)).1
theorem storeK {mr : Str → Option Value} {ρ : List Addr} {s : Shared} {x : Str} {v : Value} {f : Str → Option Value} {ox : List (Addr × Obj)} {Q E} (hfm : c.fm = some (f, ox)) (hk : c.env.scope.kind = .function) (S : St c mr ρ H s.heap) (hx : c.sc.names.lookup x = some .cell)
    (h : ∀ h' tk, St c (fun y => if y = x then some v else mr y) ρ H h' → Q () { s with heap := h', toks := tk }) :
    wpAny (model c.prog c.w) c.A (storeName c.env x v) Q E s := by
  obtain ⟨ml, fr, ex, o, u, F, os, a1, a2, a3, N, a5⟩ := S
  unfold Own at o
  rw [hfm] at o
  obtain ⟨e0, oC, mC, cs, q1, q2, q3, o2, o3, o4⟩ := o
  obtain ⟨hkx, a, oa, ea, hm⟩ := o3 x hx
  obtain ⟨a', ob, ea', hm', hd⟩ := o2 x (.inl hkx)
  rw [ea] at ea'
  cases ea'
  have inn : ∀ p ∈ cs ++ ox, p ∈ fr ++ (c.xt ++ ex) ++ ρ.zip os := fun p hp => List.mem_append_left _ (List.mem_append_right _ (List.mem_append_right _ (by rw [q1]; exact .tail _ hp)))
  have Na := N _ (inn _ (List.mem_append_left _ hm))
  have Nb := N _ (inn _ hm')
  have eo : oa = ob := Option.some.inj (Na.1.symm.trans Nb.1)
  subst eo
  refine wpAny_storeName_cell hk hkx ea ⟨oa, Na.1, hd⟩ fun h' hc hs => ?_
  obtain ⟨oN, hN, hdN⟩ := hc
  obtain ⟨l1, l2, hcs⟩ := List.append_of_mem hm
  subst hcs
  have hp : ∀ o' : Obj, ((fr ++ (c.xt ++ ((c.env.locals, oC) :: ((l1 ++ (a, o') :: l2) ++ ox)))).map (·.1) ++ ρ).Perm (a :: ((fr ++ (c.xt ++ ((c.env.locals, oC) :: ((l1 ++ l2) ++ ox)))).map (·.1) ++ ρ)) := fun o' => by
    simp only [List.map_append, List.map_cons, List.append_assoc, List.cons_append]
    have h1 := List.perm_middle (a := a) (l₁ := fr.map (·.1) ++ (c.xt.map (·.1) ++ c.env.locals :: l1.map (·.1))) (l₂ := l2.map (·.1) ++ (ox.map (·.1) ++ ρ))
    simpa [List.append_assoc] using h1
  have a5' := a5
  rw [q1] at a5'
  have hnd := List.nodup_cons.mp ((hp oa).nodup_iff.mp a5')
  have mem' : ∀ b o, (b, o) ∈ l1 ++ (a, oN) :: l2 → (b = a ∧ o = oN) ∨ (b, o) ∈ l1 ++ (a, oa) :: l2 := fun b o hb => by
    simp only [List.mem_append, List.mem_cons, Prod.mk.injEq] at hb ⊢
    rcases hb with hb | hb | hb
    · exact .inr (.inl hb)
    · exact .inl hb
    · exact .inr (.inr (.inr hb))
  have mem2 : ∀ b o, b ≠ a → (b, o) ∈ l1 ++ (a, oa) :: l2 → (b, o) ∈ l1 ++ (a, oN) :: l2 := fun b o hb hm => by
    simp only [List.mem_append, List.mem_cons, Prod.mk.injEq] at hm ⊢
    rcases hm with hm | hm | hm
    · exact .inl hm
    · exact absurd hm.1 hb
    · exact .inr (.inr hm)
  refine h h' _ ⟨ml, fr, (c.env.locals, oC) :: ((l1 ++ (a, oN) :: l2) ++ ox), ?_, u, F.change hs Na.2.1 Na.2.2, os, a1, a2, a3, ?_, (hp oN).nodup_iff.mpr (List.nodup_cons.mpr hnd)⟩
  · unfold Own
    rw [hfm]
    refine ⟨e0, oC, mC, l1 ++ (a, oN) :: l2, rfl, q2, fun y hy => ?_, fun y hy => ?_, fun y hy => ?_, fun y z b o h1 h2 h3 => ?_⟩
    · have hne : y ≠ x := by
        rintro rfl
        rw [hkx] at hy
        cases hy
      simp only [if_neg hne]
      exact q3 y hy
    · obtain ⟨b, o, g1, g2, g3⟩ := o2 y hy
      by_cases e : y = x
      · subst e
        rw [ea] at g1
        cases g1
        exact ⟨a, oN, ea, List.mem_append_left _ (by simp), by simp only [if_true]; exact hdN⟩
      · have hb : b ≠ a := by
          rintro rfl
          exact e (o4 y x b oa g1 ea hm)
        refine ⟨b, o, g1, ?_, by simp only [if_neg e]; exact g3⟩
        rcases List.mem_append.mp g2 with g2 | g2
        · exact List.mem_append_left _ (mem2 b o hb g2)
        · exact List.mem_append_right _ g2
    · obtain ⟨g1, b, o, g2, g3⟩ := o3 y hy
      by_cases hb : b = a
      · subst hb
        exact ⟨g1, b, oN, g2, by simp⟩
      · exact ⟨g1, b, o, g2, mem2 b o hb g3⟩
    · rcases mem' b o h3 with ⟨rfl, _⟩ | h3
      · exact o4 y z b oa h1 h2 hm
      · exact o4 y z b o h1 h2 h3
  · intro p hp'
    by_cases e : p.1 = a
    · have : p = (a, oN) := by
        obtain ⟨p1, p2⟩ := p
        have e : p1 = a := e
        subst e
        simp only [List.mem_append, List.mem_cons, Prod.mk.injEq] at hp'
        have no : ∀ o, (p1, o) ∈ (fr ++ (c.xt ++ ((c.env.locals, oC) :: ((l1 ++ l2) ++ ox)))) ++ ρ.zip os → False := fun o hq => by
          refine hnd.1 ?_
          rcases List.mem_append.mp hq with hq | hq
          · exact List.mem_append_left _ (List.mem_map.mpr ⟨_, hq, rfl⟩)
          · exact List.mem_append_right _ (List.of_mem_zip hq).1
        simp only [List.mem_append, List.mem_cons, Prod.mk.injEq] at no
        rcases hp' with (hq | hq | hq | (hq | hq | hq) | hq) | hq
        · exact (no _ (.inl (.inl hq))).elim
        · exact (no _ (.inl (.inr (.inl hq)))).elim
        · exact (no _ (.inl (.inr (.inr (.inl hq))))).elim
        · exact (no _ (.inl (.inr (.inr (.inr (.inl (.inl hq))))))).elim
        · rw [hq.2]
        · exact (no _ (.inl (.inr (.inr (.inr (.inl (.inr hq))))))).elim
        · exact (no _ (.inl (.inr (.inr (.inr (.inr hq)))))).elim
        · exact (no _ (.inr hq)).elim
      rw [this]
      exact ⟨hN, Na.2⟩
    · have P := N p (by
        rw [q1]
        obtain ⟨p1, p2⟩ := p
        simp only [List.mem_append, List.mem_cons, Prod.mk.injEq] at hp' ⊢
        rcases hp' with (hq | hq | hq | (hq | hq | hq) | hq) | hq
        · exact .inl (.inl hq)
        · exact .inl (.inr (.inl hq))
        · exact .inl (.inr (.inr (.inl hq)))
        · exact .inl (.inr (.inr (.inr (.inl (.inl hq)))))
        · exact absurd hq.1 e
        · exact .inl (.inr (.inr (.inr (.inl (.inr (.inr hq))))))
        · exact .inl (.inr (.inr (.inr (.inr hq))))
        · exact .inr hq)
      exact ⟨(hs.2 _ e).trans P.1, P.2⟩
theorem storeT {mr : Str → Option Value} {ρ : List Addr} {s : Shared} {x : Str} {v : Value} {f : Str → Option Value} {ox : List (Addr × Obj)} {Q E} (hfm : c.fm = some (f, ox)) (hk : c.env.scope.kind = .function) (hkd : ∀ x, kcl (c.env.kindOf x) = kcl (c.sc.names.lookup x)) (S : St c mr ρ H s.heap) (hx : tgk c.sc x = true)
    (h : ∀ h' tk, St c (fun y => if y = x then some v else mr y) ρ H h' → Q () { s with heap := h', toks := tk }) :
    wpAny (model c.prog c.w) c.A (storeName c.env x v) Q E s := by
  unfold tgk at hx
  rcases Bool.or_eq_true_iff.mp hx with hx | hx
  · exact storeC hfm hk S (kcl1 ((hkd x).trans (by rw [beq_iff_eq.mp hx]; rfl))) h
  · exact storeK hfm hk S (beq_iff_eq.mp hx) h
noncomputable def upd (mr : Str → Option Value) : List Str → List Value → Str → Option Value
  | x :: xs, v :: vs => upd (fun y => if y = x then some v else mr y) xs vs
  | _, _ => mr
theorem eachC_length {scope : Scope} {env : Env} : ∀ {tg : List Str} {ts : List PySem.Expr}, isTgN scope tg ts = true → (assignEach ts env).length = tg.length ∧ (assignEach ts env).findIdx? (·.1) = none
  | [], [], _ => ⟨rfl, rfl⟩
  | [], _ :: _, h => by simp [isTgN] at h
  | _ :: _, [], h => by simp [isTgN] at h
  | i :: is, t :: ts, h => by
    cases t <;> simp only [isTgN, Bool.false_eq_true] at h
    simp only [Bool.and_eq_true] at h
    obtain ⟨h1, h2⟩ := eachC_length (env := env) h.2
    refine ⟨?_, ?_⟩
    · show ((false, _) :: assignEach ts env).length = _
      simp [h1]
    · show ((false, _) :: assignEach ts env).findIdx? (·.1) = none
      rw [List.findIdx?_cons]
      simp [h2]
theorem assignInC {f : Str → Option Value} {ox : List (Addr × Obj)} (hfm : c.fm = some (f, ox)) (hk : c.env.scope.kind = .function) (hkd : ∀ x, kcl (c.env.kindOf x) = kcl (c.sc.names.lookup x)) {Q : Unit → Shared → Prop} {E : Value → Shared → Prop} {ρ : List Addr} :
    ∀ {tg : List Str} {ts : List PySem.Expr} {vrs : List Value} {mr : Str → Option Value} {s : Shared},
    isTgN c.sc tg ts = true → vrs.length = tg.length → St c mr ρ H s.heap →
    (∀ h' tk, St c (upd mr tg vrs) ρ H h' → Q () { s with heap := h', toks := tk }) →
    wpAny (model c.prog c.w) c.A (assignInOrder ((assignEach ts c.env).map (·.2)) vrs) Q E s
  | [], [], vrs, mr, s, _, hl, S, k => by
    cases vrs with
    | nil => exact wpAny_pure (k s.heap s.toks S)
    | cons _ _ => simp at hl
  | [], _ :: _, _, _, _, h, _, _, _ => by simp [isTgN] at h
  | _ :: _, [], _, _, _, h, _, _, _ => by simp [isTgN] at h
  | x :: xs, t :: ts, vrs, mr, s, h, hl, S, k => by
    cases t <;> simp only [isTgN, Bool.false_eq_true] at h
    rename_i y px
    simp only [Bool.and_eq_true, beq_iff_eq] at h
    obtain ⟨⟨⟨rfl, h2⟩, h3⟩, h4⟩ := h
    cases vrs with
    | nil => simp at hl
    | cons v vs =>
      show wpAny _ _ (do holding vs (assign (.Name x px) c.env v); assignInOrder ((assignEach ts c.env).map (·.2)) vs) Q E s
      refine wpAny_bind (wpAny_holding (wpAny_assign_Name ?_))
      refine storeT hfm hk hkd S h2 ?_
      intro h' tk S2
      refine assignInC hfm hk hkd (s := { s with heap := h', toks := tk }) h4 (by simpa using hl) S2 ?_
      intro h'' tk' S3
      exact k h'' tk' S3
noncomputable def PartsN (H : MH) : List Str → MV → List MV → Prop
  | [_], v, vs => vs = [v]
  | is, v, vs => 1 < is.length ∧ vs.length = is.length ∧ ∃ a, v = .ref a ∧ H[a]? = some (.tup vs)
theorem assignTgC (hh : c.A.handled = none) {f : Str → Option Value} {ox : List (Addr × Obj)} (hfm : c.fm = some (f, ox)) (hk : c.env.scope.kind = .function) (hkd : ∀ x, kcl (c.env.kindOf x) = kcl (c.sc.names.lookup x)) {Q : Unit → Shared → Prop} {E : Value → Shared → Prop} {ρ : List Addr} {tg : List Str} {target : PySem.Expr} {v : MV} {vr : Value} {vs : List MV} {mr : Str → Option Value} {s : Shared}
    (ht : isTg c.sc tg target = true) (hv : VR ρ v vr) (hp : PartsN H tg v vs) (S : St c mr ρ H s.heap)
    (k : ∀ vrs h' tk, VRs ρ vs vrs → vrs.length = tg.length → St c (upd mr tg vrs) ρ H h' → Q () { s with heap := h', toks := tk }) : wpAny (model c.prog c.w) c.A (assign target c.env vr) Q E s := by
  unfold isTg at ht
  split at ht
  · rename_i y p
    cases tg with
    | nil => simp [isTgN] at ht
    | cons x xs =>
      cases xs with
      | cons _ _ => simp [isTgN] at ht
      | nil =>
        simp only [isTgN, Bool.and_eq_true, beq_iff_eq] at ht
        obtain ⟨⟨⟨rfl, h2⟩, _⟩, _⟩ := ht
        have e : vs = [v] := hp
        subst e
        refine wpAny_assign_Name (storeT hfm hk hkd S h2 ?_)
        intro h' tk S2
        exact k [vr] h' tk ⟨vr, [], rfl, hv, rfl⟩ rfl S2
  · rename_i ts k' px
    simp only [Bool.and_eq_true, decide_eq_true_eq] at ht
    have hp' : 1 < tg.length ∧ vs.length = tg.length ∧ ∃ a, v = .ref a ∧ H[a]? = some (.tup vs) := by
      cases tg with
      | nil => simp at ht
      | cons i r =>
        cases r with
        | nil => simp at ht
        | cons _ _ => exact hp
    obtain ⟨_, hl, a, rfl, ha⟩ := hp'
    obtain ⟨x, hx, rfl⟩ := hv
    obtain ⟨ws, hws, T⟩ := S.tup ha hx
    obtain ⟨q1, q2⟩ := eachC_length (env := c.env) ht.1
    have hlen : ws.length = tg.length := by rw [hws.length, hl]
    refine assign_Tuple_tuple hh T (by rw [q1, List.size_toArray, hlen]) q2 ?_
    intro h' he
    refine assignInC hfm hk hkd (s := { s with heap := h' }) ht.1 (by simpa using hlen) (S.grow (ext_grow he)) ?_
    intro h'' tk' S3
    exact k ws h'' tk' hws hlen S3
  · cases ht
end
theorem slot_app_off {x : Str} : ∀ {nm tg : List Str}, x ∉ tg → slot (nm ++ tg) x = slot nm x
  | [], [], _ => rfl
  | [], y :: r, h => by
    have h1 : x ∉ r := fun q => h (.tail _ q)
    have h2 : (y == x) = false := by simpa using fun e : y = x => h (e ▸ .head _)
    show slot (y :: r) x = none
    unfold slot
    have := slot_app_off (nm := []) (tg := r) h1
    rw [List.nil_append] at this
    rw [this]
    unfold slot
    simp [h2]
  | z :: nm, tg, h => by
    show slot (z :: (nm ++ tg)) x = slot (z :: nm) x
    unfold slot
    rw [slot_app_off h]
theorem slot_app_in {x : Str} : ∀ {nm tg : List Str}, x ∈ tg → ∃ j, slot tg x = some j ∧ slot (nm ++ tg) x = some (nm.length + j)
  | [], tg, h => by
    have key : ∀ {tg : List Str}, x ∈ tg → ∃ j, slot tg x = some j := by
      intro tg
      induction tg with
      | nil => intro h; cases h
      | cons y r ih =>
        intro h
        unfold slot
        cases e : slot r x with
        | some j => exact ⟨j + 1, rfl⟩
        | none =>
          rcases List.mem_cons.mp h with rfl | h
          · exact ⟨0, by simp⟩
          · obtain ⟨j, hj⟩ := ih h
            rw [hj] at e; cases e
    obtain ⟨j, hj⟩ := key h
    exact ⟨j, hj, by simpa using hj⟩
  | z :: nm, tg, h => by
    obtain ⟨j, h1, h2⟩ := slot_app_in (nm := nm) h
    refine ⟨j, h1, ?_⟩
    show slot (z :: (nm ++ tg)) x = _
    unfold slot
    rw [h2]
    simp only [List.length_cons]
    congr 1
    omega
theorem upd_off {x : Str} : ∀ {tg : List Str} {vrs : List Value} {mr : Str → Option Value}, x ∉ tg → upd mr tg vrs x = mr x
  | [], _, _, _ => by unfold upd; rfl
  | _ :: _, [], _, _ => by unfold upd; rfl
  | y :: r, v :: vs, mr, h => by
    unfold upd
    rw [upd_off fun q => h (.tail _ q)]
    have : x ≠ y := fun e => h (e ▸ .head _)
    simp [this]
theorem upd_at {x : Str} {v : Value} {sc : Scope} : ∀ {tg : List Str} {ts : List PySem.Expr} {vrs : List Value} {mr : Str → Option Value} {j : Nat}, isTgN sc tg ts = true → tg[j]? = some x → vrs[j]? = some v → upd mr tg vrs x = some v
  | [], _, _, _, _, _, h, _ => by simp at h
  | _ :: _, _, [], _, _, _, _, h => by simp at h
  | y :: r, ts, u :: us, mr, j, ht, h1, h2 => by
    cases ts with
    | nil => simp [isTgN] at ht
    | cons t ts =>
      cases t <;> simp only [isTgN, Bool.false_eq_true] at ht
      simp only [Bool.and_eq_true, beq_iff_eq, Bool.not_eq_true'] at ht
      obtain ⟨⟨⟨_, _⟩, hc⟩, hr⟩ := ht
      have hc' : y ∉ r := by simpa using hc
      unfold upd
      cases j with
      | zero =>
        simp at h1 h2
        subst h1 h2
        rw [upd_off hc']
        simp
      | succ j => exact upd_at hr (by simpa using h1) (by simpa using h2)
theorem tgN_of {scope : Scope} {tg : List Str} {target : PySem.Expr} (h : isTg scope tg target = true) : ∃ ts, isTgN scope tg ts = true := by
  unfold isTg at h
  split at h
  · exact ⟨_, h⟩
  · simp only [Bool.and_eq_true] at h
    exact ⟨_, h.1⟩
  · cases h
section
variable {c : Cx} {m : ML} {H : MH} {G : Gx} {d : Nat}
theorem forIn_false {env : Env} {M : Model} {A : Around} {Q : Bool → Shared → Prop} {E : Value → Shared → Prop} {s : Shared} : ∀ {ifs : List PySem.Expr}, Q false s →
    wpAny M A (forIn ifs false fun c r => if r = true then do let ok ← isTrue c env (eval c env); pure (ForInStep.yield ok) else pure (ForInStep.yield r)) Q E s
  | [], h => wpAny_pure h
  | _ :: _, h => by
    rw [List.forIn_cons]
    simp only [Bool.false_eq_true, if_false]
    exact forIn_false h
noncomputable def TC (c : Cx) (m : ML) : CTs → MH → (Bool → MH → Prop) → Prop
  | .nil, H, post => post true H
  | .cons t r, H, post => TT c m t H (fun b H1 => (b = false → post false H1) ∧ (b = true → TC c m r H1 post))
theorem tests_of {post : Bool → MH → Prop} {mr : Str → Option Value} {Q : Bool → Shared → Prop} {E : Value → Shared → Prop} : ∀ {cs : CTs} {ifs : List PySem.Expr} {H : MH} {ρ : List Addr} {s : Shared}, TC c m cs H post → wfTs cs c.nm c.sc ifs = true → St c mr ρ H s.heap → LR mr c.nm ρ m →
    (∀ t b H' h' tk, post b H' → St c mr (ρ ++ t) H' h' → Q b { s with heap := h', toks := tk }) → Kx c ρ s E →
    wpAny (model c.prog c.w) c.A (forIn (reTs cs c.nm ifs) true fun x r => if r = true then do let ok ← isTrue x c.env (eval x c.env); pure (ForInStep.yield ok) else pure (ForInStep.yield r)) Q E s
  | .nil, ifs, H, ρ, s, h, hi, S, l, k, kx => by
    exact wpAny_pure (k [] true H s.heap s.toks h (nil_of S))
  | .cons t r, ifs, H, ρ, s, h, hi, S, l, k, kx => by
    have hi := and2 hi
    show wpAny _ _ (forIn (reT t c.nm (nth 0 ifs) :: reTs r c.nm ifs.tail) true _) _ _ _
    rw [List.forIn_cons]
    simp only [if_true]
    refine wpAny_bind (wpAny_bind ?_)
    refine h _ hi.1 _ mr ρ s _ E (fun _ => rfl) S l ?_ kx
    intro t' b H1 h1 tk1 hp S1
    refine wpAny_pure ?_
    cases b with
    | false => exact forIn_false (k t' false H1 h1 tk1 (hp.1 rfl) S1)
    | true =>
      refine tests_of (ρ := ρ ++ t') (s := { s with heap := h1, toks := tk1 }) (hp.2 rfl) hi.2 S1 l.mono ?_ kx.mono
      intro t'' b H2 h2 tk2 hp2 S2
      rw [List.append_assoc] at S2
      exact k (t' ++ t'') b H2 h2 tk2 hp2 S2
theorem comp_scope {sc scope : Scope} {tg : List Str} (h : compb sc scope tg = true) : scope.kind = .function ∧ (∀ y ∈ scope.names, y.2 = .cell → scope.names.lookup y.1 = some .cell ∧ y.1 ∈ tg) ∧ (∀ y ∈ scope.names, y.2 = .local → scope.names.lookup y.1 = some .local ∧ (y.1 = (".0" : Str) ∨ y.1 ∈ tg)) ∧
    (∀ y ∈ scope.names, y.2 = .free → kcl (sc.names.lookup y.1) = 2 ∧ y.1 ∉ tg) := by
  unfold compb at h
  simp only [Bool.and_eq_true, beq_iff_eq, List.all_eq_true] at h
  refine ⟨h.1, ?_, ?_, ?_⟩
  · intro y hy e
    have := h.2 y hy
    rw [e] at this
    simp only [Bool.and_eq_true, beq_iff_eq] at this
    exact ⟨this.2, by simpa using this.1⟩
  · intro y hy e
    have := h.2 y hy
    rw [e] at this
    simp only [Bool.and_eq_true, Bool.or_eq_true, beq_iff_eq] at this
    exact ⟨this.2, this.1.imp id fun q => by simpa using q⟩
  · intro y hy e
    have := h.2 y hy
    rw [e] at this
    simp only [Bool.and_eq_true, beq_iff_eq, Bool.not_eq_true'] at this
    exact ⟨this.1, by simpa using this.2⟩
theorem local_mem {x : Str} : ∀ {l : List (Str × NameKind)}, l.lookup x = some .local → (x, NameKind.local) ∈ l
  | [], h => by cases h
  | (n, k) :: r, h => by
    rw [List.lookup_cons] at h
    by_cases q : x = n
    · subst q
      simp at h
      rw [h]; exact .head _
    · have hb : (x == n) = false := by simpa using q
      rw [hb] at h
      exact .tail _ (local_mem h)
noncomputable def cellO : Obj := { cls := .type "cell", data := .cell none }
noncomputable def csFrom (n : Nat) : List (Str × NameKind) → List (Addr × Obj)
  | [] => []
  | (_, k) :: r => if k == .cell then (n, cellO) :: csFrom (n + 1) r else csFrom n r
theorem csFrom_get : ∀ {names : List (Str × NameKind)} {h : Heap} {p : Addr × Obj}, p ∈ csFrom h.objs.size names → (pushCells h names).get? p.1 = some p.2 ∧ h.objs.size ≤ p.1 ∧ p.2 = cellO
  | [], h, p, hp => by
    unfold csFrom at hp
    exact absurd hp (List.not_mem_nil)
  | (x, k) :: r, h, p, hp => by
    unfold csFrom at hp
    unfold pushCells
    split at hp
    · rename_i e
      rw [if_pos e]
      rcases List.mem_cons.mp hp with rfl | hp
      · exact ⟨pushCells_keeps _ _ _ _ (Heap.get?_push_size _ rfl), Nat.le_refl _, rfl⟩
      · have := csFrom_get (h := h.push { cls := .type "cell", data := .cell none }) (names := r) (by rw [Heap.size_push]; exact hp)
        rw [Heap.size_push] at this
        exact ⟨this.1, Nat.le_of_succ_le this.2.1, this.2.2⟩
    · rename_i e
      rw [if_neg e]
      exact csFrom_get hp
theorem csFrom_nodup : ∀ {names : List (Str × NameKind)} {n : Nat}, ((csFrom n names).map (·.1)).Nodup ∧ ∀ p ∈ csFrom n names, n ≤ p.1
  | [], n => ⟨List.nodup_nil, fun p hp => by cases hp⟩
  | (x, k) :: r, n => by
    unfold csFrom
    split
    · obtain ⟨h1, h2⟩ := csFrom_nodup (names := r) (n := n + 1)
      refine ⟨?_, fun p hp => ?_⟩
      · rw [List.map_cons, List.nodup_cons]
        refine ⟨fun q => ?_, h1⟩
        obtain ⟨p, hp, e⟩ := List.mem_map.mp q
        have := h2 p hp
        have e : p.1 = n := e
        rw [e] at this
        exact Nat.lt_irrefl _ this
      · rcases List.mem_cons.mp hp with rfl | hp
        · exact Nat.le_refl _
        · exact Nat.le_of_succ_le (h2 p hp)
    · exact csFrom_nodup
theorem cells_own {x : Str} : ∀ {names : List (Str × NameKind)} {n : Nat} {acc : List (Str × Addr)}, ((x, NameKind.cell) ∈ names → ∃ a, (cellsFrom n names acc).lookup x = some a ∧ (a, cellO) ∈ csFrom n names) ∧ ((x, NameKind.cell) ∉ names → (cellsFrom n names acc).lookup x = acc.lookup x)
  | [], n, acc => ⟨fun q => (by cases q), fun _ => rfl⟩
  | (y, k) :: r, n, acc => by
    unfold cellsFrom csFrom
    by_cases hk : (k == NameKind.cell) = true
    · rw [if_pos hk, if_pos hk]
      have hk' : k = .cell := beq_iff_eq.mp hk
      subst hk'
      by_cases hr : (x, NameKind.cell) ∈ r
      · refine ⟨fun _ => ?_, fun q => absurd (.tail _ hr) q⟩
        obtain ⟨a, g1, g2⟩ := (cells_own (x := x) (names := r) (n := n + 1) (acc := (y, n) :: acc)).1 hr
        exact ⟨a, g1, .tail _ g2⟩
      · have g := (cells_own (x := x) (names := r) (n := n + 1) (acc := (y, n) :: acc)).2 hr
        rw [g, List.lookup_cons]
        by_cases q : x = y
        · subst q
          refine ⟨fun _ => ⟨n, by simp, .head _⟩, fun q => absurd (.head _) q⟩
        · have hb : (x == y) = false := by simpa using q
          refine ⟨fun q' => ?_, fun _ => by rw [hb]⟩
          rcases List.mem_cons.mp q' with e | e
          · cases e; exact absurd rfl q
          · exact absurd e hr
    · rw [if_neg hk, if_neg hk]
      have ne : ∀ z, (z, NameKind.cell) ∈ (y, k) :: r ↔ (z, NameKind.cell) ∈ r := fun z => by
        constructor
        · intro q
          rcases List.mem_cons.mp q with e | e
          · cases e; exact absurd rfl hk
          · exact e
        · exact fun q => .tail _ q
      rw [ne]
      exact cells_own
theorem cells_inj {n0 : Nat} : ∀ {names : List (Str × NameKind)} {n : Nat} {acc : List (Str × Addr)}, n0 ≤ n → (∀ p ∈ acc, p.2 < n) → (∀ p ∈ acc, ∀ q ∈ acc, n0 ≤ p.2 → p.2 = q.2 → p.1 = q.1) → ∀ p ∈ cellsFrom n names acc, ∀ q ∈ cellsFrom n names acc, n0 ≤ p.2 → p.2 = q.2 → p.1 = q.1
  | [], n, acc, _, _, h => h
  | (y, k) :: r, n, acc, h0, h1, h => by
    unfold cellsFrom
    split
    · refine cells_inj (Nat.le_succ_of_le h0) (fun p hp => ?_) (fun p hp q hq hn e => ?_)
      · rcases List.mem_cons.mp hp with rfl | hp
        · exact Nat.lt_succ_self _
        · exact Nat.lt_succ_of_lt (h1 p hp)
      · rcases List.mem_cons.mp hp with rfl | hp <;> rcases List.mem_cons.mp hq with rfl | hq
        · rfl
        · have := h1 q hq
          have e : n = q.2 := e
          rw [← e] at this
          exact absurd this (Nat.lt_irrefl _)
        · have := h1 p hp
          have e : p.2 = n := e
          rw [e] at this
          exact absurd this (Nat.lt_irrefl _)
        · exact h p hp q hq hn e
    · exact cells_inj h0 h1 h
theorem relabel_cell {scope : Scope} {env : Env} {x : Str} (h : scope.names.lookup x = some .cell) : (relabel scope env).names.lookup x = some .cell := by
  unfold relabel
  show List.lookup x (scope.names.map fun (n, k) => if (k == .free && env.scope.kind == .function && env.kindOf n == some .cell) then (n, .cell) else (n, k)) = _
  revert h
  generalize scope.names = l
  intro h
  induction l with
  | nil => cases h
  | cons p r ih =>
    obtain ⟨n, k⟩ := p
    rw [List.map_cons]
    rw [List.lookup_cons] at h
    by_cases q : x = n
    · subst q
      simp at h
      subst h
      have e : (match (x, NameKind.cell) with | (n, k) => if (k == NameKind.free && env.scope.kind == .function && env.kindOf n == some .cell) = true then (n, NameKind.cell) else (n, k)) = (x, NameKind.cell) := if_neg (by simp)
      rw [e, List.lookup_cons]
      simp
    · have hb : (x == n) = false := by simpa using q
      rw [hb] at h
      have e : ∀ k', List.lookup x ((n, k') :: List.map (fun (p : Str × NameKind) => match p with | (n, k) => if (k == NameKind.free && env.scope.kind == .function && env.kindOf n == some .cell) = true then (n, NameKind.cell) else (n, k)) r) = List.lookup x (List.map (fun (p : Str × NameKind) => match p with | (n, k) => if (k == NameKind.free && env.scope.kind == .function && env.kindOf n == some .cell) = true then (n, NameKind.cell) else (n, k)) r) := fun k' => by rw [List.lookup_cons, hb]
      by_cases hc : (k == NameKind.free && env.scope.kind == .function && env.kindOf n == some .cell) = true
      · simp only [hc, if_true]
        exact (e _).trans (ih h)
      · have e2 : (match (n, k) with | (n, k) => if (k == NameKind.free && env.scope.kind == .function && env.kindOf n == some .cell) = true then (n, NameKind.cell) else (n, k)) = (n, k) := if_neg hc
        rw [e2]
        exact (e _).trans (ih h)
theorem newEnv_comp {M : Model} {A : Around} {E : Value → Shared → Prop} {s : Shared} {scope : Scope} {globals : Addr} {closure : List (Str × Addr)} {qual : Str} {env : Env} {Q : Env → Shared → Prop}
    (h : Q { scope := scope, locals := s.heap.objs.size, globals := globals, cells := cellsFrom (s.heap.objs.size + 1) scope.names closure, qual := qual, func := none, code := env.code, frame := env.frame, builtins := env.builtins } { s with heap := pushCells (s.heap.push { cls := .type "dict", data := .dict #[] }) scope.names }) :
    wpAny M A (newFunctionEnv scope globals closure [] qual none .none (some env)) Q E s := by
  simp only [newFunctionEnv, Option.isSome_some, if_true]
  refine wpAny_bind (wpAny_alloc ?_)
  refine wpAny_bind (wpAny_layCells _ (fun name kind cells => by cases hkc : kind == NameKind.cell <;> simp [hkc]) _ _ _ _ ?_)
  rw [show ({ s with heap := s.heap.push { cls := .type "dict", data := .dict #[] } } : Shared).heap.objs.size = s.heap.objs.size + 1 from Heap.size_push ..]
  exact wpAny_bind (wpAny_pure (wpAny_pure h))
noncomputable abbrev Cx.at (c : Cx) (scope : Scope) (tg : List Str) (cl : List (Str × Addr)) (C : Addr) (ml : Str → Option Value) (ex fr : List (Addr × Obj)) (D : Addr) (yrs : List Value) : Cx := c.comp scope tg cl C ml ex fr ((D, LCg.lst yrs) :: c.xt)
theorem lr_comp {scope : Scope} {tg : List Str} {ts : List PySem.Expr} {mr mr' : Str → Option Value} {ρ : List Addr} {vs : List MV} {vrs : List Value} (hcb : compb c.sc scope tg = true) (h0 : c.nm.contains (".0" : Str) = false) (ht : isTgN scope tg ts = true) (l : LR mr c.nm ρ m)
    (hm : ∀ x, x ∉ tg → scope.names.lookup x ≠ some .local → mr' x = mr x) (hv : VRs ρ vs vrs) (hl : vrs.length = tg.length) : LR (upd mr' tg vrs) (c.nm ++ tg) ρ (m ++ vs.map some) := by
  obtain ⟨_, _, hloc, _⟩ := comp_scope hcb
  refine ⟨by rw [List.length_append, List.length_append, List.length_map, l.1, ← hv.length, hl], fun i x v e1 e2 => ?_⟩
  by_cases hx : x ∈ tg
  · obtain ⟨j, h1, h2⟩ := slot_app_in (nm := c.nm) hx
    rw [h2] at e1
    cases e1
    rw [List.getElem?_append_right (by rw [l.1]; omega), l.1, Nat.add_sub_cancel_left, List.getElem?_map] at e2
    cases q : vs[j]? with
    | none => rw [q] at e2; cases e2
    | some u =>
      rw [q] at e2
      cases e2
      obtain ⟨vr, g1, g2⟩ := hv.get q
      exact ⟨vr, g2, upd_at ht (slot_get h1) g1⟩
  · rw [slot_app_off hx] at e1
    have hi : i < m.length := by rw [l.1]; exact (List.getElem?_eq_some_iff.mp (slot_get e1)).1
    rw [List.getElem?_append_left hi] at e2
    obtain ⟨vr, g1, g2⟩ := l.2 i x v e1 e2
    refine ⟨vr, g1, ?_⟩
    rw [upd_off hx, hm x hx ?_, g2]
    intro q
    rcases (hloc _ (local_mem q) rfl).2 with q | q
    · have hm0 := List.mem_of_getElem? (slot_get e1)
      have : c.nm.contains (".0" : Str) = true := by
        rw [show x = (".0" : Str) from q] at hm0
        simpa using hm0
      rw [h0] at this
      cases this
    · exact hx q
end
theorem loopC {prog : Program} {w : World} {A : Around} {R : Result → Shared → Prop} {s : Shared} {elt target iter : PySem.Expr} {ifs : List PySem.Expr} {scope : Scope} {pos : Pos} {it acc : Value} {env : Env} (I : Nat → Shared → Prop)
    (turn : ∀ n s, I n s → ∀ E' : Value → Shared → Prop, wpAny (model prog w) A (pyNext it) (fun r s₁ => match r with
      | none => R (.ok .next) s₁
      | some v => wpAny (model prog w) A (letOwnedTupleGo target it v) (fun _ s₁' => wpAny (model prog w) A (assign target env v) (fun _ s₂ =>
          wpAny (model prog w) A (forIn ifs true fun c r => if r = true then do let ok ← isTrue c env (eval c env); pure (ForInStep.yield ok) else pure (ForInStep.yield r)) (fun ok s₃ =>
            if ok = true then wpAny (model prog w) A (eval elt env) (fun x s₄ =>
              wpAny (model prog w) A (call (.builtin "list.append") [acc, x]) (fun _ s₅ => ∃ m, m < n ∧ I m s₅) E' s₄) E' s₃
            else ∃ m, m < n ∧ I m s₃) E' s₂) E' s₁') E' s₁) E' s)
    (n : Nat) (h : I n s) : codeAny (model prog w) A (.compLoop (.ListComp elt [⟨target, iter, ifs, 0⟩] scope pos) 0 it acc env) R s := by
  refine codeAny_loop rfl I (fun n s hI => ?_) n h
  show wpAny _ A ((compTurn (.ListComp elt [⟨target, iter, ifs, 0⟩] scope pos) 0 it acc env).onRaise (fun x => do noteFrame x env; theTreesLotGoes x)) _ _ s
  refine wpAny_noted ?_
  rw [compTurn_list]
  refine wpAny_bind (wpAny_standAt (wpAny_bind (wpAny_mono (turn n s hI _) (fun r s₁ h₁ => ?_) fun _ _ h' => h')))
  cases r with
  | none => exact wpAny_pure h₁
  | some v =>
    refine wpAny_bind (wpAny_mono h₁ (fun _ s₁' h₁' => ?_) fun _ _ h' => h')
    refine wpAny_bind (wpAny_mono h₁' (fun _ s₂ h₂ => wpAny_bind (wpAny_mono h₂ (fun ok s₃ h₃ => ?_) fun _ _ h' => h')) fun _ _ h' => h')
    cases ok with
    | false => exact wpAny_pure ⟨rfl, h₃⟩
    | true =>
      exact wpAny_bind (wpAny_bind (wpAny_mono h₃ (fun x s₄ h₄ => wpAny_bind (wpAny_mono h₄ (fun _ s₅ h₅ => wpAny_pure (wpAny_pure ⟨rfl, h₅⟩)) fun _ _ h' => h')) fun _ _ h' => h'))
section
variable {c : Cx} {m : ML} {H : MH} {G : Gx} {d : Nat}
theorem St.fact {mr : Str → Option Value} {ρ : List Addr} {h : Heap} (S : St c mr ρ H h) {p : Addr × Obj} (hp : p ∈ c.xt) : h.get? p.1 = some p.2 ∧ p.1 ≠ c.L ∧ c.h₀.get? p.1 = none := by
  obtain ⟨ml, fr, ex, own, u, F, os, a1, a2, a3, N, a5⟩ := S
  exact N p (List.mem_append_left _ (List.mem_append_right _ (List.mem_append_left _ hp)))
theorem St.growD {mr : Str → Option Value} {ρ : List Addr} {h h' : Heap} {D : Addr} {o o' : Obj} {p : Addr × Obj} {xt : List (Addr × Obj)} (S : St (c.wx (p :: (D, o) :: xt)) mr ρ H h) (hs : Heap.SameBut D h h') (hD : h'.get? D = some o') :
    St (c.wx (p :: (D, o') :: xt)) mr ρ H h' := by
  obtain ⟨ml, fr, ex, own, u, F, os, a1, a2, a3, N, a5⟩ := S
  replace N : News c.h₀ c.L h ((fr ++ ((p :: (D, o) :: xt) ++ ex)) ++ ρ.zip os) := N
  replace a5 : ((fr ++ ((p :: (D, o) :: xt) ++ ex)).map (·.1) ++ ρ).Nodup := a5
  have nD := N (D, o) (by simp)
  have hp : ((fr ++ ((p :: (D, o) :: xt) ++ ex)).map (·.1) ++ ρ).Perm (D :: ((fr ++ ((p :: xt) ++ ex)).map (·.1) ++ ρ)) := by
    simp only [List.map_append, List.map_cons, List.cons_append, List.append_assoc]
    have h1 := List.perm_middle (a := D) (l₁ := fr.map (·.1) ++ [p.1]) (l₂ := xt.map (·.1) ++ (ex.map (·.1) ++ ρ))
    simpa [List.append_assoc] using h1
  have hnd := List.nodup_cons.mp (hp.nodup_iff.mp a5)
  refine ⟨ml, fr, ex, own, u, F.change hs nD.2.1 nD.2.2, os, a1, a2, a3, ?_, (by show ((fr ++ ((p :: (D, o') :: xt) ++ ex)).map (·.1) ++ ρ).Nodup; simpa [List.map_append] using a5)⟩
  show News c.h₀ c.L h' ((fr ++ ((p :: (D, o') :: xt) ++ ex)) ++ ρ.zip os)
  intro q hq
  have hsplit : q = (D, o') ∨ q ∈ (fr ++ ((p :: xt) ++ ex)) ++ ρ.zip os := by
    simp only [List.cons_append, List.mem_append, List.mem_cons] at hq ⊢
    rcases hq with (hp | hp | hp | hp | hp) | hp <;> simp [hp]
  rcases hsplit with rfl | hq
  · exact ⟨hD, nD.2⟩
  · have P := N q (by
      simp only [List.cons_append, List.mem_append, List.mem_cons] at hq ⊢
      rcases hq with (hp | hp | hp | hp) | hp <;> simp [hp])
    refine ⟨(hs.2 _ fun e => ?_).trans P.1, P.2⟩
    refine hnd.1 ?_
    rw [← e]
    rcases List.mem_append.mp hq with hq | hq
    · exact List.mem_append_left _ (List.mem_map_of_mem hq)
    · exact List.mem_append_right _ (List.of_mem_zip (show (q.1, q.2) ∈ _ from hq)).1
theorem comp_end {scope : Scope} {tg : List Str} {cl : List (Str × Addr)} {C D : Addr} {ml mr mr' : Str → Option Value} {ex fr : List (Addr × Obj)} {yrs : List Value} {ys : List MV} {ρ : List Addr} {h : Heap} (own : Own c mr ml ex) (hfr : TI.SameUp c.fr fr)
    (S : St (c.at scope tg cl C ml ex fr D yrs) mr' ρ H h) (hy : VRs ρ ys yrs) : ∃ oC mC, LCg.NsObj oC mC ∧ St (c.wx ((C, oC) :: c.xt)) mr (ρ ++ [D]) (H ++ [.list ys]) h ∧ (ρ ++ [D])[H.length]? = some D := by
  obtain ⟨ml', fr', ex', own', u, F, os, a1, a2, a3, N, a5⟩ := S
  obtain ⟨e0, oC, mC, cs, q1, q2, _⟩ := own'
  have e0' : ml' = ml := e0
  subst e0' q1
  replace N : News c.h₀ c.L h ((fr' ++ (((D, LCg.lst yrs) :: c.xt) ++ ((C, oC) :: (cs ++ ex)))) ++ ρ.zip os) := N
  replace a5 : ((fr' ++ (((D, LCg.lst yrs) :: c.xt) ++ ((C, oC) :: (cs ++ ex)))).map (·.1) ++ ρ).Nodup := a5
  have sb : (fr' ++ (((D, LCg.lst yrs) :: c.xt) ++ ((C, oC) :: ex))).Sublist (fr' ++ (((D, LCg.lst yrs) :: c.xt) ++ ((C, oC) :: (cs ++ ex)))) := (List.Sublist.refl _).append ((List.Sublist.refl _).append ((List.sublist_append_right cs ex).cons₂ _))
  replace N : News c.h₀ c.L h ((fr' ++ (((D, LCg.lst yrs) :: c.xt) ++ ((C, oC) :: ex))) ++ ρ.zip os) := fun q hq => N q (by
    rcases List.mem_append.mp hq with hq | hq
    · exact List.mem_append_left _ (sb.subset hq)
    · exact List.mem_append_right _ hq)
  replace a5 : ((fr' ++ (((D, LCg.lst yrs) :: c.xt) ++ ((C, oC) :: ex))).map (·.1) ++ ρ).Nodup := a5.sublist ((sb.map (·.1)).append (List.Sublist.refl ρ))
  refine ⟨oC, mC, q2, ?_, last_get a2⟩
  have hp : ((fr' ++ (((D, LCg.lst yrs) :: c.xt) ++ ((C, oC) :: ex))).map (·.1) ++ ρ).Perm (D :: ((fr' ++ (((C, oC) :: c.xt) ++ ex)).map (·.1) ++ ρ)) := by
    simp only [List.map_append, List.map_cons, List.cons_append, List.append_assoc]
    have h1 := List.perm_middle (a := C) (l₁ := fr'.map (·.1) ++ D :: c.xt.map (·.1)) (l₂ := ex.map (·.1) ++ ρ)
    have h2 := List.perm_middle (a := D) (l₁ := fr'.map (·.1)) (l₂ := c.xt.map (·.1) ++ (ex.map (·.1) ++ ρ))
    have h3 : (fr'.map (·.1) ++ D :: (c.xt.map (·.1) ++ C :: (ex.map (·.1) ++ ρ))).Perm (C :: (fr'.map (·.1) ++ D :: (c.xt.map (·.1) ++ (ex.map (·.1) ++ ρ)))) := by simpa [List.append_assoc] using h1
    have h4 := List.perm_middle (a := C) (l₁ := fr'.map (·.1)) (l₂ := c.xt.map (·.1) ++ (ex.map (·.1) ++ ρ))
    exact (h3.trans ((List.Perm.cons _ h2).trans (List.Perm.swap _ _ _))).trans (List.Perm.cons _ h4.symm)
  have hnd := List.nodup_cons.mp (hp.nodup_iff.mp a5)
  have hN : News c.h₀ c.L h ((D, LCg.lst yrs) :: ((fr' ++ (((C, oC) :: c.xt) ++ ex)) ++ ρ.zip os)) := fun q hq => N q (by
    simp only [List.cons_append, List.mem_append, List.mem_cons] at hq ⊢
    rcases hq with hp | (hp | hp | hp | hp) | hp <;> simp [hp])
  refine ⟨ml', fr', ex, own, hfr.trans u, Led.alloc (l := D) (x := LCg.lst yrs) (o := .list ys) a1 a2 a3 hnd.2 F hN ?_ ⟨yrs, yrs.length, hy.mono, rfl⟩⟩
  intro q hq e
  refine hnd.1 ?_
  rw [← e]
  rcases List.mem_append.mp hq with hq | hq
  · exact List.mem_append_left _ (List.mem_map_of_mem hq)
  · exact List.mem_append_right _ (List.of_mem_zip (show (q.1, q.2) ∈ _ from hq)).1
structure ItOk (c : Cx) (I : Addr) (T : Nat → Obj → Prop) (good : MH → Prop) (item : Nat → MH → Option MV) (ρ : List Addr) : Prop where
  nx : ∀ c₁ : Cx, c₁.A = c.A → NX c₁ I T good item ρ
  go : GoOk T
  slf : ∀ (s : Shared) (Q : Value → Shared → Prop) (E : Value → Shared → Prop) (i : Nat) (o : Obj), T i o → s.heap.get? I = some o → Q (.ref I) s → wpAny (model c.prog c.w) c.A (pyIter (.ref I)) Q E s
theorem compCore (ok : Ok G c d) {tg : List Str} {elt : CE} {cs : CTs} {target iter el : PySem.Expr} {ifs : List PySem.Expr} {scope : Scope} {pos : Pos} {post : MV → MH → Prop}
    (h0 : c.nm.contains (".0" : Str) = false) (ht : isTg scope tg target = true) (hcb : compb c.sc scope tg = true) (hcs : wfTs cs (c.nm ++ tg) scope ifs = true) (hel : wfE elt (c.nm ++ tg) scope el = true)
    {I : Addr} {T : Nat → Obj → Prop} {good : MH → Prop} {item : Nat → MH → Option MV} {ρ : List Addr} (it : ItOk c I T good item ρ)
    (J : Nat → List MV → MH → Prop) (B : Nat) (hB : B ≤ 1000000) (hJ0 : J 0 [] H) (hJ : ∀ i ys H1, J i ys H1 → i ≤ B ∧ ys.length ≤ i ∧ good H1)
    (turn : ∀ i ys H1 v, J i ys H1 → item i H1 = some v → ∃ vs, PartsN H1 tg v vs ∧ ∀ c', Sub G c c' d → c'.nm = c.nm ++ tg →
      TC c' (m ++ vs.map some) cs H1 (fun r H2 => (r = false → J (i + 1) ys H2) ∧ (r = true → TE c' (m ++ vs.map some) elt H2 (fun y H3 => J (i + 1) (ys ++ [y]) H3))))
    (done : ∀ i ys H1, J i ys H1 → item i H1 = none → post (.ref H1.length) (H1 ++ [.list ys]))
    {mr : Str → Option Value} {s : Shared} {RR : Value → Addr → Result → Shared → Prop} {E : Value → Shared → Prop} {oI : Obj} (hT : T 0 oI) (S : St (c.wx ((I, oI) :: c.xt)) mr ρ H s.heap) (lr : LR mr c.nm ρ m)
    (k : ∀ C D t v H' h tk oC mC, post v H' → LCg.NsObj oC mC → St (c.wx ((C, oC) :: c.xt)) mr (ρ ++ t) H' h → VR (ρ ++ t) v (.ref D) → RR (.ref D) C (.ok .next) { s with heap := h, toks := tk }) :
    wpAny (model c.prog c.w) c.A (newList []) (fun acc s₃ => wpAny (model c.prog c.w) c.A (newFunctionEnv scope c.env.globals (clF c.env scope.names []) [] c.env.qual none .none (some c.env)) (fun cenv s₄ =>
      codeAny (model c.prog c.w) c.A (.compStart (.ListComp (reE elt (c.nm ++ tg) el) [⟨target, iter, reTs cs (c.nm ++ tg) ifs, 0⟩] scope pos) 0 (.ref I) acc { cenv with scope := relabel scope c.env }) (RR acc cenv.locals) s₄) E s₃) E s := by
  obtain ⟨hkind, hcell, hloc, hfree⟩ := comp_scope hcb
  obtain ⟨ts, htn⟩ := tgN_of ht
  obtain ⟨ml, fr, ex, own, u, F, os, a1, a2, a3, N, a5⟩ := S
  replace N : News c.h₀ c.L s.heap ((fr ++ (((I, oI) :: c.xt) ++ ex)) ++ ρ.zip os) := N
  replace a5 : ((fr ++ (((I, oI) :: c.xt) ++ ex)).map (·.1) ++ ρ).Nodup := a5
  replace own : Own c mr ml ex := own
  have hlt : ∀ a ∈ (fr ++ (((I, oI) :: c.xt) ++ ex)).map (·.1) ++ ρ, a < s.heap.objs.size := fun a ha => by
    obtain ⟨p, hp, e⟩ := led_addr (os := os) a1 a2 ha
    rw [← e]
    exact Heap.lt_size (N p hp).1
  refine wpAny_newObj_type (newEnv_comp ?_)
  dsimp only
  generalize hH2 : s.heap.push { cls := .type "list", dict := none, data := .seq ([] : List Value).toArray } = H2
  have hC : H2.objs.size = s.heap.objs.size + 1 := by rw [← hH2, Heap.size_push]
  have hns₁ : (pushCells (H2.push { cls := .type "dict", data := .dict #[] }) scope.names).Ns H2.objs.size (fun _ => none) := (Heap.Ns.new H2 (.type "dict")).keeps (pushCells_keeps _ _)
  have old' : ∀ b o, H2.get? b = some o → (pushCells (H2.push { cls := .type "dict", data := .dict #[] }) scope.names).get? b = some o := fun b o e => pushCells_keeps _ _ _ _ (Heap.get?_push_of_some _ e)
  have hcsF : ∀ p ∈ csFrom (H2.objs.size + 1) scope.names, (pushCells (H2.push { cls := .type "dict", data := .dict #[] }) scope.names).get? p.1 = some p.2 ∧ H2.objs.size + 1 ≤ p.1 ∧ p.2 = cellO := fun p hp => by
    have := csFrom_get (h := H2.push { cls := .type "dict", data := .dict #[] }) (names := scope.names) (p := p) (by rw [Heap.size_push]; exact hp)
    rw [Heap.size_push] at this
    exact this
  generalize pushCells (H2.push { cls := .type "dict", data := .dict #[] }) scope.names = h₁ at hns₁ old' hcsF ⊢
  have hDC : s.heap.objs.size ≠ H2.objs.size := by rw [hC]; exact Nat.ne_of_lt (Nat.lt_succ_self _)
  have old : ∀ b o, s.heap.get? b = some o → h₁.get? b = some o := fun b o e => old' b o (hH2 ▸ Heap.get?_push_of_some _ e)
  have hacc : h₁.get? s.heap.objs.size = some (LCg.lst []) := old' _ _ (hH2 ▸ Heap.get?_push_size _ rfl)
  have fresh₀ : ∀ a, s.heap.objs.size ≤ a → c.h₀.get? a = none := fun a ha => by
    cases e : c.h₀.get? a with
    | none => rfl
    | some o' => exact absurd (Heap.lt_size (F.keep a o' e)) (Nat.not_lt.mpr ha)
  have hLlt : c.L < s.heap.objs.size := F.ns.lt
  obtain ⟨oC, hCo, hoC⟩ := LCg.ns_obj hns₁
  let cl : List (Str × Addr) := cellsFrom (H2.objs.size + 1) scope.names (clF c.env scope.names [])
  let cs₀ : List (Addr × Obj) := csFrom (H2.objs.size + 1) scope.names
  let cc : List Value → Cx := fun yrs => c.at scope tg cl H2.objs.size ml ex fr s.heap.objs.size yrs
  let mr₀ : Str → Option Value := fun y => if scope.names.lookup y = some .local ∨ scope.names.lookup y = some .cell then none else mr y
  have hkl : ∀ y, (relabel scope c.env).names.lookup y = some .local ↔ scope.names.lookup y = some .local := fun y => by
    constructor
    · intro q
      exact kcl1 (by rw [← kcl_relabel (env := c.env), q]; rfl)
    · intro q
      exact kcl1 (by rw [kcl_relabel, q]; rfl)
  have hown : ∀ x, kcl (c.sc.names.lookup x) = 2 → ∃ a o, c.env.cells.lookup x = some a ∧ (a, o) ∈ ex ∧ o.data = .cell (mr x) := fun x h2 => by
    rw [← ok.kd] at h2
    unfold Own at own
    split at own
    · obtain ⟨_, _, o2⟩ := own
      exact o2 _ (kcl2 h2)
    · obtain ⟨_, oC', mC', cs', q1, _, _, o2, _⟩ := own
      obtain ⟨a, o, e1, e2, e3⟩ := o2 _ (kcl2 h2)
      exact ⟨a, o, e1, by rw [q1]; exact .tail _ e2, e3⟩
  have hcells : ∀ p ∈ scope.names, p.2 = .free → (c.env.cells.lookup p.1).isSome = true := fun p hp e => by
    obtain ⟨a, o, e1, _⟩ := hown _ (hfree p hp e).1
    rw [e1]; rfl
  have hncell : ∀ x, scope.names.lookup x ≠ some .cell → (x, NameKind.cell) ∉ scope.names := fun x hx q => hx (hcell _ q rfl).1
  have hcelld : ∀ x, scope.names.lookup x = some .free → ∃ a o, cl.lookup x = some a ∧ (a, o) ∈ ex ∧ o.data = .cell (mr x) := fun x hx => by
    have hm : (x, NameKind.free) ∈ scope.names := mem_of_lookup hx
    have e : cl.lookup x = c.env.cells.lookup x := ((cells_own (x := x)).2 (hncell x (by rw [hx]; nofun))).trans (clF_at (fun p hp => (by cases hp)) hcells (.inl hm))
    rw [e]
    exact hown _ (hfree _ hm rfl).1
  have hclF : ∀ p ∈ clF c.env scope.names [], p.2 < H2.objs.size + 1 := fun p hp => by
    rcases clF_mem hcells hp with q | ⟨q1, q2⟩
    · cases q
    · obtain ⟨a, o, e1, e2, _⟩ := hown _ (hfree _ q1 rfl).1
      rw [q2] at e1
      cases e1
      have := hlt p.2 (List.mem_append_left _ (List.mem_map.mpr ⟨(p.2, o), List.mem_append_right _ (List.mem_append_right _ e2), rfl⟩))
      rw [hC]
      exact Nat.lt_succ_of_lt (Nat.lt_succ_of_lt this)
  have S1 : St ((cc []).wx ((I, oI) :: (cc []).xt)) mr₀ ρ H h₁ := by
    refine ⟨ml, fr, (H2.objs.size, oC) :: (cs₀ ++ ex), ?_, TI.SameUp.refl _, F.keeps old, os, a1, a2, a3, ?_, ?_⟩
    · refine ⟨rfl, oC, _, cs₀, rfl, hoC, fun x hx => ?_, fun x hx => ?_, fun x hx => ?_, fun x y a o h1 h2 h3 => ?_⟩
      · have hx' : scope.names.lookup x = some .local := (hkl x).mp hx
        show _ = if scope.names.lookup x = some .local ∨ scope.names.lookup x = some .cell then none else mr x
        rw [if_pos (.inl hx')]
      · have hx2 : kcl (scope.names.lookup x) = 2 := by
          rw [← kcl_relabel (env := c.env)]
          rcases hx with hx | hx
          · rw [show (relabel scope c.env).names.lookup x = some .cell from hx]; rfl
          · rw [show (relabel scope c.env).names.lookup x = some .free from hx]; rfl
        rcases kcl2 hx2 with q | q
        · obtain ⟨a, e1, e2⟩ := (cells_own (x := x) (n := H2.objs.size + 1) (acc := clF c.env scope.names [])).1 (mem_of_lookup q)
          refine ⟨a, cellO, e1, List.mem_append_left _ e2, ?_⟩
          show _ = Data.cell (if scope.names.lookup x = some .local ∨ scope.names.lookup x = some .cell then none else mr x)
          rw [if_pos (.inr q)]
          rfl
        · obtain ⟨a, o, e1, e2, e3⟩ := hcelld x q
          refine ⟨a, o, e1, List.mem_append_right _ e2, ?_⟩
          show _ = Data.cell (if scope.names.lookup x = some .local ∨ scope.names.lookup x = some .cell then none else mr x)
          rw [if_neg (by rw [q]; rintro (h | h) <;> cases h)]
          exact e3
      · obtain ⟨a, e1, e2⟩ := (cells_own (x := x) (n := H2.objs.size + 1) (acc := clF c.env scope.names [])).1 (mem_of_lookup (show scope.names.lookup x = some .cell from hx))
        exact ⟨relabel_cell hx, a, cellO, e1, e2⟩
      · exact cells_inj (n0 := H2.objs.size + 1) (Nat.le_refl _) hclF (fun p hp q hq hn _ => absurd (hclF p hp) (Nat.not_lt.mpr hn)) (x, a) (mem_of_lookup h1) (y, a) (mem_of_lookup h2) (hcsF _ h3).2.1 rfl
    · show News c.h₀ c.L h₁ ((fr ++ (((I, oI) :: (s.heap.objs.size, LCg.lst []) :: c.xt) ++ ((H2.objs.size, oC) :: (cs₀ ++ ex)))) ++ ρ.zip os)
      intro p hp
      have hsplit : p = (s.heap.objs.size, LCg.lst []) ∨ p = (H2.objs.size, oC) ∨ p ∈ cs₀ ∨ p ∈ (fr ++ (((I, oI) :: c.xt) ++ ex)) ++ ρ.zip os := by
        simp only [List.cons_append, List.mem_append, List.mem_cons] at hp ⊢
        rcases hp with (hp | hp | hp | hp | hp | hp | hp) | hp <;> simp [hp]
      rcases hsplit with rfl | rfl | hq | hq
      · exact ⟨hacc, Nat.ne_of_gt hLlt, fresh₀ _ (Nat.le_refl _)⟩
      · exact ⟨hCo, by show H2.objs.size ≠ c.L; rw [hC]; exact Nat.ne_of_gt (Nat.lt_succ_of_lt hLlt), fresh₀ _ (by show s.heap.objs.size ≤ H2.objs.size; rw [hC]; exact Nat.le_succ _)⟩
      · obtain ⟨g1, g2, _⟩ := hcsF p hq
        rw [hC] at g2
        have g3 : s.heap.objs.size < p.1 := Nat.lt_of_lt_of_le (Nat.lt_succ_of_lt (Nat.lt_succ_self _)) g2
        exact ⟨g1, Nat.ne_of_gt (Nat.lt_trans hLlt g3), fresh₀ _ (Nat.le_of_lt g3)⟩
      · exact ⟨old _ _ (N p hq).1, (N p hq).2⟩
    · show ((fr ++ (((I, oI) :: (s.heap.objs.size, LCg.lst []) :: c.xt) ++ ((H2.objs.size, oC) :: (cs₀ ++ ex)))).map (·.1) ++ ρ).Nodup
      have hp : ((fr ++ (((I, oI) :: (s.heap.objs.size, LCg.lst []) :: c.xt) ++ ((H2.objs.size, oC) :: (cs₀ ++ ex)))).map (·.1) ++ ρ).Perm (cs₀.map (·.1) ++ (H2.objs.size :: s.heap.objs.size :: ((fr ++ (((I, oI) :: c.xt) ++ ex)).map (·.1) ++ ρ))) := by
        simp only [List.map_append, List.map_cons, List.cons_append, List.append_assoc]
        have h0 : (fr.map (·.1) ++ I :: s.heap.objs.size :: (c.xt.map (·.1) ++ H2.objs.size :: (cs₀.map (·.1) ++ (ex.map (·.1) ++ ρ)))).Perm (cs₀.map (·.1) ++ (fr.map (·.1) ++ I :: s.heap.objs.size :: (c.xt.map (·.1) ++ H2.objs.size :: (ex.map (·.1) ++ ρ)))) := by
          have := List.perm_append_comm_assoc (fr.map (·.1) ++ I :: s.heap.objs.size :: (c.xt.map (·.1) ++ [H2.objs.size])) (cs₀.map (·.1)) (ex.map (·.1) ++ ρ)
          simpa [List.append_assoc] using this
        refine h0.trans (List.Perm.append_left _ ?_)
        have h1 := List.perm_middle (a := H2.objs.size) (l₁ := fr.map (·.1) ++ I :: s.heap.objs.size :: c.xt.map (·.1)) (l₂ := ex.map (·.1) ++ ρ)
        have h2 := List.perm_middle (a := s.heap.objs.size) (l₁ := fr.map (·.1) ++ [I]) (l₂ := c.xt.map (·.1) ++ (ex.map (·.1) ++ ρ))
        have h3 : (fr.map (·.1) ++ I :: s.heap.objs.size :: (c.xt.map (·.1) ++ H2.objs.size :: (ex.map (·.1) ++ ρ))).Perm (H2.objs.size :: (fr.map (·.1) ++ I :: s.heap.objs.size :: (c.xt.map (·.1) ++ (ex.map (·.1) ++ ρ)))) := by simpa [List.append_assoc] using h1
        have h4 : (fr.map (·.1) ++ I :: s.heap.objs.size :: (c.xt.map (·.1) ++ (ex.map (·.1) ++ ρ))).Perm (s.heap.objs.size :: (fr.map (·.1) ++ I :: (c.xt.map (·.1) ++ (ex.map (·.1) ++ ρ)))) := by simpa [List.append_assoc] using h2
        exact h3.trans (List.Perm.cons _ h4)
      rw [hp.nodup_iff, List.nodup_append]
      have inn : ∀ a ∈ H2.objs.size :: s.heap.objs.size :: ((fr ++ (((I, oI) :: c.xt) ++ ex)).map (·.1) ++ ρ), a < H2.objs.size + 1 := fun a ha => by
        rcases List.mem_cons.mp ha with rfl | ha
        · exact Nat.lt_succ_self _
        · rw [hC]
          rcases List.mem_cons.mp ha with rfl | ha
          · exact Nat.lt_succ_of_lt (Nat.lt_succ_self _)
          · exact Nat.lt_succ_of_lt (Nat.lt_succ_of_lt (hlt a ha))
      refine ⟨csFrom_nodup.1, ?_, fun a ha b hb e => ?_⟩
      · rw [List.nodup_cons, List.nodup_cons]
        refine ⟨?_, ?_, a5⟩
        · intro q
          rcases List.mem_cons.mp q with q | q
          · exact hDC q.symm
          · have h9 := hlt _ q
            rw [hC] at h9
            exact Nat.lt_irrefl _ (Nat.lt_of_succ_lt h9)
        · intro q
          exact Nat.lt_irrefl _ (hlt _ q)
      · obtain ⟨p, hp', rfl⟩ := List.mem_map.mp ha
        have g := csFrom_nodup.2 p hp'
        have g2 := inn b hb
        rw [← e] at g2
        exact Nat.lt_irrefl _ (Nat.lt_of_lt_of_le g2 g)
  have okc : ∀ yrs xt, Ok G ((cc yrs).wx xt) d := fun yrs xt => (comp_ok ok hkind u).wx xt
  have hm0 : ∀ x, x ∉ tg → scope.names.lookup x ≠ some .local → mr₀ x = mr x := fun x hxt hx => by
    show (if scope.names.lookup x = some .local ∨ scope.names.lookup x = some .cell then none else mr x) = _
    rw [if_neg]
    rintro (q | q)
    · exact hx q
    · exact hxt (hcell _ (mem_of_lookup q) rfl).2
  have loop : ∀ s₃ : Shared, (∃ tk, s₃ = { s with heap := h₁, toks := tk }) →
      codeAny (model c.prog c.w) c.A (.compLoop (.ListComp (reE elt (c.nm ++ tg) el) [⟨target, iter, reTs cs (c.nm ++ tg) ifs, 0⟩] scope pos) 0 (.ref I) (.ref s.heap.objs.size) (compEnvC scope cl H2.objs.size c.env)) (RR (.ref s.heap.objs.size) H2.objs.size) s₃ := by
    rintro s₃ ⟨tk₃, rfl⟩
    let K : Nat → Shared → Prop := fun n s' => ∃ i ys yrs t mr' H1 h' tk o, s' = { s with heap := h', toks := tk } ∧ n = B + 1 - i ∧ J i ys H1 ∧ T i o ∧ VRs (ρ ++ t) ys yrs ∧ (∀ x, x ∉ tg → scope.names.lookup x ≠ some .local → mr' x = mr x) ∧ St ((cc yrs).wx ((I, o) :: (cc yrs).xt)) mr' (ρ ++ t) H1 h'
    refine loopC K ?_ (B + 1) ⟨0, [], [], [], mr₀, H, h₁, tk₃, oI, rfl, rfl, hJ0, hT, rfl, hm0, nil_of S1⟩
    rintro n _ ⟨i, ys, yrs, t, mr', H1, h', tk, o, rfl, rfl, hJi, hTi, hy, hmr, S2⟩ E'
    obtain ⟨b1, b2, b3⟩ := hJ i ys H1 hJi
    refine it.nx (cc yrs) rfl i o mr' t H1 { s with heap := h', toks := tk } _ E' hTi b3 S2 ?_ ?_
    · intro mv vr oI' h2 tk2 hi hv hT' hI hkeep
      have S3 := S2.turnX hI hkeep
      refine letOwned it.go hT' hI ?_
      obtain ⟨vs, hp, hturn⟩ := turn i ys H1 mv hJi hi
      refine assignTgC (c := (cc yrs).wx ((I, oI') :: (cc yrs).xt)) (s := { s with heap := h2, toks := tk2 }) ok.hh rfl hkind (okc yrs _).kd ht hv hp S3 ?_
      intro vrs h3 tk3 hvr hvl S4
      have l4 : LR (upd mr' tg vrs) (c.nm ++ tg) (ρ ++ t) (m ++ vs.map some) := lr_comp hcb h0 htn lr.mono hmr hvr hvl
      have kxF : ∀ (ρ' : List Addr) (s' : Shared), Kx ((cc yrs).wx ((I, oI') :: (cc yrs).xt)) ρ' s' E' := fun ρ' s' t C as e m' mr' H' h' tk hX => hX.elim
      have sub : Sub G c ((cc yrs).wx ((I, oI') :: (cc yrs).xt)) d := ⟨okc yrs _, rfl, rfl, rfl⟩
      have hnext : ∀ x, x ∉ tg → scope.names.lookup x ≠ some .local → upd mr' tg vrs x = mr x := fun x hx hl => by rw [upd_off hx]; exact hmr x hx hl
      refine tests_of (c := (cc yrs).wx ((I, oI') :: (cc yrs).xt)) (s := { s with heap := h3, toks := tk3 }) (hturn _ sub rfl) hcs S4 l4 ?_ (kxF _ _)
      intro t5 b H5 h5 tk5 hb S5
      rw [List.append_assoc] at S5
      cases b with
      | false =>
        simp only [Bool.false_eq_true, if_false]
        have hJ' := hb.1 rfl
        have := (hJ _ _ _ hJ').1
        refine ⟨B + 1 - (i + 1), by omega, i + 1, ys, yrs, t ++ t5, _, H5, h5, tk5, oI', rfl, rfl, hJ', hT', ?_, hnext, S5⟩
        rw [← List.append_assoc]
        exact hy.mono
      | true =>
        simp only [if_true]
        refine hb.2 rfl _ hel (upd mr' tg vrs) _ { s with heap := h5, toks := tk5 } _ E' S5 (by rw [← List.append_assoc]; exact l4.mono) ?_ (kxF _ _)
        intro t6 y yr H6 h6 tk6 hJ' hyr S6
        simp only [List.append_assoc] at hyr S6
        have nD := S6.fact (p := (s.heap.objs.size, LCg.lst yrs)) (.tail _ (.head _))
        have hlen := (hJ i ys H1 hJi).2.1
        refine append_at nD.1 (fun h7 hs7 hD7 => ?_) (by show yrs.toArray.size ≤ sizeLine; rw [List.size_toArray, hy.length]; exact Nat.le_trans (Nat.le_trans (Nat.le_trans hlen b1) hB) (by decide))
        have S7 := S6.growD (c := cc yrs) hs7 (hD7.trans (congrArg some (LCg.lst_snoc yrs yr)))
        have := (hJ _ _ _ hJ').1
        refine ⟨B + 1 - (i + 1), by omega, i + 1, ys ++ [y], yrs ++ [yr], t ++ (t5 ++ t6), _, H6, h7, tk6, oI', rfl, rfl, hJ', hT', ?_, hnext, S7⟩
        have e1 : ρ ++ (t ++ (t5 ++ t6)) = ρ ++ t ++ (t5 ++ t6) := by simp only [List.append_assoc]
        refine VRs.append ?_ ⟨yr, [], rfl, hyr, rfl⟩
        rw [e1]
        exact hy.mono
    · intro h2 tk2 hi hkeep
      have S3 := St.endX (c := cc yrs) S2 hkeep
      obtain ⟨oC', mC, hn, g1, g2⟩ := comp_end own u S3 hy
      rw [List.append_assoc] at g1 g2
      exact k H2.objs.size s.heap.objs.size (t ++ [s.heap.objs.size]) (.ref H1.length) _ h2 tk2 oC' mC (done i ys H1 hJi hi) hn g1 ⟨_, g2, rfl⟩
  exact codeAny_compStart_list (loop _ ⟨_, rfl⟩) (it.slf _ _ _ 0 oI hT (old _ _ (N (I, oI) (by simp)).1) (loop _ ⟨_, rfl⟩))
end
section
variable {c : Cx} {m : ML} {H : MH} {G : Gx} {d : Nat}
noncomputable def Turns (G : Gx) (d : Nat) (c : Cx) (m : ML) (tg : List Str) (elt : CE) (cs : CTs) (item : Nat → MH → Option MV) (good : MH → Prop) (B : Nat) (H : MH) (post : MV → MH → Prop) : Prop :=
  B ≤ 1000000 ∧ ∃ J : Nat → List MV → MH → Prop, J 0 [] H ∧ (∀ i ys H1, J i ys H1 → i ≤ B ∧ ys.length ≤ i ∧ good H1) ∧
    (∀ i ys H1 v, J i ys H1 → item i H1 = some v → ∃ vs, PartsN H1 tg v vs ∧ ∀ c', Sub G c c' d → c'.nm = c.nm ++ tg →
      TC c' (m ++ vs.map some) cs H1 (fun r H2 => (r = false → J (i + 1) ys H2) ∧ (r = true → TE c' (m ++ vs.map some) elt H2 (fun y H3 => J (i + 1) (ys ++ [y]) H3)))) ∧
    (∀ i ys H1, J i ys H1 → item i H1 = none → post (.ref H1.length) (H1 ++ [.list ys]))
noncomputable def Src (G : Gx) (d : Nat) (c : Cx) (m : ML) (tg : List Str) (elt : CE) (cs : CTs) (it : CE) (H : MH) (post : MV → MH → Prop) : Prop :=
  ∀ (e : PySem.Expr) (mr : Str → Option Value) (ρ : List Addr) (s : Shared) (Q : Value → Shared → Prop) (E : Value → Shared → Prop), wfE it c.nm c.sc e = true → St c mr ρ H s.heap → LR mr c.nm ρ m → Kx c ρ s E →
    (∀ t H' h' tk I T good item B oI, ItOk c I T good item (ρ ++ t) → Turns G d c m tg elt cs item good B H' post → T 0 oI → St (c.wx ((I, oI) :: c.xt)) mr (ρ ++ t) H' h' → Q (.ref I) { s with heap := h', toks := tk }) →
    wpAny (model c.prog c.w) c.A (eval (reE it c.nm e) c.env) (fun x s₁ => wpAny (model c.prog c.w) c.A (pyIter x) Q E s₁) E s
theorem cells_some (ok : Ok G c d) {scope : Scope} {tg : List Str} (hcb : compb c.sc scope tg = true) {mr : Str → Option Value} {ρ : List Addr} {h : Heap} (S : St c mr ρ H h) : ∀ p ∈ scope.names, p.2 = .free → (c.env.cells.lookup p.1).isSome = true := fun p hp e => by
  obtain ⟨_, _, _, hfree⟩ := comp_scope hcb
  obtain ⟨ml, fr, ex, own, _⟩ := S
  have h2 := (hfree p hp e).1
  rw [← ok.kd] at h2
  unfold Own at own
  split at own
  · obtain ⟨_, _, o2⟩ := own
    obtain ⟨a, o, e1, _⟩ := o2 _ (kcl2 h2)
    rw [e1]; rfl
  · obtain ⟨_, _, _, _, _, _, _, o2, _⟩ := own
    obtain ⟨a, o, e1, _⟩ := o2 _ (kcl2 h2)
    rw [e1]; rfl
theorem St.same {mr : Str → Option Value} {ρ : List Addr} {h h' : Heap} {C : Addr} {o : Obj} (S : St (c.wx ((C, o) :: c.xt)) mr ρ H h) (hs : Heap.SameBut C h h') : St c mr ρ H h' := S.endX fun b x hb e => (hs.2 b hb).trans e
theorem comp_wf {elt : CE} {tg : List Str} {it : CE} {cs : CTs} {nm : List Str} {sc : Scope} {e : PySem.Expr} (he : wfE (.comp elt tg it cs) nm sc e = true) :
    nm.contains (".0" : Str) = false ∧ isTg (scOf e) tg (reTg tg (kid 1 e)) = true ∧ compb sc (scOf e) tg = true ∧ wfE it nm sc (kid 2 e) = true ∧ wfTs cs (nm ++ tg) (scOf e) ((kids e).drop 3) = true ∧ wfE elt (nm ++ tg) (scOf e) (kid 0 e) = true := by
  obtain ⟨he, h5⟩ := and2 he
  obtain ⟨he, h4⟩ := and2 he
  obtain ⟨he, h3⟩ := and2 he
  obtain ⟨he, h2⟩ := and2 he
  obtain ⟨h0, h1, h1'⟩ := and3 he
  exact ⟨by simpa using h0, tg_re h1 h1', h2, h3, h4, h5⟩
theorem TE.comp (ok : Ok G c d) {elt : CE} {tg : List Str} {it : CE} {cs : CTs} {post : MV → MH → Prop} (h : Src G d c m tg elt cs it H post) : TE c m (.comp elt tg it cs) H post := by
  intro e he
  obtain ⟨h0, h1, h2, h3, h4, h5⟩ := comp_wf he
  obtain ⟨hkind, hcell, hloc, hfree⟩ := comp_scope h2
  intro mr ρ s Q E S l k kx
  show wpAny _ _ (eval (.ListComp (reE elt (c.nm ++ tg) (kid 0 e)) [⟨reTg tg (kid 1 e), reE it c.nm (kid 2 e), reTs cs (c.nm ++ tg) ((kids e).drop 3), 0⟩] (scOf e) e.pos) c.env) _ _ _
  rw [eval_ListComp]
  refine wpAny_comprehension_free (e := .ListComp (reE elt (c.nm ++ tg) (kid 0 e)) [⟨reTg tg (kid 1 e), reE it c.nm (kid 2 e), reTs cs (c.nm ++ tg) ((kids e).drop 3), 0⟩] (scOf e) e.pos) (g := ⟨reTg tg (kid 1 e), reE it c.nm (kid 2 e), reTs cs (c.nm ++ tg) ((kids e).drop 3), 0⟩) (gs := []) (use := Option.none) rfl (fun x => folded_of h3 x) (closureFor_of (cells_some ok h2 S)) hkind (fun x hx e => (hloc x hx e).1) ?_
  refine h _ mr ρ s _ E h3 S l kx ?_
  rintro t H' h' tk I T good item B oI hit ⟨hB, J, j0, j1, j2, j3⟩ hT S1
  refine compCore (s := { s with heap := h', toks := tk }) ok h0 h1 h2 h4 h5 hit J B hB j0 j1 j2 j3 hT S1 l.mono ?_
  intro C D t' v H2 h2 tk2 oC mC hp hn S2 hv
  refine ⟨mC, hn.ns S2.itr.1, fun h3 hs => ?_⟩
  have S3 := S2.same hs
  rw [List.append_assoc] at S3 hv
  exact k (t ++ t') v _ H2 h3 tk2 hp hv S3
theorem TS.assignC (ok : Ok G c d) (hfm : c.fm = none) {i : Nat} {elt : CE} {tg : List Str} {it : CE} {cs : CTs} {post : Fl → ML → MH → Prop} (h : Src G d c m tg elt cs it H (fun v H1 => post .next (m.set i (some v)) H1)) : TS c m (.assign i (.comp elt tg it cs)) H post := by
  intro st hs
  obtain ⟨hs1, hs2, he⟩ := and3 hs
  have hs1 := beq_iff_eq.mp hs1
  have hE := TE.comp ok h _ he
  obtain ⟨h0, h1, h2, h3, h4, h5⟩ := comp_wf he
  obtain ⟨hkind, hcell, hloc, hfree⟩ := comp_scope h2
  generalize hx : c.nm.getD i "" = x at hs1 hs2
  intro mr ρ s Q E S l k kx
  show wpAny _ _ (exec (.Assign [.Name (c.nm.getD i "") (ex 1 st).pos] (.ListComp (reE elt (c.nm ++ tg) (kid 0 (ex 0 st))) [⟨reTg tg (kid 1 (ex 0 st)), reE it c.nm (kid 2 (ex 0 st)), reTs cs (c.nm ++ tg) ((kids (ex 0 st)).drop 3), 0⟩] (scOf (ex 0 st)) (ex 0 st).pos) st.pos) c.env) _ _ _
  rw [hx]
  by_cases hsw : swapsWith (.ListComp (reE elt (c.nm ++ tg) (kid 0 (ex 0 st))) [⟨reTg tg (kid 1 (ex 0 st)), reE it c.nm (kid 2 (ex 0 st)), reTs cs (c.nm ++ tg) ((kids (ex 0 st)).drop 3), 0⟩] (scOf (ex 0 st)) (ex 0 st).pos) (some (.Name x (ex 1 st).pos)) st.pos.line c.env = pure true
  · rw [exec_Assign_Name_used _ _ _ _ hsw]
    refine wpAny_bind (wpAny_standAt (wpAny_bind ?_))
    show wpAny _ c.A (do let _ ← comprehension (.ListComp (reE elt (c.nm ++ tg) (kid 0 (ex 0 st))) [⟨reTg tg (kid 1 (ex 0 st)), reE it c.nm (kid 2 (ex 0 st)), reTs cs (c.nm ++ tg) ((kids (ex 0 st)).drop 3), 0⟩] (scOf (ex 0 st)) (ex 0 st).pos) (scOf (ex 0 st)) c.env _ (newList []) false (eval (reE it c.nm (kid 2 (ex 0 st))) c.env) (some (PySem.assign (.Name x (ex 1 st).pos) c.env))) _ _ s
    refine wpAny_bind (wpAny_mono (wpAny_comprehension_free (e := .ListComp (reE elt (c.nm ++ tg) (kid 0 (ex 0 st))) [⟨reTg tg (kid 1 (ex 0 st)), reE it c.nm (kid 2 (ex 0 st)), reTs cs (c.nm ++ tg) ((kids (ex 0 st)).drop 3), 0⟩] (scOf (ex 0 st)) (ex 0 st).pos) (g := ⟨reTg tg (kid 1 (ex 0 st)), reE it c.nm (kid 2 (ex 0 st)), reTs cs (c.nm ++ tg) ((kids (ex 0 st)).drop 3), 0⟩) (gs := []) (use := some (PySem.assign (.Name x (ex 1 st).pos) c.env)) (Q := fun _ s' => Q .next s') rfl (fun x => folded_of h3 x) (closureFor_of (cells_some ok h2 S)) hkind (fun x hx e => (hloc x hx e).1) ?_) (fun _ s' hq => wpAny_pure (wpAny_pure hq)) fun _ _ e => e)
    refine h _ mr ρ s _ E h3 S l kx ?_
    rintro t H' h' tk I T good item B oI hit ⟨hB, J, j0, j1, j2, j3⟩ hT S1
    refine compCore (post := fun v H1 => post .next (m.set i (some v)) H1) (s := { s with heap := h', toks := tk }) ok h0 h1 h2 h4 h5 hit J B hB j0 j1 j2 j3 hT S1 l.mono ?_
    intro C D t' v H2 hp2 tk2 oC mC hp hn S2 hv
    show wpAny _ _ (PySem.assign (.Name x (ex 1 st).pos) c.env (.ref D)) _ _ _
    refine wpAny_assign_Name ?_
    refine store (c := c.wx ((C, oC) :: c.xt)) (s := { s with heap := hp2, toks := tk2 }) (ok.wx _) S2 hfm hs2 ?_
    intro h3 tk3 S3
    refine ⟨mC, hn.ns S3.itr.1, fun h4 hs4 => ?_⟩
    have S4 := S3.same hs4
    rw [List.append_assoc] at S4 hv
    exact k (t ++ t') .next .next _ _ H2 h4 tk3 hp rfl S4 (l.mono.set hs1 hv)
  · have hsw' : swapsWith (.ListComp (reE elt (c.nm ++ tg) (kid 0 (ex 0 st))) [⟨reTg tg (kid 1 (ex 0 st)), reE it c.nm (kid 2 (ex 0 st)), reTs cs (c.nm ++ tg) ((kids (ex 0 st)).drop 3), 0⟩] (scOf (ex 0 st)) (ex 0 st).pos) (some (.Name x (ex 1 st).pos)) st.pos.line c.env = pure false := by
      unfold swapsWith at hsw ⊢
      simp only at hsw ⊢
      generalize (c.env.blockKind == .function && c.env.kindOf x == some .local && (ex 1 st).pos.line == _ && _) = b at hsw ⊢
      cases b with
      | false => rfl
      | true => exact absurd rfl hsw
    refine wpAny_Assign_Name ?_ hsw'
    refine hE mr ρ s _ E S l ?_ kx
    intro t v vr H1 hp1 tk1 hp hv S1
    refine store ok S1 hfm hs2 ?_
    intro h' tk S2
    exact k t .next .next _ _ H1 h' tk hp rfl S2 (l.mono.set hs1 hv)
end
section
variable {c : Cx} {m : ML} {H : MH} {G : Gx} {d : Nat}
theorem Src.list (ok : Ok G c d) {tg : List Str} {elt : CE} {cs : CTs} {it : CE} {post : MV → MH → Prop}
    (h : TE c m it H (fun l H1 => ∃ a xs B, l = .ref a ∧ H1[a]? = some (.list xs) ∧ Turns G d c m tg elt cs (itemL a) (fun H => ∃ xs, H[a]? = some (.list xs)) B H1 post)) : Src G d c m tg elt cs it H post := by
  intro e mr ρ s Q E he S l kx k
  refine h _ he mr ρ s _ E S l ?_ kx
  rintro t lv lr H1 h1 tk1 ⟨a, xs, B, rfl, ha, ht⟩ ⟨y, hy, rfl⟩ S1
  obtain ⟨vs, ep, hvs, No⟩ := S1.list ha hy
  refine wpAny_pyIter_list (isList_of No) ?_
  refine k t H1 _ tk1 _ (fun i o => o.cls = .type "list_iterator" ∧ o.data = .fields #[.ref y, .int i 0]) _ _ B _ ⟨fun c₁ e => NX.list (by rw [e]; exact ok.hh) hy, fun i o hT => ⟨_, _, hT.1, hT.2, rfl⟩, fun s' Q E i o hT hI hq => ?_⟩ ht ⟨rfl, rfl⟩ (S1.addX rfl)
  exact wpAny_pyIter_listiter ⟨o, hI, hT.1, hT.2⟩ hq
theorem Src.range (ok : Ok G c d) (hg : nsIn G.K mainGlobals "range" = some none) {tg : List Str} {elt : CE} {cs : CTs} {a : CE} {r : CEs} {post : MV → MH → Prop}
    (h : TEs c m (.cons a r) H (fun vs H1 => ∃ lo hi, Rng vs lo hi ∧ Turns G d c m tg elt cs (itemR lo hi) (fun _ => True) (hi - lo).toNat H1 post)) : Src G d c m tg elt cs (.call "range" (.cons a r)) H post := by
  intro e mr ρ s Q E he S l kx k
  refine callType ok (T := "range") hg boot_range (by decide) he (by intro q; cases q) S l kx h ?_
  rintro t vs vrs H1 hp1 tk1 ⟨lo, hi, hr, ht⟩ hv S1
  refine call_range S1 hr hv ?_
  intro h' tk t₁ u₁ v₁ hR S2 _
  refine wpAny_pyIter_range hR (small_one hr.2.1 hr.2.2.1 hr.2.2.2.1 hr.2.2.2.2) ?_
  refine k t H1 _ tk _ (fun i o => o = { cls := .type "range_iterator", data := .fields #[rawInt (lo + i), rawInt (((hi - lo).toNat : Int) - i), rawInt 1] }) _ _ _ _ ⟨fun c₁ e => NX.range (a := lo) (b := hi) (by rw [e]; exact ok.hh), fun i o hT => (by subst hT; exact ⟨_, _, rfl, rfl, rfl⟩), fun s' Q E i o hT hI hq => ?_⟩ ht ?_ (S2.addX rfl)
  · subst hT
    exact wpAny_pyIter_rangeiter (show IsRangeIter s'.heap _ _ _ _ from hI) hq
  · rw [rangeSize_nat]
    simp
theorem TC.mono {c : Cx} {m : ML} : ∀ {cs : CTs} {H : MH} {p q : Bool → MH → Prop}, TC c m cs H p → (∀ r H2, p r H2 → q r H2) → TC c m cs H q
  | .nil, _, _, _, h, hpq => hpq _ _ h
  | .cons t r, _, _, _, h, hpq => TT.mono h fun b H1 hb => ⟨fun e => hpq _ _ (hb.1 e), fun e => TC.mono (hb.2 e) hpq⟩
theorem Turns.range {tg : List Str} {x : Str} {elt : CE} {cs : CTs} {lo hi : Int} {post : MV → MH → Prop} (htg : tg = [x]) (hB : (hi - lo).toNat ≤ 1000000) (J : Nat → List MV → MH → Prop) (j0 : J 0 [] H) (jl : ∀ i ys H1, J i ys H1 → ys.length ≤ i)
    (turn : ∀ i ys H1, J i ys H1 → lo + i < hi → ∀ c', Sub G c c' d → c'.nm = c.nm ++ tg →
      TC c' (m ++ [some (.int (lo + i))]) cs H1 (fun r H2 => (r = false → J (i + 1) ys H2) ∧ (r = true → TE c' (m ++ [some (.int (lo + i))]) elt H2 (fun y H3 => J (i + 1) (ys ++ [y]) H3))))
    (done : ∀ ys H1, J (hi - lo).toNat ys H1 → post (.ref H1.length) (H1 ++ [.list ys])) : Turns G d c m tg elt cs (itemR lo hi) (fun _ => True) (hi - lo).toNat H post := by
  subst htg
  refine ⟨hB, fun i ys H1 => i ≤ (hi - lo).toNat ∧ J i ys H1, ⟨Nat.zero_le _, j0⟩, fun i ys H1 q => ⟨q.1, jl i ys H1 q.2, trivial⟩, ?_, ?_⟩
  · intro i ys H1 v q hi'
    unfold itemR at hi'
    split at hi'
    · rename_i hlt
      cases hi'
      refine ⟨[.int (lo + i)], rfl, fun c' sub hn => ?_⟩
      have h1 := turn i ys H1 q.2 hlt c' sub hn
      refine h1.mono ?_
      intro r H2 hr
      exact ⟨fun e => ⟨by omega, hr.1 e⟩, fun e => (hr.2 e).mono fun y H3 hy => ⟨by omega, hy⟩⟩
    · cases hi'
  · intro i ys H1 q hi'
    unfold itemR at hi'
    split at hi'
    · cases hi'
    · have : i = (hi - lo).toNat := by have := q.1; omega
      exact done ys H1 (this ▸ q.2)
theorem Turns.list {tg : List Str} {elt : CE} {cs : CTs} {a : Nat} {xs : List MV} {post : MV → MH → Prop} (hB : xs.length ≤ 1000000) (J : Nat → List MV → MH → Prop) (j0 : J 0 [] H) (jl : ∀ i ys H1, J i ys H1 → ys.length ≤ i ∧ H1[a]? = some (.list xs))
    (turn : ∀ i ys H1 v, J i ys H1 → xs[i]? = some v → ∃ vs, PartsN H1 tg v vs ∧ ∀ c', Sub G c c' d → c'.nm = c.nm ++ tg →
      TC c' (m ++ vs.map some) cs H1 (fun r H2 => (r = false → J (i + 1) ys H2) ∧ (r = true → TE c' (m ++ vs.map some) elt H2 (fun y H3 => J (i + 1) (ys ++ [y]) H3))))
    (done : ∀ ys H1, J xs.length ys H1 → post (.ref H1.length) (H1 ++ [.list ys])) : Turns G d c m tg elt cs (itemL a) (fun H => ∃ xs, H[a]? = some (.list xs)) xs.length H post := by
  refine ⟨hB, fun i ys H1 => i ≤ xs.length ∧ J i ys H1, ⟨Nat.zero_le _, j0⟩, fun i ys H1 q => ⟨q.1, (jl i ys H1 q.2).1, xs, (jl i ys H1 q.2).2⟩, ?_, ?_⟩
  · intro i ys H1 v q hi'
    have hx : xs[i]? = some v := by unfold itemL at hi'; rw [(jl i ys H1 q.2).2] at hi'; exact hi'
    have hlt := (List.getElem?_eq_some_iff.mp hx).1
    obtain ⟨vs, hp, ht⟩ := turn i ys H1 v q.2 hx
    refine ⟨vs, hp, fun c' sub hn => (ht c' sub hn).mono fun r H2 hr => ?_⟩
    exact ⟨fun e => ⟨hlt, hr.1 e⟩, fun e => (hr.2 e).mono fun y H3 hy => ⟨hlt, hy⟩⟩
  · intro i ys H1 q hi'
    have hx : xs[i]? = none := by unfold itemL at hi'; rw [(jl i ys H1 q.2).2] at hi'; exact hi'
    have : i = xs.length := Nat.le_antisymm q.1 (List.getElem?_eq_none_iff.mp hx)
    exact done ys H1 (this ▸ q.2)
end
noncomputable def GExc (G : Gx) (g : Str) (C : Addr) (bm : List Value) : Prop :=
  nsIn G.K mainGlobals g = some (some (.ref C)) ∧ ∃ (Bn newId inN : String) (bmN : List Value) (B nid initId : String), ExcBaseFacts Bn newId inN bmN ∧ bm.contains (.type Bn) = true ∧ ExcBaseFacts B nid initId bm ∧ excIn G.K C bm newId = true
section
variable {c : Cx} {m : ML} {H : MH} {G : Gx} {d : Nat}
theorem fly_new {mr : Str → Option Value} {ρ : List Addr} {h h' : Heap} {C e : Addr} {as : List MV} {vs : List Value} (S : St c mr ρ H h) (hv : VRs ρ as vs) (hx : Heap.MadeExcOf h h' e (.ref C) vs) : Fly c mr ρ H C as e h' := by
  obtain ⟨t, h1, h2, h3⟩ := hx.there
  exact ⟨h, t, vs, S, hv, hx.new, h2, ⟨_, _, h3, rfl, rfl⟩, Heap.UpToSlots.of_keeps hx.keeps, fun b o q => hx.keeps b o (TI.gone_some q).2, .inl ⟨_, _, h1, rfl, rfl, rfl, rfl⟩⟩
theorem TS.raise (ok : Ok G c d) {g : Str} {C : Addr} {bm : List Value} {a : CE} {r : CEs} {post : Fl → ML → MH → Prop} (hg : GExc G g C bm) (h : TEs c m (.cons a r) H (fun vs H1 => vs.length ≤ 1000 ∧ c.X C vs m H1)) : TS c m (.raise g (.cons a r)) H post := by
  intro st hs
  obtain ⟨h2, h3⟩ := and2 hs
  intro mr ρ s Q E S l k kx
  obtain ⟨hns, Bn, newId, inN, bmN, B, nid, initId, Fn, hBn, FB, hexc⟩ := hg
  have O := own_of_in ok.kin (topRead_of ok.top) hns hexc
  obtain ⟨tl, N, nm, q, bs, hdct, sn, sub, ab, col, dd, k0, k1, k2, k3, k5, mN, hC, hN, hni, T⟩ := O.obj
  have h4 := and2 h3
  have hst : starEach (reEs (.cons a r) c.nm (kids (ex 0 st)).tail) c.env = (false, eval (reE a c.nm (nth 0 (kids (ex 0 st)).tail)) c.env) :: starEach (reEs r c.nm (kids (ex 0 st)).tail.tail) c.env := star_cons (star_re h4.1)
  refine wpAny_Raise_call_subU (C := C) (nm := nm) (q := q) (N := N) (bs := bs) (bm := tl) (hdct := hdct) (sn := sn) (sub := sub) (ab := ab) (col := col) (dd := dd) (k0 := k0) (k1 := k1) (k2 := k2) (k3 := k3) (k5 := k5)
    Fn hBn FB (mN := mN) (T.hasType FB.hasBase) ok.hh (star_plain h3) hni ?_
  refine nameG ok S h2 hns ⟨rfl, ?_⟩
  rw [hst]
  refine Calls.evalArgs_plain ?_
  have hA := h _ (ex 0 st).pos h3 mr ρ s (fun vs s₂ => vs.length ≤ sizeLine ∧ (∀ b o, c.h₀.get? b = some o → s₂.heap.get? b = some o) ∧ ∀ h' e, Heap.MadeExcOf s₂.heap h' e (.ref C) vs → E (.ref e) { s₂ with heap := h' }) E S l ?_ kx
  · rw [hst] at hA
    exact wpAny_mono hA (fun vs s₂ h₂ => ⟨rfl, h₂.1, h₂.2.1 _ _ hC, hN.keeps h₂.2.1, T.keeps h₂.2.1, h₂.2.2⟩) fun _ _ y => y
  · rintro t vs vrs H1 h1 tk1 ⟨hl, hX⟩ hv S1
    refine ⟨by rw [hv.length]; exact Nat.le_trans hl (by decide), S1.keep, fun h' e hx => ?_⟩
    exact kx t C vs e m mr H1 h' tk1 hX (fly_new S1 hv hx) l.mono
noncomputable def Cx.wX (c : Cx) (X : Addr → List MV → ML → MH → Prop) : Cx := { c with X := X }
theorem Ok.wX {G : Gx} {c : Cx} {d : Nat} (ok : Ok G c d) (X : Addr → List MV → ML → MH → Prop) : Ok G (c.wX X) d :=
  ⟨ok.frames, ok.kin, ok.top, ok.hh, ok.dep, ok.uni, ok.fn, ok.gl, ok.bi, ok.ap, ok.kd, ok.fs, ok.ex⟩
noncomputable def Takes (G : Gx) (g : Str) (C : Addr) : Prop := ∃ (y : Str) (bm : List Value), GExc G y C bm ∧
  ((∃ T' : String, nsIn G.K mainGlobals g = some none ∧ bootBuiltins g = some (.type T') ∧ g ≠ "__name__" ∧ isSubtype (.type T') (.type "BaseException") = pure true ∧
      isSubtype (.type ((Manifest.find? T').elim "type" fun y => y.metatype)) (.type "tuple") = pure false ∧ bm.contains (.type T') = true) ∨
   (g = y ∧ bm.contains (.type "BaseException") = true))
theorem FlyH.st (ok : Ok G c d) {mr : Str → Option Value} {ρ : List Addr} {C : Addr} {as : List MV} {e : Addr} {h : Heap} (f : FlyH c mr ρ H C as e .none h) : St c mr ρ H h := (f.fly (.inl rfl)).st ok
theorem takes_test (ok : Ok G c d) {g : Str} {np : Pos} {mr : Str → Option Value} {ρ : List Addr} {C : Addr} {as : List MV} {e : Addr} {s : Shared} {A : Around} {Q : Bool → Shared → Prop} {E : Value → Shared → Prop} (hT : Takes G g C) (hx : glb c.sc g = true) (hA : A.handled = c.A.handled ∨ True)
    (f : FlyH c mr ρ H C as e .none s.heap) (k : Q true s) : wpAny (model c.prog c.w) A (eval (.Name g np) c.env) (fun cv s₁ => wpAny (model c.prog c.w) A (excMatches (.ref e) cv) Q E s₁) E s := by
  have S := f.st ok
  let c' : Cx := { c with A := A }
  have T := topRead_of ok.top
  unfold glb at hx
  simp only [Bool.and_eq_true, beq_iff_eq, bne_iff_ne, ne_eq] at hx
  have hd' : (g == ("__debug__" : Str)) = false := by simpa using hx.1
  have hk := kcl3 ((ok.kd g).trans hx.2)
  obtain ⟨hB, t, vs, b, x⟩ := f
  obtain ⟨oe, ws, T', oT, ts, q1, q2, q3, q4, q5, q6, q7, q8, q9⟩ := x
  obtain ⟨y, bm, ⟨hns, Bn, newId, inN, bmN, B, nid, initId, Fn, hBn, FB, hexc⟩, hcase⟩ := hT
  have O := (own_of_in ok.kin T hns hexc).keeps S.keep
  obtain ⟨tl, N, nm, q, bs, hdct, sn, sub, ab, col, dd, k0, k1, k2, k3, k5, mN, hC, hN, hni, TL⟩ := O.obj
  obtain ⟨hp, gs, dr, tk, os⟩ := s
  rcases hcase with ⟨T'', e1, e2, e3, e4, e5, e6⟩ | ⟨rfl, e2⟩
  · refine Name_function_global ok.fn hk (loadGlobal_builtin (env := c.env) (by rw [ok.gl]; exact T.g.keeps S.keep) (mg_none_of ok.kin T.g e1) (by rw [ok.bi]; exact T.b.keeps S.keep) ((T.builtins g e3).trans e2) ?_) hd'
    refine wpAny_excMatches_sub_type hC q1 q2.1 e4 e5 ?_
    rw [TL.hasType e6]
    exact k
  · refine Name_function_global ok.fn hk (loadGlobal_global (env := c.env) (by rw [ok.gl]; exact T.g.keeps S.keep) (mg_of ok.kin T.g hns) ?_) hd'
    exact wpAny_excMatches_sub_self hC q1 q2.1 (TL.hasType e2) k
theorem TS.tryA (ok : Ok G c d) (hfm : c.fm = none) {b : CSs} {g : Str} {i : Nat} {x : Str} {post : Fl → ML → MH → Prop}
    (h : TB (c.wX fun C as m1 H1 => Takes G g C ∧ post .next (m1.set i (some (.str x))) H1) m b H post) : TS c m (.try b (.cons g none (.cons (.assign i (.str x)) .nil) .nil)) H post := by
  intro st hs
  obtain ⟨h1, h2⟩ := and2 hs
  obtain ⟨h2, h8⟩ := and2 h2
  obtain ⟨h4, h5, h6, h7⟩ := and4 h2
  intro mr ρ s Q E S l k kx
  show wpAny _ _ (exec (.Try (reSs b c.nm (bl0 st)) [.ExceptHandler (some (.Name g (hTy (nthH (hsOf st))))) none [reS (.assign i (.str x)) c.nm (nthS (hBody (nthH (hsOf st))))] (hPos (nthH (hsOf st)))] [] [] st.pos) c.env) _ _ _
  rw [arm_exec_Try]
  refine wpAny_bind (wpAny_standAt (wpAny_tryStmt_except ?_))
  refine h _ h1 mr ρ s _ _ S l ?_ ?_
  · intro t fl fr m' mr' H' h' tk hp hf S' l'
    cases fl with
    | next => subst hf; exact wpAny_execs_nil (k t .next .next m' mr' H' h' tk hp rfl S' l')
    | brk => subst hf; exact k t .brk .brk m' mr' H' h' tk hp rfl S' l'
    | cont => subst hf; exact k t .cont .cont m' mr' H' h' tk hp rfl S' l'
    | ret v => obtain ⟨vr, rfl, hv⟩ := hf; exact k t (.ret v) (.ret vr) m' mr' H' h' tk hp ⟨vr, rfl, hv⟩ S' l'
  · rintro t C as e m' mr' H' h' tk ⟨hT, hp⟩ hF hL
    have hF' : Fly c mr' (ρ ++ t) H' C as e h' := hF
    refine Fly.note (s := { s with heap := h', toks := tk }) ok hfm rfl hF' fun h2 f2 => ?_
    refine FlyH.flight (s := { s with heap := h2, toks := tk }) none f2 fun h3 f3 => ?_
    refine wpAny_handleBy_cons (codeAny_handlers_test ?_) (by intro q; cases q)
    refine takes_test (s := { s with heap := h3, toks := tk }) ok hT h4 (.inr trivial) f3 ?_
    refine codeAny_handlers_suite ?_
    refine FlyH.flight (s := { s with heap := h3, toks := tk }) none f3 fun h5' f5 => ?_
    have S5 := f5.st ok
    let c' : Cx := { c with A := c.A.mark (some (.ref e)) }
    have hTB : TB c' m' (.cons (.assign i (.str x)) .nil) H' (fun fl m2 H2 => fl = .next ∧ m2 = m'.set i (some (.str x)) ∧ H2 = H') := by
      refine TB.cons ?_
      intro st hst
      obtain ⟨g1, g2, g3⟩ := and3 hst
      have g1 := beq_iff_eq.mp g1
      intro mr ρ s Q E S l k kx
      refine wpAny_Assign_Name ?_ (swaps_not (comp_re g3 rfl))
      refine (TE.str (c := c') (m := m') (post := fun v H1 => v = .str x ∧ H1 = H') ⟨rfl, rfl⟩) _ g3 mr ρ s _ E S l ?_ kx
      rintro t v vr H1 hp1 tk1 ⟨rfl, rfl⟩ hv S1
      refine store' (c := c') ok.ap ok.fn ok.fs S1 hfm g2 ?_
      intro h' tk S2
      exact k t .next .next _ _ H1 h' tk (TB.nil ⟨rfl, rfl, rfl⟩) rfl S2 (l.mono.set g1 hv)
    refine hTB _ h7 mr' (ρ ++ t) { s with heap := h5', toks := tk } _ _ S5 hL ?_ ?_
    · rintro t' fl fr m2 mr2 H2 h6' tk2 ⟨rfl, rfl, rfl⟩ hf S6 l6
      subst hf
      rw [List.append_assoc] at S6 l6
      exact k (t ++ t') .next .next _ mr2 H2 h6' tk2 hp rfl S6 l6
    · intro t' C' as' e' m2 mr2 H2 h6' tk2 hX hF2 hL2
      have hX' : c.X C' as' m2 H2 := hX
      rw [List.append_assoc] at hF2 hL2
      exact (Kx.pass (M := model c.prog c.w) (A := c.A.mark (some (.ref e))) (A' := c.A) ok hfm rfl kx) (t ++ t') C' as' e' m2 mr2 H2 h6' tk2 hX' hF2 hL2
end
theorem law_entry {G : Gx} (d : Nat) (hdd : d ≤ 600) {prog : Program} {w : World} {s : Shared} {fa sa : Addr} {o : Obj} {fd : FuncData} {body : List Stmt} {x : Str} {nm : List Str} {k : CSs} {R : Result → Shared → Prop}
    (kin : G.K.In s.heap) (hex : G.ex s.heap) (T : Top G.p G.loose G.mean G.mg G.mb s.heap) (ho : s.heap.get? fa = some o) (hd : o.data = .func fd) (hcd : s.heap.CodeRec fd.code fd.qualname)
    (hbody : fd.body = .stmts body) (hgl : fd.globals = mainGlobals) (hcl : fd.closure = []) (hbi : fd.builtins = builtinsNs)
    (hb : BindsTo s fd ⟨[.ref sa], []⟩ [(x, .ref sa)]) (hfn : fnb fd.scope [x] nm = true) (hwf : wfSs k nm fd.scope body = true) (hre : reSs k nm body = body)
    (h : ∀ c : Cx, c.prog = prog → c.w = w → c.h₀ = s.heap → Ok G c d → c.fm = none → interactive c.env = false → c.nm = nm → c.X = (fun _ _ _ _ => False) → TB c (start nm [.glob sa]) k [] (fun fl _ _ => retv fl = .bool true))
    (hR : ∀ L m h' tk, Fr s.heap L h' m → R (.ok (.ret (.bool true))) { s with heap := h', toks := tk }) :
    codeAny (model prog w) callerA (.call (.ref fa) ⟨[.ref sa], []⟩) R s := by
  unfold fnb at hfn
  simp only [Bool.and_eq_true, beq_iff_eq, decide_eq_true_eq, Bool.not_eq_true', List.all_eq_true] at hfn
  obtain ⟨⟨⟨⟨⟨⟨⟨hn1, hn2⟩, hn3⟩, hco⟩, hgen⟩, hk⟩, hnd⟩, hnf⟩ := hfn
  have hnf' : fd.scope.names.all (fun p => p.2 != .free) = true := List.all_eq_true.mpr hnf
  have hmemn : ∀ y ∈ [(x, Value.ref sa)], fd.scope.names.lookup y.1 = some .local ∨ fd.scope.names.lookup y.1 = some .cell := fun y hy => by
    have := hn3 y.1 (by rw [List.mem_singleton] at hy; subst hy; exact .head _)
    unfold stb at this
    simpa using this
  refine codeAny_call_function (by decide) ho hd hco hgen hbody hcd (hb _ _ _ _ ?_)
  rw [hgl, hcl, hbi]
  refine wpAny_newFunctionEnv_cells hk (fun x hx => (hmemn x hx).imp id fun q => ⟨q, cellsFrom_some _ _ _ (.inl q)⟩) fun env' he s' x' => ?_
  subst he
  refine ⟨T.nolimit.keeps x'.toInCall.keep, codeAny_func ?_⟩
  obtain ⟨h₁, tk, rfl, hk₁⟩ := x'.done
  obtain ⟨cells, NC, Y⟩ := Cl.news (h₀ := s.heap) (Nat.le_refl _) fun n c hm => ⟨x'.cell n c (lookup_of_mem_nodup (cellsFrom_names fd.scope.names 0 (s.heap.objs.size + 1) [] [] rfl ▸ hnd) hm), x'.above n c hm⟩
  let env' : Env := envOfC fd.qualname fd.scope s.heap.objs.size fa fd.code
  let mr' : Str → Option Value := fun y => if env'.kindOf y = some .local then bindL env'.kindOf [(x, .ref sa)] (fun _ => none) y else bindC env'.kindOf [(x, .ref sa)] (fun _ => none) y
  let c' : Cx := { prog := prog, w := w, A := callerA.deeper env', env := env', h₀ := s.heap, L := s.heap.objs.size, fm := none, fr := [], xt := [], X := fun _ _ _ _ => False, nm := nm, sc := fd.scope }
  have ok' : Ok G c' d := by
    refine ⟨⟨env', [], Around.frames_deeper rfl, rfl, hk, trivial, fun _ => rfl⟩, kin, T, rfl, ?_, ?_, hk, rfl, rfl, fun _ => x'.apart, fun _ => rfl, fun _ => rfl, hex⟩
    · show 1 + claimMargin + 1 + d < recursionLimit
      exact Nat.lt_of_le_of_lt (Nat.add_le_add_left hdd _) (by decide)
    · show 4 + 3 + 8 * d + 64 < cLine
      exact Nat.lt_of_le_of_lt (Nat.add_le_add_right (Nat.add_le_add_left (Nat.mul_le_mul_left 8 hdd) _) 64) (by decide)
  have S' : St c' mr' [] [] h₁ := by
    refine ⟨bindL env'.kindOf [(x, .ref sa)] (fun _ => none), [], cells, ?_, trivial, ⟨x'.toInCall.ns, fun b o e => hk₁ b o e, Nat.le_refl _⟩, [], rfl, rfl, ?_, ?_, ?_⟩
    · refine ⟨rfl, fun y hy => ?_, fun y hy => ?_⟩
      · show _ = if env'.kindOf y = some .local then _ else _
        rw [if_pos hy]
      · rcases hy with hy | hy
        · have hs : ((cellsFrom (s.heap.objs.size + 1) fd.scope.names []).lookup y).isSome = true := cellsFrom_some _ _ _ (.inl hy)
          obtain ⟨a, ha⟩ := Option.isSome_iff_exists.mp hs
          obtain ⟨o, h1, h2⟩ := cells_get Y ha
          refine ⟨a, o, ha, h1, h2.trans ?_⟩
          have hnl : ¬ env'.kindOf y = some .local := by
            intro q
            have q' : env'.kindOf y = some .cell := hy
            rw [q] at q'
            cases q'
          show _ = Data.cell (if env'.kindOf y = some .local then _ else _)
          rw [if_neg hnl]
          rfl
        · exact absurd hy (nofree hnf')
    · intro i o e
      simp at e
    · intro p hp
      replace hp : p ∈ (([] : List (Addr × Obj)) ++ ([] ++ cells)) ++ ([] : List Addr).zip [] := hp
      simp only [List.nil_append, List.zip_nil_left, List.append_nil] at hp
      exact NC p hp
    · have hcnd : (cells.map (·.1)).Nodup := by
        rw [cells_addrs Y]
        exact List.pairwise_map.mpr x'.apart
      show ((([] : List (Addr × Obj)) ++ ([] ++ cells)).map (fun p : Addr × Obj => p.1) ++ ([] : List Addr)).Nodup
      simpa using hcnd
  have l' : LR mr' nm [] (start nm [.glob sa]) := by
    have hle : 1 ≤ nm.length := by
      have := congrArg List.length hn1
      simp only [List.length_take, List.length_singleton] at this
      omega
    refine ⟨by unfold start; rw [List.length_append, List.length_map, List.length_replicate, List.length_singleton]; omega, fun i y v e1 e2 => ?_⟩
    unfold start at e2
    by_cases hi : i < 1
    · have h0 : i = 0 := by omega
      subst h0
      simp at e2
      subst e2
      have hy : x = y := by
        have := slot_get e1
        cases nm with
        | nil => simp at this
        | cons z zs =>
          simp at this hn1
          rw [hn1, this]
      subst hy
      refine ⟨.ref sa, rfl, ?_⟩
      show (if env'.kindOf x = some .local then _ else _) = _
      split
      · rename_i q; exact bindL_at (names := [x]) (vals := [.ref sa]) (i := 0) q (by simp) rfl rfl
      · rename_i q; exact bindC_at (names := [x]) (vals := [.ref sa]) (i := 0) q (by simp) rfl rfl
    · rw [List.getElem?_append_right (by rw [List.length_map, List.length_singleton]; omega), List.getElem?_replicate] at e2
      split at e2 <;> cases e2
  have hni : interactive env' = false := by
    unfold interactive
    rw [show env'.scope.kind = .function from hk]
    rfl
  have hb2 : EX c' (start nm [.glob sa]) (reSs k nm body) [] (fun fl _ _ => retv fl = .bool true) := h c' rfl rfl rfl ok' rfl hni rfl rfl body hwf
  rw [hre] at hb2
  refine hb2 mr' [] { s with heap := h₁, toks := tk } _ _ S' l' ?_ ?_
  · intro t fl fr' m' mr'' H' h' tk' hp hfl S2 _
    obtain ⟨ml, xs, led, _⟩ := S2.open
    cases fl with
    | ret v =>
      obtain ⟨vr, rfl, hv⟩ := hfl
      have e : v = .bool true := hp
      subst e
      have e2 : vr = .bool true := hv
      subst e2
      exact hR _ ml h' tk' led.1
    | next => cases hp
    | brk => cases hp
    | cont => cases hp
  · intro t C as e m' mr'' H' h' tk' hX hF hL'
    exact False.elim hX
theorem zip_lookup {x : Str} {v : Value} : ∀ {names : List Str} {vs : List Value}, names.length = vs.length → x ∈ names → ((names.zip vs).lookup x).isSome = true
  | [], _, _, h => by cases h
  | _ :: _, [], h, _ => by cases h
  | y :: ns, u :: us, hl, h => by
    rw [List.zip_cons_cons, List.lookup_cons]
    by_cases e : x = y
    · subst e
      simp
    · have hb : (x == y) = false := by simpa using e
      rw [hb]
      rcases List.mem_cons.mp h with q | q
      · exact absurd q e
      · exact zip_lookup (v := v) (by simpa using hl) q
theorem fm_congr {α β : Type} {f g : α → Option β} : ∀ {l : List α}, (∀ x ∈ l, f x = g x) → l.filterMap f = l.filterMap g
  | [], _ => rfl
  | a :: l, h => by rw [List.filterMap_cons, List.filterMap_cons, h a (.head _), fm_congr fun x hx => h x (.tail _ hx)]
theorem zip_filterMap : ∀ {names : List Str} {vs : List Value}, names.Nodup → names.length = vs.length → (names.filterMap fun n => ((names.zip vs).lookup n).map (n, ·)) = names.zip vs
  | [], _, _, _ => rfl
  | _ :: _, [], _, h => by cases h
  | y :: ns, u :: us, hn, hl => by
    rw [List.nodup_cons] at hn
    rw [List.zip_cons_cons, List.filterMap_cons]
    have h0 : ((y, u) :: ns.zip us).lookup y = some u := by simp [List.lookup]
    rw [h0]
    simp only [Option.map_some]
    congr 1
    have : (ns.filterMap fun n => (((y, u) :: ns.zip us).lookup n).map (n, ·)) = (ns.filterMap fun n => ((ns.zip us).lookup n).map (n, ·)) := by
      refine fm_congr fun n hnm => ?_
      have hb : (n == y) = false := by
        have : n ≠ y := fun e => hn.1 (e ▸ hnm)
        simpa using this
      rw [List.lookup_cons, hb]
    rw [this, zip_filterMap hn.2 (by simpa using hl)]
noncomputable def plainPar (p : Arguments) : Bool := p.posonlyargs.isEmpty && p.vararg.isNone && p.kwonlyargs.isEmpty && p.kwarg.isNone
theorem bind_plain {fd : FuncData} {vs : List Value} (hp : plainPar fd.params = true) (hdf : fd.defaults = .none) (hn : (fd.params.args.map (·.arg)).Nodup) (hl : vs.length = (fd.params.args.map (·.arg)).length) :
    bindArgs fd ⟨vs, []⟩ = pure ((fd.params.args.map (·.arg)).zip vs) := by
  have hmiss : ((fd.params.args.map (·.arg)).filter fun n => (((fd.params.args.map (·.arg)).zip vs).lookup n).isNone) = [] := by
    rw [List.filter_eq_nil_iff]
    intro n hnm
    have := zip_lookup (v := .none) hl.symm hnm
    rw [Option.isSome_iff_ne_none] at this
    simpa [Option.isNone_iff_eq_none] using this
  have hz := zip_filterMap hn hl.symm
  clear hn
  unfold plainPar at hp
  simp only [Bool.and_eq_true, List.isEmpty_iff, Option.isNone_iff_eq_none] at hp
  obtain ⟨⟨⟨h1, h2⟩, h3⟩, h4⟩ := hp
  obtain ⟨nm, qn, ⟨po, as, va, ko, kd, kw, de⟩, bd, sc, gl, cl, dfs, kdf, _, _, _, _, _, _⟩ := fd
  dsimp only at *
  subst h1 h2 h3 h4 hdf
  unfold bindArgs
  dsimp only [List.map_nil, List.nil_append, List.append_nil]
  generalize as.map (·.arg) = N at *
  have hc : ¬ ((decide (vs.length > N.length) && (none : Option Arg).isNone) = true) := by
    rw [decide_eq_false (by rw [hl]; exact Nat.lt_irrefl _)]
    exact Bool.false_ne_true
  rw [List.forIn_nil, pure_bind, show seqItems? Value.none = pure none from rfl, pure_bind]
  dsimp only [List.map_nil, List.nil_append, List.append_nil, Option.getD_none, Array.toList_empty, List.drop_nil, List.length_nil, Nat.sub_zero, List.filter_nil]
  have hm : List.map (fun x : Arg => x.arg) ([] : List Arg) = [] := rfl
  rw [hm, List.nil_append, if_neg hc]
  simp only [List.drop_nil, List.length_nil, Nat.sub_zero, List.take_length, hmiss, List.zip_nil_right, List.forIn_nil, pure_bind, List.append_nil, hz, List.isEmpty_nil, Bool.not_true, Bool.false_eq_true, if_false]
noncomputable def bodyAt (K : Frag) (f : Addr) : List Stmt := match K.lookup f with
  | some ⟨_, _, .func fd, _⟩ => match fd.body with
    | .stmts body => body
    | _ => []
  | _ => []
noncomputable def defb (K : Frag) (f : Addr) (names nm : List Str) (b : CSs) : Bool :=
  match K.lookup f with
  | some ⟨_, _, .func fd, _⟩ =>
    (match fd.body with
    | .stmts body => wfSs b nm fd.scope body
    | _ => false) && fd.globals == mainGlobals && fd.closure.isEmpty && fd.builtins == builtinsNs && (match fd.defaults with | .none => true | _ => false) &&
      plainPar fd.params && (names == fd.params.args.map (·.arg)) && codeIn K fd.code fd.qualname && fnb fd.scope names nm
  | _ => false
theorem GDef.of {G : Gx} {f : Addr} {names nm : List Str} {b : CSs} (h : defb G.K f names nm b = true) (hre : reSs b nm (bodyAt G.K f) = bodyAt G.K f) : GDef G f names nm b [] := by
  unfold defb at h
  unfold bodyAt at hre
  cases hk : G.K.lookup f with
  | none => rw [hk] at h; cases h
  | some ob =>
    obtain ⟨oc, od, dat, osl⟩ := ob
    rw [hk] at h hre
    cases dat with
    | func fd =>
      simp only [Bool.and_eq_true, beq_iff_eq, List.isEmpty_iff] at h hre
      obtain ⟨⟨⟨⟨⟨⟨⟨⟨h1, h2⟩, h3⟩, h4⟩, h5⟩, h6⟩, h7⟩, h8⟩, h9⟩ := h
      obtain ⟨name, qual, params, bd, scope, gl, cl, df, kd, doc, pm, an, cd, ct, bi⟩ := fd
      cases bd with
      | stmts body =>
        simp only at h1 h2 h3 h4 h5 h6 h7 h8 h9 hre
        subst h2 h3 h4
        cases df with
        | none =>
          refine ⟨name, qual, params, body, scope, .none, kd, doc, pm, cd, ct, oc, an, od, osl, [], hk, h8, ?_, rfl, h9, h1, hre⟩
          intro s vs X hl
          refine BindsTo.of_eq ?_
          rw [List.append_nil]
          have hnn : names.Nodup := by
            unfold fnb at h9
            simp only [Bool.and_eq_true, beq_iff_eq, decide_eq_true_eq] at h9
            rw [h9.1.1.1.1.1.1.1]
            exact (List.take_sublist _ _).nodup h9.1.1.1.1.1.1.2
          subst h7
          exact bind_plain (fd := fnOf name qual params body scope .none kd doc pm an cd ct) h6 rfl hnn (by simpa using hl)
        | _ => cases h5
      | _ => cases h1
    | _ => cases h
noncomputable def isSomeRef (f : Addr) : Option (Option Value) → Bool
  | some (some (.ref g)) => g == f
  | _ => false
theorem isSomeRef_eq {f : Addr} {o : Option (Option Value)} (h : isSomeRef f o = true) : o = some (some (.ref f)) := by
  unfold isSomeRef at h
  split at h
  · rw [beq_iff_eq.mp h]
  · cases h
noncomputable def isSomeNone : Option (Option Value) → Bool
  | some none => true
  | _ => false
theorem isSomeNone_eq {o : Option (Option Value)} (h : isSomeNone o = true) : o = some none := by
  unfold isSomeNone at h
  split at h
  · rfl
  · cases h
noncomputable def fnk (K : Frag) (g : Str) (f : Addr) : Bool := isSomeRef f (nsIn K mainGlobals g) && keepIn K (.ref f)
theorem GFn.of {G : Gx} {g : Str} {f : Addr} (h : fnk G.K g f = true) : GFn G g f := by
  unfold fnk at h
  simp only [Bool.and_eq_true] at h
  exact ⟨isSomeRef_eq h.1, h.2⟩
noncomputable def clsk (K : Frag) (g : Str) (C fI : Addr) : Bool := fnk K g C && makesIn K C && isSomeRef fI (findIn K (.ref C) "__init__") && isFn K (.ref fI)
theorem GCls.of {G : Gx} {g : Str} {C fI : Addr} (h : clsk G.K g C fI = true) : GCls G g C fI := by
  unfold clsk at h
  simp only [Bool.and_eq_true] at h
  exact ⟨GFn.of h.1.1.1, h.1.1.2, isSomeRef_eq h.1.2, h.2⟩
noncomputable def attk (K : Frag) (C : Addr) (name : Str) : Bool := plainGet K C name && hasDictIn K C && isSomeNone (findIn K (.ref C) name)
theorem GAtt.of {G : Gx} {C : Addr} {name : Str} (h : attk G.K C name = true) : GAtt G C name := by
  unfold attk at h
  simp only [Bool.and_eq_true] at h
  exact ⟨h.1.1, h.1.2, isSomeNone_eq h.2⟩
noncomputable def stok (K : Frag) (C : Addr) (name : Str) : Bool :=
  (match findIn K (.ref C) "__setattr__" with | some (some (.builtin x)) => x == "object.__setattr__" | _ => false) && plainOver K C && isSomeNone (takerIn K C name) && hasDictIn K C
theorem GSto.of {G : Gx} {C : Addr} {name : Str} (h : stok G.K C name = true) : GSto G C name := by
  unfold stok at h
  simp only [Bool.and_eq_true] at h
  obtain ⟨⟨⟨h1, h2⟩, h3⟩, h4⟩ := h
  split at h1
  · rename_i x hx
    rw [beq_iff_eq] at h1
    subst h1
    exact ⟨hx, h2, isSomeNone_eq h3, h4⟩
  · cases h1
noncomputable def mthk (K : Frag) (C : Addr) (name : Str) (f : Addr) : Bool := plainGet K C name && isSomeRef f (findIn K (.ref C) name) && isFn K (.ref f) && keepIn K (.ref f)
theorem GMth.of {G : Gx} {C : Addr} {name : Str} {f : Addr} (h : mthk G.K C name f = true) : GMth G C name f := by
  unfold mthk at h
  simp only [Bool.and_eq_true] at h
  exact ⟨h.1.1.1, isSomeRef_eq h.1.1.2, h.1.2, h.2⟩
section
variable {c : Cx} {m : ML} {H : MH} {G : Gx} {d : Nat}
theorem swapped_not {v : PySem.Expr} {ts : List PySem.Expr} {n : Nat} {p : Pos} {env : Env} (h : notTuple v = true) : swappedStores [.Tuple ts n p] v env = pure none := by
  cases v <;> first | (cases h; done) | rfl
theorem TS.assignT (ok : Ok G c d) (hfm : c.fm = none) {is : List Nat} {a : CE} {post : Fl → ML → MH → Prop} (h : TE c m a H (fun v H1 => ∃ vs, Parts H1 is v vs ∧ post .next (setAll is vs m) H1)) : TS c m (.assignT is a) H post := by
  intro st hs
  obtain ⟨hs, h5⟩ := and2 hs
  obtain ⟨h1, h2, h3, h4⟩ := and4 hs
  have h2 := of_decide_eq_true h2
  intro mr ρ s Q E S l kk kx
  have ht : notTuple (reE a c.nm (ex 0 st)) = true := by
    cases a with
    | tup _ => cases h3
    | tst t => have h2 := tst_of h5; cases t <;> first | rfl | cases h2
    | _ => rfl
  refine wpAny_Assign_stores ?_ (show swapsWith (reE a c.nm (ex 0 st)) (some (.Tuple (reNames (atNm c.nm is) (kids (ex 1 st))) (numOf (ex 1 st)) (ex 1 st).pos)) st.pos.line c.env = pure false from swaps_not (comp_re h5 (by simpa using h4))) (swapped_not ht)
  refine h _ h5 mr ρ s _ E S l ?_ kx
  rintro t v vr H1 hp1 tk1 ⟨vs, hp, hq⟩ hv S1
  show wpAny _ _ (PySem.assign (.Tuple (reNames (atNm c.nm is) (kids (ex 1 st))) (numOf (ex 1 st)) (ex 1 st).pos) c.env vr) _ _ _
  refine assignTup ok hfm (is := is) (s := { s with heap := hp1, toks := tk1 }) h1 h2 hv hp S1 l.mono ?_
  intro mr' h' tk S2 l2
  exact kk t .next .next _ _ H1 h' tk hq rfl S2 l2
end
noncomputable def Ext (H H' : MH) : Prop := ∀ (i : Nat) (o : MO), H[i]? = some o → H'[i]? = some o
theorem Ext.refl (H : MH) : Ext H H := fun _ _ h => h
theorem Ext.trans {A B C : MH} (h : Ext A B) (g : Ext B C) : Ext A C := fun i o e => g i o (h i o e)
theorem get_app {H t : MH} {i : Nat} {o : MO} (h : H[i]? = some o) : (H ++ t)[i]? = some o := by
  rw [List.getElem?_append_left (List.getElem?_eq_some_iff.mp h).1]; exact h
theorem Ext.app {H H' : MH} (h : Ext H H') (t : MH) : Ext H (H' ++ t) := fun i o e => get_app (h i o e)
theorem Ext.set {H H' : MH} {a : Nat} {o : MO} (h : Ext H H') (ha : H.length ≤ a) : Ext H (H'.set a o) := fun i x e => by
  have := (List.getElem?_eq_some_iff.mp e).1
  rw [List.getElem?_set_ne (by omega)]
  exact h i x e
theorem Ext.len {H H' : MH} (h : Ext H H') : H.length ≤ H'.length := by
  rcases Nat.eq_zero_or_pos H.length with e | e
  · omega
  · have h1 : H[H.length - 1]? = some (H[H.length - 1]'(by omega)) := List.getElem?_eq_getElem (by omega)
    have := (List.getElem?_eq_some_iff.mp (h _ _ h1)).1
    omega
theorem Ext.ins {H H' : MH} (h : Ext H H') {i k : Nat} {C : Addr} {fs : List (Str × MV)} (x : Ins H i C k fs) : Ins H' i C k fs := ⟨h _ _ x.1, h _ _ x.2⟩
theorem get_set {H : MH} {a : Nat} {o x : MO} (h : H[a]? = some x) : (H.set a o)[a]? = some o := by
  rw [List.getElem?_set_self']; rw [h]; rfl
theorem get_end {H : MH} {o : MO} : (H ++ [o])[H.length]? = some o := by simp
theorem mulL {a b : Int} (h1 : -(2 ^ 64) < a) (h2 : a < 2 ^ 64) : IntMulOk a b := IntMulOk.of_left (intBits_le_64 h1 h2)
theorem mulR {a b : Int} (h1 : -(2 ^ 64) < b) (h2 : b < 2 ^ 64) : IntMulOk a b := IntMulOk.of_right (intBits_le_64 h1 h2)
theorem CL.use {G : Gx} {prog : Program} {w : World} {d d' : Nat} {f : Addr} {args : List MV} {H : MH} {p q : MV → MH → Prop} {xp : Addr → List MV → MH → Prop} (h : CL G prog w d f args H p xp) (hd : d ≤ d') (hp : ∀ v H', p v H' → q v H') :
    CL G prog w d' f args H q xp := (h.le hd).mono hp fun _ _ _ x => x
theorem set_end {H : MH} {a b : MO} : (H ++ [a]).set H.length b = H ++ [b] := by simp
noncomputable def isSomeInt (i : Int) : Option (Option Value) → Bool
  | some (some (.int j _)) => i == j
  | _ => false
theorem isSomeInt_eq {i : Int} {o : Option (Option Value)} (h : isSomeInt i o = true) : ∃ t, o = some (some (.int i t)) := by
  unfold isSomeInt at h
  split at h
  · rw [beq_iff_eq.mp h]; exact ⟨_, rfl⟩
  · cases h
theorem bb_len : bootBuiltins "len" = some (.builtin "len") := by kernel_rfl
theorem bb_max : bootBuiltins "max" = some (.builtin "max") := by kernel_rfl
theorem bb_list : bootBuiltins "list" = some (.type "list") := by kernel_rfl
structure Bs (G : Gx) : Prop where
  len : nsIn G.K mainGlobals "len" = some none
  max : nsIn G.K mainGlobals "max" = some none
  min : nsIn G.K mainGlobals "min" = some none
  sum : nsIn G.K mainGlobals "sum" = some none
  list : nsIn G.K mainGlobals "list" = some none
  range : nsIn G.K mainGlobals "range" = some none
  reversed : nsIn G.K mainGlobals "reversed" = some none
  type : nsIn G.K mainGlobals "type" = some none
  int : nsIn G.K mainGlobals "int" = some none
  str : nsIn G.K mainGlobals "str" = some none
theorem intL_get {ns : List Int} {i : Nat} {v : MV} (h : (intL ns)[i]? = some v) : ∃ a, v = .int a ∧ ns[i]? = some a := by
  unfold intL at h
  rw [List.getElem?_map] at h
  cases e : ns[i]? with
  | none => rw [e] at h; cases h
  | some a => rw [e] at h; cases h; exact ⟨a, rfl, rfl⟩
theorem take_fold {α β : Type} {f : β → α → β} {b : β} {l : List α} {i : Nat} {a : α} (h : l[i]? = some a) : (l.take (i + 1)).foldl f b = f ((l.take i).foldl f b) a := by
  rw [List.take_add_one, h, List.foldl_append]
  rfl
noncomputable def bmV : List Value := [.type "ValueError", .type "Exception", .type "BaseException", .type "object"]
noncomputable def excK (K : Frag) (g : Str) (C : Addr) : Bool := isSomeRef C (nsIn K mainGlobals g) && excIn K C bmV "ValueError.__new__"
theorem GExc.of {G : Gx} {g : Str} {C : Addr} (h : excK G.K g C = true) : GExc G g C bmV := by
  unfold excK at h
  simp only [Bool.and_eq_true] at h
  exact ⟨isSomeRef_eq h.1, "ValueError", "ValueError.__new__", "ValueError.__init__", bmV, "ValueError", "ValueError.__new__", "ValueError.__init__", PySem.F.excBase_ValueError, by decide +kernel, PySem.F.excBase_ValueError, h.2⟩
theorem bb_VE : bootBuiltins "ValueError" = some (.type "ValueError") := by kernel_rfl
theorem st_VE : isSubtype (.type "ValueError") (.type "BaseException") = pure true := by kernel_rfl
theorem st_VT : isSubtype (.type ((Manifest.find? "ValueError").elim "type" fun y => y.metatype)) (.type "tuple") = pure false := by kernel_rfl
theorem takesV {G : Gx} {g : Str} {C : Addr} (h : GExc G g C bmV) (hg : nsIn G.K mainGlobals "ValueError" = some none) : Takes G "ValueError" C :=
  ⟨g, bmV, h, .inl ⟨"ValueError", hg, bb_VE, by decide, st_VE, st_VT, by decide +kernel⟩⟩
noncomputable def Scr (c : Cx) (a : Addr) (ns : List Int) : Prop := ∃ vs : List Value, c.h₀.IsList a vs.toArray ∧ IntsAre vs ns ∧ ns.length ≤ 63
theorem ints_len {vs : List Value} {ns : List Int} (h : IntsAre vs ns) : vs.length = ns.length := by
  induction h with
  | nil => rfl
  | cons _ _ _ ih => simp [ih]
theorem ints_at {vs : List Value} {ns : List Int} (h : IntsAre vs ns) : ∀ n, n < ns.length → ∃ t, vs[n]? = some (.int (ns.getD n 0) t) := by
  induction h with
  | nil => intro n hn; simp at hn
  | cons i t _ ih =>
    intro n hn
    cases n with
    | zero => exact ⟨t, rfl⟩
    | succ n => exact ih n (by simpa using hn)
theorem Scr.len {c : Cx} {H : MH} {a : Addr} {ns : List Int} (S : Scr c a ns) {post : MV → MH → Prop} (h : post (.int ns.length) H) : BC c (.builtin "len") [.glob a] H post := by
  obtain ⟨vs, h1, h2, h3⟩ := S
  have := ints_len h2
  exact BC.lenG h1 (by omega) (by rw [this]; exact h)
theorem Scr.at {c : Cx} {H : MH} {a : Addr} {ns : List Int} (S : Scr c a ns) {n : Int} (h0 : 0 ≤ n) (h : n < ns.length) : Sq c H (.glob a) (.int n) (.int (ns.getD n.toNat 0)) := by
  obtain ⟨vs, h1, h2, h3⟩ := S
  have hl := ints_len h2
  obtain ⟨t, ht⟩ := ints_at h2 n.toNat (by omega)
  exact Sq.glob h1 h0 (by omega) ht
noncomputable def ScrG (G : Gx) (a : Addr) (ns : List Int) : Prop := ∀ h, G.ex h → ∃ vs : List Value, h.IsList a vs.toArray ∧ IntsAre vs ns ∧ ns.length ≤ 63
theorem ScrG.scr {G : Gx} {a : Addr} {ns : List Int} {c : Cx} {d : Nat} (S : ScrG G a ns) (ok : Ok G c d) : Scr c a ns := S _ ok.ex
section
variable {c : Cx} {m : ML} {H : MH} {G : Gx} {d : Nat}
theorem BC.lenI {a : Nat} {ns : List Int} {post : MV → MH → Prop} (ha : H[a]? = some (.list (intL ns))) (hsz : ns.length ≤ 1000000) (h : post (.int ns.length) H) : BC c (.builtin "len") [.ref a] H post :=
  BC.len ha (by rw [List.length_map]; exact hsz) (by rw [List.length_map]; exact h)
theorem intL_at {ns : List Int} {n : Nat} (h : n < ns.length) : (intL ns)[n]? = some (.int (ns.getD n 0)) := by
  rw [List.getElem?_map, List.getElem?_eq_getElem h, List.getD_eq_getElem?_getD, List.getElem?_eq_getElem h]
  rfl
theorem Sq.listI {a : Nat} {ns : List Int} {n : Int} (ha : H[a]? = some (.list (intL ns))) (hsz : ns.length ≤ 1000000) (h0 : 0 ≤ n) (h1 : n < ns.length) : Sq c H (.ref a) (.int n) (.int (ns.getD n.toNat 0)) :=
  Sq.list ha ⟨by rw [List.length_map]; exact hsz, .inl ⟨h0, intL_at (by omega)⟩⟩
theorem intL_set {ns : List Int} {n : Nat} {v : Int} : (intL ns).set n (.int v) = intL (ns.set n v) := by
  unfold intL
  rw [List.map_set]
theorem Uq.listI {a : Nat} {ns : List Int} {n v : Int} (ha : H[a]? = some (.list (intL ns))) (hsz : ns.length ≤ 1000000) (h0 : 0 ≤ n) (h1 : n < ns.length) : Uq c H (.ref a) (.int n) (.int v) (H.set a (.list (intL (ns.set n.toNat v)))) := by
  rw [← intL_set]
  exact Uq.list ha (by rw [List.length_map]; exact hsz) h0 (by rw [List.length_map]; exact h1)
theorem TE.len (ok : Ok G c d) (b : Bs G) {a : CE} {post : MV → MH → Prop} (h : TE c m a H (fun v H1 => BC c (.builtin "len") [v] H1 post)) : TE c m (.call "len" (.cons a .nil)) H post :=
  TE.bc ok b.len bb_len (by decide) (TEs.cons (h.mono fun _ _ x => TEs.nil x))
theorem TE.max (ok : Ok G c d) (b : Bs G) {a e : CE} {post : MV → MH → Prop} (h : TE c m a H (fun v H1 => TE c m e H1 fun u H2 => BC c (.builtin "max") [v, u] H2 post)) : TE c m (.call "max" (.cons a (.cons e .nil))) H post :=
  TE.bc ok b.max bb_max (by decide) (TEs.cons (h.mono fun _ _ x => TEs.cons (x.mono fun _ _ y => TEs.nil y)))
theorem TE.blist (ok : Ok G c d) (b : Bs G) {a : CE} {post : MV → MH → Prop} (h : TE c m a H (fun v H1 => BC c (.type "list") [v] H1 post)) : TE c m (.call "list" (.cons a .nil)) H post :=
  TE.tc ok b.list bb_list (by decide) (TEs.cons (h.mono fun _ _ x => TEs.nil x))
end
theorem CL.use2 {G : Gx} {prog : Program} {w : World} {d d' : Nat} {f : Addr} {args : List MV} {H : MH} {p q : MV → MH → Prop} {xp xq : Addr → List MV → MH → Prop} (h : CL G prog w d f args H p xp) (hd : d ≤ d') (hp : ∀ v H', p v H' → q v H')
    (hx : ∀ C as H', xp C as H' → xq C as H') : CL G prog w d' f args H q xq := (h.le hd).mono hp hx
section
variable {c : Cx} {m : ML} {H : MH} {G : Gx} {d : Nat}
theorem Cq.inI {a : Nat} {ns : List Int} {k : Int} (ha : H[a]? = some (.list (intL ns))) : Cq c .In H (.int k) (.ref a) (ns.any (· == k)) := by
  rintro mr ρ s Q E _ _ S ⟨t, rfl⟩ ⟨x, hx, rfl⟩ kk
  obtain ⟨vs, n, hv, N⟩ := S.list ha hx
  exact in_list_ints (isList_of N) (intL_are hv) (kk s.heap s.toks S)
theorem TT.cqIn {a b : CE} {post : Bool → MH → Prop} (h : TE c m a H (fun x H1 => TE c m b H1 (fun y H2 => ∃ r, Cq c .In H2 x y r ∧ post r H2))) : TT c m (.cmp .In a b) H post := TT.cq h
end
section
variable {c : Cx} {m : ML} {H : MH} {G : Gx} {d : Nat}
end
inductive RD (H : MH) : MV → PyData → Prop where
  | none : RD H .none .none
  | bool {b : Bool} : RD H (.bool b) (.bool b)
  | int {i : Int} : RD H (.int i) (.int i)
  | str {x : Str} : RD H (.str x) (.str x)
  | list {a : Nat} {xs : List MV} {ds : List PyData} (h : H[a]? = some (.list xs)) (hl : xs.length = ds.length) (hd : ∀ (k : Nat) (v : MV) (d : PyData), xs[k]? = some v → ds[k]? = some d → RD H v d) : RD H (.ref a) (.list ds)
  | tup {a : Nat} {xs : List MV} {ds : List PyData} (h : H[a]? = some (.tup xs)) (hl : xs.length = ds.length) (hd : ∀ (k : Nat) (v : MV) (d : PyData), xs[k]? = some v → ds[k]? = some d → RD H v d) : RD H (.ref a) (.tuple ds)
theorem readsAll_of {h : Heap} {ρ : List Addr} : ∀ {xs : List MV} {vs : List Value} {ds : List PyData}, VRs ρ xs vs → xs.length = ds.length → (∀ (k : Nat) (v : MV) (d : PyData) (vr : Value), xs[k]? = some v → ds[k]? = some d → VR ρ v vr → ∃ as, Reads h vr d as) → ∃ as, ReadsAll h vs ds as
  | [], vs, [], hv, _, _ => ⟨[], by rw [show vs = [] from hv]; exact .nil⟩
  | [], _, _ :: _, _, hl, _ => by simp at hl
  | _ :: _, _, [], _, hl, _ => by simp at hl
  | x :: xs, _, d :: ds, ⟨v, r, e, h1, h2⟩, hl, hk => by
    subst e
    obtain ⟨as, ha⟩ := hk 0 x d v rfl rfl h1
    obtain ⟨bs, hb⟩ := readsAll_of h2 (by simpa using hl) fun k v d vr e1 e2 h3 => hk (k + 1) v d vr (by simpa using e1) (by simpa using e2) h3
    exact ⟨_, .cons ha hb⟩
section
variable {c : Cx} {m : ML} {H : MH} {G : Gx} {d : Nat}
theorem RD.reads {v : MV} {dt : PyData} (hr : RD H v dt) {mr : Str → Option Value} {ρ : List Addr} {h : Heap} (S : St c mr ρ H h) : ∀ {vr : Value}, VR ρ v vr → ∃ as, Reads h vr dt as := by
  induction hr with
  | none => intro vr hv; rw [show vr = _ from hv]; exact ⟨_, .none⟩
  | bool => intro vr hv; rw [show vr = _ from hv]; exact ⟨_, .bool _⟩
  | int => rintro _ ⟨t, rfl⟩; exact ⟨_, .int _ _⟩
  | str => rintro _ ⟨t, rfl⟩; exact ⟨_, .str _ _⟩
  | list ha hl hd ih =>
    rintro _ ⟨x, hx, rfl⟩
    obtain ⟨vs, n, hvs, No⟩ := S.list ha hx
    obtain ⟨as, hA⟩ := readsAll_of (h := h) hvs hl fun k v d vr e1 e2 h3 => ih k v d e1 e2 h3
    exact ⟨_, .list (No _ (.head _)).1 rfl rfl hA⟩
  | tup ha hl hd ih =>
    rintro _ ⟨x, hx, rfl⟩
    obtain ⟨vs, hvs, o, ho, hc, n, hdat⟩ := S.tup ha hx
    obtain ⟨as, hA⟩ := readsAll_of (h := h) hvs hl fun k v d vr e1 e2 h3 => ih k v d e1 e2 h3
    exact ⟨_, .tuple ho hc hdat hA⟩
theorem Cq.eqD (ok : Ok G c d) {a b : MV} {da db : PyData} (ha : RD H a da) (hb : RD H b db) (sa : PySem.SeqAt.shaped da = true) (sb : PySem.SeqAt.shaped db = true) : Cq c .Eq H a b (PyData.eqv da db) := by
  intro mr ρ s Q E va vb S h1 h2 k
  obtain ⟨as, r1⟩ := ha.reads S h1
  obtain ⟨bs, r2⟩ := hb.reads S h2
  exact eq_dataH r1 r2 sa sb (by have := ok.uni; omega) (k s.heap s.toks S)
noncomputable def TO (c : Cx) (m : ML) (a : CO) (H : MH) (post : Option Int → MH → Prop) : Prop := match a with
  | .none => post Option.none H
  | .some e => TE c m e H (fun v H1 => ∃ i, v = .int i ∧ post (some i) H1)
theorem part_of {a : CO} {e : PySem.Expr} {post : Option Int → MH → Prop} {mr : Str → Option Value} {ρ : List Addr} {s : Shared} {Q : Value → Shared → Prop} {E : Value → Shared → Prop} (h : TO c m a H post) (he : wfO a c.nm c.sc e = true) (S : St c mr ρ H s.heap) (l : LR mr c.nm ρ m) (kx : Kx c ρ s E)
    (k : ∀ t o vr H' h' tk, post o H' → IsPart vr o → St c mr (ρ ++ t) H' h' → Q vr { s with heap := h', toks := tk }) : wpAny (model c.prog c.w) c.A (evalPart (reO a c.nm e) c.env) Q E s := by
  cases a with
  | none => exact wpAny_pure (k [] Option.none _ H s.heap s.toks h .none (nil_of S))
  | some a =>
    refine h _ he mr ρ s _ E S l ?_ kx
    rintro t _ _ H1 h1 tk1 ⟨i, rfl, hp⟩ ⟨u, rfl⟩ S1
    exact k t (some i) _ H1 h1 tk1 hp (.int i u) S1
theorem TE.sliceQ {o : CE} {lo hi : CO} {post : MV → MH → Prop} (h : TE c m o H (fun x H1 => TO c m lo H1 (fun l H2 => TO c m hi H2 (fun u H3 =>
      ∀ (mr : Str → Option Value) (ρ : List Addr) (s : Shared) (Q : Value → Shared → Prop) (E : Value → Shared → Prop) (vo vl vu : Value) (base : PySem.Expr) (lw up : Option PySem.Expr) (p : Pos), St c mr ρ H3 s.heap → VR ρ x vo → IsPart vl l → IsPart vu u →
        (∀ t v vr H' h' tk, post v H' → VR (ρ ++ t) v vr → St c mr (ρ ++ t) H' h' → Q vr { s with heap := h', toks := tk }) →
        wpAny (model c.prog c.w) c.A (subscriptTail base (.Slice lw up Option.none p) vo (.ref s.heap.objs.size)) Q E { s with heap := s.heap.push { cls := .type "slice", data := .fields #[vl, vu, .none] } })))) : TE c m (.slice o lo hi) H post := by
  intro e he
  obtain ⟨h1, h2, h3⟩ := and3 he
  intro mr ρ s Q E S l k kx
  refine Subscript_ ?_
  refine h _ h1 mr ρ s _ E S l ?_ kx
  intro t x xr H1 hp1 tk1 h12 hx S1
  refine wpAny_Slice ?_
  refine part_of (s := { s with heap := hp1, toks := tk1 }) h12 h2 S1 l.mono kx.mono ?_
  intro t2 lo' vl H2 hp2 tk2 h23 pl S2
  refine part_of (s := { s with heap := hp2, toks := tk2 }) h23 h3 S2 l.mono.mono kx.mono.mono ?_
  intro t3 hi' vu H3 hp3 tk3 h34 pu S3
  refine wpAny_pure ?_
  refine h34 mr _ { s with heap := hp3, toks := tk3 } _ E _ vl vu _ _ _ _ S3 hx.mono.mono pl pu ?_
  intro t4 v vr H' h' tk hp hv S4
  have e1 : ρ ++ t ++ t2 ++ t3 ++ t4 = ρ ++ (t ++ (t2 ++ (t3 ++ t4))) := by simp only [List.append_assoc]
  rw [e1] at hv S4
  exact k _ v vr H' h' tk hp hv S4
end
theorem VRs.take {ρ : List Addr} : ∀ {ms : List MV} {vs : List Value} (k : Nat), VRs ρ ms vs → VRs ρ (ms.take k) (vs.take k)
  | [], _, k, h => by rw [show _ = [] from h]; cases k <;> rfl
  | _ :: _, _, 0, h => rfl
  | _ :: _, _, k + 1, ⟨v, r, e, h1, h2⟩ => by subst e; exact ⟨v, r.take k, rfl, h1, h2.take k⟩
theorem VRs.drop {ρ : List Addr} : ∀ {ms : List MV} {vs : List Value} (k : Nat), VRs ρ ms vs → VRs ρ (ms.drop k) (vs.drop k)
  | [], _, k, h => by rw [show _ = [] from h]; cases k <;> rfl
  | _ :: _, _, 0, h => h
  | _ :: _, _, k + 1, ⟨v, r, e, h1, h2⟩ => by subst e; exact h2.drop k
section
variable {c : Cx} {m : ML} {H : MH} {G : Gx} {d : Nat}
theorem slice_made {mr : Str → Option Value} {ρ : List Addr} {s : Shared} {Q : Value → Shared → Prop} {E : Value → Shared → Prop} {a : Nat} {xs ys : List MV} {vo vl vu : Value} {lo hi : Option Int} {base : PySem.Expr} {lw up : Option PySem.Expr} {p : Pos} {post : MV → MH → Prop}
    (S : St c mr ρ H s.heap) (ho : VR ρ (.ref a) vo) (ha : H[a]? = some (.list xs)) (hl : xs.length ≤ 1000000) (pl : IsPart vl lo) (pu : IsPart vu hi) (hy : ∀ vs : List Value, VRs ρ xs vs → VRs ρ ys (slicePick vs.toArray lo hi none).toList) (hp : post (.ref H.length) (H ++ [.list ys]))
    (k : ∀ t v vr H' h' tk, post v H' → VR (ρ ++ t) v vr → St c mr (ρ ++ t) H' h' → Q vr { s with heap := h', toks := tk }) :
    wpAny (model c.prog c.w) c.A (subscriptTail base (.Slice lw up Option.none p) vo (.ref s.heap.objs.size)) Q E { s with heap := s.heap.push { cls := .type "slice", data := .fields #[vl, vu, .none] } } := by
  obtain ⟨x, hx, rfl⟩ := ho
  obtain ⟨vs, n, hvs, No⟩ := S.list ha hx
  have L := isList_of No
  have S1 : St c mr ρ H (s.heap.push { cls := .type "slice", data := .fields #[vl, vu, .none] }) := S.grow fun b o q => Heap.get?_push_of_some _ q
  obtain ⟨ml, xt, ⟨F, os, a1, a2, a3, N, a5⟩, back⟩ := S1.open
  refine tail_any (Heap.IsList.typeIs (s := { s with heap := s.heap.push { cls := .type "slice", data := .fields #[vl, vu, .none] } }) (L.push _)) slot_list_getitem.lookup (wpAny_getItem_list_slice (L.push _) (Heap.IsSliceOf.new ..) pl pu .none (by simp) ?_ (by rw [List.size_toArray, hvs.length]; exact Nat.le_trans hl (by decide))) rfl
  have N1 := News.push F N { cls := .type "list", data := .seq (slicePick vs.toArray lo hi none) } rfl
  have e1 : (slicePick vs.toArray lo hi none) = (slicePick vs.toArray lo hi none).toList.toArray := by simp
  exact k [_] (.ref H.length) _ _ _ _ hp ⟨_, last_get a2, rfl⟩ (back _ _ _ (Led.alloc a1 a2 a3 a5 (F.push _) N1 (fun p hp => Nat.ne_of_lt (Heap.lt_size (N p hp).1)) ⟨_, 0, (hy vs hvs).mono, by rw [← e1]⟩))
theorem TE.sliceTo {o hi : CE} {post : MV → MH → Prop} (h : TE c m o H (fun x H1 => TE c m hi H1 (fun u H2 => ∃ j : Int, u = .int j ∧ ∃ a xs, x = .ref a ∧ H2[a]? = some (.list xs) ∧ xs.length ≤ 1000000 ∧ 0 ≤ j ∧ post (.ref H2.length) (H2 ++ [.list (xs.take j.toNat)])))) :
    TE c m (.slice o .none (.some hi)) H post := by
  refine TE.sliceQ (h.mono fun x H1 h1 => (show TO c m .none H1 _ from TE.mono (a := hi) h1 fun u H2 ⟨j, e2, h3⟩ => ⟨j, e2, ?_⟩))
  obtain ⟨a, xs, rfl, ha, hl, h0, hp⟩ := h3
  intro mr ρ s Q E vo vl vu base lw up p S ho pl pu k
  refine slice_made S ho ha hl pl pu (ys := xs.take j.toNat) (fun vs hvs => ?_) hp k
  have e2 : slicePick vs.toArray Option.none (Option.some j) Option.none = (vs.toArray.toList.take j.toNat).toArray := by have := slicePick_upto' vs.toArray j.toNat; rwa [Int.toNat_of_nonneg h0] at this
  rw [e2]
  simpa using hvs.take j.toNat
theorem TE.sliceFrom {o lo : CE} {post : MV → MH → Prop} (h : TE c m o H (fun x H1 => TE c m lo H1 (fun u H2 => ∃ j : Int, u = .int j ∧ ∃ a xs, x = .ref a ∧ H2[a]? = some (.list xs) ∧ xs.length ≤ 1000000 ∧ 0 ≤ j ∧ post (.ref H2.length) (H2 ++ [.list (xs.drop j.toNat)])))) :
    TE c m (.slice o (.some lo) .none) H post := by
  refine TE.sliceQ (h.mono fun x H1 h1 => (show TO c m (.some lo) H1 _ from TE.mono (a := lo) h1 fun u H2 ⟨j, e2, h3⟩ => ⟨j, e2, ?_⟩))
  show TO c m .none H2 _
  obtain ⟨a, xs, rfl, ha, hl, h0, hp⟩ := h3
  intro mr ρ s Q E vo vl vu base lw up p S ho pl pu k
  refine slice_made S ho ha hl pl pu (ys := xs.drop j.toNat) (fun vs hvs => ?_) hp k
  have e2 : slicePick vs.toArray (Option.some j) Option.none Option.none = (vs.toArray.toList.drop j.toNat).toArray := by have := slicePick_from' vs.toArray j.toNat; rwa [Int.toNat_of_nonneg h0] at this
  rw [e2]
  simpa using hvs.drop j.toNat
end
noncomputable def k_need_number_nm : List Str := ["value", "least", "most", "what"]
noncomputable def k_need_number : CSs := (.cons (.ite (.or (.cons (.cmp .IsNot (.call "type" (.cons (.loc 0) .nil)) (.glob "int")) (.cons (.cmp .Lt (.loc 0) (.loc 1)) (.cons (.cmp .Gt (.loc 0) (.loc 2)) .nil)))) (.cons (.raise "ShareError" (.cons (.bin .Add (.bin .Add (.bin .Add (.str "no ") (.loc 3)) (.str ": ")) (.call "shown" (.cons (.loc 0) .nil))) .nil))
  .nil) .nil)
  (.cons (.ret (.loc 0))
  .nil))
noncomputable def k_is_prime_nm : List Str := ["n", "k"]
noncomputable def k_is_prime : CSs := (.cons (.ite (.cmp .Lt (.loc 0) (.int 2)) (.cons (.ret (.bool false))
  .nil) .nil)
  (.cons (.assign 1 (.int 2))
  (.cons (.while (.cmp .LtE (.bin .Mult (.loc 1) (.loc 1)) (.loc 0)) (.cons (.ite (.cmp .Eq (.bin .Mod (.loc 0) (.loc 1)) (.int 0)) (.cons (.ret (.bool false))
  .nil) .nil)
  (.cons (.assign 1 (.bin .Add (.loc 1) (.int 1)))
  .nil)))
  (.cons (.ret (.bool true))
  .nil))))
noncomputable def k_Field_init_nm : List Str := ["self", "prime"]
noncomputable def k_Field_init : CSs := (.cons (.expr (.call "need_number" (.cons (.loc 1) (.cons (.int 2) (.cons (.glob "GREATEST") (.cons (.str "prime") .nil))))))
  (.cons (.ite (.not (.plain (.call "is_prime" (.cons (.loc 1) .nil)))) (.cons (.raise "ShareError" (.cons (.bin .Add (.str "no prime: ") (.call "str" (.cons (.loc 1) .nil))) .nil))
  .nil) .nil)
  (.cons (.setAttr (.loc 0) "prime" (.loc 1))
  .nil)))
noncomputable def k_Field_power_nm : List Str := ["self", "a", "n", "out"]
noncomputable def k_Field_power : CSs := (.cons (.assign 3 (.int 1))
  (.cons (.assign 1 (.bin .Mod (.loc 1) (.attr (.loc 0) "prime")))
  (.cons (.while (.cmp .Gt (.loc 2) (.int 0)) (.cons (.ite (.plain (.bin .BitAnd (.loc 2) (.int 1))) (.cons (.assign 3 (.bin .Mod (.bin .Mult (.loc 3) (.loc 1)) (.attr (.loc 0) "prime")))
  .nil) .nil)
  (.cons (.assign 1 (.bin .Mod (.bin .Mult (.loc 1) (.loc 1)) (.attr (.loc 0) "prime")))
  (.cons (.assign 2 (.bin .RShift (.loc 2) (.int 1)))
  .nil))))
  (.cons (.ret (.loc 3))
  .nil))))
noncomputable def k_Field_inverse_nm : List Str := ["self", "a"]
noncomputable def k_Field_inverse : CSs := (.cons (.ite (.cmp .Eq (.bin .Mod (.loc 1) (.attr (.loc 0) "prime")) (.int 0)) (.cons (.raise "ShareError" (.cons (.str "nought has no inverse") .nil))
  .nil) .nil)
  (.cons (.ret (.meth (.loc 0) "power" (.cons (.loc 1) (.cons (.bin .Sub (.attr (.loc 0) "prime") (.int 2)) .nil))))
  .nil))
noncomputable def k_value_nm : List Str := ["field", "row", "x", "out", "a"]
noncomputable def k_value : CSs := (.cons (.assign 3 (.int 0))
  (.cons (.for [4] (.call "reversed" (.cons (.loc 1) .nil)) (.cons (.assign 3 (.bin .Mod (.bin .Add (.bin .Mult (.loc 3) (.loc 2)) (.loc 4)) (.attr (.loc 0) "prime")))
  .nil))
  (.cons (.ret (.loc 3))
  .nil)))
noncomputable def k_trimmed_nm : List Str := ["row", "out"]
noncomputable def k_trimmed : CSs := (.cons (.assign 1 (.call "list" (.cons (.loc 0) .nil)))
  (.cons (.while (.and (.cons (.cmp .Gt (.call "len" (.cons (.loc 1) .nil)) (.int 0)) (.cons (.cmp .Eq (.sub (.loc 1) (.neg (.int 1))) (.int 0)) .nil))) (.cons (.expr (.meth (.loc 1) "pop" .nil))
  .nil))
  (.cons (.ret (.loc 1))
  .nil)))
set_option compiler.extract_closed false
/- one step: walk_at "s" -/
set_option hygiene false in
local macro_rules | `(tactic| walk_at "s") => `(tactic| with_reducible first
  | refine TB.cons ?_
  | refine TB.nil ?_
  | refine TS.ret ?_
  | refine TS.assign (by assumption) (by assumption) (by with_unfolding_all rfl) ?_
  | refine TS.expr (by assumption) ?_
  | refine TS.ite ?_
  | refine TS.setAttr (by assumption) ?_
  | refine TS.setItem ?_
  | refine TE.loc (by assumption) (by with_unfolding_all rfl) ?_
  | refine TE.int ?_
  | refine TE.str ?_
  | refine TE.bool ?_
  | refine TE.none ?_
  | refine TE.op (by assumption) ?_
  | refine TE.attr (by assumption) ?_
  | refine TE.pop ?_
  | refine TE.append ?_
  | refine TE.meth (by assumption) ?_
  | refine TE.meth0 (by assumption) ?_
  | refine TE.sq ?_
  | refine TE.len (by assumption) (by assumption) ?_
  | refine TE.max (by assumption) (by assumption) ?_
  | refine TE.min (by assumption) (by assumption) ?_
  | refine TE.sum (by assumption) (by assumption) ?_
  | refine TE.blist (by assumption) (by assumption) ?_
  | refine TE.bstr (by assumption) (by assumption) ?_
  | refine TE.call (by assumption) (by assumption) ?_
  | refine TE.ite ?_
  | refine TE.list ?_
  | refine TE.tup ?_
  | refine TE.tst ?_
  | refine TE.negI ?_
  | refine TEs.nil ?_
  | refine TEs.cons ?_
  | refine TT.not ?_
  | refine TT.and ?_
  | refine TT.or ?_
  | refine TTs.andNil ?_
  | refine TTs.orNil ?_
  | refine TTs.and ?_
  | refine TTs.or ?_
  | refine TT.cqNI ?_
  | refine TT.cqIn ?_
  | refine TT.cmp ?_
  | refine TT.cmp2 ?_
  | refine TV.cmp2 ?_
  | refine TT.plain ?_
  | refine BC.lenI (by assumption) (by omega) ?_
  | refine Scr.len (by assumption) ?_
  | refine ⟨_, NegI.mk, ?_⟩
  | refine ⟨_, BinI.add, ?_⟩
  | refine ⟨_, BinI.sub, ?_⟩
  | refine ⟨_, BinI.band, ?_⟩
  | refine ⟨_, BinI.shr (by decide), ?_⟩
  | refine ⟨_, BinI.modP (by omega), ?_⟩
  | refine ⟨_, BinI.shl (by decide) (by decide) (by decide), ?_⟩
  | refine ⟨_, BinI.pow (by decide) (by decide) (by decide), ?_⟩
  | refine ⟨_, BinI.mul (mulL (by omega) (by omega)), ?_⟩
  | refine ⟨_, BinI.mul (mulR (by omega) (by omega)), ?_⟩
  | refine ⟨_, _, _, _, rfl, by assumption, by with_unfolding_all exact Nat.le_of_ble_eq_true rfl, by assumption, ?_⟩
  | refine ⟨_, _, _, _, _, rfl, by (first | assumption | exact Ext.ins (by assumption) (by assumption)), by with_unfolding_all rfl, by assumption, ?_⟩
  | fail)
set_option hygiene false in
local macro_rules | `(tactic| walk_at "w") => `(tactic| repeat walk_at "s")
noncomputable def isP (n : Int) : Prop := 2 ≤ n ∧ ∀ k : Int, 2 ≤ k → k * k ≤ n → n % k ≠ 0
theorem sub0 (n : Nat) : ((n : Int) - 0).toNat = n := by rw [Int.sub_zero, Int.toNat_natCast]
theorem le0 {n : Nat} (h : n ≤ 1000000) : ((n : Int) - 0).toNat ≤ 1000000 := by rw [sub0]; exact h
theorem addN (a b : Nat) : ((a : Int) + (b : Int)).toNat = a + b := by rw [← Int.natCast_add, Int.toNat_natCast]
theorem TB.gen3 {c : Cx} {m : ML} {a : CSs} {H : MH} {q : Fl → ML → MH → Prop} (h : ∀ p : Fl → ML → MH → Prop, (∀ f m H, q f m H → p f m H) → TB c m a H p) : TB c m a H q := h q (fun _ _ _ h => h)
theorem is_prime_cl {G : Gx} {prog : Program} {w : World} {f : Addr} {n : Int} {H : MH} {xp : Addr → List MV → MH → Prop} (D : GDef G f ["n"] k_is_prime_nm k_is_prime []) (hn : n < 2 ^ 60) :
    CL G prog w 1 f [.int n] H (fun v H' => ∃ b, v = .bool b ∧ (b = true ↔ isP n) ∧ H' = H) xp := by
  refine D.cl rfl ?_
  intro c e1 e2 ok hfm hi hnm hX
  show TB c [some (.int n), none] _ _ _
  unfold k_is_prime
  walk_at "w"
  refine ⟨_, rfl, fun h => ?_, fun h => ?_⟩
  · have h : n < 2 := by simpa using h
    walk_at "w"
    exact ⟨false, rfl, by simp [isP]; omega, rfl⟩
  · have h : 2 ≤ n := by simpa using h
    walk_at "w"
    refine TS.while ok hfm (fun k m1 H1 => ∃ j : Int, 2 ≤ j ∧ j ≤ n ∧ (n - j).toNat = k ∧ m1 = [some (.int n), some (.int j)] ∧ H1 = H ∧ ∀ i : Int, 2 ≤ i → i < j → n % i ≠ 0) (n - 2).toNat ⟨2, by omega, by omega, rfl, rfl, rfl, fun i h1 h2 => by omega⟩ ?_
    rintro k m1 H1 ⟨j, h1, h2, hk, rfl, rfl, hno⟩
    walk_at "w"
    refine ⟨_, rfl, fun h => ?_, fun h => ?_⟩
    · refine TB.gen3 fun PP hPP => ?_
      have h : j * j ≤ n := by simpa using h
      have hjn : j < n := by
        have : j * 2 ≤ j * j := Int.mul_le_mul_of_nonneg_left h1 (by omega)
        omega
      walk_at "w"
      refine ⟨_, rfl, fun h => ?_, fun h => ?_⟩
      · have h0 : n % j = 0 := by simpa using h
        walk_at "w"
        refine hPP _ _ _ ⟨false, rfl, ?_, rfl⟩
        constructor
        · intro e; cases e
        · intro q; exact absurd h0 (q.2 j h1 ‹_›)
      · have h0 : n % j ≠ 0 := by simpa using h
        walk_at "w"
        refine hPP _ _ _ ⟨(n - (j + 1)).toNat, by omega, j + 1, by omega, by omega, rfl, rfl, rfl, fun i q1 q2 => ?_⟩
        by_cases e : i = j
        · subst e; exact h0
        · exact hno i q1 (by omega)
    · have h : n < j * j := by simpa using h
      walk_at "w"
      refine ⟨true, rfl, ⟨fun _ => ⟨by assumption, fun k q1 q2 => ?_⟩, fun _ => rfl⟩, rfl⟩
      by_cases e : k < j
      · exact hno k q1 e
      · exfalso
        have h5 : j * j ≤ k * k := Int.mul_le_mul (by omega) (by omega) (by omega) (by omega)
        omega
theorem pow_mod (a p : Int) : ∀ n : Nat, (a % p) ^ n % p = a ^ n % p
  | 0 => by simp
  | n + 1 => by rw [Int.pow_succ, Int.pow_succ, Int.mul_emod, pow_mod a p n, Int.emod_emod_of_dvd _ (Int.dvd_refl p), ← Int.mul_emod]
theorem pow_odd (x : Int) (q : Nat) : x ^ (2 * q + 1) = x * (x * x) ^ q := by
  rw [Int.pow_succ, Int.pow_mul, Int.mul_comm]
  congr 2
  grind
theorem pow_even (x : Int) (q : Nat) : x ^ (2 * q) = (x * x) ^ q := by
  rw [Int.pow_mul]
  congr 1
  grind
theorem step_odd {p out x k : Int} (hk : 0 < k) (ho : k % 2 ≠ 0) : (out * x % p) * (x * x % p) ^ (k / 2).toNat % p = out * x ^ k.toNat % p := by
  have e : k.toNat = 2 * (k / 2).toNat + 1 := by omega
  rw [e, pow_odd, Int.mul_emod, pow_mod, Int.emod_emod_of_dvd _ (Int.dvd_refl p), ← Int.mul_emod]
  congr 1
  rw [Int.mul_assoc]
theorem step_even {p out x k : Int} (hk : 0 < k) (ho : k % 2 = 0) : out * (x * x % p) ^ (k / 2).toNat % p = out * x ^ k.toNat % p := by
  have e : k.toNat = 2 * (k / 2).toNat := by omega
  rw [e, pow_even, Int.mul_emod, pow_mod, ← Int.mul_emod]
theorem need_number_cl {G : Gx} {prog : Program} {w : World} {f : Addr} {v lo hi : Int} {t : Str} {H : MH} {xp : Addr → List MV → MH → Prop} (D : GDef G f ["value", "least", "most", "what"] k_need_number_nm k_need_number [])
    (bs : Bs G) (h1 : lo ≤ v) (h2 : v ≤ hi) :
    CL G prog w 1 f [.int v, .int lo, .int hi, .str t] H (fun r H' => r = .int v ∧ H' = H) xp := by
  refine D.cl rfl ?_
  intro c e1 e2 ok hfm hint hnm hX
  show TB c [some (.int v), some (.int lo), some (.int _), some (.str t)] _ _ _
  unfold k_need_number
  refine TB.cons (TS.ite (TT.or (TTs.or (TT.tyAny (N := "int") (T' := "int") ok bs.type (.inr ⟨rfl, rfl⟩) bs.int rfl (by decide) ?_))))
  walk_at "w"
  refine ⟨"int", rfl, fun h => (by cases h), fun _ => ?_⟩
  walk_at "w"
  refine ⟨_, rfl, fun h => (by simp at h; omega), fun _ => ?_⟩
  walk_at "w"
  refine ⟨_, rfl, fun h => (by simp at h; omega), fun _ => ?_⟩
  walk_at "w"
  refine ⟨fun h => (by cases h), fun _ => ?_⟩
  walk_at "w"
  exact ⟨rfl, rfl⟩
theorem power_cl {G : Gx} {prog : Program} {w : World} {f C : Addr} {i kk : Nat} {a n p : Int} {H : MH} {xp : Addr → List MV → MH → Prop} (D : GDef G f ["self", "a", "n"] k_Field_power_nm k_Field_power [])
    (ga : GAtt G C "prime") (hF : Ins H i C kk [("prime", .int p)]) (hp : 2 ≤ p) (hp2 : p < 2 ^ 60) (hn : 0 ≤ n) :
    CL G prog w 1 f [.ref i, .int a, .int n] H (fun v H' => v = .int (a ^ n.toNat % p) ∧ H' = H) xp := by
  refine D.cl rfl ?_
  intro c e1 e2 ok hfm hint hnm hX
  show TB c [some (.ref i), some (.int a), some (.int n), none] _ _ _
  unfold k_Field_power
  walk_at "w"
  refine TS.while ok hfm (fun k m1 H1 => ∃ x e out : Int, 0 ≤ x ∧ x < p ∧ 0 ≤ e ∧ 0 ≤ out ∧ out < p ∧ e.toNat = k ∧ m1 = [some (.ref i), some (.int x), some (.int e), some (.int out)] ∧ H1 = H ∧ out * x ^ e.toNat % p = a ^ n.toNat % p) n.toNat
    ⟨a % p, n, 1, Int.emod_nonneg _ (by omega), Int.emod_lt_of_pos _ (by omega), hn, by omega, by omega, rfl, rfl, rfl, ?_⟩ ?_
  · rw [Int.one_mul, pow_mod]
  rintro k m1 H1 ⟨x, e, out, x1, x2, h0, o1, o2, hk, rfl, rfl, hinv⟩
  walk_at "w"
  refine ⟨_, rfl, fun h => ?_, fun h => ?_⟩
  · refine TB.gen3 fun PP hPP => ?_
    have h : 0 < e := by simpa using h
    have hsh : e.fdiv (2 ^ (1 : Int).toNat) = e / 2 := by
      rw [show (2 : Int) ^ (1 : Int).toNat = 2 from rfl, Int.fdiv_eq_ediv_of_nonneg _ (by omega)]
    walk_at "w"
    refine ⟨_, rfl, fun q => ?_, fun q => ?_⟩
    · have q : e % 2 ≠ 0 := by rw [bitAnd_m1] at q; simpa using q
      walk_at "w"
      rw [hsh]
      exact hPP _ _ _ ⟨(e / 2).toNat, by omega, x * x % p, e / 2, out * x % p, Int.emod_nonneg _ (by omega), Int.emod_lt_of_pos _ (by omega), by omega, Int.emod_nonneg _ (by omega), Int.emod_lt_of_pos _ (by omega), rfl, rfl, rfl, (step_odd h q).trans hinv⟩
    · have q : e % 2 = 0 := by rw [bitAnd_m1] at q; simpa using q
      walk_at "w"
      rw [hsh]
      exact hPP _ _ _ ⟨(e / 2).toNat, by omega, x * x % p, e / 2, out, Int.emod_nonneg _ (by omega), Int.emod_lt_of_pos _ (by omega), by omega, o1, o2, rfl, rfl, rfl, (step_even h q).trans hinv⟩
  · have h : e ≤ 0 := by simpa using h
    have he : e = 0 := by omega
    subst he
    walk_at "w"
    refine ⟨?_, rfl⟩
    rw [← hinv]
    simp only [Int.toNat_zero, Int.pow_zero, Int.mul_one]
    rw [Int.emod_eq_of_lt o1 o2]
    rfl
structure FieldK (G : Gx) (C : Addr) : Prop where
  cls : ∃ fI, GCls G "Field" C fI ∧ GDef G fI ["self", "prime"] k_Field_init_nm k_Field_init []
  nn : ∃ f, GFn G "need_number" f ∧ GDef G f ["value", "least", "most", "what"] k_need_number_nm k_need_number []
  ip : ∃ f, GFn G "is_prime" f ∧ GDef G f ["n"] k_is_prime_nm k_is_prime []
  att : GAtt G C "prime"
  sto : GSto G C "prime"
  gr : ∃ t, nsIn G.K mainGlobals "GREATEST" = some (some (.int 1048576 t))
  bs : Bs G
theorem field_init_cl {G : Gx} {prog : Program} {w : World} {f C : Addr} {i kk : Nat} {p : Int} {H : MH} {xp : Addr → List MV → MH → Prop} (F : FieldK G C) (D : GDef G f ["self", "prime"] k_Field_init_nm k_Field_init [])
    (hi : Ins H i C kk []) (hp : isP p) (hp2 : p ≤ 1048576) : CL G prog w 2 f [.ref i, .int p] H (fun v H' => v = .none ∧ H' = H.set kk (.ns [("prime", .int p)])) xp := by
  obtain ⟨fN, gN, dN⟩ := F.nn
  obtain ⟨fP, gP, dP⟩ := F.ip
  obtain ⟨t, gr⟩ := F.gr
  have h2 := hp.1
  refine D.cl rfl ?_
  intro c e1 e2 ok hfm hint hnm hX
  subst e1 e2
  show TB c [some (.ref i), some (.int p)] _ _ _
  unfold k_Field_init
  walk_at "w"
  refine TE.glob ok (v := .int 1048576) gr ⟨t, rfl⟩ ?_
  walk_at "w"
  refine (need_number_cl dN F.bs h2 hp2).use (by decide) ?_
  rintro _ _ ⟨rfl, rfl⟩
  walk_at "w"
  refine (is_prime_cl dP (by omega)).use (by decide) ?_
  rintro _ _ ⟨b, rfl, hb, rfl⟩
  have hb' : b = true := hb.mpr hp
  subst hb'
  refine ⟨true, rfl, fun h => (by cases h), fun _ => ?_⟩
  walk_at "w"
  refine ⟨_, _, _, _, rfl, hi, by decide, F.sto, ?_⟩
  walk_at "w"
  exact ⟨rfl, rfl⟩
theorem TE.field {c : Cx} {m : ML} {H : MH} {G : Gx} {d : Nat} {C : Addr} (ok : Ok G c d) (hd : 3 ≤ d) (F : FieldK G C) {e : CE} {post : MV → MH → Prop}
    (h : TE c m e H (fun v H1 => ∃ p, v = .int p ∧ isP p ∧ p ≤ 1048576 ∧ post (.ref (H1.length + 1)) (H1 ++ [.ns [("prime", .int p)]] ++ [.inst C H1.length]))) : TE c m (.call "Field" (.cons e .nil)) H post := by
  obtain ⟨fI, gI, dI⟩ := F.cls
  refine TE.new (d := 2) (ok.le hd) gI (TEs.cons (h.mono ?_))
  rintro _ H1 ⟨p, rfl, hp, hp2, hpost⟩
  refine TEs.nil ?_
  refine (field_init_cl (kk := H1.length) F dI ⟨?_, ?_⟩ hp hp2).use (Nat.le_refl _) ?_
  · simp
  · simp
  · rintro _ _ ⟨rfl, rfl⟩
    refine ⟨rfl, ?_⟩
    have : (H1 ++ [MO.ns []] ++ [MO.inst C H1.length]).set H1.length (.ns [("prime", .int p)]) = H1 ++ [.ns [("prime", .int p)]] ++ [.inst C H1.length] := by simp
    rw [this]
    exact hpost
theorem inverse_cl {G : Gx} {prog : Program} {w : World} {f fP C : Addr} {i kk : Nat} {a p : Int} {H : MH} {xp : Addr → List MV → MH → Prop} (D : GDef G f ["self", "a"] k_Field_inverse_nm k_Field_inverse [])
    (DP : GDef G fP ["self", "a", "n"] k_Field_power_nm k_Field_power []) (gm : GMth G C "power" fP)
    (ga : GAtt G C "prime") (hF : Ins H i C kk [("prime", .int p)]) (hp : 2 ≤ p) (hp2 : p < 2 ^ 60) (ha : a % p ≠ 0) :
    CL G prog w 2 f [.ref i, .int a] H (fun v H' => v = .int (a ^ (p - 2).toNat % p) ∧ H' = H) xp := by
  refine D.cl rfl ?_
  intro c e1 e2 ok hfm hint hnm hX
  subst e1 e2
  show TB c [some (.ref i), some (.int a)] _ _ _
  unfold k_Field_inverse
  walk_at "w"
  refine ⟨_, rfl, fun h => ?_, fun h => ?_⟩
  · skip
    simp at h
    omega
  · walk_at "w"
    exact (power_cl DP ga hF hp hp2 (by omega)).use (Nat.le_refl _) fun _ _ x => x
noncomputable def pval (p : Int) (row : List Int) (x : Int) : Int := row.foldr (fun a acc => (acc * x + a) % p) 0
theorem pval_rev (p : Int) (row : List Int) (x : Int) : pval p row x = row.reverse.foldl (fun acc a => (acc * x + a) % p) 0 := by
  unfold pval
  rw [List.foldl_reverse]
theorem value_cl {G : Gx} {prog : Program} {w : World} {f C : Addr} {i kk r : Nat} {x p : Int} {row : List Int} {H : MH} {xp : Addr → List MV → MH → Prop} (D : GDef G f ["field", "row", "x"] k_value_nm k_value [])
    (bs : Bs G) (ga : GAtt G C "prime") (hF : Ins H i C kk [("prime", .int p)]) (hr : H[r]? = some (.list (intL row))) (hp : 2 ≤ p) (hp2 : p < 2 ^ 60) :
    CL G prog w 1 f [.ref i, .ref r, .int x] H (fun v H' => v = .int (pval p row x) ∧ H' = H) xp := by
  refine D.cl rfl ?_
  intro c e1 e2 ok hfm hint hnm hX
  show TB c [some (.ref i), some (.ref r), some (.int x), none, none] _ _ _
  unfold k_value
  walk_at "w"
  refine TS.forRev ok hfm bs.reversed ?_
  walk_at "w"
  refine ⟨r, _, rfl, hr, fun j m1 H2 => ∃ out o4, m1 = [some (.ref i), some (.ref r), some (.int x), some (.int out), o4] ∧ H2 = H ∧ 0 ≤ out ∧ out < p ∧ out = (row.reverse.take j).foldl (fun acc a => (acc * x + a) % p) 0, ⟨0, none, rfl, rfl, by omega, by omega, rfl⟩, ?_, ?_, ?_⟩
  · rintro _ _ _ ⟨_, _, _, rfl, _⟩
    exact hr
  · rintro j m1 H2 v xt ⟨out, o4, rfl, rfl, o1, o2, o3⟩ hv
    rw [← List.map_reverse] at hv
    obtain ⟨a, rfl, ha⟩ := intL_get hv
    refine ⟨[.int a], ?_, ?_⟩
    · exact rfl
    · have okx := ok.wx xt
      have hfx : (c.wx xt).fm = none := hfm
      show TB (c.wx xt) [some (.ref i), some (.ref r), some (.int x), some (.int out), some (.int a)] _ _ _
      refine TB.gen3 fun PP hPP => ?_
      walk_at "w"
      exact hPP _ _ _ ⟨_, _, rfl, rfl, Int.emod_nonneg _ (by omega), Int.emod_lt_of_pos _ (by omega), by rw [take_fold ha, ← o3]⟩
  · rintro m1 H2 ⟨out, o4, rfl, rfl, o1, o2, o3⟩
    walk_at "w"
    refine ⟨?_, rfl⟩
    rw [List.length_map, ← List.length_reverse, List.take_length] at o3
    rw [pval_rev, ← o3]
    rfl
noncomputable def trim (l : List Int) : List Int := (l.reverse.dropWhile (· == 0)).reverse
theorem trim_zero (l : List Int) : trim (l ++ [0]) = trim l := by simp [trim]
theorem trim_last {l : List Int} {a : Int} (h : a ≠ 0) : trim (l ++ [a]) = l ++ [a] := by simp [trim, h]
theorem trimmed_cl {G : Gx} {prog : Program} {w : World} {f : Addr} {r : Nat} {row : List Int} {H : MH} {xp : Addr → List MV → MH → Prop} (D : GDef G f ["row"] k_trimmed_nm k_trimmed [])
    (bs : Bs G) (hr : H[r]? = some (.list (intL row))) (hl : row.length ≤ 1000000) :
    CL G prog w 1 f [.ref r] H (fun v H' => v = .ref H.length ∧ H' = H ++ [.list (intL (trim row))]) xp := by
  refine D.cl rfl ?_
  intro c e1 e2 ok hfm hint hnm hX
  show TB c [some (.ref r), none] _ _ _
  unfold k_trimmed
  walk_at "w"
  refine BC.list hr (by rw [List.length_map]; exact hl) ?_
  walk_at "w"
  refine TS.while ok hfm (fun k m1 H1 => ∃ ys : List Int, ys.length = k ∧ ys.length ≤ 1000000 ∧ m1 = [some (.ref r), some (.ref H.length)] ∧ H1 = H ++ [.list (intL ys)] ∧ trim ys = trim row) row.length ⟨row, rfl, hl, rfl, rfl, rfl⟩ ?_
  rintro k m1 H1 ⟨ys, hk, hy, rfl, rfl, ht⟩
  have hg : (H ++ [MO.list (intL ys)])[H.length]? = some (.list (intL ys)) := get_end
  walk_at "w"
  refine ⟨_, rfl, fun h => ?_, fun h => ?_⟩
  · have h : ys = [] := by
      have : ys.length = 0 := by simpa using h
      exact List.eq_nil_of_length_eq_zero this
    subst h
    refine ⟨fun q => (by cases q), fun _ => ?_⟩
    walk_at "w"
    exact ⟨rfl, by rw [← ht]; rfl⟩
  · rcases List.eq_nil_or_concat ys with rfl | ⟨zs, a, rfl⟩
    · simp at h
    · rw [List.concat_eq_append] at *
      walk_at "w"
      refine ⟨.int a, Sq.list hg ⟨by rw [List.length_map]; exact hy, .inr ⟨by omega, by simp; omega, ?_⟩⟩, ?_⟩
      · have e : ((-1 : Int) + ((intL (zs ++ [a])).length : Nat)).toNat = zs.length := by simp [intL]; omega
        rw [e]
        simp [intL]
      walk_at "w"
      refine ⟨_, rfl, fun h => ?_, fun h => ?_⟩
      · have h : a ≠ 0 := by simpa using h
        refine ⟨fun q => (by cases q), fun _ => ?_⟩
        walk_at "w"
        refine ⟨rfl, ?_⟩
        rw [← ht, trim_last h]
      · have h : a = 0 := by simpa using h
        subst h
        walk_at "w"
        refine ⟨fun _ => ?_, fun q => (by cases q)⟩
        walk_at "w"
        refine ⟨_, intL zs, .int 0, rfl, by rw [hg]; simp [intL], by simp at hy ⊢; omega, ?_⟩
        walk_at "w"
        rw [set_end]
        exact ⟨zs.length, by simp at hk; omega, zs, rfl, by simp at hy; omega, rfl, rfl, by rw [← ht, trim_zero]⟩
noncomputable def pstep (p : Int) (a b : List Int) (i : Nat) (out : List Int) (j : Nat) : List Int := out.set (i + j) ((out.getD (i + j) 0 + a.getD i 0 * b.getD j 0) % p)
noncomputable def prow (p : Int) (a b : List Int) (out : List Int) (i : Nat) : List Int := (List.range b.length).foldl (pstep p a b i) out
noncomputable def pmul (p : Int) (a b : List Int) : List Int := if a.length = 0 ∨ b.length = 0 then [] else (List.range a.length).foldl (prow p a b) (List.replicate (a.length + b.length - 1) 0)
theorem pstep_len {p : Int} {a b out : List Int} {i j : Nat} : (pstep p a b i out j).length = out.length := by simp [pstep]
theorem fold_len {α : Type} {f : List Int → α → List Int} (h : ∀ o x, (f o x).length = o.length) : ∀ (l : List α) (o : List Int), (l.foldl f o).length = o.length
  | [], _ => rfl
  | x :: l, o => by rw [List.foldl_cons, fold_len h l, h]
theorem prow_len {p : Int} {a b out : List Int} {i : Nat} : (prow p a b out i).length = out.length := fold_len (fun _ _ => pstep_len) _ _
abbrev px (pts : List (Int × Int)) (k : Nat) : Int := (pts.getD k (0, 0)).1
abbrev py (pts : List (Int × Int)) (k : Nat) : Int := (pts.getD k (0, 0)).2
theorem range_fold {β : Type} {f : β → Nat → β} {b : β} {n : Nat} : (List.range (n + 1)).foldl f b = f ((List.range n).foldl f b) n := by
  rw [List.range_succ, List.foldl_append]; rfl
noncomputable def Bd (p : Int) (l : List Int) : Prop := ∀ x ∈ l, 0 ≤ x ∧ x < p
theorem Bd.set {p : Int} {l : List Int} {i : Nat} {v : Int} (h : Bd p l) (hv : 0 ≤ v ∧ v < p) : Bd p (l.set i v) := fun x hx => by
  rcases List.mem_or_eq_of_mem_set hx with q | q
  · exact h x q
  · exact q ▸ hv
theorem md {a p : Int} (hp : 0 < p) : 0 ≤ a % p ∧ a % p < p := ⟨Int.emod_nonneg _ (by omega), Int.emod_lt_of_pos _ hp⟩
theorem fold_inv {α β : Type} {f : β → α → β} {P : β → Prop} (h : ∀ b a, P b → P (f b a)) : ∀ (l : List α) (b : β), P b → P (l.foldl f b)
  | [], _, hb => hb
  | a :: l, b, hb => by rw [List.foldl_cons]; exact fold_inv h l _ (h b a hb)
theorem pmul_len {p : Int} {a b : List Int} (ha : a.length ≠ 0) (hb : b.length ≠ 0) : (pmul p a b).length = a.length + b.length - 1 := by
  unfold pmul
  rw [if_neg (by omega), fold_len (fun _ _ => prow_len)]
  simp
noncomputable def PtsAt (H : MH) (r : Nat) (pts : List (Int × Int)) : Prop := ∃ refs, H[r]? = some (.list refs) ∧ refs.length = pts.length ∧ ∀ k, k < pts.length → ∃ t, refs[k]? = some (.ref t) ∧ H[t]? = some (.tup [.int (px pts k), .int (py pts k)])
theorem PtsAt.ext {H H' : MH} {r : Nat} {pts : List (Int × Int)} (h : PtsAt H r pts) (e : Ext H H') : PtsAt H' r pts := by
  obtain ⟨refs, h1, h2, h3⟩ := h
  exact ⟨refs, e _ _ h1, h2, fun k hk => let ⟨t, q1, q2⟩ := h3 k hk; ⟨t, q1, e _ _ q2⟩⟩
theorem PtsAt.len {c : Cx} {H : MH} {r : Nat} {pts : List (Int × Int)} (h : PtsAt H r pts) (hl : pts.length ≤ 1000) {post : MV → MH → Prop} (k : post (.int pts.length) H) : BC c (.builtin "len") [.ref r] H post := by
  obtain ⟨refs, h1, h2, h3⟩ := h
  exact BC.len h1 (by omega) (by rw [h2]; exact k)
noncomputable def Cg (p a b : Int) : Prop := a % p = b % p
theorem Cg.rfl {p a : Int} : Cg p a a := Eq.refl _
theorem Cg.of {p a b : Int} (h : a = b) : Cg p a b := by rw [h]; exact Cg.rfl
theorem Cg.symm {p a b : Int} (h : Cg p a b) : Cg p b a := Eq.symm h
theorem Cg.trans {p a b c : Int} (h : Cg p a b) (g : Cg p b c) : Cg p a c := Eq.trans h g
theorem Cg.md {p a : Int} : Cg p (a % p) a := Int.emod_emod_of_dvd _ (Int.dvd_refl p)
theorem Cg.add {p a b c d : Int} (h : Cg p a b) (g : Cg p c d) : Cg p (a + c) (b + d) := by
  unfold Cg at *; rw [Int.add_emod, h, g, ← Int.add_emod]
theorem Cg.mul {p a b c d : Int} (h : Cg p a b) (g : Cg p c d) : Cg p (a * c) (b * d) := by
  unfold Cg at *; rw [Int.mul_emod, h, g, ← Int.mul_emod]
theorem Cg.neg {p a b : Int} (h : Cg p a b) : Cg p (-a) (-b) := by
  have := Cg.mul (Cg.rfl (p := p) (a := -1)) h
  simpa using this
theorem Cg.sub {p a b c d : Int} (h : Cg p a b) (g : Cg p c d) : Cg p (a - c) (b - d) := by
  rw [Int.sub_eq_add_neg, Int.sub_eq_add_neg]; exact h.add g.neg
theorem Cg.pow {p a b : Int} (h : Cg p a b) : ∀ n : Nat, Cg p (a ^ n) (b ^ n)
  | 0 => Cg.of (by simp)
  | n + 1 => by rw [Int.pow_succ, Int.pow_succ]; exact (Cg.pow h n).mul h
theorem Cg.small {p a b : Int} (h : Cg p a b) (a1 : 0 ≤ a ∧ a < p) (b1 : 0 ≤ b ∧ b < p) : a = b := by
  unfold Cg at h; rwa [Int.emod_eq_of_lt a1.1 a1.2, Int.emod_eq_of_lt b1.1 b1.2] at h
theorem Cg.zero {p a : Int} : Cg p a 0 ↔ a % p = 0 := by unfold Cg; rw [Int.zero_emod]
noncomputable def pz (row : List Int) (x : Int) : Int := row.foldr (fun a acc => acc * x + a) 0
theorem pz_nil (x : Int) : pz [] x = 0 := rfl
theorem pz_cons (a : Int) (l : List Int) (x : Int) : pz (a :: l) x = pz l x * x + a := rfl
theorem pval_pz (p : Int) : ∀ (row : List Int) (x : Int), Cg p (pval p row x) (pz row x)
  | [], _ => Cg.rfl
  | a :: l, x => Cg.md.trans ((Cg.mul (pval_pz p l x) Cg.rfl).add Cg.rfl)
theorem pval_bd {p : Int} (hp : 0 < p) : ∀ (row : List Int) (x : Int), 0 ≤ pval p row x ∧ pval p row x < p
  | [], _ => ⟨Int.le_refl _, hp⟩
  | a :: l, x => md hp
theorem pz_app (x : Int) : ∀ (l : List Int) (a : Int), pz (l ++ [a]) x = pz l x + a * x ^ l.length
  | [], a => by simp [pz]
  | b :: l, a => by
    rw [List.cons_append, pz_cons, pz_cons, pz_app x l a, List.length_cons, Int.pow_succ]
    grind
theorem pz_take (x : Int) (l : List Int) (n : Nat) : pz (l.take (n + 1)) x = pz (l.take n) x + l.getD n 0 * x ^ n := by
  by_cases h : n < l.length
  · rw [List.take_add_one, List.getElem?_eq_getElem h]
    simp only [Option.toList_some]
    rw [pz_app, List.length_take, Nat.min_eq_left (by omega), List.getD_eq_getElem?_getD, List.getElem?_eq_getElem h]
    rfl
  · rw [List.take_of_length_le (by omega), List.take_of_length_le (by omega), List.getD_eq_getElem?_getD, List.getElem?_eq_none (by omega)]
    simp
theorem pz_set (x : Int) : ∀ (l : List Int) (t : Nat) (v : Int), t < l.length → pz (l.set t v) x = pz l x + (v - l.getD t 0) * x ^ t
  | [], _, _, h => by simp at h
  | a :: l, 0, v, _ => by
    rw [List.set_cons_zero, pz_cons, pz_cons]
    simp
    omega
  | a :: l, t + 1, v, h => by
    rw [List.set_cons_succ, pz_cons, pz_cons, pz_set x l t v (by simpa using h), Int.pow_succ]
    simp only [List.getD_cons_succ]
    grind
theorem prow_pz (p x : Int) (a b out : List Int) (i : Nat) (h : i + b.length ≤ out.length) : Cg p (pz (prow p a b out i) x) (pz out x + a.getD i 0 * x ^ i * pz b x) := by
  have key : ∀ n : Nat, n ≤ b.length → Cg p (pz ((List.range n).foldl (pstep p a b i) out) x) (pz out x + a.getD i 0 * x ^ i * pz (b.take n) x) := by
    intro n
    induction n with
    | zero => intro _; simp [pz]; exact Cg.rfl
    | succ n ih =>
      intro hn
      have hl : ((List.range n).foldl (pstep p a b i) out).length = out.length := fold_len (fun _ _ => pstep_len) _ _
      have ih := ih (by omega)
      rw [range_fold, pz_take]
      generalize (List.range n).foldl (pstep p a b i) out = o at ih hl ⊢
      unfold pstep
      rw [pz_set x o (i + n) _ (by omega)]
      refine (ih.add ((Cg.md.sub Cg.rfl).mul Cg.rfl)).trans (Cg.of ?_)
      rw [Int.pow_add]
      grind
  have h2 := key b.length (Nat.le_refl _)
  rw [List.take_length] at h2
  exact h2
theorem pz_rep (x : Int) : ∀ n : Nat, pz (List.replicate n 0) x = 0
  | 0 => rfl
  | n + 1 => by rw [List.replicate_succ, pz_cons, pz_rep x n]; simp
theorem pmul_pz (p x : Int) (a b : List Int) : Cg p (pz (pmul p a b) x) (pz a x * pz b x) := by
  unfold pmul
  split
  · rename_i h
    rcases h with h | h
    · rw [List.eq_nil_of_length_eq_zero h]; simp [pz]; exact Cg.rfl
    · rw [List.eq_nil_of_length_eq_zero h]; simp [pz]; exact Cg.rfl
  · rename_i h
    have key : ∀ n : Nat, n ≤ a.length → Cg p (pz ((List.range n).foldl (prow p a b) (List.replicate (a.length + b.length - 1) 0)) x) (pz (a.take n) x * pz b x) := by
      intro n
      induction n with
      | zero => intro _; simp [pz_rep, pz_nil]; exact Cg.rfl
      | succ n ih =>
        intro hn
        have hl : ((List.range n).foldl (prow p a b) (List.replicate (a.length + b.length - 1) 0)).length = a.length + b.length - 1 := by rw [fold_len (fun _ _ => prow_len)]; simp
        have ih := ih (by omega)
        rw [range_fold, pz_take]
        generalize (List.range n).foldl (prow p a b) (List.replicate (a.length + b.length - 1) 0) = o at ih hl ⊢
        refine ((prow_pz p x a b o n (by omega)).trans (ih.add Cg.rfl)).trans (Cg.of ?_)
        grind
    have h2 := key a.length (Nat.le_refl _)
    rw [List.take_length] at h2
    exact h2
theorem trim_pz (x : Int) : ∀ (n : Nat) (l : List Int), l.length = n → pz (trim l) x = pz l x
  | 0, l, h => by rw [List.eq_nil_of_length_eq_zero h]; rfl
  | n + 1, l, h => by
    rcases List.eq_nil_or_concat l with rfl | ⟨zs, a, rfl⟩
    · rfl
    · rw [List.concat_eq_append] at *
      by_cases e : a = 0
      · subst e
        rw [trim_zero, pz_app, trim_pz x n zs (by simpa using h)]
        simp
      · rw [trim_last e]
theorem trim_len : ∀ (n : Nat) (l : List Int), l.length = n → (trim l).length ≤ l.length
  | 0, l, h => by rw [List.eq_nil_of_length_eq_zero h]; simp [trim]
  | n + 1, l, h => by
    rcases List.eq_nil_or_concat l with rfl | ⟨zs, a, rfl⟩
    · simp [trim]
    · rw [List.concat_eq_append] at *
      by_cases e : a = 0
      · subst e
        rw [trim_zero]
        have := trim_len n zs (by simpa using h)
        simp
        omega
      · rw [trim_last e]; exact Nat.le_refl _
structure Fer (p : Int) : Prop where
  two : 2 ≤ p
  inv : ∀ a : Int, a % p ≠ 0 → Cg p (a * a ^ (p - 2).toNat) 1
theorem Fer.mul {p a b : Int} (F : Fer p) (ha : a % p ≠ 0) (hb : b % p ≠ 0) : a * b % p ≠ 0 := by
  intro h
  have h1 : Cg p (a * b) 0 := Cg.zero.mpr h
  have h2 := (h1.mul (Cg.rfl (a := b ^ (p - 2).toNat)))
  have h3 : Cg p (a * b * b ^ (p - 2).toNat) a := by
    rw [Int.mul_assoc]
    have := (Cg.rfl (p := p) (a := a)).mul (F.inv b hb)
    rwa [Int.mul_one] at this
  rw [Int.zero_mul] at h2
  exact ha (Cg.zero.mp (h3.symm.trans h2))
theorem Fer.of {p : Int} (h2 : 2 ≤ p) (h : ∀ a : Nat, a < p.toNat → a ≠ 0 → ((a : Int) * (a : Int) ^ (p - 2).toNat) % p = 1) : Fer p := by
  refine ⟨h2, fun a ha => ?_⟩
  have hm := md (a := a) (p := p) (by omega)
  have := h (a % p).toNat (by omega) (by omega)
  have e : (((a % p).toNat : Nat) : Int) = a % p := by omega
  rw [e] at this
  have h3 : Cg p (a % p * (a % p) ^ (p - 2).toNat) 1 := by
    unfold Cg
    rw [this, Int.emod_eq_of_lt (by omega) (by omega)]
  exact ((Cg.md.mul (Cg.md.pow _)).symm).trans h3
abbrev cf (l : List Int) (k : Nat) : Int := l.getD k 0
theorem cf_set {l : List Int} {s k : Nat} {v : Int} : cf (l.set s v) k = if k = s ∧ s < l.length then v else cf l k := by
  unfold cf
  rw [List.getD_eq_getElem?_getD, List.getElem?_set, List.getD_eq_getElem?_getD]
  by_cases h : s = k
  · subst h
    by_cases q : s < l.length
    · simp [q]
    · simp [q]
  · have : ¬ k = s := fun e => h e.symm
    simp [h, this]
theorem cf_out {l : List Int} {k : Nat} (h : l.length ≤ k) : cf l k = 0 := by
  unfold cf
  rw [List.getD_eq_getElem?_getD, List.getElem?_eq_none h]; rfl
theorem cf_app {l : List Int} {a : Int} {k : Nat} : cf (l ++ [a]) k = if k = l.length then a else cf l k := by
  unfold cf
  rw [List.getD_eq_getElem?_getD, List.getD_eq_getElem?_getD]
  by_cases h : k = l.length
  · subst h; simp
  · rw [if_neg h]
    by_cases q : k < l.length
    · rw [List.getElem?_append_left q]
    · rw [List.getElem?_eq_none (by simp; omega), List.getElem?_eq_none (by omega)]
theorem cf_trim (k : Nat) : ∀ (n : Nat) (l : List Int), l.length = n → cf (trim l) k = cf l k
  | 0, l, h => by rw [List.eq_nil_of_length_eq_zero h]; rfl
  | n + 1, l, h => by
    rcases List.eq_nil_or_concat l with rfl | ⟨zs, a, rfl⟩
    · rfl
    · rw [List.concat_eq_append] at *
      by_cases e : a = 0
      · subst e
        rw [trim_zero, cf_app, cf_trim k n zs (by simpa using h)]
        split
        · rename_i q; rw [q, cf_out (Nat.le_refl _)]
        · rfl
      · rw [trim_last e]
theorem trim_trim : ∀ (n : Nat) (l : List Int), l.length = n → trim (trim l) = trim l
  | 0, l, h => by rw [List.eq_nil_of_length_eq_zero h]; rfl
  | n + 1, l, h => by
    rcases List.eq_nil_or_concat l with rfl | ⟨zs, a, rfl⟩
    · rfl
    · rw [List.concat_eq_append] at *
      by_cases e : a = 0
      · subst e; rw [trim_zero]; exact trim_trim n zs (by simpa using h)
      · rw [trim_last e, trim_last e]
theorem trim_mem {x : Int} {l : List Int} (h : x ∈ trim l) : x ∈ l := by
  unfold trim at h
  rw [List.mem_reverse] at h
  exact List.mem_reverse.mp ((List.dropWhile_sublist _).mem h)
theorem Bd.trim {p : Int} {l : List Int} (h : Bd p l) : Bd p (trim l) := fun x hx => h x (trim_mem hx)
theorem Bd.cf {p : Int} {l : List Int} (h : Bd p l) (hp : 0 < p) (k : Nat) : 0 ≤ cf l k ∧ cf l k < p := by
  by_cases q : k < l.length
  · unfold Mine.cf
    rw [List.getD_eq_getElem?_getD, List.getElem?_eq_getElem q]
    exact h _ (List.getElem_mem _)
  · rw [cf_out (by omega)]; omega
theorem trim_short {l : List Int} (h0 : l.length ≠ 0) (h : cf l (l.length - 1) = 0) : (trim l).length < l.length := by
  rcases List.eq_nil_or_concat l with rfl | ⟨zs, a, rfl⟩
  · simp at h0
  · rw [List.concat_eq_append] at *
    rw [cf_app] at h
    simp at h
    subst h
    rw [trim_zero]
    have := trim_len _ zs rfl
    simp
    omega
theorem trim_last_ne {l : List Int} (h : trim l = l) (h0 : l.length ≠ 0) : cf l (l.length - 1) ≠ 0 := by
  intro e
  have := trim_short h0 e
  rw [h] at this
  omega
theorem list_ext {p : Int} (hp : 0 < p) {a b : List Int} (ha : trim a = a) (hb : trim b = b) (ba : Bd p a) (bb : Bd p b) (h : ∀ k, Cg p (cf a k) (cf b k)) : a = b := by
  have he : ∀ k, cf a k = cf b k := fun k => (h k).small (ba.cf hp k) (bb.cf hp k)
  have hl : a.length = b.length := by
    rcases Nat.lt_trichotomy a.length b.length with q | q | q
    · exfalso
      exact trim_last_ne hb (by omega) (by rw [← he, cf_out (by omega)])
    · exact q
    · exfalso
      exact trim_last_ne ha (by omega) (by rw [he, cf_out (by omega)])
  apply List.ext_getElem hl
  intro i h1 h2
  have := he i
  unfold cf at this
  rw [List.getD_eq_getElem?_getD, List.getD_eq_getElem?_getD, List.getElem?_eq_getElem h1, List.getElem?_eq_getElem h2] at this
  exact this
noncomputable def sh (b : List Int) (i k : Nat) : Int := if i ≤ k then cf b (k - i) else 0
noncomputable def csum (o b : List Int) (n k : Nat) : Int := (List.range n).foldl (fun s i => s + cf o i * sh b i k) 0
theorem csum_succ {o b : List Int} {n k : Nat} : csum o b (n + 1) k = csum o b n k + cf o n * sh b n k := by
  unfold csum; rw [range_fold]
theorem csum_set {o b : List Int} {s k : Nat} {f : Int} (hs : s < o.length) : ∀ n : Nat, csum (o.set s f) b n k = csum o b n k + (if s < n then (f - cf o s) * sh b s k else 0)
  | 0 => by simp [csum]
  | n + 1 => by
    rw [csum_succ, csum_succ, csum_set hs n, cf_set]
    by_cases e : n = s
    · subst e
      rw [if_neg (Nat.lt_irrefl _), if_pos ⟨rfl, hs⟩, if_pos (by omega)]
      grind
    · rw [if_neg (show ¬ (n = s ∧ s < o.length) from fun q => e q.1)]
      by_cases q : s < n
      · rw [if_pos q, if_pos (by omega)]; grind
      · rw [if_neg q, if_neg (by omega)]; grind
theorem csum_congr {o b b' : List Int} (h : ∀ k, cf b k = cf b' k) {k : Nat} : ∀ n : Nat, csum o b n k = csum o b' n k
  | 0 => rfl
  | n + 1 => by
    rw [csum_succ, csum_succ, csum_congr h n]
    unfold sh
    rw [h]
theorem csum_zero {o b : List Int} {k : Nat} (h : ∀ j, cf o j = 0) : ∀ n : Nat, csum o b n k = 0
  | 0 => rfl
  | n + 1 => by rw [csum_succ, csum_zero h n, h]; simp
theorem csum_more {o b : List Int} {k : Nat} {n : Nat} (h : o.length ≤ n) : ∀ e : Nat, csum o b (n + e) k = csum o b n k
  | 0 => rfl
  | e + 1 => by
    have : n + (e + 1) = (n + e) + 1 := rfl
    rw [this, csum_succ, csum_more h e, cf_out (by omega)]; simp
theorem prow_cf (p : Int) (a b out : List Int) (i : Nat) (h : i + b.length ≤ out.length) (k : Nat) : Cg p (cf (prow p a b out i) k) (cf out k + cf a i * sh b i k) := by
  have key : ∀ n : Nat, n ≤ b.length → Cg p (cf ((List.range n).foldl (pstep p a b i) out) k) (cf out k + (if i ≤ k ∧ k - i < n then cf a i * cf b (k - i) else 0)) := by
    intro n
    induction n with
    | zero => intro _; simp; exact Cg.rfl
    | succ n ih =>
      intro hn
      have hl : ((List.range n).foldl (pstep p a b i) out).length = out.length := fold_len (fun _ _ => pstep_len) _ _
      have ih := ih (by omega)
      rw [range_fold]
      generalize (List.range n).foldl (pstep p a b i) out = o at ih hl ⊢
      unfold pstep
      rw [cf_set]
      by_cases q : k = i + n
      · subst q
        rw [if_pos ⟨rfl, by omega⟩, if_pos (by omega)]
        rw [if_neg (by omega)] at ih
        have e : i + n - i = n := by omega
        rw [e]
        refine Cg.md.trans ?_
        simp only [Int.add_zero] at ih
        exact ih.add Cg.rfl
      · rw [if_neg (fun z => q z.1)]
        refine ih.trans (Cg.of ?_)
        congr 1
        by_cases z : i ≤ k ∧ k - i < n
        · rw [if_pos z, if_pos (by omega)]
        · rw [if_neg z, if_neg (by omega)]
  refine (key b.length (Nat.le_refl _)).trans (Cg.of ?_)
  congr 1
  unfold sh
  by_cases z : i ≤ k
  · rw [if_pos z]
    by_cases q : k - i < b.length
    · rw [if_pos ⟨z, q⟩]
    · rw [if_neg (fun x => q x.2), cf_out (l := b) (by omega)]; simp
  · rw [if_neg z, if_neg (fun x => z x.1)]; simp
theorem pmul_cf (p : Int) (a b : List Int) (k : Nat) : Cg p (cf (pmul p a b) k) (csum a b a.length k) := by
  unfold pmul
  split
  · rename_i h
    rcases h with h | h
    · rw [h]; exact Cg.of rfl
    · have hb : ∀ j, cf b j = 0 := fun j => cf_out (by omega)
      have : ∀ n, csum a b n k = 0 := by
        intro n
        induction n with
        | zero => rfl
        | succ n ih => rw [csum_succ, ih]; unfold sh; rw [hb]; simp
      rw [this]; exact Cg.of rfl
  · rename_i h
    have key : ∀ n : Nat, n ≤ a.length → Cg p (cf ((List.range n).foldl (prow p a b) (List.replicate (a.length + b.length - 1) 0)) k) (csum a b n k) := by
      intro n
      induction n with
      | zero =>
        intro _
        refine Cg.of ?_
        simp only [List.range_zero, List.foldl_nil, csum]
        unfold cf
        rw [List.getD_eq_getElem?_getD, List.getElem?_replicate]
        split <;> rfl
      | succ n ih =>
        intro hn
        have hl : ((List.range n).foldl (prow p a b) (List.replicate (a.length + b.length - 1) 0)).length = a.length + b.length - 1 := by rw [fold_len (fun _ _ => prow_len)]; simp
        have ih := ih (by omega)
        rw [range_fold, csum_succ]
        generalize (List.range n).foldl (prow p a b) (List.replicate (a.length + b.length - 1) 0) = o at ih hl ⊢
        exact (prow_cf p a b o n (by omega) k).trans (ih.add Cg.rfl)
    exact key a.length (Nat.le_refl _)
noncomputable def rstep (p f : Int) (b : List Int) (s : Nat) (l : List Int) (k : Nat) : List Int := l.set (s + k) ((cf l (s + k) - f * cf b k) % p)
theorem rstep_len {p f : Int} {b l : List Int} {s k : Nat} : (rstep p f b s l k).length = l.length := by simp [rstep]
theorem rfold_cf (p f : Int) (b l : List Int) (s : Nat) (h : s + b.length ≤ l.length) (k : Nat) : Cg p (cf ((List.range b.length).foldl (rstep p f b s) l) k) (cf l k - f * sh b s k) := by
  have key : ∀ n : Nat, n ≤ b.length → Cg p (cf ((List.range n).foldl (rstep p f b s) l) k) (cf l k - (if s ≤ k ∧ k - s < n then f * cf b (k - s) else 0)) := by
    intro n
    induction n with
    | zero => intro _; simp; exact Cg.rfl
    | succ n ih =>
      intro hn
      have hl : ((List.range n).foldl (rstep p f b s) l).length = l.length := fold_len (fun _ _ => rstep_len) _ _
      have ih := ih (by omega)
      rw [range_fold]
      generalize (List.range n).foldl (rstep p f b s) l = o at ih hl ⊢
      unfold rstep
      rw [cf_set]
      by_cases q : k = s + n
      · subst q
        rw [if_pos ⟨rfl, by omega⟩, if_pos (by omega)]
        rw [if_neg (by omega)] at ih
        have e : s + n - s = n := by omega
        rw [e]
        refine Cg.md.trans ?_
        simp only [Int.sub_zero] at ih
        exact ih.sub Cg.rfl
      · rw [if_neg (fun z => q z.1)]
        refine ih.trans (Cg.of ?_)
        congr 1
        by_cases z : s ≤ k ∧ k - s < n
        · rw [if_pos z, if_pos (by omega)]
        · rw [if_neg z, if_neg (by omega)]
  refine (key b.length (Nat.le_refl _)).trans (Cg.of ?_)
  congr 1
  unfold sh
  by_cases z : s ≤ k
  · rw [if_pos z]
    by_cases q : k - s < b.length
    · rw [if_pos ⟨z, q⟩]
    · rw [if_neg (fun x => q x.2), cf_out (l := b) (by omega)]; simp
  · rw [if_neg z, if_neg (fun x => z x.1)]; simp
theorem rfold_bd {p f : Int} {b l : List Int} {s : Nat} (hp : 0 < p) (h : Bd p l) (n : Nat) : Bd p ((List.range n).foldl (rstep p f b s) l) :=
  fold_inv (P := Bd p) (fun o k ho => ho.set (md hp)) _ _ h
noncomputable def sdiv (x : Int) : List Int → List Int
  | [] => []
  | [_] => []
  | _ :: b :: r => pz (b :: r) x :: sdiv x (b :: r)
theorem sdiv_len (x : Int) : ∀ (a : Int) (l : List Int), (sdiv x (a :: l)).length = l.length
  | _, [] => rfl
  | _, b :: r => by rw [sdiv, List.length_cons, sdiv_len x b r, List.length_cons]
theorem sdiv_pz (x t : Int) : ∀ (a : Int) (l : List Int), pz (a :: l) t = (t - x) * pz (sdiv x (a :: l)) t + pz (a :: l) x
  | a, [] => by simp [sdiv, pz]
  | a, b :: r => by
    rw [sdiv, pz_cons a, pz_cons a, pz_cons (pz (b :: r) x), sdiv_pz x t b r]
    generalize pz (sdiv x (b :: r)) t = S
    generalize pz (b :: r) x = P
    grind
theorem sdiv_back {p x : Int} : ∀ (a : Int) (l : List Int), (∀ c ∈ sdiv x (a :: l), Cg p c 0) → Cg p (pz (a :: l) x) 0 → ∀ c ∈ a :: l, Cg p c 0
  | a, [], _, h, c, hc => by
    rw [List.mem_singleton] at hc
    subst hc
    simpa [pz] using h
  | a, b :: r, hs, h, c, hc => by
    rw [sdiv] at hs
    have h1 : Cg p (pz (b :: r) x) 0 := hs _ (List.mem_cons_self ..)
    rcases List.mem_cons.mp hc with rfl | hc
    · rw [pz_cons] at h
      have := h.sub (h1.mul (Cg.rfl (a := x)))
      rw [Int.zero_mul, Int.sub_zero] at this
      exact (Cg.of (by omega)).trans this
    · exact sdiv_back b r (fun c hc => hs c (List.mem_cons_of_mem _ hc)) h1 c hc
theorem Fer.cancel {p a b : Int} (F : Fer p) (ha : a % p ≠ 0) (h : Cg p (a * b) 0) : Cg p b 0 := by
  refine Cg.zero.mpr (Decidable.byContradiction fun q => ?_)
  exact F.mul ha q (Cg.zero.mp h)
theorem roots {p : Int} (F : Fer p) : ∀ (xs l : List Int), l.length ≤ xs.length → xs.Pairwise (fun x y => (y - x) % p ≠ 0) → (∀ x ∈ xs, Cg p (pz l x) 0) → ∀ c ∈ l, Cg p c 0
  | _, [], _, _, _, c, hc => by cases hc
  | [], a :: l, h, _, _, _, _ => by simp at h
  | x :: xs, a :: l, h, hd, hz, c, hc => by
    have h0 := hz x (List.mem_cons_self ..)
    refine sdiv_back a l (roots F xs (sdiv x (a :: l)) (by rw [sdiv_len]; simpa using h) (List.pairwise_cons.mp hd).2 fun y hy => ?_) h0 c hc
    have h1 := hz y (List.mem_cons_of_mem _ hy)
    rw [sdiv_pz x y] at h1
    have h2 := h1.sub h0
    rw [Int.add_sub_cancel, Int.sub_zero] at h2
    exact F.cancel ((List.pairwise_cons.mp hd).1 y hy) h2
theorem pz_diff (x : Int) : ∀ (a b : List Int), a.length = b.length → pz (List.zipWith (· - ·) a b) x = pz a x - pz b x
  | [], [], _ => rfl
  | a :: l, b :: r, h => by
    rw [List.zipWith_cons_cons, pz_cons, pz_cons, pz_cons, pz_diff x l r (by simpa using h)]
    grind
  | [], _ :: _, h => by simp at h
  | _ :: _, [], h => by simp at h
theorem diff_eq {p : Int} : ∀ (a b : List Int), a.length = b.length → Bd p a → Bd p b → (∀ c ∈ List.zipWith (· - ·) a b, Cg p c 0) → a = b
  | [], [], _, _, _, _ => rfl
  | a :: l, b :: r, h, ha, hb, hz => by
    have h1 : Cg p (a - b) 0 := hz _ (by simp)
    have h2 := h1.add (Cg.rfl (a := b))
    rw [Int.sub_add_cancel, Int.zero_add] at h2
    have h3 := h2.small (ha a (by simp)) (hb b (by simp))
    rw [h3, diff_eq l r (by simpa using h) (fun x hx => ha x (by simp [hx])) (fun x hx => hb x (by simp [hx])) fun c hc => hz c (by simp [hc])]
  | [], _ :: _, h, _, _, _ => by simp at h
  | _ :: _, [], h, _, _, _ => by simp at h
theorem row_unique {p : Int} (F : Fer p) {xs a b : List Int} (hl : a.length = b.length) (hx : a.length ≤ xs.length) (hd : xs.Pairwise (fun x y => (y - x) % p ≠ 0)) (ha : Bd p a) (hb : Bd p b) (h : ∀ x ∈ xs, pval p a x = pval p b x) : a = b := by
  refine diff_eq a b hl ha hb (roots F xs _ (by simp; omega) hd fun x hx => ?_)
  rw [pz_diff x a b hl]
  have h1 := (pval_pz p a x).symm.sub (pval_pz p b x).symm
  rw [h x hx, Int.sub_self] at h1
  exact h1
noncomputable def padTo (n : Nat) (l : List Int) : List Int := l ++ List.replicate (n - l.length) 0
theorem padTo_len {n : Nat} {l : List Int} (h : l.length ≤ n) : (padTo n l).length = n := by simp [padTo]; omega
theorem pz_rep_app (x : Int) (m : Nat) : ∀ l : List Int, pz (l ++ List.replicate m 0) x = pz l x
  | [] => by rw [List.nil_append, pz_rep]; rfl
  | a :: l => by rw [List.cons_append, pz_cons, pz_cons, pz_rep_app x m l]
noncomputable def lin (w : Nat) (r : List Int) (v : Nat → Int) : Int := ((List.range w).map fun j => cf r j * v j).sum
theorem lin_succ {w : Nat} {r : List Int} {v : Nat → Int} : lin (w + 1) r v = lin w r v + cf r w * v w := by
  unfold lin
  rw [List.range_succ, List.map_append, List.sum_append]
  simp
noncomputable def eqn (p : Int) (w : Nat) (r : List Int) (v : Nat → Int) : Prop := Cg p (lin w r v) (cf r w)
noncomputable def Sol (p : Int) (w : Nat) (T : List (List Int)) (v : Nat → Int) : Prop := ∀ r ∈ T, eqn p w r v
theorem lin_cg {p : Int} {r s : List Int} {v : Nat → Int} {f : Int} (h : ∀ j, Cg p (cf r j) (f * cf s j)) : ∀ w, Cg p (lin w r v) (f * lin w s v)
  | 0 => Cg.of (by simp [lin])
  | w + 1 => by
    rw [lin_succ, lin_succ, Int.mul_add]
    refine (lin_cg h w).add ?_
    rw [← Int.mul_assoc]
    exact (h w).mul Cg.rfl
theorem lin_sub {p : Int} {r s t : List Int} {v : Nat → Int} {f : Int} {n : Nat} (h : ∀ j, j < n → Cg p (cf r j) (cf s j - f * cf t j)) : ∀ w, w ≤ n → Cg p (lin w r v) (lin w s v - f * lin w t v)
  | 0, _ => Cg.of (by simp [lin])
  | w + 1, hw => by
    rw [lin_succ, lin_succ, lin_succ]
    refine ((lin_sub h w (by omega)).add ((h w (by omega)).mul Cg.rfl)).trans (Cg.of ?_)
    grind
theorem lin_zero {r : List Int} {v : Nat → Int} : ∀ {w : Nat}, (∀ j, j < w → cf r j = 0) → lin w r v = 0
  | 0, _ => rfl
  | w + 1, h => by rw [lin_succ, lin_zero fun j hj => h j (by omega), h w (by omega), Int.zero_mul, Int.add_zero]
theorem lin_zero' {r : List Int} {v : Nat → Int} : ∀ {w : Nat}, (∀ j, j < w → v j = 0) → lin w r v = 0
  | 0, _ => rfl
  | w + 1, h => by rw [lin_succ, lin_zero' fun j hj => h j (by omega), h w (by omega), Int.mul_zero, Int.add_zero]
noncomputable def mulR' (p l : Int) (r : List Int) : List Int := r.map fun a => a * l % p
theorem cf_map {f : Int → Int} (h0 : f 0 = 0) {r : List Int} {j : Nat} : cf (r.map f) j = f (cf r j) := by
  unfold cf
  rw [List.getD_eq_getElem?_getD, List.getD_eq_getElem?_getD, List.getElem?_map]
  cases r[j]? with
  | none => exact h0.symm
  | some a => rfl
theorem mulR_cf {p l : Int} {r : List Int} {j : Nat} : cf (mulR' p l r) j = cf r j * l % p := cf_map (by simp)
theorem eqn_mul {p l a : Int} {r : List Int} {w : Nat} {v : Nat → Int} (h : Cg p (a * l) 1) : eqn p w (mulR' p l r) v ↔ eqn p w r v := by
  have h1 : ∀ j, Cg p (cf (mulR' p l r) j) (l * cf r j) := fun j => by
    rw [mulR_cf]
    exact Cg.md.trans (Cg.of (Int.mul_comm _ _))
  have h2 := lin_cg (v := v) h1 w
  unfold eqn
  constructor
  · intro q
    have q1 := (h2.symm.trans q).trans (h1 w)
    have q2 := (Cg.rfl (a := a)).mul q1
    rw [← Int.mul_assoc, ← Int.mul_assoc] at q2
    have e : ∀ z, Cg p (a * l * z) z := fun z => (h.mul Cg.rfl).trans (Cg.of (Int.one_mul z))
    exact ((e _).symm.trans q2).trans (e _)
  · intro q
    exact (h2.trans ((Cg.rfl (a := l)).mul q)).trans (h1 w).symm
noncomputable def subR' (p f : Int) (r s : List Int) (w : Nat) : List Int := (List.range (w + 1)).map fun j => (cf r j - f * cf s j) % p
theorem subR_cf {p f : Int} {r s : List Int} {w j : Nat} (h : j ≤ w) : cf (subR' p f r s w) j = (cf r j - f * cf s j) % p := by
  unfold subR' cf
  rw [List.getD_eq_getElem?_getD, List.getElem?_map, List.getElem?_range (by omega)]
  rfl
theorem eqn_sub {p f : Int} {r s : List Int} {w : Nat} {v : Nat → Int} (h : eqn p w s v) : eqn p w (subR' p f r s w) v ↔ eqn p w r v := by
  have h1 : ∀ j, j < w + 1 → Cg p (cf (subR' p f r s w) j) (cf r j - f * cf s j) := fun j hj => by
    rw [subR_cf (by omega)]
    exact Cg.md
  have h2 := lin_sub (v := v) h1 w (by omega)
  have h3 := h1 w (by omega)
  have h4 : Cg p (f * lin w s v) (f * cf s w) := Cg.rfl.mul h
  unfold eqn
  constructor
  · intro q
    have q1 := ((h2.symm.trans q).trans h3).add h4
    rwa [Int.sub_add_cancel, Int.sub_add_cancel] at q1
  · intro q
    exact (h2.trans (q.sub h4)).trans h3.symm
theorem subR_bd {p f : Int} {r s : List Int} {w : Nat} (hp : 0 < p) : Bd p (subR' p f r s w) := fun x hx => by
  obtain ⟨j, _, rfl⟩ := List.mem_map.mp hx
  exact md hp
theorem mulR_bd {p l : Int} {r : List Int} (hp : 0 < p) : Bd p (mulR' p l r) := fun x hx => by
  obtain ⟨j, _, rfl⟩ := List.mem_map.mp hx
  exact md hp
structure Inv (p : Int) (w c : Nat) (T : List (List Int)) (leads : List Nat) : Prop where
  len : ∀ r ∈ T, r.length = w + 1 ∧ Bd p r
  at_le : leads.length ≤ T.length
  lt : ∀ i, i < leads.length → leads.getD i 0 < c
  one : ∀ i, i < leads.length → ∀ k, k < T.length → cf (T.getD k []) (leads.getD i 0) = if k = i then 1 else 0
  zero : ∀ k, leads.length ≤ k → k < T.length → ∀ j, j < c → cf (T.getD k []) j = 0
theorem getD_mem {T : List (List Int)} {k : Nat} (h : k < T.length) : T.getD k [] ∈ T := by
  rw [List.getD_eq_getElem?_getD, List.getElem?_eq_getElem h]
  exact List.getElem_mem h
theorem mem_getD {T : List (List Int)} {r : List Int} (h : r ∈ T) : ∃ k, k < T.length ∧ T.getD k [] = r := by
  obtain ⟨k, hk, e⟩ := List.mem_iff_getElem.mp h
  exact ⟨k, hk, by rw [List.getD_eq_getElem?_getD, List.getElem?_eq_getElem hk]; exact e⟩
theorem Inv.skip {p : Int} {w c : Nat} {T : List (List Int)} {leads : List Nat} (I : Inv p w c T leads) (h : ∀ k, leads.length ≤ k → k < T.length → cf (T.getD k []) c = 0) : Inv p w (c + 1) T leads :=
  ⟨I.len, I.at_le, fun i hi => Nat.lt_succ_of_lt (I.lt i hi), I.one, fun k h1 h2 j hj => by
    by_cases e : j = c
    · rw [e]; exact h k h1 h2
    · exact I.zero k h1 h2 j (by omega)⟩
theorem getD_set {T : List (List Int)} {i k : Nat} {r : List Int} (hi : i < T.length) : (T.set i r).getD k [] = if k = i then r else T.getD k [] := by
  rw [List.getD_eq_getElem?_getD, List.getElem?_set]
  by_cases e : i = k
  · subst e
    rw [if_pos rfl, if_pos hi, if_pos rfl]
    rfl
  · rw [if_neg e, if_neg (Ne.symm e), List.getD_eq_getElem?_getD]
noncomputable def swp (T : List (List Int)) (a f : Nat) : List (List Int) := (T.set a (T.getD f [])).set f (T.getD a [])
theorem swp_len {T : List (List Int)} {a f : Nat} : (swp T a f).length = T.length := by simp [swp]
theorem swp_at {T : List (List Int)} {a f k : Nat} (ha : a < T.length) (hf : f < T.length) : (swp T a f).getD k [] = if k = f then T.getD a [] else if k = a then T.getD f [] else T.getD k [] := by
  unfold swp
  rw [getD_set (by simpa using hf), getD_set ha]
theorem swp_mem {T : List (List Int)} {a f : Nat} (ha : a < T.length) (hf : f < T.length) {r : List Int} : r ∈ swp T a f ↔ r ∈ T := by
  constructor
  · intro h
    obtain ⟨k, hk, rfl⟩ := mem_getD h
    rw [swp_len] at hk
    rw [swp_at ha hf]
    split
    · exact getD_mem ha
    · split
      · exact getD_mem hf
      · exact getD_mem hk
  · intro h
    obtain ⟨k, hk, rfl⟩ := mem_getD h
    by_cases e1 : k = a
    · subst e1
      have := getD_mem (T := swp T k f) (k := f) (by rw [swp_len]; exact hf)
      rwa [swp_at ha hf, if_pos rfl] at this
    · by_cases e2 : k = f
      · subst e2
        have := getD_mem (T := swp T a k) (k := a) (by rw [swp_len]; exact ha)
        rw [swp_at ha hf] at this
        split at this
        · rename_i e
          exact absurd e.symm e1
        · rwa [if_pos rfl] at this
      · have := getD_mem (T := swp T a f) (k := k) (by rw [swp_len]; exact hk)
        rwa [swp_at ha hf, if_neg e2, if_neg e1] at this
theorem Inv.swp {p : Int} {w c : Nat} {T : List (List Int)} {leads : List Nat} (I : Inv p w c T leads) {f : Nat} (h1 : leads.length ≤ f) (h2 : f < T.length) : Inv p w c (swp T leads.length f) leads := by
  have ha : leads.length < T.length := by omega
  refine ⟨fun r hr => I.len r ((swp_mem ha h2).mp hr), by rw [swp_len]; exact I.at_le, I.lt, fun i hi k hk => ?_, fun k k1 k2 j hj => ?_⟩
  · rw [swp_len] at hk
    rw [swp_at ha h2]
    split
    · rename_i e
      rw [I.one i hi _ ha, if_neg (by omega), if_neg (by omega)]
    · split
      · rename_i e
        rw [I.one i hi _ h2, if_neg (by omega), if_neg (by omega)]
      · exact I.one i hi k hk
  · rw [swp_len] at k2
    rw [swp_at ha h2]
    split
    · exact I.zero _ (Nat.le_refl _) ha j hj
    · split
      · exact I.zero _ h1 h2 j hj
      · exact I.zero k k1 k2 j hj
theorem Inv.norm {p : Int} {w c : Nat} {T : List (List Int)} {leads : List Nat} (I : Inv p w c T leads) (hp : 0 < p) {l : Int} (ha : leads.length < T.length) : Inv p w c (T.set leads.length (mulR' p l (T.getD leads.length []))) leads := by
  refine ⟨fun r hr => ?_, by rw [List.length_set]; exact I.at_le, I.lt, fun i hi k hk => ?_, fun k k1 k2 j hj => ?_⟩
  · rcases List.mem_or_eq_of_mem_set hr with h | h
    · exact I.len r h
    · subst h
      refine ⟨?_, mulR_bd hp⟩
      unfold mulR'
      rw [List.length_map]
      exact (I.len _ (getD_mem ha)).1
  · rw [List.length_set] at hk
    rw [getD_set ha]
    split
    · rename_i e
      rw [mulR_cf, I.one i hi _ ha, if_neg (by omega), if_neg (by omega)]
      simp
    · exact I.one i hi k hk
  · rw [List.length_set] at k2
    rw [getD_set ha]
    split
    · rw [mulR_cf, I.zero _ (Nat.le_refl _) ha j hj]
      simp
    · exact I.zero k k1 k2 j hj
structure Clr (p : Int) (w c : Nat) (T : List (List Int)) (leads : List Nat) (n : Nat) : Prop extends Inv p w c T leads where
  lead : leads.length < T.length ∧ cf (T.getD leads.length []) c = 1
  clr : ∀ k, k < n → k < T.length → k ≠ leads.length → cf (T.getD k []) c = 0
theorem cf_bd {p : Int} {r : List Int} (hp : 0 < p) (h : Bd p r) (j : Nat) : cf r j % p = cf r j := by
  have := h.cf hp j
  exact Int.emod_eq_of_lt this.1 this.2
theorem Clr.pass {p : Int} {w c : Nat} {T : List (List Int)} {leads : List Nat} {n : Nat} (C : Clr p w c T leads n) (h : n = leads.length ∨ cf (T.getD n []) c = 0) : Clr p w c T leads (n + 1) := by
  refine ⟨C.toInv, C.lead, fun k h1 h2 h3 => ?_⟩
  by_cases e : k = n
  · subst e
    rcases h with h | h
    · exact absurd h h3
    · exact h
  · exact C.clr k (by omega) h2 h3
theorem Clr.step {p : Int} {w c : Nat} {T : List (List Int)} {leads : List Nat} {n : Nat} (C : Clr p w c T leads n) (hp : 0 < p) (hc : c ≤ w) (hn : n < T.length) (hne : n ≠ leads.length) :
    Clr p w c (T.set n (subR' p (cf (T.getD n []) c) (T.getD n []) (T.getD leads.length []) w)) leads (n + 1) := by
  have ha := C.lead.1
  have hz : ∀ j, j < c → cf (T.getD leads.length []) j = 0 := fun j hj => C.zero _ (Nat.le_refl _) ha j hj
  have bn := (C.len _ (getD_mem hn)).2
  have ho : ∀ j, j < c → cf (subR' p (cf (T.getD n []) c) (T.getD n []) (T.getD leads.length []) w) j = cf (T.getD n []) j := fun j hj => by
    rw [subR_cf (by omega), hz j hj, Int.mul_zero, Int.sub_zero, cf_bd hp bn]
  refine { len := fun r hr => ?_, at_le := by rw [List.length_set]; exact C.at_le, lt := C.lt, one := fun i hi k hk => ?_, zero := fun k k1 k2 j hj => ?_, lead := ⟨by rw [List.length_set]; exact ha, ?_⟩, clr := fun k k1 k2 k3 => ?_ }
  · rcases List.mem_or_eq_of_mem_set hr with h | h
    · exact C.len r h
    · subst h
      exact ⟨by simp [subR'], subR_bd hp⟩
  · rw [List.length_set] at hk
    rw [getD_set hn]
    split
    · rename_i e
      subst e
      rw [ho _ (C.lt i hi)]
      exact C.one i hi k hk
    · exact C.one i hi k hk
  · rw [List.length_set] at k2
    rw [getD_set hn]
    split
    · rename_i e
      subst e
      rw [ho j hj]
      exact C.zero k k1 k2 j hj
    · exact C.zero k k1 k2 j hj
  · rw [getD_set hn, if_neg (Ne.symm hne)]
    exact C.lead.2
  · rw [List.length_set] at k2
    rw [getD_set hn]
    split
    · rw [subR_cf hc, C.lead.2, Int.mul_one, Int.sub_self]
      simp
    · exact C.clr k (by omega) k2 k3
theorem Clr.done {p : Int} {w c : Nat} {T : List (List Int)} {leads : List Nat} (C : Clr p w c T leads T.length) : Inv p w (c + 1) T (leads ++ [c]) := by
  have gl : ∀ i, i < leads.length → (leads ++ [c]).getD i 0 = leads.getD i 0 := fun i hi => by
    rw [List.getD_eq_getElem?_getD, List.getElem?_append_left hi, ← List.getD_eq_getElem?_getD]
  have ge : (leads ++ [c]).getD leads.length 0 = c := by simp
  have ll : (leads ++ [c]).length = leads.length + 1 := by simp
  refine ⟨C.len, by rw [ll]; exact C.lead.1, fun i hi => ?_, fun i hi k hk => ?_, fun k k1 k2 j hj => ?_⟩
  · rw [ll] at hi
    by_cases e : i = leads.length
    · subst e; rw [ge]; omega
    · rw [gl i (by omega)]
      have := C.lt i (by omega)
      omega
  · rw [ll] at hi
    by_cases e : i = leads.length
    · subst e
      rw [ge]
      split
      · rename_i e2
        rw [e2]; exact C.lead.2
      · rename_i e2
        exact C.clr k hk hk e2
    · rw [gl i (by omega)]
      exact C.one i (by omega) k hk
  · rw [ll] at k1
    by_cases e : j = c
    · subst e
      exact C.clr k k2 k2 (by omega)
    · exact C.zero k (by omega) k2 j (by omega)
theorem sol_swp {p : Int} {w : Nat} {T : List (List Int)} {a f : Nat} (ha : a < T.length) (hf : f < T.length) {v : Nat → Int} : Sol p w (swp T a f) v ↔ Sol p w T v :=
  ⟨fun h r hr => h r ((swp_mem ha hf).mpr hr), fun h r hr => h r ((swp_mem ha hf).mp hr)⟩
theorem sol_set {p : Int} {w : Nat} {T : List (List Int)} {i : Nat} {r : List Int} {v : Nat → Int} (hi : i < T.length) (h : (∀ k, k < T.length → k ≠ i → eqn p w (T.getD k []) v) → (eqn p w r v ↔ eqn p w (T.getD i []) v)) : Sol p w (T.set i r) v ↔ Sol p w T v := by
  have key : ∀ {T' : List (List Int)}, Sol p w T' v ↔ ∀ k, k < T'.length → eqn p w (T'.getD k []) v := fun {T'} =>
    ⟨fun q k hk => q _ (getD_mem hk), fun q r hr => by obtain ⟨k, hk, e⟩ := mem_getD hr; rw [← e]; exact q k hk⟩
  rw [key, key, List.length_set]
  constructor
  · intro q
    have q1 : ∀ k, k < T.length → k ≠ i → eqn p w (T.getD k []) v := fun k hk hne => by
      have := q k hk
      rwa [getD_set hi, if_neg hne] at this
    intro k hk
    by_cases e : k = i
    · subst e
      have := q k hk
      rw [getD_set hi, if_pos rfl] at this
      exact (h q1).mp this
    · exact q1 k hk e
  · intro q k hk
    rw [getD_set hi]
    split
    · exact (h fun k hk _ => q k hk).mpr (q i hi)
    · exact q k hk
theorem sol_norm {p l a : Int} {w : Nat} {T : List (List Int)} {i : Nat} {v : Nat → Int} (hi : i < T.length) (h : Cg p (a * l) 1) : Sol p w (T.set i (mulR' p l (T.getD i []))) v ↔ Sol p w T v := sol_set hi fun _ => eqn_mul h
theorem sol_elim {p f : Int} {w : Nat} {T : List (List Int)} {i n : Nat} {v : Nat → Int} (hi : i < T.length) (hn : n < T.length) (hne : i ≠ n) : Sol p w (T.set n (subR' p f (T.getD n []) (T.getD i []) w)) v ↔ Sol p w T v := sol_set hn fun q => eqn_sub (q i hi hne)
theorem sol_none {p : Int} {w : Nat} {T : List (List Int)} {leads : List Nat} (I : Inv p w w T leads) (hp : 0 < p) {k : Nat} (h1 : leads.length ≤ k) (h2 : k < T.length) (h3 : cf (T.getD k []) w ≠ 0) (v : Nat → Int) : ¬ Sol p w T v := by
  intro h
  have q := h _ (getD_mem h2)
  unfold eqn at q
  rw [lin_zero fun j hj => I.zero k h1 h2 j hj] at q
  have b := (I.len _ (getD_mem h2)).2.cf hp w
  exact h3 (Cg.small q.symm b ⟨Int.le_refl 0, hp⟩)
noncomputable def told' (T : List (List Int)) (leads : List Nat) (w n : Nat) : List Int := (List.range n).foldl (fun o i => o.set (leads.getD i 0) (cf (T.getD i []) w)) (List.replicate w 0)
theorem told_succ {T : List (List Int)} {leads : List Nat} {w n : Nat} : told' T leads w (n + 1) = (told' T leads w n).set (leads.getD n 0) (cf (T.getD n []) w) := by
  unfold told'
  rw [range_fold]
theorem told_len {T : List (List Int)} {leads : List Nat} {w : Nat} : ∀ {n : Nat}, (told' T leads w n).length = w
  | 0 => by simp [told']
  | n + 1 => by rw [told_succ, List.length_set, told_len]
theorem told_off {T : List (List Int)} {leads : List Nat} {w j : Nat} : ∀ {n : Nat}, (∀ i, i < n → leads.getD i 0 ≠ j) → cf (told' T leads w n) j = 0
  | 0, _ => by
    unfold told' cf
    rw [List.getD_eq_getElem?_getD]
    simp only [List.range_zero, List.foldl_nil, List.getElem?_replicate]
    split <;> rfl
  | n + 1, h => by
    rw [told_succ, cf_set, if_neg (fun q => h n (by omega) q.1.symm)]
    exact told_off fun i hi => h i (by omega)
theorem lin_set {r o : List Int} {l : Nat} {x : Int} (hl : l < o.length) (h0 : cf o l = 0) : ∀ w, lin w r (cf (o.set l x)) = lin w r (cf o) + if l < w then cf r l * x else 0
  | 0 => by simp [lin]
  | w + 1 => by
    rw [lin_succ, lin_succ, lin_set hl h0 w, cf_set]
    by_cases e : w = l
    · subst e
      rw [if_neg (Nat.lt_irrefl _), if_pos ⟨rfl, hl⟩, if_pos (Nat.lt_succ_self _), h0]
      simp
    · have e1 : (if w = l ∧ l < o.length then x else cf o w) = cf o w := if_neg fun q => e q.1
      rw [e1]
      by_cases h : l < w
      · rw [if_pos h, if_pos (by omega)]
        omega
      · rw [if_neg h, if_neg (by omega)]
        omega
theorem told_bd {p : Int} {w : Nat} {T : List (List Int)} {leads : List Nat} (I : Inv p w w T leads) (hp : 0 < p) : ∀ {n : Nat}, n ≤ leads.length → Bd p (told' T leads w n)
  | 0, _ => fun x hx => by
    unfold told' at hx
    have : x = 0 := List.eq_of_mem_replicate hx
    subst this
    exact ⟨Int.le_refl 0, hp⟩
  | n + 1, h => by
    rw [told_succ]
    exact (told_bd I hp (by omega)).set ((I.len _ (getD_mem (by have := I.at_le; omega))).2.cf hp w)
theorem sol_some {p : Int} {w : Nat} {T : List (List Int)} {leads : List Nat} (I : Inv p w w T leads) (h : ∀ k, leads.length ≤ k → k < T.length → cf (T.getD k []) w = 0) : Sol p w T (cf (told' T leads w leads.length)) := by
  have inj : ∀ i j, i < leads.length → j < leads.length → leads.getD i 0 = leads.getD j 0 → i = j := fun i j hi hj e => by
    have h1 := I.one i hi i (by have := I.at_le; omega)
    have h2 := I.one j hj i (by have := I.at_le; omega)
    rw [e] at h1
    rw [h1, if_pos rfl] at h2
    split at h2
    · assumption
    · omega
  have key : ∀ k, k < T.length → ∀ n, n ≤ leads.length → lin w (T.getD k []) (cf (told' T leads w n)) = if k < n then cf (T.getD k []) w else 0 := by
    intro k hk n
    induction n with
    | zero =>
      intro _
      rw [if_neg (Nat.not_lt_zero _)]
      exact lin_zero' fun j hj => told_off fun i hi => absurd hi (Nat.not_lt_zero _)
    | succ n ih =>
      intro hn
      have hl := I.lt n (by omega)
      rw [told_succ, lin_set (by rw [told_len]; exact hl) (told_off fun i hi e => by have := inj i n (by omega) (by omega) e; omega), ih (by omega), if_pos hl, I.one n (by omega) k hk]
      by_cases e : k = n
      · subst e
        rw [if_neg (Nat.lt_irrefl _), if_pos rfl, if_pos (Nat.lt_succ_self _)]
        omega
      · rw [if_neg e]
        by_cases e2 : k < n
        · rw [if_pos e2, if_pos (by omega)]; omega
        · rw [if_neg e2, if_neg (by omega)]; omega
  intro r hr
  obtain ⟨k, hk, rfl⟩ := mem_getD hr
  unfold eqn
  rw [key k hk _ (Nat.le_refl _)]
  split
  · exact Cg.rfl
  · rw [h k (by omega) hk]
    exact Cg.rfl
noncomputable def cell (ns : List Int) (k : Nat) : Int := ns.getD k 0
noncomputable def k_law_cell_nm : List Str := ["script", "k"]
noncomputable def k_law_cell : CSs := (.cons (.ite (.cmp .Lt (.loc 1) (.call "len" (.cons (.loc 0) .nil))) (.cons (.ret (.sub (.loc 0) (.loc 1)))
  .nil) .nil)
  (.cons (.ret (.int 0))
  .nil))
theorem law_cell_cl {G : Gx} {prog : Program} {w : World} {f sa : Addr} {ns : List Int} {k : Int} {H : MH} {xp : Addr → List MV → MH → Prop} (D : GDef G f ["script", "k"] k_law_cell_nm k_law_cell [])
    (bs : Bs G) (S : ScrG G sa ns) (hk : 0 ≤ k) : CL G prog w 1 f [.glob sa, .int k] H (fun v H' => v = .int (cell ns k.toNat) ∧ H' = H) xp := by
  refine D.cl rfl ?_
  intro c e1 e2 ok hfm hint hnm hX
  have Sc := S.scr ok
  show TB c [some (.glob sa), some (.int k)] _ _ _
  unfold k_law_cell
  walk_at "w"
  refine ⟨_, rfl, fun h => ?_, fun h => ?_⟩
  · have h : k < ns.length := by simpa using h
    walk_at "w"
    refine ⟨_, Sc.at hk h, ?_⟩
    exact ⟨rfl, rfl⟩
  · have h : ¬ k < ns.length := by simpa using h
    walk_at "w"
    refine ⟨?_, rfl⟩
    show MV.int 0 = MV.int (cell ns k.toNat)
    congr 1
    exact (cf_out (by omega)).symm
structure LawK (G : Gx) (sa : Addr) (ns : List Int) : Prop where
  bs : Bs G
  scr : ScrG G sa ns
  cell : ∃ f, GFn G "_law_cell" f ∧ GDef G f ["script", "k"] k_law_cell_nm k_law_cell []
inductive CellI : MV → Int → Prop where
  | mk {k : Int} (h : 0 ≤ k) : CellI (.int k) k
theorem TE.cell {c : Cx} {m : ML} {H : MH} {G : Gx} {d : Nat} {sa : Addr} {ns : List Int} (ok : Ok G c d) (hd : 1 ≤ d) (L : LawK G sa ns) {i : Nat} {e : CE} {post : MV → MH → Prop} (hm : m[i]? = some (some (.glob sa)))
    (h : TE c m e H (fun v H1 => ∃ k, CellI v k ∧ post (.int (cell ns k.toNat)) H1)) : TE c m (.call "_law_cell" (.cons (.loc i) (.cons e .nil))) H post := by
  obtain ⟨f, g, D⟩ := L.cell
  refine TE.call ok g (TEs.cons (TE.loc ok hm (TEs.cons (h.mono ?_))))
  rintro _ H1 ⟨k, ⟨hk⟩, hp⟩
  refine TEs.nil ?_
  refine (law_cell_cl D L.bs L.scr hk).use hd ?_
  rintro _ _ ⟨rfl, rfl⟩
  exact hp
set_option compiler.extract_closed false
set_option hygiene false in
local macro_rules | `(tactic| walk_at "s") => `(tactic| with_reducible first
  | refine TE.cell (by assumption) (by decide) (by assumption) (by with_unfolding_all rfl) ?_
  | refine ⟨_, CellI.mk (by omega), ?_⟩
  | fail)
noncomputable def k_quotient_nm : List Str := ["field", "one", "two", "rest", "lead", "out", "shift", "factor", "k"]
noncomputable def k_quotient : CSs := (.cons (.assign 2 (.call "trimmed" (.cons (.loc 2) .nil)))
  (.cons (.ite (.cmp .Eq (.call "len" (.cons (.loc 2) .nil)) (.int 0)) (.cons (.raise "ShareError" (.cons (.str "a polynomial by nought") .nil))
  .nil) .nil)
  (.cons (.assign 3 (.call "trimmed" (.cons (.loc 1) .nil)))
  (.cons (.assign 4 (.meth (.loc 0) "inverse" (.cons (.sub (.loc 2) (.neg (.int 1))) .nil)))
  (.cons (.assign 5 (.bin .Mult (.list (.cons (.int 0) .nil)) (.call "max" (.cons (.int 0) (.cons (.bin .Add (.bin .Sub (.call "len" (.cons (.loc 3) .nil)) (.call "len" (.cons (.loc 2) .nil))) (.int 1)) .nil)))))
  (.cons (.while (.cmp .GtE (.call "len" (.cons (.loc 3) .nil)) (.call "len" (.cons (.loc 2) .nil))) (.cons (.assign 6 (.bin .Sub (.call "len" (.cons (.loc 3) .nil)) (.call "len" (.cons (.loc 2) .nil))))
  (.cons (.assign 7 (.bin .Mod (.bin .Mult (.sub (.loc 3) (.neg (.int 1))) (.loc 4)) (.attr (.loc 0) "prime")))
  (.cons (.setItem (.loc 5) (.loc 6) (.loc 7))
  (.cons (.for [8] (.call "range" (.cons (.call "len" (.cons (.loc 2) .nil)) .nil)) (.cons (.setItem (.loc 3) (.bin .Add (.loc 6) (.loc 8)) (.bin .Mod (.bin .Sub (.sub (.loc 3) (.bin .Add (.loc 6) (.loc 8))) (.bin .Mult (.loc 7) (.sub (.loc 2) (.loc 8)))) (.attr (.loc 0) "prime")))
  .nil))
  (.cons (.assign 3 (.call "trimmed" (.cons (.loc 3) .nil)))
  .nil))))))
  (.cons (.ret (.tup (.cons (.call "trimmed" (.cons (.loc 5) .nil)) (.cons (.loc 3) .nil))))
  .nil)))))))
structure Quo (p : Int) (a b o s : List Int) : Prop where
  short : s.length < (trim b).length
  bo : Bd p o
  bs : Bd p s
  lo : o.length ≤ 100
  ts : trim s = s
  eq : ∀ k, Cg p (cf a k) (csum o b o.length k + cf s k)
theorem at_last {ns : List Int} (h : ns.length ≠ 0) (h2 : ns.length ≤ 1000) : At (intL ns) (-1) (.int (cf ns (ns.length - 1))) := by
  refine ⟨by rw [List.length_map]; omega, .inr ⟨by omega, by rw [List.length_map]; omega, ?_⟩⟩
  have e : ((-1 : Int) + ((intL ns).length : Nat)).toNat = ns.length - 1 := by rw [List.length_map]; omega
  rw [e]
  exact intL_at (by omega)
structure QuoK (G : Gx) (C CE : Addr) : Prop where
  bs : Bs G
  att : GAtt G C "prime"
  pw : ∃ f, GMth G C "power" f ∧ GDef G f ["self", "a", "n"] k_Field_power_nm k_Field_power []
  inv : ∃ f, GMth G C "inverse" f ∧ GDef G f ["self", "a"] k_Field_inverse_nm k_Field_inverse []
  tr : ∃ f, GFn G "trimmed" f ∧ GDef G f ["row"] k_trimmed_nm k_trimmed []
  exc : GExc G "ShareError" CE bmV
theorem TB.gen' {c : Cx} {m : ML} {a : CSs} {H : MH} {q : Fl → ML → MH → Prop} (h : ∀ p : Fl → ML → MH → Prop, (∀ m H, q .next m H → p .next m H) → TB c m a H p) : TB c m a H q := h q (fun _ _ h => h)
theorem quotient_cl {G : Gx} {prog : Program} {w : World} {f C CE : Addr} {i kk r q : Nat} {p : Int} {a b : List Int} {H : MH} (D : GDef G f ["field", "one", "two"] k_quotient_nm k_quotient [])
    (K : QuoK G C CE) (hF : Ins H i C kk [("prime", .int p)]) (F : Fer p) (hp2 : p < 2 ^ 60) (hr : H[r]? = some (.list (intL a))) (hq : H[q]? = some (.list (intL b))) (ba : Bd p a) (bb : Bd p b) (la : a.length ≤ 90) (lb : b.length ≤ 90) :
    CL G prog w 3 f [.ref i, .ref r, .ref q] H (fun v H' => trim b ≠ [] ∧ ∃ t z1 z2 o s, v = .ref t ∧ Ext H H' ∧ H'[t]? = some (.tup [.ref z1, .ref z2]) ∧ H'[z1]? = some (.list (intL (trim o))) ∧ H'[z2]? = some (.list (intL s)) ∧ Quo p a b o s)
      (fun C' as H' => C' = CE ∧ trim b = [] ∧ Ext H H') := by
  have bs := K.bs
  have ga := K.att
  have hp := F.two
  obtain ⟨fPW, gPW, dPW⟩ := K.pw
  obtain ⟨fIN, gIN, dIN⟩ := K.inv
  obtain ⟨fTR, gTR, dTR⟩ := K.tr
  refine D.cl rfl ?_
  intro c e1 e2 ok hfm hint hnm hX
  subst e1 e2
  show TB c [some (.ref i), some (.ref r), some (.ref q), none, none, none, none, none, none] _ _ _
  unfold k_quotient
  walk_at "w"
  refine (trimmed_cl dTR bs hq (by omega)).use (d' := 2) (by decide) ?_
  rintro _ _ ⟨rfl, rfl⟩
  have ltb := trim_len _ b rfl
  have h2 : (H ++ [MO.list (intL (trim b))])[H.length]? = some (.list (intL (trim b))) := get_end
  walk_at "w"
  refine ⟨_, rfl, fun h => ?_, fun h => ?_⟩
  · have h : trim b = [] := List.eq_nil_of_length_eq_zero (by simpa using h)
    refine TB.cons (TS.raise ok K.exc ?_)
    walk_at "w"
    refine ⟨by simp, ?_⟩
    rw [hX]
    exact ⟨rfl, h, (Ext.refl H).app _⟩
  have hb0 : (trim b).length ≠ 0 := by simpa using h
  have E1 : Ext H (H ++ [MO.list (intL (trim b))]) := (Ext.refl H).app _
  walk_at "w"
  refine (trimmed_cl dTR bs (E1 _ _ hr) (by omega)).use (d' := 2) (by decide) ?_
  rintro _ _ ⟨rfl, rfl⟩
  have lta := trim_len _ a rfl
  have hL1 : (H ++ [MO.list (intL (trim b))]).length = H.length + 1 := by simp
  rw [hL1]
  generalize hH2 : H ++ [MO.list (intL (trim b))] ++ [MO.list (intL (trim a))] = H2
  have E2 : Ext H H2 := by subst hH2; exact E1.app _
  have g2 : H2[H.length]? = some (.list (intL (trim b))) := by subst hH2; exact get_app h2
  have g3 : H2[H.length + 1]? = some (.list (intL (trim a))) := by subst hH2; simp
  have l2 : H2.length = H.length + 2 := by subst hH2; simp
  have hF2 := E2.ins hF
  walk_at "w"
  refine ⟨_, Sq.list g2 (at_last hb0 (by omega)), ?_⟩
  have bl := (bb.trim).cf (by omega) ((trim b).length - 1)
  have hlast : cf (trim b) ((trim b).length - 1) % p ≠ 0 := by
    rw [Int.emod_eq_of_lt bl.1 bl.2]
    exact trim_last_ne (trim_trim _ b rfl) hb0
  have hlead := F.inv _ hlast
  walk_at "w"
  refine (inverse_cl dIN dPW gPW ga hF2 hp hp2 hlast).use (d' := 2) (by decide) ?_
  rintro _ _ ⟨rfl, rfl⟩
  generalize hld : cf (trim b) ((trim b).length - 1) ^ (p - 2).toNat % p = ld
  have bld : 0 ≤ ld ∧ ld < p := by subst hld; exact md (by omega)
  have hone : Cg p (cf (trim b) ((trim b).length - 1) * ld) 1 := by subst hld; exact (Cg.rfl.mul Cg.md).trans hlead
  refine TB.cons (TS.assign ok hfm rfl (TE.mulL ?_))
  walk_at "w"
  refine ⟨by simp, ?_⟩
  rename_i H2
  have g2' : (H2 ++ [MO.list [.int 0]])[H.length]? = some (.list (intL (trim b))) := get_app g2
  have g3' : (H2 ++ [MO.list [.int 0]])[H.length + 1]? = some (.list (intL (trim a))) := get_app g3
  walk_at "w"
  refine BC.max ok.hh ?_
  refine ⟨H2.length, .int 0, _, rfl, rfl, get_end, by omega, by omega, ?_⟩
  generalize hL0 : (max 0 (((trim a).length : Int) - ((trim b).length : Int) + 1)).toNat = L0
  have hrep : List.replicate L0 (MV.int 0) = intL (List.replicate L0 0) := by simp [intL]
  rw [hrep]
  have hlen3 : (H2 ++ [MO.list [.int 0]]).length = H.length + 3 := by simp; omega
  rw [hlen3]
  have hL2 : L0 = (trim a).length + 1 - (trim b).length := by omega
  clear hL0
  have cf0 : ∀ j, cf (List.replicate L0 (0 : Int)) j = 0 := fun j => by
    unfold cf
    rw [List.getD_eq_getElem?_getD, List.getElem?_replicate]
    split <;> rfl
  have bd0 : Bd p (List.replicate L0 0) := fun x hx => by rw [List.eq_of_mem_replicate hx]; omega
  refine TB.cons (TS.while ok hfm (fun n m1 H3 => ∃ qr o6 o7 o8 o s, m1 = [some (.ref i), some (.ref r), some (.ref H.length), some (.ref qr), some (.int ld), some (.ref (H.length + 3)), o6, o7, o8] ∧
      s.length = n ∧ trim s = s ∧ Bd p s ∧ Bd p o ∧ o.length = L0 ∧ s.length ≤ (trim a).length ∧ (∀ j, j + (trim b).length ≤ s.length → cf o j = 0) ∧ (∀ k, Cg p (cf a k) (csum o (trim b) L0 k + cf s k)) ∧ Ext H H3 ∧
      H3[H.length]? = some (.list (intL (trim b))) ∧ H3[H.length + 3]? = some (.list (intL o)) ∧ H3[qr]? = some (.list (intL s)) ∧ qr ≠ H.length ∧ qr ≠ H.length + 3 ∧ H.length ≤ qr) (trim a).length
      ⟨H.length + 1, none, none, none, List.replicate L0 0, trim a, rfl, rfl, trim_trim _ a rfl, ba.trim, bd0, by simp, by omega, fun j _ => cf0 j, fun k => ?_, (E2.app _).app _, get_app (get_app g2), ?_, get_app (get_app g3), by omega, by omega, by omega⟩ ?_)
  · rw [csum_zero cf0, cf_trim k _ a rfl]
    exact Cg.of (by simp)
  · rw [← hlen3]; exact get_end
  rintro n m1 H3 ⟨qr, o6, o7, o8, o, s, rfl, hn, hts, bds, bdo, hol, hsl, hz, heq, E3, k2, ko, kr, n1, n2, n3⟩
  have hF3 := E3.ins hF
  walk_at "w"
  refine ⟨_, rfl, fun h => ?_, fun h => ?_⟩
  · refine TB.gen' fun pp hpp => ?_
    have h : (trim b).length ≤ s.length := by simpa using h
    have hs0 : 0 < s.length := Nat.lt_of_lt_of_le (Nat.pos_of_ne_zero hb0) h
    have bsl := bds.cf (by omega) (s.length - 1)
    walk_at "w"
    refine ⟨_, Sq.list kr (at_last (Nat.ne_of_gt hs0) (by omega)), ?_⟩
    walk_at "w"
    generalize hfc : cf s (s.length - 1) * ld % p = fc
    have bfc : 0 ≤ fc ∧ fc < p := by subst hfc; exact md (by omega)
    obtain ⟨sf, hsf⟩ : ∃ sf, s.length = sf + (trim b).length := ⟨s.length - (trim b).length, by omega⟩
    rw [show ((s.length : Int) - ((trim b).length : Int)) = (sf : Int) by omega]
    have hsf2 : sf < L0 := by omega
    have hL3 : L0 ≤ 91 := by omega
    clear hL2
    refine ⟨_, Uq.listI ko (by omega) (by omega) (by omega), ?_⟩
    rw [Int.toNat_natCast]
    generalize hH4 : H3.set (H.length + 3) (.list (intL (o.set sf fc))) = H4
    have E4 : Ext H H4 := by subst hH4; exact E3.set (by omega)
    have k2' : H4[H.length]? = some (.list (intL (trim b))) := by subst hH4; rw [List.getElem?_set_ne (by omega)]; exact k2
    have kr' : H4[qr]? = some (.list (intL s)) := by subst hH4; rw [List.getElem?_set_ne (by omega)]; exact kr
    have ko' : H4[H.length + 3]? = some (.list (intL (o.set sf fc))) := by subst hH4; exact get_set ko
    refine TB.cons (TS.forR ok hfm bs.range (by nofun) ?_ ⟨_, rfl⟩)
    walk_at "w"
    refine ⟨0, _, ⟨.inl ⟨rfl, rfl⟩, by omega, by omega, by omega, by omega⟩, fun k m1 H5 => ∃ o8, m1 = [some (.ref i), some (.ref r), some (.ref H.length), some (.ref qr), some (.int ld), some (.ref (H.length + 3)), some (.int (sf : Int)), some (.int fc), o8] ∧
      k ≤ (trim b).length ∧ H5[qr]? = some (.list (intL ((List.range k).foldl (rstep p fc (trim b) sf) s))) ∧ (∀ x, x ≠ qr → H5[x]? = H4[x]?) , ⟨o8, rfl, by omega, kr', fun _ _ => rfl⟩, ?_, ?_⟩
    · rintro k m1 H5 xt ⟨o8, rfl, hk, kr5, same⟩ hlt
      rw [Int.zero_add] at *
      have okx := ok.wx xt
      have hfx : (c.wx xt).fm = none := hfm
      show TB (c.wx xt) [some (.ref i), some (.ref r), some (.ref H.length), some (.ref qr), some (.int ld), some (.ref (H.length + 3)), some (.int (sf : Int)), some (.int fc), some (.int (k : Int))] _ _ _
      refine TB.gen' fun qq hqq => ?_
      have hk2 : k < (trim b).length := by omega
      clear hlt
      generalize hfd : (List.range k).foldl (rstep p fc (trim b) sf) s = u at kr5
      have hul : u.length = s.length := by rw [← hfd]; exact fold_len (fun _ _ => rstep_len) _ _
      have k25 : H5[H.length]? = some (.list (intL (trim b))) := (same _ (Ne.symm n1)).trans k2'
      have E5 : Ext H H5 := fun x y hx => by
        by_cases e : x = qr
        · subst e
          have := (List.getElem?_eq_some_iff.mp hx).1
          omega
        · rw [same _ e]; exact E4 _ _ hx
      have hF5 := E5.ins hF
      walk_at "w"
      refine ⟨_, Sq.listI kr5 (by omega) (by omega) (by omega), ?_⟩
      walk_at "w"
      refine ⟨_, Sq.listI k25 (by omega) (by omega) (by omega), ?_⟩
      walk_at "w"
      refine ⟨_, Uq.listI kr5 (by omega) (by omega) (by omega), ?_⟩
      rw [addN, Int.toNat_natCast]
      walk_at "w"
      refine hqq _ _ ⟨_, rfl, by omega, ?_, fun x hx => ?_⟩
      · rw [get_set kr5, range_fold, hfd]
        rfl
      · rw [List.getElem?_set_ne (Ne.symm hx)]; exact same x hx
    · intro m1 H5 hJ
      rw [sub0] at hJ
      obtain ⟨o8, rfl, hk, kr5, same⟩ := hJ
      have k25 : H5[H.length]? = some (.list (intL (trim b))) := (same _ (Ne.symm n1)).trans k2'
      have ko5 : H5[H.length + 3]? = some (.list (intL (o.set sf fc))) := (same _ (Ne.symm n2)).trans ko'
      have E5 : Ext H H5 := fun x y hx => by
        by_cases e : x = qr
        · subst e
          have := (List.getElem?_eq_some_iff.mp hx).1
          omega
        · rw [same _ e]; exact E4 _ _ hx
      generalize hfd : (List.range (trim b).length).foldl (rstep p fc (trim b) sf) s = u at kr5
      have hul : u.length = s.length := by rw [← hfd]; exact fold_len (fun _ _ => rstep_len) _ _
      have hcu : ∀ k, Cg p (cf u k) (cf s k - fc * sh (trim b) sf k) := fun k => by rw [← hfd]; exact rfold_cf p fc (trim b) s sf (by omega) k
      have bdu : Bd p u := by rw [← hfd]; exact rfold_bd (by omega) bds _
      have hlz : cf u (u.length - 1) = 0 := by
        refine Cg.small ?_ (bdu.cf (by omega) _) ⟨by omega, by omega⟩
        rw [hul]
        refine (hcu _).trans ?_
        have e3 : sh (trim b) sf (s.length - 1) = cf (trim b) ((trim b).length - 1) := by
          obtain ⟨t0, ht0⟩ := Nat.exists_eq_succ_of_ne_zero hb0
          rw [hsf, ht0]
          show sh (trim b) sf (sf + t0) = cf (trim b) t0
          unfold sh
          rw [if_pos (Nat.le_add_right _ _), Nat.add_sub_cancel_left]
        rw [e3]
        have h5 : Cg p (fc * cf (trim b) ((trim b).length - 1)) (cf s (s.length - 1)) := by
          subst hfc
          refine (Cg.md.mul Cg.rfl).trans ?_
          refine (Cg.of ?_).trans ((Cg.rfl (a := cf s (s.length - 1))).mul hone |>.trans (Cg.of (by simp)))
          grind
        exact (Cg.rfl.sub h5).trans (Cg.of (by omega))
      have hsh := trim_short (l := u) (by omega) hlz
      have ltu := trim_len _ u rfl
      have hl5 := (List.getElem?_eq_some_iff.mp ko5).1
      walk_at "w"
      refine (trimmed_cl dTR bs kr5 (by omega)).use (d' := 2) (by decide) ?_
      rintro _ _ ⟨rfl, rfl⟩
      walk_at "w"
      refine hpp _ _ ⟨(trim u).length, by omega, _, _, _, _, o.set sf fc, trim u, rfl, rfl, trim_trim _ u rfl, bdu.trim, bdo.set bfc, by rw [List.length_set]; exact hol, by omega, ?_, ?_, E5.app _, get_app k25, get_app ko5, get_end, by omega, by omega, E5.len⟩
      · intro j hj
        rw [cf_set, if_neg (by omega)]
        exact hz j (by omega)
      · intro k
        rw [csum_set (by omega), if_pos hsf2, hz sf (by omega), cf_trim k _ u rfl]
        refine (heq k).trans ?_
        refine Cg.trans ?_ (Cg.rfl.add (hcu k).symm)
        exact Cg.of (by grind)
  · have h : s.length < (trim b).length := by simpa using h
    have htl := trim_len _ o rfl
    walk_at "w"
    refine (trimmed_cl dTR bs ko (by omega)).use (d' := 2) (by decide) ?_
    rintro _ _ ⟨rfl, rfl⟩
    walk_at "w"
    refine ⟨by simp, fun e => hb0 (by rw [e]; rfl), _, _, _, o, s, rfl, (E3.app _).app _, get_end, get_app get_end, get_app (get_app kr), h, bdo, bds, by omega, hts, fun k => ?_⟩
    rw [hol]
    refine (heq k).trans (Cg.of ?_)
    rw [csum_congr (fun j => cf_trim j _ b rfl)]
section
variable {prog : Program} {w : World} {A : Around} {E : Value → Shared → Prop} {h : Heap} {g : Array GenState} {d : Drawn} {t : Nat} {os : OsState} {a : Addr} {vs : Array Value} {n : Nat}
end
section
variable {prog : Program} {w : World} {K : Type} [DecidableEq K] {knd : KeyKind prog w K} {A : Around} {E : Value → Shared → Prop} {s : Shared} {d : Addr}
end
section
variable {prog : Program} {w : World} {K : Type} [DecidableEq K] {knd : KeyKind prog w K} {A : Around} {E : Value → Shared → Prop} {s : Shared} {d it l : Addr} {vs : List Value}
end
section
variable {c : Cx} {m : ML} {H : MH} {G : Gx} {d : Nat}
end
section
variable {c : Cx} {m : ML} {H : MH} {G : Gx} {d : Nat} {prog : Program} {w : World}
end
section
variable {K : Type} [DecidableEq K] {ρ : List Addr}
end
section
variable {c : Cx} {m : ML} {H : MH} {G : Gx} {d : Nat}
end
section
variable {c : Cx} {m : ML} {H : MH} {G : Gx} {d : Nat}
end
theorem swapped_sub {o1 i1 o2 i2 a1 a2 : PySem.Expr} {p1 p2 p p' : Pos} {n n' : Nat} {env : Env} : swappedStores [.Tuple [.Subscript o1 i1 p1, .Subscript o2 i2 p2] n p] (.Tuple [a1, a2] n' p') env = pure none := by
  unfold swappedStores
  dsimp only
  split
  · rfl
  · split
    · rfl
    · rfl
section
variable {c : Cx} {m : ML} {H : MH} {G : Gx} {d : Nat}
theorem assign_sub {o i : CE} {x : MV} {vv : Value} {e1 e2 : PySem.Expr} {p : Pos} {mr : Str → Option Value} {ρ : List Addr} {s : Shared} {Q : Unit → Shared → Prop} {E : Value → Shared → Prop} {post : MH → Prop} (h1 : wfE o c.nm c.sc e1 = true) (h2 : wfE i c.nm c.sc e2 = true)
    (h : TE c m o H (fun x1 H2 => TE c m i H2 (fun y H3 => ∃ H4, Uq c H3 x1 y x H4 ∧ post H4))) (hv : VR ρ x vv) (S : St c mr ρ H s.heap) (l : LR mr c.nm ρ m) (kx : Kx c ρ s E)
    (k : ∀ t H4 h' tk, post H4 → St c mr (ρ ++ t) H4 h' → Q () { s with heap := h', toks := tk }) : wpAny (model c.prog c.w) c.A (assign (.Subscript (reE o c.nm e1) (reE i c.nm e2) p) c.env vv) Q E s := by
  rw [assign_Subscript]
  refine wpAny_bind (wpAny_holding ?_)
  refine h _ h1 mr ρ s _ E S l ?_ kx
  intro t x1 xr H2 hp2 tk2 h23 hx S2
  refine wpAny_bind (wpAny_holding ?_)
  refine h23 _ h2 mr _ { s with heap := hp2, toks := tk2 } _ E S2 l.mono ?_ kx.mono
  rintro t' y yr H3 hp3 tk3 ⟨H4, hq, hp⟩ hy S3
  refine wpAny_bind (wpAny_standAt (wpAny_bind (wpAny_holding ?_)))
  refine hq mr _ { s with heap := hp3, toks := tk3 } _ E _ _ _ S3 hx.mono hy (hv.mono).mono ?_
  intro t3 h' tk S4
  have e1 : ρ ++ t ++ t' ++ t3 = ρ ++ (t ++ (t' ++ t3)) := by simp only [List.append_assoc]
  rw [e1] at S4
  exact wpAny_release (k _ H4 h' tk hp S4)
theorem TS.swap (ok : Ok G c d) {o1 i1 o2 i2 a1 a2 : CE} {post : Fl → ML → MH → Prop}
    (h : TE c m a1 H (fun v1 H1 => TE c m a2 H1 (fun v2 H2 => TE c m o1 (H2 ++ [.tup [v1, v2]]) (fun x H4 => TE c m i1 H4 (fun y H5 => ∃ H6, Uq c H5 x y v1 H6 ∧ TE c m o2 H6 (fun x2 H7 => TE c m i2 H7 (fun y2 H8 => ∃ H9, Uq c H8 x2 y2 v2 H9 ∧ post .next m H9))))))) : TS c m (.swap o1 i1 o2 i2 a1 a2) H post := by
  intro st hs
  obtain ⟨hs, w6⟩ := and2 hs
  obtain ⟨hs, w5⟩ := and2 hs
  obtain ⟨w1, w2, w3, w4⟩ := and4 hs
  intro mr ρ s Q E S l k kx
  refine Assign_Tuple ?_ rfl swapped_sub
  have hT : TE c m (.tup (.cons a1 (.cons a2 .nil))) H (fun v H3 => ∃ v1 v2 H2, v = .ref H2.length ∧ H3 = H2 ++ [.tup [v1, v2]] ∧ TE c m o1 H3 (fun x H4 => TE c m i1 H4 (fun y H5 => ∃ H6, Uq c H5 x y v1 H6 ∧ TE c m o2 H6 (fun x2 H7 => TE c m i2 H7 (fun y2 H8 => ∃ H9, Uq c H8 x2 y2 v2 H9 ∧ post .next m H9))))) :=
    TE.tup (TEs.cons (h.mono fun v1 H1 h1 => TEs.cons (h1.mono fun v2 H2 h2 => TEs.nil ⟨by simp, v1, v2, H2, rfl, rfl, h2⟩)))
  refine hT (.Tuple [kid 0 (ex 0 st), kid 1 (ex 0 st)] (numOf (ex 0 st)) (ex 0 st).pos) ?_ mr ρ s _ E S l ?_ kx
  · show wfEs (.cons a1 (.cons a2 .nil)) c.nm c.sc [kid 0 (ex 0 st), kid 1 (ex 0 st)] = true
    show (wfE a1 c.nm c.sc (kid 0 (ex 0 st)) && (wfE a2 c.nm c.sc (kid 1 (ex 0 st)) && true)) = true
    rw [w5, w6]
    rfl
  · rintro t _ vr H3 hp3 tk3 ⟨v1, v2, H2, rfl, rfl, h1⟩ ⟨a, ha, rfl⟩ S1
    have hg : (H2 ++ [MO.tup [v1, v2]])[H2.length]? = some (.tup [v1, v2]) := get_end
    obtain ⟨ws, hws, T⟩ := S1.tup hg ha
    obtain ⟨u1, u2, rfl, hu1, hu2⟩ := two_of hws
    refine assign_Tuple_tuple ok.hh T rfl rfl ?_
    intro h' he
    have S2 := S1.grow (ext_grow he)
    refine wpAny_bind (wpAny_holding ?_)
    refine assign_sub (s := { s with heap := h', toks := tk3 }) w1 w2 h1 hu1 S2 l.mono kx.mono ?_
    intro t2 H6 h6 tk6 h26 S6
    refine wpAny_bind (wpAny_holding ?_)
    refine assign_sub (s := { s with heap := h6, toks := tk6 }) w3 w4 h26 hu2.mono S6 l.mono.mono kx.mono.mono ?_
    intro t3 H9 h9 tk9 hp S9
    rw [List.append_assoc, List.append_assoc] at S9
    exact wpAny_pure (k _ .next .next m mr H9 h9 tk9 hp rfl S9 l.mono)
end
noncomputable def k_solve_nm : List Str := ["field", "rows", "rights", "width", "table", "leads", "at", "column", "found", "k", "lead", "factor", "out"]
noncomputable def ks_find : CSs := (.cons (.ite (.cmp .NotEq (.sub (.sub (.loc 4) (.loc 9)) (.loc 7)) (.int 0)) (.cons (.assign 8 (.loc 9))
  (.cons CS.brk
  .nil)) .nil)
  .nil)
noncomputable def ks_elim : CSs := (.cons (.ite (.and (.cons (.cmp .NotEq (.loc 9) (.loc 6)) (.cons (.cmp .NotEq (.sub (.sub (.loc 4) (.loc 9)) (.loc 7)) (.int 0)) .nil))) (.cons (.assign 11 (.sub (.sub (.loc 4) (.loc 9)) (.loc 7)))
  (.cons (.setItem (.loc 4) (.loc 9) (.comp (.bin .Mod (.bin .Sub (.sub (.sub (.loc 4) (.loc 9)) (.loc 13)) (.bin .Mult (.loc 11) (.sub (.sub (.loc 4) (.loc 6)) (.loc 13)))) (.attr (.loc 0) "prime")) ["j"] (.call "range" (.cons (.bin .Add (.loc 3) (.int 1)) .nil)) .nil))
  .nil)) .nil)
  .nil)
noncomputable def ks_turn : CSs := (.cons (.assign 8 (.neg (.int 1)))
  (.cons (.for [9] (.call "range" (.cons (.loc 6) (.cons (.call "len" (.cons (.loc 4) .nil)) .nil))) ks_find)
  (.cons (.ite (.cmp .Lt (.loc 8) (.int 0)) (.cons CS.cont
  .nil) .nil)
  (.cons (.swap (.loc 4) (.loc 6) (.loc 4) (.loc 8) (.sub (.loc 4) (.loc 8)) (.sub (.loc 4) (.loc 6)))
  (.cons (.assign 10 (.meth (.loc 0) "inverse" (.cons (.sub (.sub (.loc 4) (.loc 6)) (.loc 7)) .nil)))
  (.cons (.setItem (.loc 4) (.loc 6) (.comp (.bin .Mod (.bin .Mult (.loc 13) (.loc 10)) (.attr (.loc 0) "prime")) ["a"] (.sub (.loc 4) (.loc 6)) .nil))
  (.cons (.for [9] (.call "range" (.cons (.call "len" (.cons (.loc 4) .nil)) .nil)) ks_elim)
  (.cons (.expr (.meth (.loc 5) "append" (.cons (.loc 7) .nil)))
  (.cons (.assign 6 (.bin .Add (.loc 6) (.int 1)))
  .nil)))))))))
noncomputable def ks_end : CSs := (.cons (.for [9] (.call "range" (.cons (.loc 6) (.cons (.call "len" (.cons (.loc 4) .nil)) .nil))) (.cons (.ite (.cmp .NotEq (.sub (.sub (.loc 4) (.loc 9)) (.loc 3)) (.int 0)) (.cons (.ret CE.none)
  .nil) .nil)
  .nil))
  (.cons (.assign 12 (.bin .Mult (.list (.cons (.int 0) .nil)) (.loc 3)))
  (.cons (.for [9] (.call "range" (.cons (.call "len" (.cons (.loc 5) .nil)) .nil)) (.cons (.setItem (.loc 12) (.sub (.loc 5) (.loc 9)) (.sub (.sub (.loc 4) (.loc 9)) (.loc 3)))
  .nil))
  (.cons (.ret (.loc 12))
  .nil))))
noncomputable def k_solve : CSs := (.cons (.assign 3 (.ite (.cmp .Gt (.call "len" (.cons (.loc 1) .nil)) (.int 0)) (.call "len" (.cons (.sub (.loc 1) (.int 0)) .nil)) (.int 0)))
  (.cons (.assign 4 (.comp (.bin .Add (.call "list" (.cons (.sub (.loc 1) (.loc 13)) .nil)) (.list (.cons (.sub (.loc 2) (.loc 13)) .nil))) ["k"] (.call "range" (.cons (.call "len" (.cons (.loc 1) .nil)) .nil)) .nil))
  (.cons (.assign 5 (.list .nil))
  (.cons (.assign 6 (.int 0))
  (.cons (.for [7] (.call "range" (.cons (.loc 3) .nil)) ks_turn)
  ks_end)))))
noncomputable def TabAt (H : MH) (t l : Nat) (T : List (List Int)) : Prop := ∃ rs : List Nat, H[t]? = some (.list (rs.map MV.ref)) ∧ rs.length = T.length ∧ ∀ k, k < T.length → rs.getD k 0 ≠ l ∧ H[rs.getD k 0]? = some (.list (intL (T.getD k [])))
theorem ref_getD {rs : List Nat} {k : Nat} (h : k < rs.length) : (rs.map MV.ref)[k]? = some (.ref (rs.getD k 0)) := by
  rw [List.getElem?_map, List.getD_eq_getElem?_getD, List.getElem?_eq_getElem h]
  rfl
section
variable {c : Cx} {H : MH} {t l : Nat} {T : List (List Int)}
theorem TabAt.sq (h : TabAt H t l T) (hl : T.length ≤ 1000) {k : Int} (h0 : 0 ≤ k) (hk : k.toNat < T.length) : ∃ r, Sq c H (.ref t) (.int k) (.ref r) ∧ H[r]? = some (.list (intL (T.getD k.toNat []))) := by
  obtain ⟨rs, h1, h2, h3⟩ := h
  exact ⟨rs.getD k.toNat 0, Sq.list h1 ⟨by rw [List.length_map]; omega, .inl ⟨h0, ref_getD (by omega)⟩⟩, (h3 _ hk).2⟩
theorem TabAt.ne (h : TabAt H t l T) {k : Nat} (hk : k < T.length) {r : Nat} {row : List Int} (hr : H[r]? = some (.list (intL row))) (h0 : 0 < row.length) : r ≠ t := by
  rintro rfl
  obtain ⟨rs, h1, h2, h3⟩ := h
  rw [h1] at hr
  injection hr with hr
  injection hr with hr
  cases row with
  | nil => simp at h0
  | cons a row =>
    have := congrArg (fun l => l[0]?) hr
    rw [ref_getD (by omega)] at this
    simp [intL] at this
theorem TabAt.put (h : TabAt H t l T) (hl : l < H.length) (hT : ∀ r ∈ T, 0 < r.length) {k : Nat} (hk : k < T.length) {row : List Int} : ∃ xs, H[t]? = some (.list xs) ∧ xs.length = T.length ∧ TabAt ((H ++ [MO.list (intL row)]).set t (MO.list (xs.set k (MV.ref H.length)))) t l (T.set k row) := by
  obtain ⟨rs, h1, h2, h3⟩ := id h
  have ht : t < H.length := (List.getElem?_eq_some_iff.mp h1).1
  refine ⟨_, h1, by rw [List.length_map, h2], rs.set k H.length, ?_, by simp [h2], fun j hj => ?_⟩
  · rw [List.getElem?_set_self (by simp; omega), List.map_set]
  · rw [List.length_set] at hj
    rw [getD_set hk]
    by_cases e : j = k
    · subst e
      rw [if_pos rfl]
      have e2 : (rs.set j H.length).getD j 0 = H.length := by rw [List.getD_eq_getElem?_getD, List.getElem?_set_self (by omega)]; rfl
      rw [e2, List.getElem?_set_ne (by omega)]
      exact ⟨by omega, get_end⟩
    · rw [if_neg e]
      have e2 : (rs.set k H.length).getD j 0 = rs.getD j 0 := by rw [List.getD_eq_getElem?_getD, List.getElem?_set_ne (Ne.symm e), List.getD_eq_getElem?_getD]
      have q := (h3 j hj).2
      rw [e2, List.getElem?_set_ne (Ne.symm (h.ne hj q (hT _ (getD_mem hj))))]
      exact ⟨(h3 j hj).1, get_app q⟩
end
structure SolS (p : Int) (w cc : Nat) (T0 T : List (List Int)) (leads : List Nat) : Prop extends Inv p w cc T leads where
  same : ∀ v, Sol p w T v ↔ Sol p w T0 v
  rows : T.length = T0.length
noncomputable abbrev natL (l : List Nat) : List Int := l.map fun (n : Nat) => (n : Int)
section
variable {G : Gx} {C XE : Addr}
theorem cell_sq {c : Cx} {m : ML} {H : MH} {d : Nat} (ok : Ok G c d) {t l : Nat} {T : List (List Int)} {w : Nat} (hT : TabAt H t l T) (hl : T.length ≤ 1000) (hw : w ≤ 900) (I : ∀ r ∈ T, r.length = w + 1) {a b : CE} {k j : Int} {post : MV → MH → Prop} {x : CE}
    (hx : TE c m x H (fun v H1 => v = .ref t ∧ H1 = H)) (ha : TE c m a H (fun v H1 => v = .int k ∧ H1 = H)) (hb : TE c m b H (fun v H1 => v = .int j ∧ H1 = H)) (h0 : 0 ≤ k) (hk : k.toNat < T.length) (j0 : 0 ≤ j) (hj : j.toNat ≤ w) (hp : post (.int (cf (T.getD k.toNat []) j.toNat)) H) :
    TE c m (.sub (.sub x a) b) H post := by
  refine TE.sq (TE.sq (hx.mono ?_))
  rintro _ _ ⟨rfl, rfl⟩
  refine ha.mono ?_
  rintro _ _ ⟨rfl, rfl⟩
  obtain ⟨r, q1, q2⟩ := hT.sq (c := c) hl h0 hk
  refine ⟨_, q1, hb.mono ?_⟩
  rintro _ _ ⟨rfl, rfl⟩
  have := I _ (getD_mem hk)
  exact ⟨_, Sq.listI q2 (by omega) j0 (by omega), hp⟩
theorem TB.gen2 {c : Cx} {m : ML} {a : CSs} {H : MH} {q : Fl → ML → MH → Prop} (h : ∀ p : Fl → ML → MH → Prop, (∀ f m H, q f m H → p f m H) → TB c m a H p) : TB c m a H q := h q (fun _ _ _ h => h)
theorem solve_turn {c : Cx} {d : Nat} (ok : Ok G c (d + 3)) (hfm : c.fm = none) (hint : interactive c.env = false) (K : QuoK G C XE) {p : Int} (F : Fer p) (hp2 : p < 2 ^ 60) {H0 H : MH} {i kk t l w n : Nat} {o1 o2 o8 o9 o10 o11 : Option MV} {T0 T : List (List Int)} {leads : List Nat}
    (hF : Ins H0 i C kk [("prime", .int p)]) (E : Ext H0 H) (ht0 : H0.length ≤ t) (hl0 : H0.length ≤ l) (htl : t ≠ l) (hT : TabAt H t l T) (hL : H[l]? = some (.list (intL (natL leads)))) (S : SolS p w n T0 T leads) (hn : n < w) (hw : w ≤ 900) (hT0 : T0.length ≤ 900) :
    TB c [some (.ref i), o1, o2, some (.int (w : Int)), some (.ref t), some (.ref l), some (.int (leads.length : Int)), some (.int (n : Int)), o8, o9, o10, o11, none] ks_turn H
      (fun f m1 H1 => (f = .next ∨ f = .cont) ∧ ∃ T1 leads1 o8 o9 o10 o11, m1 = [some (.ref i), o1, o2, some (.int (w : Int)), some (.ref t), some (.ref l), some (.int (leads1.length : Int)), some (.int (n : Int)), o8, o9, o10, o11, none] ∧ Ext H0 H1 ∧ TabAt H1 t l T1 ∧ H1[l]? = some (.list (intL (natL leads1))) ∧ SolS p w (n + 1) T0 T1 leads1) := by
  have bs := K.bs
  have ga := K.att
  have hp := F.two
  obtain ⟨fPW, gPW, dPW⟩ := K.pw
  obtain ⟨fIN, gIN, dIN⟩ := K.inv
  have hTl : T.length ≤ 900 := by rw [S.rows]; exact hT0
  have hal := S.at_le
  have rl : ∀ r ∈ T, r.length = w + 1 := fun r hr => (S.len r hr).1
  have lT : ∀ {H1 : MH} {T1 : List (List Int)} {m : ML} {post : MV → MH → Prop}, TabAt H1 t l T1 → T1.length ≤ 900 → post (.int (T1.length : Int)) H1 → BC c (.builtin "len") [.ref t] H1 post := fun {H1 T1 m post} h hl hp => by
    obtain ⟨rs, h1, h2, h3⟩ := h
    refine BC.len h1 (by rw [List.length_map]; omega) ?_
    rw [List.length_map, h2]
    exact hp
  unfold ks_turn
  refine TB.gen2 fun PP hPP => ?_
  walk_at "w"
  -- the search
  refine TS.mono (show TS c _ _ _ (fun f m1 H1 => f = .next ∧ ∃ fd o9, m1 = [some (.ref i), o1, o2, some (.int (w : Int)), some (.ref t), some (.ref l), some (.int (leads.length : Int)), some (.int (n : Int)), some (.int fd), o9, o10, o11, none] ∧ H1 = H ∧
      ((fd = -1 ∧ ∀ k, leads.length ≤ k → k < T.length → cf (T.getD k []) n = 0) ∨ ∃ k : Nat, fd = (k : Int) ∧ leads.length ≤ k ∧ k < T.length ∧ cf (T.getD k []) n ≠ 0)) from TS.forR ok hfm bs.range (by nofun) ?_ ⟨_, rfl⟩) ?_
  · walk_at "w"
    refine lT (m := []) hT hTl ?_
    walk_at "w"
    refine ⟨(leads.length : Int), (T.length : Int), ⟨.inr rfl, by omega, by omega, by omega, by omega⟩, fun j m1 H1 => ∃ o9, m1 = [some (.ref i), o1, o2, some (.int (w : Int)), some (.ref t), some (.ref l), some (.int (leads.length : Int)), some (.int (n : Int)), some (.int (-1)), o9, o10, o11, none] ∧ H1 = H ∧ ∀ k, leads.length ≤ k → k < leads.length + j → cf (T.getD k []) n = 0, ⟨_, rfl, rfl, fun k h1 h2 => by omega⟩, ?_, ?_⟩
    · rintro j m1 H1 xt ⟨o9', rfl, rfl, hz⟩ hj
      have okx := ok.wx xt
      have hfx : (c.wx xt).fm = none := hfm
      show TB (c.wx xt) [some (.ref i), o1, o2, some (.int (w : Int)), some (.ref t), some (.ref l), some (.int (leads.length : Int)), some (.int (n : Int)), some (.int (-1)), some (.int ((leads.length : Int) + (j : Int))), o10, o11, none] ks_find _ _
      unfold ks_find
      refine TB.gen2 fun QQ hQQ => ?_
      have ek : ((leads.length : Int) + (j : Int)).toNat = leads.length + j := by omega
      refine TB.cons (TS.ite (TT.cmp (cell_sq okx (c := c.wx xt) hT (by omega) hw rl (TE.loc okx rfl ⟨rfl, rfl⟩) (TE.loc okx rfl ⟨rfl, rfl⟩) (TE.loc okx rfl ⟨rfl, rfl⟩) (by omega) (by omega) (by omega) (by omega) ?_)))
      rw [ek]
      refine TE.int ⟨_, rfl, fun h => ?_, fun h => ?_⟩
      · walk_at "w"
        refine TS.brk (hQQ _ _ _ ⟨rfl, _, _, rfl, rfl, .inr ⟨leads.length + j, by omega, by omega, by omega, ?_⟩⟩)
        simpa using h
      · refine TB.nil (TB.nil (hQQ _ _ _ ⟨_, rfl, rfl, fun k h1 h2 => ?_⟩))
        by_cases e : k = leads.length + j
        · subst e
          simpa using h
        · exact hz k h1 (by omega)
    · rintro m1 H1 ⟨o9', rfl, rfl, hz⟩
      exact ⟨rfl, _, _, rfl, rfl, .inl ⟨rfl, fun k h1 h2 => hz k h1 (by omega)⟩⟩
  rintro _ _ H1 ⟨rfl, fd, o9', rfl, e0, hfd⟩
  obtain rfl : H = H1 := e0.symm
  walk_at "w"
  rcases hfd with ⟨rfl, hz⟩ | ⟨k, rfl, hk1, hk2, hk3⟩
  · refine ⟨true, rfl, fun _ => ?_, fun h => (by cases h)⟩
    refine TB.cons (TS.cont (hPP _ _ _ ⟨.inr rfl, T, leads, _, _, _, _, rfl, E, hT, hL, ?_⟩))
    exact { S.toInv.skip hz with same := S.same, rows := S.rows }
  refine ⟨false, by show false = decide _; simp, fun h => (by cases h), fun _ => ?_⟩
  refine TB.nil (TB.cons (TS.swap ok ?_))
  have ha : leads.length < T.length := by omega
  have el : ((leads.length : Int)).toNat = leads.length := by omega
  have ek : ((k : Int)).toNat = k := by omega
  obtain ⟨rs, r1, r2, r3⟩ := id hT
  have gk : ∀ {H1 : MH} {j : Nat}, H1[t]? = some (.list (rs.map MV.ref)) → j < T.length → Sq c H1 (.ref t) (.int (j : Int)) (.ref (rs.getD j 0)) := fun {H1 j} q hj => Sq.list q ⟨by rw [List.length_map]; omega, .inl ⟨by omega, by rw [Int.toNat_natCast]; exact ref_getD (by omega)⟩⟩
  walk_at "w"
  refine ⟨_, gk r1 hk2, ?_⟩
  walk_at "w"
  refine ⟨_, gk r1 ha, ?_⟩
  walk_at "w"
  refine ⟨_, Uq.list (get_app r1) (by rw [List.length_map]; omega) (by omega) (by rw [List.length_map]; omega), ?_⟩
  walk_at "w"
  have ht : t < H.length := (List.getElem?_eq_some_iff.mp r1).1
  refine ⟨_, Uq.list (List.getElem?_set_self (by simp; omega)) (by rw [List.length_set, List.length_map]; omega) (by omega) (by rw [List.length_set, List.length_map]; omega), ?_⟩
  rw [el, ek, List.set_set]
  generalize hH2 : (H ++ [MO.tup [MV.ref (rs.getD k 0), MV.ref (rs.getD leads.length 0)]]).set t (.list (((rs.map MV.ref).set leads.length (.ref (rs.getD k 0))).set k (.ref (rs.getD leads.length 0)))) = H2
  have E2 : Ext H0 H2 := by rw [← hH2]; exact (E.app _).set ht0
  have S2 : SolS p w n T0 (swp T leads.length k) leads := { S.toInv.swp hk1 hk2 with same := fun v => (sol_swp ha hk2).trans (S.same v), rows := by rw [swp_len]; exact S.rows }
  have hT2 : TabAt H2 t l (swp T leads.length k) := by
    refine ⟨(rs.set leads.length (rs.getD k 0)).set k (rs.getD leads.length 0), ?_, by rw [swp_len]; simp [r2], fun j hj => ?_⟩
    · rw [← hH2, List.getElem?_set_self (by simp; omega), List.map_set, List.map_set]
    · rw [swp_len] at hj
      have gs : ∀ {l : List Nat} {a b v : Nat}, a < l.length → (l.set a v).getD b 0 = if b = a then v else l.getD b 0 := fun {l a b v} h => by
        rw [List.getD_eq_getElem?_getD, List.getElem?_set]
        by_cases e : a = b
        · subst e; rw [if_pos rfl, if_pos h, if_pos rfl]; rfl
        · rw [if_neg e, if_neg (Ne.symm e), List.getD_eq_getElem?_getD]
      rw [gs (by simp; omega), gs (by omega), swp_at ha hk2]
      have key : ∀ j, j < T.length → rs.getD j 0 ≠ l ∧ H2[rs.getD j 0]? = some (.list (intL (T.getD j []))) := fun j hj => by
        refine ⟨(r3 j hj).1, ?_⟩
        have q := (r3 j hj).2
        rw [← hH2, List.getElem?_set_ne (Ne.symm (hT.ne hj q (by have := rl _ (getD_mem hj); omega)))]
        exact get_app q
      by_cases e1 : j = k
      · rw [if_pos e1, if_pos e1]; exact key _ ha
      · rw [if_neg e1, if_neg e1]
        by_cases e2 : j = leads.length
        · rw [if_pos e2, if_pos e2]; exact key _ hk2
        · rw [if_neg e2, if_neg e2]; exact key _ hj
  have hL2 : H2[l]? = some (.list (intL (natL leads))) := by rw [← hH2, List.getElem?_set_ne htl]; exact get_app hL
  have lead0 : cf ((swp T leads.length k).getD leads.length []) n ≠ 0 := by
    rw [swp_at ha hk2]
    split
    · rename_i e
      rw [← e] at hk3
      exact hk3
    · rw [if_pos rfl]
      exact hk3
  clear hH2 gk r1 r2 r3 ht
  generalize hTs : swp T leads.length k = T2 at *
  have hT2l : T2.length ≤ 900 := by rw [S2.rows]; exact hT0
  have ha2 : leads.length < T2.length := by rw [S2.rows, ← S.rows]; exact ha
  have rl2 : ∀ r ∈ T2, r.length = w + 1 := fun r hr => (S2.len r hr).1
  have b2 := (S2.len _ (getD_mem ha2)).2
  have cb := b2.cf (by omega) n
  -- the inverse
  have iF := E2.ins hF
  refine TB.cons (TS.assign ok hfm rfl (TE.meth ok (TE.loc ok rfl ⟨_, _, _, _, _, rfl, iF, rfl, gIN, TEs.cons (cell_sq ok hT2 (by omega) hw rl2 (TE.loc ok rfl ⟨rfl, rfl⟩) (TE.loc ok rfl ⟨rfl, rfl⟩) (TE.loc ok rfl ⟨rfl, rfl⟩) (by omega) (by omega) (by omega) (by omega) (TEs.nil ?_))⟩)))
  rw [el, Int.toNat_natCast]
  refine (inverse_cl dIN dPW gPW ga iF hp hp2 (by rw [Int.emod_eq_of_lt cb.1 cb.2]; exact lead0)).use (by omega) ?_
  rintro _ H3 ⟨rfl, e0⟩
  obtain rfl : H2 = H3 := e0.symm
  have hinv : Cg p (cf (T2.getD leads.length []) n * (cf (T2.getD leads.length []) n ^ (p - 2).toNat % p)) 1 := (Cg.rfl.mul Cg.md).trans (F.inv _ (by rw [Int.emod_eq_of_lt cb.1 cb.2]; exact lead0))
  generalize hld : cf (T2.getD leads.length []) n ^ (p - 2).toNat % p = ld at *
  have hldb : 0 ≤ ld ∧ ld < p := by rw [← hld]; exact md (by omega)
  -- the lead's row
  refine TB.cons (TS.setItem (TE.comp ok (Src.list ok ?_)))
  obtain ⟨r, q1, q2⟩ := hT2.sq (c := c) (by omega) (k := (leads.length : Int)) (by omega) (by omega)
  rw [el] at q2
  walk_at "w"
  refine ⟨_, q1, ?_⟩
  have rlen := rl2 _ (getD_mem ha2)
  refine ⟨r, _, _, rfl, q2, Turns.list (xs := intL (T2.getD leads.length [])) (by rw [List.length_map]; omega) (fun j ys H4 => H4 = H2 ∧ j ≤ (T2.getD leads.length []).length ∧ ys = intL (((T2.getD leads.length []).take j).map fun a => a * ld % p)) ⟨rfl, by omega, rfl⟩ ?_ ?_ ?_⟩
  · rintro j ys H4 ⟨rfl, hk, rfl⟩
    exact ⟨by simp; omega, q2⟩
  · rintro j ys H4 v ⟨rfl, hk, rfl⟩ hv
    obtain ⟨a, rfl, ha'⟩ := intL_get hv
    refine ⟨[.int a], rfl, ?_⟩
    intro c' sub hnm'
    have ok' := sub.ok
    refine ⟨fun q => (by cases q), fun _ => ?_⟩
    show TE c' [some (.ref i), o1, o2, some (.int (w : Int)), some (.ref t), some (.ref l), some (.int (leads.length : Int)), some (.int (n : Int)), some (.int (k : Int)), o9', some (.int ld), o11, none, some (.int a)] _ _ _
    walk_at "w"
    have hkl := (List.getElem?_eq_some_iff.mp ha').1
    refine ⟨rfl, by omega, ?_⟩
    rw [List.take_add_one, ha']
    simp [intL]
  rintro ys H4 ⟨rfl, hk, rfl⟩
  rw [List.length_map, List.take_length]
  obtain ⟨xs, x1, x2, x3⟩ := hT2.put (List.getElem?_eq_some_iff.mp hL2).1 (fun r hr => by have := rl2 r hr; omega) ha2 (row := mulR' p ld (T2.getD leads.length []))
  walk_at "w"
  refine ⟨_, Uq.list (get_app x1) (by omega) (by omega) (by omega), ?_⟩
  rw [el]
  generalize hH5 : (H4 ++ [MO.list (intL ((T2.getD leads.length []).map fun a => a * ld % p))]).set t (.list (xs.set leads.length (.ref H4.length))) = H5
  have hT5 : TabAt H5 t l (T2.set leads.length (mulR' p ld (T2.getD leads.length []))) := by rw [← hH5]; exact x3
  have E5 : Ext H0 H5 := by rw [← hH5]; exact (E2.app _).set ht0
  have hL5 : H5[l]? = some (.list (intL (natL leads))) := by rw [← hH5, List.getElem?_set_ne htl]; exact get_app hL2
  have S5 : SolS p w n T0 (T2.set leads.length (mulR' p ld (T2.getD leads.length []))) leads := { S2.toInv.norm (by omega) ha2 with same := fun v => (sol_norm ha2 hinv).trans (S2.same v), rows := by rw [List.length_set]; exact S2.rows }
  have C5 : Clr p w n (T2.set leads.length (mulR' p ld (T2.getD leads.length []))) leads 0 := { S5.toInv with
    lead := ⟨by rw [List.length_set]; exact ha2, by rw [getD_set ha2, if_pos rfl, mulR_cf]; exact Cg.small (Cg.md.trans hinv) (md (by omega)) ⟨by omega, by omega⟩⟩
    clr := fun k h => by omega }
  clear hH5 x1 x2 x3 q1 q2
  generalize T2.set leads.length (mulR' p ld (T2.getD leads.length [])) = T5 at *
  have hT5l : T5.length ≤ 900 := by rw [S5.rows]; exact hT0
  -- the elimination
  refine TB.cons (TS.mono (show TS c _ _ _ (fun f m1 H1 => f = .next ∧ ∃ T1 o9 o11, m1 = [some (.ref i), o1, o2, some (.int (w : Int)), some (.ref t), some (.ref l), some (.int (leads.length : Int)), some (.int (n : Int)), some (.int (k : Int)), o9, some (.int ld), o11, none] ∧ Ext H0 H1 ∧ TabAt H1 t l T1 ∧ H1[l]? = some (.list (intL (natL leads))) ∧ SolS p w n T0 T1 leads ∧ Clr p w n T1 leads T1.length) from TS.forR ok hfm bs.range (by nofun) ?_ ⟨_, rfl⟩) ?_)
  · walk_at "w"
    refine lT (m := []) hT5 hT5l ?_
    walk_at "w"
    refine ⟨0, (T5.length : Int), ⟨.inl ⟨rfl, rfl⟩, by omega, by omega, by omega, by omega⟩, fun j m1 H1 => ∃ T1 o9 o11, m1 = [some (.ref i), o1, o2, some (.int (w : Int)), some (.ref t), some (.ref l), some (.int (leads.length : Int)), some (.int (n : Int)), some (.int (k : Int)), o9, some (.int ld), o11, none] ∧ Ext H0 H1 ∧ TabAt H1 t l T1 ∧ H1[l]? = some (.list (intL (natL leads))) ∧ SolS p w n T0 T1 leads ∧ Clr p w n T1 leads j, ⟨T5, _, _, rfl, E5, hT5, hL5, S5, C5⟩, ?_, ?_⟩
    · rintro j m1 H1 xt ⟨T1, o9'', o11', rfl, E1, hT1, hL1, S1, C1⟩ hj
      have okx := ok.wx xt
      have hfx : (c.wx xt).fm = none := hfm
      have hT1l : T1.length ≤ 900 := by rw [S1.rows]; exact hT0
      have hj : j < T1.length := by rw [S1.rows, ← S5.rows]; omega
      have rl1 : ∀ r ∈ T1, r.length = w + 1 := fun r hr => (S1.len r hr).1
      rw [Int.zero_add]
      show TB (c.wx xt) [some (.ref i), o1, o2, some (.int (w : Int)), some (.ref t), some (.ref l), some (.int (leads.length : Int)), some (.int (n : Int)), some (.int (k : Int)), some (.int (j : Int)), some (.int ld), o11', none] ks_elim _ _
      unfold ks_elim
      refine TB.gen2 fun RR hRR => ?_
      walk_at "w"
      refine ⟨_, rfl, fun h => ?_, fun h => ?_⟩
      · refine ⟨fun h => (by cases h), fun _ => ?_⟩
        refine TB.nil (TB.nil (hRR _ _ _ ⟨T1, _, _, rfl, E1, hT1, hL1, S1, C1.pass (.inl ?_)⟩))
        simp at h
        omega
      have hne : j ≠ leads.length := by
        intro e
        subst e
        simp at h
      refine TTs.and (TT.cmp (cell_sq okx (c := c.wx xt) hT1 (by omega) hw rl1 (TE.loc okx rfl ⟨rfl, rfl⟩) (TE.loc okx rfl ⟨rfl, rfl⟩) (TE.loc okx rfl ⟨rfl, rfl⟩) (by omega) (by omega) (by omega) (by omega) ?_))
      rw [Int.toNat_natCast, Int.toNat_natCast]
      refine TE.int ⟨_, rfl, fun h => ?_, fun h => TTs.andNil ?_⟩
      · refine ⟨fun h => (by cases h), fun _ => ?_⟩
        exact TB.nil (TB.nil (hRR _ _ _ ⟨T1, _, _, rfl, E1, hT1, hL1, S1, C1.pass (.inr (by simpa using h))⟩))
      refine ⟨fun _ => ?_, fun h => (by cases h)⟩
      refine TB.cons (TS.assign okx hfx rfl (cell_sq okx (c := c.wx xt) hT1 (by omega) hw rl1 (TE.loc okx rfl ⟨rfl, rfl⟩) (TE.loc okx rfl ⟨rfl, rfl⟩) (TE.loc okx rfl ⟨rfl, rfl⟩) (by omega) (by omega) (by omega) (by omega) ?_))
      rw [Int.toNat_natCast, Int.toNat_natCast]
      generalize hf : cf (T1.getD j []) n = f at *
      have fb : 0 ≤ f ∧ f < p := by rw [← hf]; exact (S1.len _ (getD_mem hj)).2.cf (by omega) n
      show TB (c.wx xt) [some (.ref i), o1, o2, some (.int (w : Int)), some (.ref t), some (.ref l), some (.int (leads.length : Int)), some (.int (n : Int)), some (.int (k : Int)), some (.int (j : Int)), some (.int ld), some (.int f), none] _ _ _
      refine TB.cons (TS.setItem (TE.comp okx (Src.range okx bs.range ?_)))
      walk_at "w"
      have ha1 := C1.lead.1
      refine ⟨0, (w : Int) + 1, ⟨.inl ⟨rfl, rfl⟩, by omega, by omega, by omega, by omega⟩, Turns.range rfl (by omega) (fun q ys H2 => H2 = H1 ∧ q ≤ w + 1 ∧ ys = intL ((List.range q).map fun j' => (cf (T1.getD j []) j' - f * cf (T1.getD leads.length []) j') % p)) ⟨rfl, by omega, rfl⟩ ?_ ?_ ?_⟩
      · rintro q ys H2 ⟨rfl, _, rfl⟩
        simp
      · rintro q ys H2 ⟨rfl, hq, rfl⟩ hq2
        intro c' sub hnm'
        have ok' := sub.ok
        refine ⟨fun q => (by cases q), fun _ => ?_⟩
        rw [Int.zero_add] at *
        show TE c' [some (.ref i), o1, o2, some (.int (w : Int)), some (.ref t), some (.ref l), some (.int (leads.length : Int)), some (.int (n : Int)), some (.int (k : Int)), some (.int (j : Int)), some (.int ld), some (.int f), none, some (.int (q : Int))] _ _ _
        have iF1 := E1.ins hF
        refine TE.op ok' (TE.op ok' (cell_sq ok' (c := c') hT1 (by omega) hw rl1 (TE.loc ok' rfl ⟨rfl, rfl⟩) (TE.loc ok' rfl ⟨rfl, rfl⟩) (TE.loc ok' rfl ⟨rfl, rfl⟩) (by omega) (by omega) (by omega) (by omega) ?_))
        refine TE.op ok' (TE.loc ok' rfl (cell_sq ok' (c := c') hT1 (by omega) hw rl1 (TE.loc ok' rfl ⟨rfl, rfl⟩) (TE.loc ok' rfl ⟨rfl, rfl⟩) (TE.loc ok' rfl ⟨rfl, rfl⟩) (by omega) (by omega) (by omega) (by omega) ?_))
        rw [Int.toNat_natCast, Int.toNat_natCast, Int.toNat_natCast]
        walk_at "w"
        refine ⟨rfl, by omega, ?_⟩
        rw [List.range_succ]
        simp [intL]
      rintro ys H2 ⟨rfl, hq, rfl⟩
      have ew : ((w : Int) + 1 - 0).toNat = w + 1 := sub0 (w + 1)
      rw [ew]
      obtain ⟨xs, x1, x2, x3⟩ := hT1.put (List.getElem?_eq_some_iff.mp hL1).1 (fun r hr => by have := rl1 r hr; omega) hj (row := subR' p f (T1.getD j []) (T1.getD leads.length []) w)
      walk_at "w"
      refine ⟨_, Uq.list (get_app x1) (by omega) (by omega) (by omega), ?_⟩
      rw [Int.toNat_natCast]
      have S' : SolS p w n T0 (T1.set j (subR' p f (T1.getD j []) (T1.getD leads.length []) w)) leads := by
        have C2 := C1.step (by omega) (by omega) hj hne
        rw [hf] at C2
        exact { C2.toInv with same := fun v => (sol_elim ha1 hj (Ne.symm hne)).trans (S1.same v), rows := by rw [List.length_set]; exact S1.rows }
      have C' := C1.step (by omega) (by omega) hj hne
      rw [hf] at C'
      walk_at "w"
      refine hRR _ _ _ ⟨_, _, _, rfl, (E1.app _).set ht0, x3, ?_, S', C'⟩
      rw [List.getElem?_set_ne htl]
      exact get_app hL1
    · rintro m1 H1 ⟨T1, o9'', o11', rfl, E1, hT1, hL1, S1, C1⟩
      refine ⟨rfl, T1, _, _, rfl, E1, hT1, hL1, S1, ?_⟩
      have : ((T5.length : Int) - 0).toNat = T1.length := by rw [S1.rows, ← S5.rows, sub0]
      rw [this] at C1
      exact C1
  rintro _ _ _ ⟨rfl, T1, o9'', o11', rfl, E1, hT1, hL1, S1, C1⟩
  walk_at "w"
  refine ⟨_, _, rfl, hL1, ?_⟩
  walk_at "w"
  refine ⟨_, hL1, by have := S1.at_le; have := S1.rows; simp; omega, ?_⟩
  walk_at "w"
  have ln : (leads ++ [n]).length = leads.length + 1 := by simp
  refine hPP _ _ _ ⟨.inl rfl, T1, leads ++ [n], some (.int (k : Int)), o9'', some (.int ld), o11', ?_, E1.set hl0, ?_, ?_, ?_⟩
  · rw [ln]; rfl
  · obtain ⟨rs, h1, h2, h3⟩ := id hT1
    refine ⟨rs, by rw [List.getElem?_set_ne (Ne.symm htl)]; exact h1, h2, fun k hk => ?_⟩
    have q := h3 k hk
    rw [List.getElem?_set_ne (Ne.symm q.1)]
    exact q
  · rw [List.getElem?_set_self (List.getElem?_eq_some_iff.mp hL1).1]
    simp [intL, natL]
  · exact { C1.done with same := S1.same, rows := S1.rows }
end
noncomputable def SolP (p : Int) (w : Nat) (T0 : List (List Int)) (H0 : MH) (v : MV) (H : MH) : Prop := Ext H0 H ∧ ((v = .none ∧ ∀ x, ¬ Sol p w T0 x) ∨ ∃ z ans, v = .ref z ∧ H[z]? = some (.list (intL ans)) ∧ ans.length = w ∧ Bd p ans ∧ Sol p w T0 (cf ans))
section
variable {G : Gx} {C XE : Addr}
theorem solve_end {c : Cx} {d : Nat} (ok : Ok G c (d + 3)) (hfm : c.fm = none) (hint : interactive c.env = false) (bs : Bs G) {p : Int} (hp : 0 < p) {H0 H : MH} {t l w : Nat} {o0 o1 o2 o7 o8 o9 o10 o11 : Option MV} {T0 T : List (List Int)} {leads : List Nat}
    (E : Ext H0 H) (hT : TabAt H t l T) (hL : H[l]? = some (.list (intL (natL leads)))) (S : SolS p w w T0 T leads) (hw : w ≤ 900) (hT0 : T0.length ≤ 900) :
    TB c [o0, o1, o2, some (.int (w : Int)), some (.ref t), some (.ref l), some (.int (leads.length : Int)), o7, o8, o9, o10, o11, none] ks_end H (fun f _ H1 => SolP p w T0 H0 (retv f) H1) := by
  have hTl : T.length ≤ 900 := by rw [S.rows]; exact hT0
  have hal := S.at_le
  have rl : ∀ r ∈ T, r.length = w + 1 := fun r hr => (S.len r hr).1
  unfold ks_end
  refine TB.cons (TS.mono (show TS c _ _ _ (fun f m1 H1 => H1 = H ∧ ((∃ k, f = .ret .none ∧ leads.length ≤ k ∧ k < T.length ∧ cf (T.getD k []) w ≠ 0) ∨ (f = .next ∧ (∃ o9, m1 = [o0, o1, o2, some (.int (w : Int)), some (.ref t), some (.ref l), some (.int (leads.length : Int)), o7, o8, o9, o10, o11, none]) ∧ ∀ k, leads.length ≤ k → k < T.length → cf (T.getD k []) w = 0))) from TS.forR ok hfm bs.range (by nofun) ?_ ⟨_, rfl⟩) ?_)
  · walk_at "w"
    obtain ⟨rs, h1, h2, h3⟩ := id hT
    refine BC.len h1 (by rw [List.length_map]; omega) ?_
    rw [List.length_map, h2]
    walk_at "w"
    refine ⟨(leads.length : Int), (T.length : Int), ⟨.inr rfl, by omega, by omega, by omega, by omega⟩, fun j m1 H1 => ∃ o9, m1 = [o0, o1, o2, some (.int (w : Int)), some (.ref t), some (.ref l), some (.int (leads.length : Int)), o7, o8, o9, o10, o11, none] ∧ H1 = H ∧ ∀ k, leads.length ≤ k → k < leads.length + j → cf (T.getD k []) w = 0, ⟨_, rfl, rfl, fun k h1 h2 => by omega⟩, ?_, ?_⟩
    · rintro j m1 H1 xt ⟨o9', rfl, rfl, hz⟩ hj
      have okx := ok.wx xt
      have hfx : (c.wx xt).fm = none := hfm
      show TB (c.wx xt) [o0, o1, o2, some (.int (w : Int)), some (.ref t), some (.ref l), some (.int (leads.length : Int)), o7, o8, some (.int ((leads.length : Int) + (j : Int))), o10, o11, none] _ _ _
      refine TB.gen2 fun QQ hQQ => ?_
      have ek : ((leads.length : Int) + (j : Int)).toNat = leads.length + j := by omega
      refine TB.cons (TS.ite (TT.cmp (cell_sq okx (c := c.wx xt) hT (by omega) hw rl (TE.loc okx rfl ⟨rfl, rfl⟩) (TE.loc okx rfl ⟨rfl, rfl⟩) (TE.loc okx rfl ⟨rfl, rfl⟩) (by omega) (by omega) (by omega) (by omega) ?_)))
      rw [ek, Int.toNat_natCast]
      refine TE.int ⟨_, rfl, fun h => ?_, fun h => ?_⟩
      · refine TB.cons (TS.ret (TE.none (hQQ _ _ _ ⟨rfl, .inl ⟨leads.length + j, rfl, by omega, by omega, ?_⟩⟩)))
        simpa using h
      · refine TB.nil (TB.nil (hQQ _ _ _ ⟨_, rfl, rfl, fun k h1 h2 => ?_⟩))
        by_cases e : k = leads.length + j
        · subst e
          simpa using h
        · exact hz k h1 (by omega)
    · rintro m1 H1 ⟨o9', rfl, rfl, hz⟩
      exact ⟨rfl, .inr ⟨rfl, ⟨_, rfl⟩, fun k h1 h2 => hz k h1 (by omega)⟩⟩
  rintro f m1 H1 ⟨rfl, ⟨k, rfl, k1, k2, k3⟩ | ⟨rfl, ⟨o9', rfl⟩, hz⟩⟩
  · exact ⟨E, .inl ⟨rfl, fun x q => sol_none S.toInv hp k1 k2 k3 x ((S.same x).mpr q)⟩⟩
  refine TB.cons (TS.assign ok hfm rfl (TE.mulL ?_))
  walk_at "w"
  refine ⟨by simp, ?_⟩
  walk_at "w"
  refine ⟨_, _, _, rfl, rfl, get_end, by omega, by omega, ?_⟩
  rw [Int.toNat_natCast]
  generalize hH2 : H1 ++ [MO.list [.int 0]] = H2
  have E2 : Ext H0 H2 := by rw [← hH2]; exact E.app _
  have l2 : H2.length = H1.length + 1 := by rw [← hH2]; simp
  have hT2 : TabAt H2 t l T := by
    obtain ⟨rs, h1, h2, h3⟩ := hT
    rw [← hH2]
    exact ⟨rs, get_app h1, h2, fun k hk => ⟨(h3 k hk).1, get_app (h3 k hk).2⟩⟩
  have hL2 : H2[l]? = some (.list (intL (natL leads))) := by rw [← hH2]; exact get_app hL
  have ha := S.at_le
  show TB c [o0, o1, o2, some (.int (w : Int)), some (.ref t), some (.ref l), some (.int (leads.length : Int)), o7, o8, o9', o10, o11, some (.ref H2.length)] _ _ _
  have tab : ∀ {X : MO}, TabAt (H2 ++ [X]) t l T := fun {X} => by
    obtain ⟨rs, h1, h2, h3⟩ := hT2
    exact ⟨rs, get_app h1, h2, fun k hk => ⟨(h3 k hk).1, get_app (h3 k hk).2⟩⟩
  refine TB.cons (TS.forR ok hfm bs.range (by nofun) ?_ ⟨_, rfl⟩)
  walk_at "w"
  refine BC.lenI (get_app hL2) (by simp; omega) ?_
  walk_at "w"
  refine ⟨0, (leads.length : Int), ⟨.inl ⟨by simp, rfl⟩, by omega, by omega, by omega, by omega⟩, fun j m1 H3 => ∃ o9, m1 = [o0, o1, o2, some (.int (w : Int)), some (.ref t), some (.ref l), some (.int (leads.length : Int)), o7, o8, o9, o10, o11, some (.ref H2.length)] ∧ H3 = H2 ++ [.list (intL (told' T leads w j))], ⟨_, rfl, ?_⟩, ?_, ?_⟩
  · congr 2
    simp [told', intL]
  · rintro j m1 H3 xt ⟨o9'', rfl, rfl⟩ hj
    have okx := ok.wx xt
    have hfx : (c.wx xt).fm = none := hfm
    rw [Int.zero_add]
    show TB (c.wx xt) [o0, o1, o2, some (.int (w : Int)), some (.ref t), some (.ref l), some (.int (leads.length : Int)), o7, o8, some (.int (j : Int)), o10, o11, some (.ref H2.length)] _ _ _
    have hj : j < leads.length := by omega
    have hlt := S.lt j hj
    refine TB.cons (TS.setItem (cell_sq okx (c := c.wx xt) tab (by omega) hw rl (TE.loc okx rfl ⟨rfl, rfl⟩) (TE.loc okx rfl ⟨rfl, rfl⟩) (TE.loc okx rfl ⟨rfl, rfl⟩) (by omega) (by omega) (by omega) (by omega) ?_))
    rw [Int.toNat_natCast, Int.toNat_natCast]
    walk_at "w"
    refine ⟨_, Sq.listI (get_app hL2) (by simp; omega) (by omega) (by simp; omega), ?_⟩
    have el : (natL leads).getD ((j : Int)).toNat 0 = ((leads.getD j 0 : Nat) : Int) := by
      rw [Int.toNat_natCast]
      simp [natL, List.getD_eq_getElem?_getD, List.getElem?_eq_getElem hj]
    rw [el]
    refine ⟨_, Uq.listI get_end (by rw [told_len]; omega) (by omega) (by rw [told_len]; omega), ?_⟩
    refine TB.nil ⟨_, rfl, ?_⟩
    rw [Int.toNat_natCast, told_succ]
    simp
  · rintro m1 H3 ⟨o9'', rfl, rfl⟩
    walk_at "w"
    have en : ((leads.length : Int) - 0).toNat = leads.length := sub0 _
    rw [en]
    exact ⟨E2.app _, .inr ⟨H2.length, told' T leads w leads.length, rfl, get_end, told_len, told_bd S.toInv hp (Nat.le_refl _), (S.same _).mp (sol_some S.toInv hz)⟩⟩
noncomputable def sysT (R : List (List Int)) (q : List Int) : List (List Int) := (List.range R.length).map fun k => R.getD k [] ++ [q.getD k 0]
theorem sysT_at {R : List (List Int)} {q : List Int} {k : Nat} (h : k < R.length) : (sysT R q).getD k [] = R.getD k [] ++ [q.getD k 0] := by
  unfold sysT
  rw [List.getD_eq_getElem?_getD, List.getElem?_map, List.getElem?_range h]
  rfl
theorem sysT_len {R : List (List Int)} {q : List Int} : (sysT R q).length = R.length := by simp [sysT]
theorem solve_cl {prog : Program} {w0 : World} {f : Addr} {i kk r rq l0 w : Nat} {p : Int} {R : List (List Int)} {q : List Int} {H : MH} {xp : Addr → List MV → MH → Prop} (D : GDef G f ["field", "rows", "rights"] k_solve_nm k_solve []) (K : QuoK G C XE) (F : Fer p) (hp2 : p < 2 ^ 60)
    (hF : Ins H i C kk [("prime", .int p)]) (hR : TabAt H r l0 R) (hq : H[rq]? = some (.list (intL q))) (hl : R.length = q.length) (h0 : 0 < R.length) (h9 : R.length ≤ 900) (hw : w ≤ 900) (hRw : ∀ x ∈ R, x.length = w ∧ Bd p x) (bq : Bd p q) :
    CL G prog w0 4 f [.ref i, .ref r, .ref rq] H (SolP p w (sysT R q) H) xp := by
  have bs := K.bs
  have hp := F.two
  refine D.cl rfl ?_
  intro c e1 e2 ok hfm hint hnm hX
  subst e1 e2
  show TB c [some (.ref i), some (.ref r), some (.ref rq), none, none, none, none, none, none, none, none, none, none] _ _ _
  unfold k_solve
  obtain ⟨rs, h1, h2, h3⟩ := id hR
  have lR : ∀ {m : ML} {post : MV → MH → Prop}, post (.int (R.length : Int)) H → BC c (.builtin "len") [.ref r] H post := fun {m post} hp => by
    refine BC.len h1 (by rw [List.length_map]; omega) ?_
    rw [List.length_map, h2]
    exact hp
  obtain ⟨r0, q1, q2⟩ := hR.sq (c := c) (by omega) (k := 0) (by omega) (by omega)
  walk_at "w"
  refine lR (m := []) ?_
  walk_at "w"
  refine ⟨true, by show true = decide _; simp; omega, fun _ => ?_, fun h => (by cases h)⟩
  walk_at "w"
  refine ⟨_, q1, ?_⟩
  refine BC.lenI q2 (by have := (hRw _ (getD_mem (T := R) (k := (0 : Int).toNat) (by omega))).1; omega) ?_
  rw [(hRw _ (getD_mem (T := R) (k := (0 : Int).toNat) (by omega))).1]
  show TB c [some (.ref i), some (.ref r), some (.ref rq), some (.int (w : Int)), none, none, none, none, none, none, none, none, none] _ _ _
  -- the table
  refine TB.cons (TS.assignC ok hfm (Src.range ok bs.range ?_))
  walk_at "w"
  refine lR (m := []) ?_
  walk_at "w"
  refine ⟨0, (R.length : Int), ⟨.inl ⟨rfl, rfl⟩, by omega, by omega, by omega, by omega⟩, Turns.range rfl (le0 (by omega)) (fun j ys H1 => Ext H H1 ∧ j ≤ R.length ∧ ∃ rs : List Nat, ys = rs.map MV.ref ∧ rs.length = j ∧ ∀ k, k < j → H.length ≤ rs.getD k 0 ∧ rs.getD k 0 < H1.length ∧ H1[rs.getD k 0]? = some (.list (intL ((sysT R q).getD k [])))) ⟨Ext.refl H, by omega, [], rfl, rfl, fun k hk => by omega⟩ ?_ ?_ ?_⟩
  · rintro j ys H1 ⟨_, _, rs, rfl, hl, _⟩
    rw [List.length_map]
    omega
  · rintro j ys H1 ⟨E1, hj, rs1, rfl, hl1, hr1⟩ hj2
    intro c' sub hnm'
    have ok' := sub.ok
    refine ⟨fun q => (by cases q), fun _ => ?_⟩
    rw [Int.zero_add] at *
    show TE c' [some (.ref i), some (.ref r), some (.ref rq), some (.int (w : Int)), none, none, none, none, none, none, none, none, none, some (.int (j : Int))] _ _ _
    have hj3 : j < R.length := by omega
    refine TE.addL ?_
    walk_at "w"
    have hRk := (h3 j hj3).2
    refine ⟨_, Sq.list (E1 _ _ h1) ⟨by rw [List.length_map]; omega, .inl ⟨by omega, by rw [Int.toNat_natCast]; exact ref_getD (by omega)⟩⟩, ?_⟩
    have wl := (hRw _ (getD_mem hj3)).1
    refine BC.list (E1 _ _ hRk) (by rw [List.length_map]; omega) ?_
    walk_at "w"
    refine ⟨_, Sq.listI (get_app (E1 _ _ hq)) (by omega) (by omega) (by omega), ?_⟩
    rw [Int.toNat_natCast]
    walk_at "w"
    refine ⟨by simp, H1.length, H1.length + 1, _, _, rfl, by simp, get_app get_end, by rw [show H1.length + 1 = (H1 ++ [MO.list (intL (R.getD j []))]).length by simp]; exact get_end, by rw [List.length_map, List.length_singleton]; omega, ?_⟩
    refine ⟨((E1.app _).app _).app _, by omega, rs1 ++ [H1.length + 2], by simp, by simp [hl1], fun k hk => ?_⟩
    have lH : H.length ≤ H1.length := E1.len
    by_cases e : k < j
    · have g : (rs1 ++ [H1.length + 2]).getD k 0 = rs1.getD k 0 := by rw [List.getD_eq_getElem?_getD, List.getElem?_append_left (by omega), ← List.getD_eq_getElem?_getD]
      rw [g]
      obtain ⟨a1, a2, a3⟩ := hr1 k e
      exact ⟨a1, by simp only [List.length_append, List.length_singleton]; omega, get_app (get_app (get_app a3))⟩
    · have e : k = j := by omega
      subst e
      have g : (rs1 ++ [H1.length + 2]).getD k 0 = H1.length + 2 := by rw [List.getD_eq_getElem?_getD, List.getElem?_append_right (by omega), hl1]; simp
      rw [g, sysT_at hj3]
      refine ⟨by omega, by simp, ?_⟩
      rw [show H1.length + 2 = (H1 ++ [MO.list (intL (R.getD k []))] ++ [MO.list [MV.int (q.getD k 0)]]).length by simp, get_end]
      simp [intL]
  rintro ys H1 ⟨E1, _, rs1, rfl, hl1, hr1⟩
  have lH : H.length ≤ H1.length := E1.len
  have en : ((R.length : Int) - 0).toNat = R.length := sub0 _
  rw [en] at hl1 hr1
  show TB c [some (.ref i), some (.ref r), some (.ref rq), some (.int (w : Int)), some (.ref H1.length), none, none, none, none, none, none, none, none] _ _ _
  walk_at "w"
  refine ⟨by simp, ?_⟩
  walk_at "w"
  have l2 : (H1 ++ [MO.list (rs1.map MV.ref)]).length = H1.length + 1 := by simp
  have I0 : Inv p w 0 (sysT R q) [] := by
    refine ⟨fun x hx => ?_, Nat.zero_le _, fun i hi => absurd hi (Nat.not_lt_zero _), fun i hi => absurd hi (Nat.not_lt_zero _), fun k _ _ j hj => absurd hj (Nat.not_lt_zero _)⟩
    obtain ⟨k, hk, rfl⟩ := mem_getD hx
    rw [sysT_len] at hk
    rw [sysT_at hk]
    obtain ⟨a1, a2⟩ := hRw _ (getD_mem hk)
    refine ⟨by rw [List.length_append, a1]; rfl, fun y hy => ?_⟩
    rcases List.mem_append.mp hy with hy | hy
    · exact a2 y hy
    · rw [List.mem_singleton.mp hy, List.getD_eq_getElem?_getD, List.getElem?_eq_getElem (by omega)]
      exact bq _ (List.getElem_mem _)
  refine TS.forR ok hfm bs.range (by nofun) ?_ ⟨_, rfl⟩
  walk_at "w"
  refine ⟨0, (w : Int), ⟨.inl ⟨rfl, rfl⟩, by omega, by omega, by omega, by omega⟩, fun n m1 H3 => ∃ T leads o7 o8 o9 o10 o11, m1 = [some (.ref i), some (.ref r), some (.ref rq), some (.int (w : Int)), some (.ref H1.length), some (.ref (H1.length + 1)), some (.int ((leads : List Nat).length : Int)), o7, o8, o9, o10, o11, none] ∧ Ext H H3 ∧ TabAt H3 H1.length (H1.length + 1) T ∧ H3[H1.length + 1]? = some (.list (intL (natL leads))) ∧ SolS p w n (sysT R q) T leads,
    ⟨sysT R q, [], _, _, _, _, _, by rw [l2]; rfl, (E1.app _).app _, ?_, by rw [← l2]; exact get_end, { I0 with same := fun v => Iff.rfl, rows := rfl }⟩, ?_, ?_⟩
  · refine ⟨rs1, get_app get_end, by rw [sysT_len]; exact hl1, fun k hk => ?_⟩
    rw [sysT_len] at hk
    obtain ⟨a1, a2, a3⟩ := hr1 k hk
    exact ⟨by omega, get_app (get_app a3)⟩
  · rintro n m1 H3 xt ⟨T, leads, o7, o8, o9, o10, o11, rfl, E3, hT, hL, S⟩ hn
    have okx := ok.wx xt
    rw [Int.zero_add]
    refine (solve_turn (d := 0) okx hfm hint K F hp2 hF E3 lH (by omega) (by omega) hT hL S (by omega) hw (by rw [sysT_len]; exact h9)).mono ?_
    rintro f m2 H4 ⟨hf, T1, leads1, o8', o9', o10', o11', rfl, E4, hT4, hL4, S4⟩
    rcases hf with rfl | rfl
    · exact ⟨T1, leads1, _, _, _, _, _, rfl, E4, hT4, hL4, S4⟩
    · exact ⟨T1, leads1, _, _, _, _, _, rfl, E4, hT4, hL4, S4⟩
  · rintro m1 H3 ⟨T, leads, o7, o8, o9, o10, o11, rfl, E3, hT, hL, S⟩
    have ew : ((w : Int) - 0).toNat = w := sub0 _
    rw [ew] at S
    refine (solve_end (d := 0) ok hfm hint bs (by omega) E3 hT hL S hw (by rw [sysT_len]; exact h9)).mono ?_
    intro f m2 H4 q
    exact q
end
noncomputable def dg (P : Nat) : Nat → Nat → List Int
  | 0, _ => []
  | n + 1, m => ((m % P : Nat) : Int) :: dg P n (m / P)
theorem dg_len (P : Nat) : ∀ (n m : Nat), (dg P n m).length = n
  | 0, _ => rfl
  | n + 1, m => by rw [dg, List.length_cons, dg_len P n]
theorem dg_bd {P : Nat} (hP : 0 < P) : ∀ (n m : Nat), Bd (P : Int) (dg P n m)
  | 0, _ => fun x hx => by cases hx
  | n + 1, m => fun x hx => by
    rcases List.mem_cons.mp hx with rfl | q
    · have := Nat.mod_lt m hP; omega
    · exact dg_bd hP n _ x q
theorem dg_end (P : Nat) : ∀ (n m : Nat), dg P (n + 1) m = dg P n m ++ [((m / P ^ n % P : Nat) : Int)]
  | 0, m => by simp [dg]
  | n + 1, m => by
    rw [dg, dg_end P n (m / P), dg, List.cons_append, Nat.div_div_eq_div_mul, Nat.pow_succ, Nat.mul_comm P]
noncomputable def nmb (P : Nat) : List Int → Nat
  | [] => 0
  | a :: l => a.toNat + P * nmb P l
theorem nmb_lt {P : Nat} (hP : 0 < P) : ∀ l : List Int, Bd (P : Int) l → nmb P l < P ^ l.length
  | [], _ => by simp [nmb]
  | a :: l, h => by
    have h1 := nmb_lt hP l fun x hx => h x (List.mem_cons_of_mem _ hx)
    have h2 := h a (List.mem_cons_self ..)
    rw [nmb, List.length_cons, Nat.pow_succ, Nat.mul_comm _ P]
    have h3 : P * (nmb P l + 1) ≤ P * P ^ l.length := Nat.mul_le_mul_left P h1
    rw [Nat.mul_succ] at h3
    omega
theorem dg_nmb {P : Nat} (hP : 0 < P) : ∀ l : List Int, Bd (P : Int) l → dg P l.length (nmb P l) = l
  | [], _ => rfl
  | a :: l, h => by
    have h2 := h a (List.mem_cons_self ..)
    have h3 : a.toNat < P := by omega
    rw [List.length_cons, dg, nmb, Nat.add_mul_mod_self_left, Nat.mod_eq_of_lt h3, Nat.add_mul_div_left _ _ hP, Nat.div_eq_of_lt h3, Nat.zero_add, dg_nmb hP l fun x hx => h x (List.mem_cons_of_mem _ hx)]
    congr 1
    omega
theorem nmb_dg {P : Nat} (hP : 0 < P) : ∀ (n m : Nat), m < P ^ n → nmb P (dg P n m) = m
  | 0, m, h => by simp at h; subst h; rfl
  | n + 1, m, h => by
    rw [dg, nmb, nmb_dg hP n (m / P) (by rw [Nat.pow_succ] at h; exact Nat.div_lt_of_lt_mul (by rw [Nat.mul_comm]; exact h))]
    have := Nat.mod_add_div m P
    omega
structure Gp (p : Int) (pts : List (Int × Int)) : Prop where
  x : ∀ q ∈ pts, 0 ≤ q.1 ∧ q.1 < p
  y : ∀ q ∈ pts, 0 ≤ q.2 ∧ q.2 < p
  d : (pts.map Prod.fst).Nodup
theorem dif_ne {p a b : Int} (ha : 0 ≤ a ∧ a < p) (hb : 0 ≤ b ∧ b < p) (h : a ≠ b) : (a - b) % p ≠ 0 := by
  intro q
  have h1 : Cg p (a - b) 0 := Cg.zero.mpr q
  have h2 := h1.add (Cg.rfl (a := b))
  rw [Int.sub_add_cancel, Int.zero_add] at h2
  exact h (h2.small ha hb)
theorem Gp.pw {p : Int} {pts : List (Int × Int)} (g : Gp p pts) : (pts.map Prod.fst).Pairwise (fun x y => (y - x) % p ≠ 0) := by
  refine List.Pairwise.imp_of_mem (R := (· ≠ ·)) (fun {a b} ha hb h => ?_) g.d
  obtain ⟨u, hu, rfl⟩ := List.mem_map.mp ha
  obtain ⟨v, hv, rfl⟩ := List.mem_map.mp hb
  exact dif_ne (g.x v hv) (g.x u hu) fun e => h e.symm
theorem cf_drop {l : List Int} {o j : Nat} : cf (l.drop o) j = cf l (o + j) := by
  unfold cf
  rw [List.getD_eq_getElem?_getD, List.getD_eq_getElem?_getD, List.getElem?_drop]
theorem cf_appR {a b : List Int} {j : Nat} : cf (a ++ b) (a.length + j) = cf b j := by
  unfold cf
  rw [List.getD_eq_getElem?_getD, List.getD_eq_getElem?_getD, List.getElem?_append_right (by omega)]
  congr 2
  omega
theorem cf_appL {a b : List Int} {j : Nat} (h : j < a.length) : cf (a ++ b) j = cf a j := by
  unfold cf
  rw [List.getD_eq_getElem?_getD, List.getD_eq_getElem?_getD, List.getElem?_append_left h]
theorem lin_add {a : Nat} {r : List Int} {v : Nat → Int} : ∀ b, lin (a + b) r v = lin a r v + lin b (r.drop a) fun j => v (a + j)
  | 0 => by simp [lin]
  | b + 1 => by rw [← Nat.add_assoc, lin_succ, lin_succ, lin_add b, cf_drop]; omega
theorem lin_pw {p c x : Int} {r l : List Int} : ∀ w, (∀ j, j < w → Cg p (cf r j) (c * x ^ j)) → Cg p (lin w r (cf l)) (c * pz (l.take w) x)
  | 0, _ => Cg.of (by simp [lin, pz])
  | w + 1, h => by
    rw [lin_succ, pz_take, Int.mul_add]
    refine (lin_pw w fun j hj => h j (by omega)).add (((h w (by omega)).mul Cg.rfl).trans (Cg.of ?_))
    show c * x ^ w * cf l w = c * (cf l w * x ^ w)
    grind
structure SysRow (p : Int) (n e : Nat) (x y : Int) (r : List Int) : Prop where
  up : ∀ j, j < n + e → Cg p (cf r j) (x ^ j)
  lo : ∀ j, j < e → Cg p (cf r (n + e + j)) (-y * x ^ j)
  rt : Cg p (cf r (n + e + e)) (y * x ^ e)
noncomputable abbrev upL (n e : Nat) (ans : List Int) : List Int := ans.take (n + e)
noncomputable abbrev loL (n e : Nat) (ans : List Int) : List Int := ans.drop (n + e) ++ [1]
theorem sys_iff {p : Int} {n e : Nat} {x y : Int} {r ans : List Int} (S : SysRow p n e x y r) (hl : ans.length = n + e + e) : eqn p (n + e + e) r (cf ans) ↔ Cg p (pz (upL n e ans) x) (y * pz (loL n e ans) x) := by
  have h1 : Cg p (lin (n + e) r (cf ans)) (pz (upL n e ans) x) := by
    have := lin_pw (c := 1) (x := x) (r := r) (l := ans) (n + e) fun j hj => (S.up j hj).trans (Cg.of (Int.one_mul _).symm)
    rwa [Int.one_mul] at this
  have ll : (ans.drop (n + e)).length = e := by rw [List.length_drop]; omega
  have h2 : Cg p (lin e (r.drop (n + e)) fun j => cf ans (n + e + j)) (-y * pz (ans.drop (n + e)) x) := by
    have := lin_pw (p := p) (c := -y) (x := x) (r := r.drop (n + e)) (l := ans.drop (n + e)) e fun j hj => by rw [cf_drop]; exact S.lo j hj
    rw [List.take_of_length_le (by omega)] at this
    have e1 : (fun j => cf ans (n + e + j)) = cf (ans.drop (n + e)) := by funext j; exact cf_drop.symm
    rw [e1]
    exact this
  have h3 := h1.add h2
  rw [← lin_add] at h3
  have e2 : pz (loL n e ans) x = pz (ans.drop (n + e)) x + x ^ e := by rw [pz_app, ll, Int.one_mul]
  rw [e2]
  unfold eqn
  constructor
  · intro q
    have q1 := ((h3.symm.trans q).trans S.rt).add (Cg.rfl (a := y * pz (ans.drop (n + e)) x))
    refine (Cg.of ?_).trans (q1.trans (Cg.of ?_)) <;> grind
  · intro q
    refine h3.trans (Cg.trans ?_ S.rt.symm)
    have q1 := q.add (Cg.rfl (a := -y * pz (ans.drop (n + e)) x))
    refine q1.trans (Cg.of ?_)
    grind
noncomputable def mulx (b : Int) (E : List Int) : List Int := List.zipWith (· + ·) (0 :: E) ((E ++ [0]).map fun a => -b * a)
theorem mulx_len {b : Int} {E : List Int} : (mulx b E).length = E.length + 1 := by simp [mulx]
theorem pz_zip (x : Int) : ∀ (a b : List Int), a.length = b.length → pz (List.zipWith (· + ·) a b) x = pz a x + pz b x
  | [], [], _ => rfl
  | a :: l, b :: r, h => by
    rw [List.zipWith_cons_cons, pz_cons, pz_cons, pz_cons, pz_zip x l r (by simpa using h)]
    grind
  | [], _ :: _, h => by simp at h
  | _ :: _, [], h => by simp at h
theorem pz_scale (x c : Int) : ∀ l : List Int, pz (l.map fun a => c * a) x = c * pz l x
  | [] => by simp [pz]
  | a :: l => by
    rw [List.map_cons, pz_cons, pz_cons, pz_scale x c l]
    grind
theorem mulx_pz {b x : Int} {E : List Int} : pz (mulx b E) x = (x - b) * pz E x := by
  unfold mulx
  rw [pz_zip x _ _ (by simp), pz_scale, pz_app, pz_cons]
  grind
theorem mulx_top {b : Int} {E : List Int} (h0 : E.length ≠ 0) : cf (mulx b E) E.length = cf E (E.length - 1) := by
  unfold mulx cf
  rw [List.getD_eq_getElem?_getD, List.getElem?_zipWith]
  have e1 : (0 :: E)[E.length]? = some (E[E.length - 1]'(by omega)) := by
    cases E with
    | nil => exact absurd rfl h0
    | cons a l => simp
  have e2 : ((E ++ [0]).map fun a => -b * a)[E.length]? = some 0 := by simp
  rw [e1, e2, List.getD_eq_getElem?_getD, List.getElem?_eq_getElem (by omega)]
  simp
theorem locator : ∀ bs : List Int, ∃ E : List Int, E.length = bs.length + 1 ∧ cf E bs.length = 1 ∧ ∀ b ∈ bs, pz E b = 0
  | [] => ⟨[1], rfl, rfl, fun b hb => by cases hb⟩
  | b :: bs => by
    obtain ⟨E, h1, h2, h3⟩ := locator bs
    refine ⟨mulx b E, by rw [mulx_len, h1]; rfl, ?_, ?_⟩
    · have := mulx_top (b := b) (E := E) (by omega)
      rw [h1] at this
      rw [List.length_cons, this]
      exact h2
    · intro x hx
      rw [mulx_pz]
      rcases List.mem_cons.mp hx with rfl | hx
      · rw [Int.sub_self, Int.zero_mul]
      · rw [h3 x hx, Int.mul_zero]
noncomputable def offs (p : Int) (row : List Int) (pts : List (Int × Int)) : List Int := (pts.filter fun q => pval p row q.1 != q.2).map Prod.fst
theorem last_one {E : List Int} {e : Nat} (h1 : E.length = e + 1) (h2 : cf E e = 1) : E = E.take e ++ [1] := by
  have : E = E.take e ++ E.drop e := (List.take_append_drop e E).symm
  rw [List.drop_eq_getElem_cons (by omega), List.drop_of_length_le (by omega)] at this
  have e2 : E[e]'(by omega) = 1 := by
    rw [← h2]
    unfold cf
    rw [List.getD_eq_getElem?_getD, List.getElem?_eq_getElem (by omega)]
    rfl
  rw [e2] at this
  exact this
theorem near_sol {p : Int} {n e : Nat} {T : List (List Int)} {pts : List (Int × Int)} {P : List Int} (hn : 1 ≤ n) (hP : P.length = n) (ho : (offs p P pts).length ≤ e) (hT : T.length = pts.length)
    (hS : ∀ k, k < pts.length → SysRow p n e (px pts k) (py pts k) (T.getD k [])) (hy : ∀ k, k < pts.length → 0 ≤ py pts k ∧ py pts k < p) (hp : 0 < p) : ∃ ans, Sol p (n + e + e) T (cf ans) := by
  obtain ⟨E, h1, h2, h3⟩ := locator (offs p P pts ++ List.replicate (e - (offs p P pts).length) 0)
  have lb : (offs p P pts ++ List.replicate (e - (offs p P pts).length) 0).length = e := by rw [List.length_append, List.length_replicate]; omega
  rw [lb] at h1 h2
  have lE := last_one h1 h2
  have lU : (pmul p P E).length = n + e := by rw [pmul_len (by omega) (by omega), hP, h1]; omega
  refine ⟨pmul p P E ++ E.take e, ?_⟩
  have la : (pmul p P E ++ E.take e).length = n + e + e := by rw [List.length_append, lU, List.length_take]; omega
  have u1 : upL n e (pmul p P E ++ E.take e) = pmul p P E := by unfold upL; rw [← lU, List.take_left]
  have u2 : loL n e (pmul p P E ++ E.take e) = E := by unfold loL; rw [← lU, List.drop_left]; exact lE.symm
  intro r hr
  obtain ⟨k, hk, rfl⟩ := mem_getD hr
  rw [hT] at hk
  rw [sys_iff (hS k hk) la, u1, u2]
  refine (pmul_pz p _ P E).trans ?_
  by_cases q : pval p P (px pts k) = py pts k
  · exact ((pval_pz p P (px pts k)).symm.trans (Cg.of q)).mul Cg.rfl
  · have : pz E (px pts k) = 0 := by
      refine h3 _ (List.mem_append_left _ (List.mem_map.mpr ⟨pts.getD k (0, 0), List.mem_filter.mpr ⟨?_, ?_⟩, rfl⟩))
      · rw [List.getD_eq_getElem?_getD, List.getElem?_eq_getElem hk]
        exact List.getElem_mem hk
      · exact bne_iff_ne.mpr q
    rw [this, Int.mul_zero, Int.mul_zero]
    exact Cg.rfl
theorem offs_split {p : Int} {row : List Int} : ∀ pts : List (Int × Int), (offs p row pts).length + (pts.filter fun q => pval p row q.1 == q.2).length = pts.length
  | [] => rfl
  | q :: pts => by
    have ih := offs_split (p := p) (row := row) pts
    unfold offs at ih ⊢
    rw [List.length_map] at ih ⊢
    rw [List.filter_cons, List.filter_cons, List.length_cons]
    by_cases h : pval p row q.1 = q.2
    · have h1 : (pval p row q.1 != q.2) = false := by simp [h]
      have h2 : (pval p row q.1 == q.2) = true := by simp [h]
      rw [h1, h2]
      simp only [Bool.false_eq_true, if_false, if_true, List.length_cons]
      omega
    · have h1 : (pval p row q.1 != q.2) = true := by simp [h]
      have h2 : (pval p row q.1 == q.2) = false := by simp [h]
      rw [h1, h2]
      simp only [Bool.false_eq_true, if_false, if_true, List.length_cons]
      omega
theorem pz_pad {x : Int} {l : List Int} {n : Nat} : pz (padTo n l) x = pz l x := pz_rep_app x _ l
theorem cf_zip {a b : List Int} {k : Nat} (h : a.length = b.length) : cf (List.zipWith (· - ·) a b) k = cf a k - cf b k := by
  unfold cf
  rw [List.getD_eq_getElem?_getD, List.getD_eq_getElem?_getD, List.getD_eq_getElem?_getD, List.getElem?_zipWith]
  by_cases q : k < a.length
  · rw [List.getElem?_eq_getElem q, List.getElem?_eq_getElem (by omega)]
    rfl
  · rw [List.getElem?_eq_none (by omega), List.getElem?_eq_none (by omega)]
    rfl
theorem sol_near {p : Int} {n e : Nat} {T : List (List Int)} {pts : List (Int × Int)} {P ans : List Int} (F : Fer p) (hn : 1 ≤ n) (hP : P.length = n) (ho : (offs p P pts).length ≤ e) (hm : n + e + e ≤ pts.length) (hT : T.length = pts.length)
    (hS : ∀ k, k < pts.length → SysRow p n e (px pts k) (py pts k) (T.getD k [])) (g : Gp p pts) (hl : ans.length = n + e + e) (h : Sol p (n + e + e) T (cf ans)) (k : Nat) :
    Cg p (cf (upL n e ans) k) (csum P (loL n e ans) n k) := by
  have ll : (loL n e ans).length = e + 1 := by unfold loL; rw [List.length_append, List.length_drop, List.length_singleton]; omega
  have lu : (upL n e ans).length = n + e := by unfold upL; rw [List.length_take]; omega
  have lm : (pmul p P (loL n e ans)).length = n + e := by rw [pmul_len (by omega) (by omega), hP, ll]; omega
  have hz : ∀ c ∈ List.zipWith (· - ·) (upL n e ans) (pmul p P (loL n e ans)), Cg p c 0 := by
    refine roots F ((pts.filter fun q => pval p P q.1 == q.2).map Prod.fst) _ ?_ ?_ ?_
    · have := offs_split (p := p) (row := P) pts
      rw [List.length_zipWith, List.length_map, lu, lm]
      omega
    · have := g.pw
      exact List.Pairwise.sublist (List.Sublist.map _ List.filter_sublist) this
    · intro x hx
      obtain ⟨q, hq, rfl⟩ := List.mem_map.mp hx
      obtain ⟨hq1, hq2⟩ := List.mem_filter.mp hq
      obtain ⟨i, hi, ei⟩ := List.mem_iff_getElem.mp hq1
      have eq : pts.getD i (0, 0) = q := by rw [List.getD_eq_getElem?_getD, List.getElem?_eq_getElem hi]; exact ei
      have hq2 := eq_of_beq hq2
      rw [pz_diff _ _ _ (by rw [lu, lm])]
      have s1 := (sys_iff (hS i hi) hl).mp (h _ (getD_mem (by rw [hT]; exact hi)))
      unfold px py at s1
      rw [eq] at s1
      have s2 := pmul_pz p q.1 P (loL n e ans)
      have s3 : Cg p (pz P q.1) q.2 := (pval_pz p P q.1).symm.trans (Cg.of hq2)
      have s4 := s1.sub (s2.trans (s3.mul Cg.rfl))
      rwa [Int.sub_self] at s4
  have hk : Cg p (cf (upL n e ans) k) (cf (pmul p P (loL n e ans)) k) := by
    have : Cg p (cf (List.zipWith (· - ·) (upL n e ans) (pmul p P (loL n e ans))) k) 0 := by
      unfold cf
      rw [List.getD_eq_getElem?_getD]
      cases q : (List.zipWith (· - ·) (upL n e ans) (pmul p P (loL n e ans)))[k]? with
      | none => exact Cg.rfl
      | some u => exact hz u (List.mem_of_getElem? q)
    rw [cf_zip (by rw [lu, lm])] at this
    have := this.add (Cg.rfl (a := cf (pmul p P (loL n e ans)) k))
    rwa [Int.sub_add_cancel, Int.zero_add] at this
  have := hk.trans (pmul_cf p P (loL n e ans) k)
  rwa [hP] at this
theorem monic_zero {p : Int} {E : List Int} {e : Nat} (h1 : E.length = e + 1) (h2 : cf E e = 1) {d : Nat → Int} {N : Nat} (hd : ∀ k, e ≤ k → Cg p (((List.range N).map fun i => d i * sh E i k).sum) 0) : ∀ i, i < N → Cg p (d i) 0 := by
  have key : ∀ m, ∀ i, i < N → N ≤ i + m → Cg p (d i) 0 := by
    intro m
    induction m with
    | zero => intro i h1 h2; omega
    | succ m ih =>
      intro i hi hm
      have q := hd (e + i) (by omega)
      have key2 : ∀ M, M ≤ N → Cg p (((List.range M).map fun j => d j * sh E j (e + i)).sum) (if i < M then d i else 0) := by
        intro M
        induction M with
        | zero => intro _; exact Cg.of (by simp)
        | succ M ihM =>
          intro hM
          rw [List.range_succ, List.map_append, List.sum_append]
          have q1 := ihM (by omega)
          simp only [List.map_cons, List.map_nil, List.sum_cons, List.sum_nil, Int.add_zero]
          by_cases e1 : M = i
          · subst e1
            have : sh E M (e + M) = 1 := by unfold sh; rw [if_pos (by omega), show e + M - M = e by omega, h2]
            rw [this, Int.mul_one, if_pos (Nat.lt_succ_self _)]
            rw [if_neg (Nat.lt_irrefl _)] at q1
            have := q1.add (Cg.rfl (a := d M))
            rwa [Int.zero_add] at this
          · by_cases e2 : i < M
            · rw [if_pos e2] at q1
              rw [if_pos (by omega)]
              have q2 := (ih M (by omega) (by omega)).mul (Cg.rfl (a := sh E M (e + i)))
              rw [Int.zero_mul] at q2
              have := q1.add q2
              rwa [Int.add_zero] at this
            · rw [if_neg e2] at q1
              rw [if_neg (by omega)]
              have : sh E M (e + i) = 0 := by
                unfold sh
                rw [if_pos (by omega)]
                exact cf_out (by omega)
              rw [this, Int.mul_zero, Int.add_zero]
              exact q1
      have q3 := key2 N (Nat.le_refl _)
      rw [if_pos hi] at q3
      exact q3.symm.trans q
  intro i hi
  exact key N i hi (by omega)
theorem csum_range {o b : List Int} {k : Nat} : ∀ n, csum o b n k = ((List.range n).map fun i => cf o i * sh b i k).sum
  | 0 => rfl
  | n + 1 => by rw [csum_succ, csum_range n, List.range_succ, List.map_append, List.sum_append]; simp
theorem trim_one {l : List Int} : trim (l ++ [1]) = l ++ [1] := by
  unfold trim
  simp
theorem quo_near {p : Int} {n e : Nat} {P ans o s : List Int} (hp : 1 < p) (hP : P.length = n) (bP : Bd p P) (hl : ans.length = n + e + e) (Q : Quo p (upL n e ans) (loL n e ans) o s)
    (h : ∀ k, Cg p (cf (upL n e ans) k) (csum P (loL n e ans) n k)) : s = [] ∧ trim o = trim P := by
  have ld : (ans.drop (n + e)).length = e := by rw [List.length_drop]; omega
  have ll : (loL n e ans).length = e + 1 := by unfold loL; rw [List.length_append, ld]; rfl
  have l1 : cf (loL n e ans) e = 1 := by unfold loL; rw [cf_app, ld, if_pos rfl]
  have ls : s.length ≤ e := by
    have := Q.short
    rw [trim_one, List.length_append, ld, List.length_singleton] at this
    omega
  have eqP : ∀ k, csum P (loL n e ans) n k = csum P (loL n e ans) (n + o.length) k := fun k => (csum_more (by omega) _).symm
  have eqO : ∀ k, csum o (loL n e ans) o.length k = csum o (loL n e ans) (n + o.length) k := fun k => by rw [Nat.add_comm]; exact (csum_more (Nat.le_refl _) _).symm
  have d0 : ∀ i, i < n + o.length → Cg p (cf P i - cf o i) 0 := by
    refine monic_zero ll l1 fun k hk => ?_
    have q := (h k).symm.trans (Q.eq k)
    rw [cf_out (l := s) (by omega), Int.add_zero, eqP, eqO, csum_range, csum_range] at q
    have q1 := q.sub (Cg.rfl (a := ((List.range (n + o.length)).map fun i => cf o i * sh (loL n e ans) i k).sum))
    rw [Int.sub_self] at q1
    refine (Cg.of ?_).trans q1
    generalize n + o.length = N
    induction N with
    | zero => rfl
    | succ N ih =>
      rw [List.range_succ, List.map_append, List.map_append, List.map_append, List.sum_append, List.sum_append, List.sum_append, ih]
      simp only [List.map_cons, List.map_nil, List.sum_cons, List.sum_nil]
      grind
  have d1 : ∀ i, Cg p (cf P i) (cf o i) := fun i => by
    by_cases hi : i < n + o.length
    · have := (d0 i hi).add (Cg.rfl (a := cf o i))
      rwa [Int.sub_add_cancel, Int.zero_add] at this
    · rw [cf_out (l := P) (by omega), cf_out (l := o) (by omega)]
      exact Cg.rfl
  constructor
  · have z : ∀ k, Cg p (cf s k) (cf [] k) := fun k => by
      have q := (h k).symm.trans (Q.eq k)
      rw [eqP, eqO] at q
      have q2 : Cg p (csum P (loL n e ans) (n + o.length) k) (csum o (loL n e ans) (n + o.length) k) := by
        rw [csum_range, csum_range]
        generalize n + o.length = N
        induction N with
        | zero => exact Cg.rfl
        | succ N ih =>
          rw [List.range_succ, List.map_append, List.map_append, List.sum_append, List.sum_append]
          refine ih.add ?_
          simp only [List.map_cons, List.map_nil, List.sum_cons, List.sum_nil, Int.add_zero]
          exact (d1 N).mul Cg.rfl
      have q3 := (q2.symm.trans q).sub (Cg.rfl (a := csum o (loL n e ans) (n + o.length) k))
      have e3 : ∀ x y : Int, x + y - x = y := fun x y => by omega
      rw [Int.sub_self, e3] at q3
      exact q3.symm
    exact list_ext (by omega) Q.ts (by rfl) Q.bs (fun x hx => by cases hx) z
  · refine list_ext (by omega) (trim_trim _ _ rfl) (trim_trim _ _ rfl) Q.bo.trim bP.trim fun k => ?_
    rw [cf_trim k _ _ rfl, cf_trim k _ _ rfl]
    exact (d1 k).symm
theorem near_one {p : Int} {n e : Nat} {pts : List (Int × Int)} {P R : List Int} (F : Fer p) (g : Gp p pts) (hm : n + e + e ≤ pts.length) (hP : P.length = n) (hR : R.length = n) (bP : Bd p P) (bR : Bd p R) (oP : (offs p P pts).length ≤ e) (oR : (offs p R pts).length ≤ e) : P = R := by
  have hx : n ≤ ((pts.filter fun q => pval p P q.1 == q.2).filter fun q => pval p R q.1 == q.2).length := by
    have s1 := offs_split (p := p) (row := P) pts
    have s2 := offs_split (p := p) (row := R) (pts.filter fun q => pval p P q.1 == q.2)
    have s3 : (offs p R (pts.filter fun q => pval p P q.1 == q.2)).length ≤ (offs p R pts).length := by
      unfold offs
      rw [List.length_map, List.length_map]
      exact List.Sublist.length_le (List.Sublist.filter _ List.filter_sublist)
    omega
  refine row_unique F (xs := ((pts.filter fun q => pval p P q.1 == q.2).filter fun q => pval p R q.1 == q.2).map Prod.fst) (by omega) (by rw [List.length_map]; omega) ?_ bP bR ?_
  · exact List.Pairwise.sublist (List.Sublist.map _ (List.filter_sublist.trans List.filter_sublist)) g.pw
  · intro x hx
    obtain ⟨q, hq, rfl⟩ := List.mem_map.mp hx
    obtain ⟨h1, h2⟩ := List.mem_filter.mp hq
    obtain ⟨h3, h4⟩ := List.mem_filter.mp h1
    rw [eq_of_beq h4, eq_of_beq h2]
section
variable {c : Cx} {m : ML} {H : MH} {G : Gx} {d : Nat}
theorem TE.addB {a b : CE} {post : MV → MH → Prop} (h : TE c m a H (fun x H1 => TE c m b H1 (fun y H2 => ∃ (i : Int) (t : Bool), x = .int i ∧ y = .bool t ∧ post (.int (i + if t = true then 1 else 0)) H2))) : TE c m (.bin .Add a b) H post := by
  refine TE.binH (h.mono fun x H1 h1 => h1.mono fun y H2 h2 => ?_)
  obtain ⟨i, t, rfl, rfl, hp⟩ := h2
  rintro mr ρ s Q E _ _ S ⟨u, rfl⟩ hy k
  rw [show _ = Value.bool t from hy]
  exact PySem.add_int_bool (k [] _ _ H2 s.heap _ hp ⟨_, rfl⟩ (nil_of S))
theorem TE.extend {o x : CE} {post : MV → MH → Prop} (h : TE c m o H (fun l H1 => ∃ a xs, l = .ref a ∧ H1[a]? = some (.list xs) ∧
      TE c m x H1 (fun v H2 => ∃ b ys zs, v = .ref b ∧ H2[a]? = some (.list ys) ∧ H2[b]? = some (.list zs) ∧ ys.length + zs.length ≤ 1000000 ∧ post .none (H2.set a (.list (ys ++ zs)))))) : TE c m (.meth o "extend" (.cons x .nil)) H post := by
  refine TE.mcall (h.mono ?_)
  rintro l H1 ⟨a, xs, rfl, ha, hx⟩ mr ρ s Q E _ pl pos args S lr ⟨y, hy, rfl⟩ hes k kx
  obtain ⟨vs, ep, hvs, No⟩ := S.list ha hy
  have ho := (No _ (.head _)).1
  refine getMethod_list_of PySem.F.slot_list_extend PySem.F.type_list_extend (isList_of No) ⟨_, ho, rfl⟩ ?_
  have h4 := and2 hes
  refine callWith_method1 ?_ (star_cons (star_re h4.1)) (star_plain h4.2)
  refine (TEs.one hx) _ _ hes mr ρ s _ E S lr ?_ kx
  rintro t vs' vrs H2 h2 tk2 ⟨v, rfl, b, ys, zs, rfl, hy2, hz2, hsz, hp⟩ ⟨vr, r, rfl, ⟨z, hz, rfl⟩, hr⟩ S2
  have hr' : r = [] := hr
  subst hr'
  obtain ⟨ws, ep2, hws, No2⟩ := S2.list hy2 (get_mono hy)
  obtain ⟨us, ep3, hus, No3⟩ := S2.list hz2 hz
  have l1 := hws.length
  have l2 := hus.length
  have ho2 := (No2 _ (.head _)).1
  refine call_meets (s := { s with heap := h2, toks := tk2 }) PySem.F.slot_list_extend ⟨_, ho2, rfl⟩ PySem.F.entry_list_extend (PySem.F.args_list_extend_2 _ _) (PySem.AutoSeq1.list_extend_list_list_0 y ws.toArray ep2 z us.toArray ep3 (extend_door (by simp; exact Nat.le_trans (show ws.length + us.length ≤ 1000000 by omega) (by decide))) (by simp; exact Nat.le_trans (show ws.length ≤ 1000000 by omega) (by decide)) (by simp; exact Nat.le_trans (show ws.length + us.length ≤ 1000000 by omega) (by decide))) ⟨ho2, (No3 _ (.head _)).1, ?_⟩
  obtain ⟨n', e⟩ : ∃ n', Obj.mapSeq (fun x => x ++ us.toArray) (listOf ws.toArray ep2) = listOf (ws ++ us).toArray n' := by
    by_cases hu : us = []
    · subst hu
      exact ⟨ep2, by simp [Obj.mapSeq]⟩
    · exact ⟨ep2 + 1, by simp [Obj.mapSeq, hu]⟩
  have S3 := S2.upd (o' := .list (ys ++ zs)) hy2 (get_mono hy) (Heap.SameBut.update ..) (h' := h2.update y (Obj.mapSeq fun x => x ++ us.toArray)) (x' := listOf (ws ++ us).toArray n')
    (by rw [Heap.get?_update_self _ ho2 (by rw [e]; rfl)]; exact congrArg some e) ⟨ws ++ us, n', hws.append hus, rfl⟩
  exact k t .none .none _ _ _ hp rfl S3
theorem TS.tryN (ok : Ok G c d) (hfm : c.fm = none) {b hb : CSs} {g : Str} {x : Option Nat} {post : Fl → ML → MH → Prop} (h : TB (c.wX fun _ _ _ _ => False) m b H post) : TS c m (.try b (.cons g x hb .nil)) H post := by
  intro st hs
  obtain ⟨h1, h2⟩ := and2 hs
  intro mr ρ s Q E S l k kx
  show wpAny _ _ (exec (.Try (reSs b c.nm (bl0 st)) [.ExceptHandler (some (.Name g (hTy (nthH (hsOf st))))) (x.map fun i => c.nm.getD i "") (reSs hb c.nm (hBody (nthH (hsOf st)))) (hPos (nthH (hsOf st)))] [] [] st.pos) c.env) _ _ _
  rw [arm_exec_Try]
  refine wpAny_bind (wpAny_standAt (wpAny_tryStmt_except ?_))
  refine h _ h1 mr ρ s _ _ S l ?_ ?_
  · intro t fl fr m' mr' H' h' tk hp hf S' l'
    cases fl with
    | next => subst hf; exact wpAny_execs_nil (k t .next .next m' mr' H' h' tk hp rfl S' l')
    | brk => subst hf; exact k t .brk .brk m' mr' H' h' tk hp rfl S' l'
    | cont => subst hf; exact k t .cont .cont m' mr' H' h' tk hp rfl S' l'
    | ret v => obtain ⟨vr, rfl, hv⟩ := hf; exact k t (.ret v) (.ret vr) m' mr' H' h' tk hp ⟨vr, rfl, hv⟩ S' l'
  · intro t C as e m' mr' H' h' tk hp hF hL
    exact (show False from hp).elim
end
noncomputable def k_shown_nm : List Str := ["value"]
noncomputable def k_shown : CSs := (.cons (.ite (.cmp .Is (.call "type" (.cons (.loc 0) .nil)) (.glob "str")) (.cons (.ret (.slice (.loc 0) CO.none (.some (.int 40))))
  .nil) .nil)
  (.cons (.ite (.and (.cons (.cmp .Is (.call "type" (.cons (.loc 0) .nil)) (.glob "int")) (.cons (.cmp2 (.neg (.bin .Pow (.int 10) (.int 9))) .Lt (.loc 0) .Lt (.bin .Pow (.int 10) (.int 9))) .nil))) (.cons (.ret (.call "str" (.cons (.loc 0) .nil)))
  .nil) .nil)
  (.cons (.ret (.str "something else"))
  .nil)))
structure NeedK (G : Gx) (CE : Addr) : Prop where
  bs : Bs G
  sh : ∃ f, GFn G "shown" f ∧ GDef G f ["value"] k_shown_nm k_shown []
  nn : ∃ f, GFn G "need_number" f ∧ GDef G f ["value", "least", "most", "what"] k_need_number_nm k_need_number []
  ex : GExc G "ShareError" CE bmV
noncomputable def k_Field_need_nm : List Str := ["self", "a"]
noncomputable def k_Field_need : CSs := (.cons (.ret (.call "need_number" (.cons (.loc 1) (.cons (.int 0) (.cons (.bin .Sub (.attr (.loc 0) "prime") (.int 1)) (.cons (.str "number of the field") .nil))))))
  .nil)
theorem need_cl {G : Gx} {prog : Program} {w : World} {f C CE : Addr} {i kk : Nat} {p a : Int} {H : MH} {xp : Addr → List MV → MH → Prop} (D : GDef G f ["self", "a"] k_Field_need_nm k_Field_need []) (K : NeedK G CE) (ga : GAtt G C "prime")
    (hF : Ins H i C kk [("prime", .int p)]) (h0 : 0 ≤ a) (h1 : a < p) : CL G prog w 2 f [.ref i, .int a] H (fun v H' => v = .int a ∧ H' = H) xp := by
  have bs := K.bs
  obtain ⟨fN, gN, dN⟩ := K.nn
  refine D.cl rfl ?_
  intro c e1 e2 ok hfm hint hnm hX
  subst e1 e2
  show TB c [some (.ref i), some (.int a)] _ _ _
  unfold k_Field_need
  walk_at "w"
  exact (need_number_cl dN bs h0 (by omega)).use (Nat.le_refl _) fun _ _ x => x
section
variable {G : Gx} {C CS CE : Addr}
end
noncomputable def k_need_shares_nm : List Str := ["field", "shares", "seen", "x", "y"]
noncomputable def k_need_shares : CSs := (.cons (.assign 2 (.list .nil))
  (.cons (.for [3, 4] (.loc 1) (.cons (.expr (.meth (.loc 0) "need" (.cons (.loc 3) .nil)))
  (.cons (.expr (.meth (.loc 0) "need" (.cons (.loc 4) .nil)))
  (.cons (.ite (.or (.cons (.cmp .Eq (.loc 3) (.int 0)) (.cons (.cmp .In (.loc 3) (.loc 2)) .nil))) (.cons (.raise "ShareError" (.cons (.str "a place twice, or nought") .nil))
  .nil) .nil)
  (.cons (.expr (.meth (.loc 2) "append" (.cons (.loc 3) .nil)))
  .nil)))))
  (.cons (.ret (.loc 1))
  .nil)))
structure Gs (p : Int) (pts : List (Int × Int)) : Prop where
  x : ∀ k, k < pts.length → 1 ≤ px pts k ∧ px pts k < p
  y : ∀ k, k < pts.length → 0 ≤ py pts k ∧ py pts k < p
  d : ∀ j k, j < pts.length → k < pts.length → px pts j = px pts k → j = k
section
variable {G : Gx} {C CE : Addr}
end
noncomputable def k_u_try_nm : List Str := ["field", "shares", "needed", "count", "rows", "rights", "x", "y", "row", "answer", "upper", "lower", "out", "rest"]
noncomputable def kt_turn : CSs := (.cons (.assign 8 (.comp (.meth (.loc 0) "power" (.cons (.loc 6) (.cons (.loc 14) .nil))) ["k"] (.call "range" (.cons (.bin .Add (.loc 2) (.loc 3)) .nil)) .nil))
  (.cons (.expr (.meth (.loc 8) "extend" (.cons (.comp (.bin .Mod (.bin .Mult (.neg (.loc 7)) (.meth (.loc 0) "power" (.cons (.loc 6) (.cons (.loc 14) .nil)))) (.attr (.loc 0) "prime")) ["k"] (.call "range" (.cons (.loc 3) .nil)) .nil) .nil)))
  (.cons (.expr (.meth (.loc 4) "append" (.cons (.loc 8) .nil)))
  (.cons (.expr (.meth (.loc 5) "append" (.cons (.bin .Mod (.bin .Mult (.loc 7) (.meth (.loc 0) "power" (.cons (.loc 6) (.cons (.loc 3) .nil)))) (.attr (.loc 0) "prime")) .nil)))
  .nil))))
noncomputable def kt_end : CSs := (.cons (.assign 9 (.call "solve" (.cons (.loc 0) (.cons (.loc 4) (.cons (.loc 5) .nil)))))
  (.cons (.ite (.cmp .Is (.loc 9) CE.none) (.cons (.ret CE.none)
  .nil) .nil)
  (.cons (.assign 10 (.slice (.loc 9) CO.none (.some (.bin .Add (.loc 2) (.loc 3)))))
  (.cons (.assign 11 (.bin .Add (.slice (.loc 9) (.some (.bin .Add (.loc 2) (.loc 3))) CO.none) (.list (.cons (.int 1) .nil))))
  (.cons (.assignT [12, 13] (.call "quotient" (.cons (.loc 0) (.cons (.loc 10) (.cons (.loc 11) .nil)))))
  (.cons (.ite (.or (.cons (.cmp .Gt (.call "len" (.cons (.loc 13) .nil)) (.int 0)) (.cons (.cmp .Gt (.call "len" (.cons (.loc 12) .nil)) (.loc 2)) .nil))) (.cons (.ret CE.none)
  .nil) .nil)
  (.cons (.ret (.loc 12))
  .nil)))))))
noncomputable def k_u_try : CSs := (.cons (.assign 4 (.list .nil))
  (.cons (.assign 5 (.list .nil))
  (.cons (.for [6, 7] (.loc 1) kt_turn)
  kt_end)))
noncomputable def rowT (p : Int) (n e : Nat) (x y : Int) : List Int := ((List.range (n + e)).map fun k => x ^ k % p) ++ (List.range e).map fun k => -y * (x ^ k % p) % p
noncomputable def rgtT (p : Int) (e : Nat) (x y : Int) : Int := y * (x ^ e % p) % p
noncomputable def rowsT (p : Int) (n e : Nat) (pts : List (Int × Int)) : List (List Int) := pts.map fun q => rowT p n e q.1 q.2
noncomputable def rgtsT (p : Int) (e : Nat) (pts : List (Int × Int)) : List Int := pts.map fun q => rgtT p e q.1 q.2
theorem rowT_len {p : Int} {n e : Nat} {x y : Int} : (rowT p n e x y).length = n + e + e := by simp [rowT]
theorem rowT_bd {p : Int} (hp : 0 < p) {n e : Nat} {x y : Int} : Bd p (rowT p n e x y) := fun v hv => by
  rcases List.mem_append.mp hv with hv | hv
  · obtain ⟨k, _, rfl⟩ := List.mem_map.mp hv
    exact md hp
  · obtain ⟨k, _, rfl⟩ := List.mem_map.mp hv
    exact md hp
theorem rows_at {p : Int} {n e k : Nat} {pts : List (Int × Int)} (hk : k < pts.length) : (rowsT p n e pts).getD k [] = rowT p n e (px pts k) (py pts k) := by
  unfold rowsT px py
  simp [List.getD_eq_getElem?_getD, List.getElem?_map, List.getElem?_eq_getElem hk]
theorem rgts_at {p : Int} {e k : Nat} {pts : List (Int × Int)} (hk : k < pts.length) : (rgtsT p e pts).getD k 0 = rgtT p e (px pts k) (py pts k) := by
  unfold rgtsT px py
  simp [List.getD_eq_getElem?_getD, List.getElem?_map, List.getElem?_eq_getElem hk]
theorem cf_rng {f : Nat → Int} {n j : Nat} (h : j < n) : cf ((List.range n).map f) j = f j := by
  unfold cf
  rw [List.getD_eq_getElem?_getD, List.getElem?_map, List.getElem?_range h]
  rfl
theorem sysRow {p : Int} {n e k : Nat} {pts : List (Int × Int)} (hk : k < pts.length) : SysRow p n e (px pts k) (py pts k) ((sysT (rowsT p n e pts) (rgtsT p e pts)).getD k []) := by
  have l1 : (rowsT p n e pts).length = pts.length := by simp [rowsT]
  rw [sysT_at (by rw [l1]; exact hk), rows_at hk, rgts_at hk]
  generalize px pts k = x
  generalize py pts k = y
  have lr := rowT_len (p := p) (n := n) (e := e) (x := x) (y := y)
  have lu : ((List.range (n + e)).map fun k => x ^ k % p).length = n + e := by simp
  refine ⟨fun j hj => ?_, fun j hj => ?_, ?_⟩
  · rw [cf_appL (by omega)]
    unfold rowT
    rw [cf_appL (by omega), cf_rng hj]
    exact Cg.md
  · rw [cf_appL (by omega)]
    unfold rowT
    have e1 := cf_appR (a := (List.range (n + e)).map fun k => x ^ k % p) (b := (List.range e).map fun k => -y * (x ^ k % p) % p) (j := j)
    rw [lu] at e1
    rw [e1, cf_rng hj]
    exact Cg.md.trans (Cg.rfl.mul Cg.md)
  · have e1 := cf_appR (a := rowT p n e x y) (b := [rgtT p e x y]) (j := 0)
    rw [lr, Nat.add_zero] at e1
    rw [e1]
    exact Cg.md.trans (Cg.rfl.mul Cg.md)
noncomputable def TryP (p : Int) (n e : Nat) (pts : List (Int × Int)) (H : MH) (v : MV) (H' : MH) : Prop := Ext H H' ∧ ((v = .none ∧ ∀ P, P.length = n → Bd p P → ¬ (offs p P pts).length ≤ e) ∨
  ∃ z out, v = .ref z ∧ H'[z]? = some (.list (intL out)) ∧ out.length ≤ n ∧ Bd p out ∧ ∀ P, P.length = n → Bd p P → (offs p P pts).length ≤ e → out = trim P)
structure MendK (G : Gx) (C XE : Addr) : Prop extends QuoK G C XE where
  so : ∃ f, GFn G "solve" f ∧ GDef G f ["field", "rows", "rights"] k_solve_nm k_solve []
  qu : ∃ f, GFn G "quotient" f ∧ GDef G f ["field", "one", "two"] k_quotient_nm k_quotient []
section
variable {G : Gx} {C XE : Addr}
theorem try_turn {c : Cx} {d : Nat} (ok : Ok G c (d + 2)) (hfm : c.fm = none) (hint : interactive c.env = false) (K : QuoK G C XE) {p : Int} (hp : 2 ≤ p) (hp2 : p < 2 ^ 60) {H0 H : MH} {i kk r a b n e j : Nat} {o6 o7 o8 : Option MV} {x y : Int} {R : List (List Int)} {q : List Int} {post : Fl → ML → MH → Prop}
    (hF : Ins H0 i C kk [("prime", .int p)]) (E : Ext H0 H) (ha : H0.length ≤ a) (hb : H0.length ≤ b) (hab : a ≠ b) (hn : n ≤ 100) (he : e ≤ 100) (hy : 0 ≤ y ∧ y < p) (hT : TabAt H a b R) (hQ : H[b]? = some (.list (intL q))) (hR : R.length ≤ 900) (hq : q.length ≤ 900) (hR0 : ∀ r ∈ R, 0 < r.length)
    (hpost : ∀ o8 H1, Ext H0 H1 → TabAt H1 a b (R ++ [rowT p n e x y]) → H1[b]? = some (.list (intL (q ++ [rgtT p e x y]))) → post .next [some (.ref i), some (.ref r), some (.int (n : Int)), some (.int (e : Int)), some (.ref a), some (.ref b), some (.int x), some (.int y), o8, none, none, none, none, none] H1) :
    TB c [some (.ref i), some (.ref r), some (.int (n : Int)), some (.int (e : Int)), some (.ref a), some (.ref b), some (.int x), some (.int y), o8, none, none, none, none, none] kt_turn H post := by
  have bs := K.bs
  have ga := K.att
  obtain ⟨fPW, gPW, dPW⟩ := K.pw
  have iF := E.ins hF
  have hbl : b < H.length := (List.getElem?_eq_some_iff.mp hQ).1
  unfold kt_turn
  refine TB.cons (TS.assignC ok hfm (Src.range ok bs.range ?_))
  walk_at "w"
  refine ⟨0, (n : Int) + (e : Int), ⟨.inl ⟨rfl, rfl⟩, by omega, by omega, by omega, by omega⟩, Turns.range rfl (by omega) (fun k ys H1 => H1 = H ∧ k ≤ n + e ∧ ys = intL ((List.range k).map fun k => x ^ k % p)) ⟨rfl, by omega, rfl⟩ ?_ ?_ ?_⟩
  · rintro k ys H1 ⟨_, _, rfl⟩
    simp
  · rintro k ys H1 ⟨e1, hk, rfl⟩ hk2
    obtain rfl : H = H1 := e1.symm
    intro c' sub hnm'
    have ok' := sub.ok
    refine ⟨fun q => (by cases q), fun _ => ?_⟩
    rw [Int.zero_add] at *
    show TE c' [some (.ref i), some (.ref r), some (.int (n : Int)), some (.int (e : Int)), some (.ref a), some (.ref b), some (.int x), some (.int y), o8, none, none, none, none, none, some (.int (k : Int))] _ _ _
    walk_at "w"
    refine (power_cl dPW ga iF hp hp2 (by omega)).use (by omega) ?_
    rintro _ _ ⟨rfl, rfl⟩
    refine ⟨rfl, by omega, ?_⟩
    rw [List.range_succ, Int.toNat_natCast]
    simp [intL]
  rintro ys H1 ⟨e1, _, rfl⟩
  obtain rfl : H = H1 := e1.symm
  have en : ((n : Int) + (e : Int) - 0).toNat = n + e := sub0 (n + e)
  rw [en]
  generalize hU : ((List.range (n + e)).map fun k => x ^ k % p) = U
  have lU : U.length = n + e := by rw [← hU]; simp
  show TB c [some (.ref i), some (.ref r), some (.int (n : Int)), some (.int (e : Int)), some (.ref a), some (.ref b), some (.int x), some (.int y), some (.ref H.length), none, none, none, none, none] _ _ _
  refine TB.cons (TS.expr hint (TE.extend ?_))
  walk_at "w"
  refine ⟨_, _, rfl, get_end, TE.comp ok (Src.range ok bs.range ?_)⟩
  walk_at "w"
  have iF1 := (E.app [MO.list (intL U)]).ins hF
  refine ⟨0, (e : Int), ⟨.inl ⟨rfl, rfl⟩, by omega, by omega, by omega, by omega⟩, Turns.range rfl (by omega) (fun k ys H1 => H1 = H ++ [MO.list (intL U)] ∧ k ≤ e ∧ ys = intL ((List.range k).map fun k => -y * (x ^ k % p) % p)) ⟨rfl, by omega, rfl⟩ ?_ ?_ ?_⟩
  · rintro k ys H1 ⟨_, _, rfl⟩
    simp
  · rintro k ys H1 ⟨rfl, hk, rfl⟩ hk2
    intro c' sub hnm'
    have ok' := sub.ok
    refine ⟨fun q => (by cases q), fun _ => ?_⟩
    rw [Int.zero_add] at *
    show TE c' [some (.ref i), some (.ref r), some (.int (n : Int)), some (.int (e : Int)), some (.ref a), some (.ref b), some (.int x), some (.int y), some (.ref H.length), none, none, none, none, none, some (.int (k : Int))] _ _ _
    walk_at "w"
    refine (power_cl dPW ga iF1 hp hp2 (by omega)).use (by omega) ?_
    rintro _ _ ⟨rfl, rfl⟩
    walk_at "w"
    refine ⟨rfl, by omega, ?_⟩
    rw [List.range_succ, Int.toNat_natCast]
    simp [intL]
  rintro ys H1 ⟨rfl, _, rfl⟩
  have en2 : ((e : Int) - 0).toNat = e := sub0 _
  rw [en2]
  generalize hV : ((List.range e).map fun k => -y * (x ^ k % p) % p) = V
  have lV : V.length = e := by rw [← hV]; simp
  have hUV : U ++ V = rowT p n e x y := by rw [← hU, ← hV]; rfl
  refine ⟨_, intL U, intL V, rfl, get_app get_end, get_end, by rw [List.length_map, List.length_map]; omega, ?_⟩
  rw [show intL U ++ intL V = intL (rowT p n e x y) by rw [← hUV]; simp [intL]]
  generalize hH2 : (H ++ [MO.list (intL U)] ++ [MO.list (intL V)]).set H.length (.list (intL (rowT p n e x y))) = H2
  have E2 : Ext H H2 := by rw [← hH2]; exact (((Ext.refl H).app _).app _).set (Nat.le_refl _)
  have r2 : H2[H.length]? = some (.list (intL (rowT p n e x y))) := by rw [← hH2, List.getElem?_set_self (by simp)]
  obtain ⟨rs, h1, h2, h3⟩ := id hT
  have hal : a < H.length := (List.getElem?_eq_some_iff.mp h1).1
  walk_at "w"
  refine ⟨_, _, rfl, E2 _ _ h1, ?_⟩
  walk_at "w"
  refine ⟨_, E2 _ _ h1, by rw [List.length_map]; omega, ?_⟩
  generalize hH3 : H2.set a (.list (rs.map MV.ref ++ [.ref H.length])) = H3
  have E3 : Ext H0 H3 := by rw [← hH3]; exact (E.trans E2).set ha
  have q3 : H3[b]? = some (.list (intL q)) := by rw [← hH3, List.getElem?_set_ne hab]; exact E2 _ _ hQ
  have t3 : TabAt H3 a b (R ++ [rowT p n e x y]) := by
    refine ⟨rs ++ [H.length], ?_, by simp [h2], fun k hk => ?_⟩
    · rw [← hH3, List.getElem?_set_self (Nat.lt_of_lt_of_le hal E2.len)]
      simp
    · rw [List.length_append, List.length_singleton] at hk
      by_cases e1 : k < R.length
      · have g1 : (rs ++ [H.length]).getD k 0 = rs.getD k 0 := by rw [List.getD_eq_getElem?_getD, List.getElem?_append_left (by omega), ← List.getD_eq_getElem?_getD]
        have g2 : (R ++ [rowT p n e x y]).getD k [] = R.getD k [] := by rw [List.getD_eq_getElem?_getD, List.getElem?_append_left e1, ← List.getD_eq_getElem?_getD]
        rw [g1, g2, ← hH3]
        obtain ⟨a1, a2⟩ := h3 k e1
        exact ⟨a1, by rw [List.getElem?_set_ne (Ne.symm (hT.ne e1 a2 (hR0 _ (getD_mem e1))))]; exact E2 _ _ a2⟩
      · have e1 : k = R.length := by omega
        subst e1
        have g1 : (rs ++ [H.length]).getD R.length 0 = H.length := by rw [List.getD_eq_getElem?_getD, List.getElem?_append_right (by omega), h2]; simp
        have g2 : (R ++ [rowT p n e x y]).getD R.length [] = rowT p n e x y := by rw [List.getD_eq_getElem?_getD, List.getElem?_append_right (by omega)]; simp
        rw [g1, g2, ← hH3]
        exact ⟨by omega, by rw [List.getElem?_set_ne (by omega)]; exact r2⟩
  have iF3 := E3.ins hF
  walk_at "w"
  refine ⟨_, _, rfl, q3, ?_⟩
  walk_at "w"
  refine (power_cl dPW ga iF3 hp hp2 (by omega)).use (by omega) ?_
  rintro _ H4 ⟨rfl, e4⟩
  obtain rfl : H3 = H4 := e4.symm
  walk_at "w"
  refine ⟨_, q3, by rw [List.length_map]; omega, ?_⟩
  rw [Int.toNat_natCast]
  walk_at "w"
  refine hpost _ _ (E3.set hb) ?_ ?_
  · obtain ⟨rs3, k1, k2, k3⟩ := t3
    exact ⟨rs3, by rw [List.getElem?_set_ne (Ne.symm hab)]; exact k1, k2, fun k hk => ⟨(k3 k hk).1, by rw [List.getElem?_set_ne (Ne.symm (k3 k hk).1)]; exact (k3 k hk).2⟩⟩
  · rw [List.getElem?_set_self (List.getElem?_eq_some_iff.mp q3).1]
    simp [intL, rgtT]
end
section
variable {G : Gx} {C CE : Addr}
end
section
variable {G : Gx} {C XE : Addr}
theorem try_cl {prog : Program} {w0 : World} {f : Addr} {i kk r n e : Nat} {p : Int} {pts : List (Int × Int)} {H : MH} {xp : Addr → List MV → MH → Prop} (D : GDef G f ["field", "shares", "needed", "count"] k_u_try_nm k_u_try []) (K : MendK G C XE) (F : Fer p) (hp2 : p < 2 ^ 60)
    (hF : Ins H i C kk [("prime", .int p)]) (hP : PtsAt H r pts) (g : Gp p pts) (hy : ∀ k, k < pts.length → 0 ≤ py pts k ∧ py pts k < p) (h0 : 1 ≤ n) (hl : pts.length ≤ 40) (he : e ≤ 40) (hm : n + e + e ≤ pts.length) :
    CL G prog w0 6 f [.ref i, .ref r, .int (n : Int), .int (e : Int)] H (TryP p n e pts H) xp := by
  have bs := K.bs
  have ga := K.att
  have hp := F.two
  obtain ⟨fSO, gSO, dSO⟩ := K.so
  obtain ⟨fQU, gQU, dQU⟩ := K.qu
  refine D.cl rfl ?_
  intro c e1 e2 ok hfm hint hnm hX
  subst e1 e2
  show TB c [some (.ref i), some (.ref r), some (.int (n : Int)), some (.int (e : Int)), none, none, none, none, none, none, none, none, none, none] _ _ _
  unfold k_u_try
  walk_at "w"
  refine ⟨by simp, ?_⟩
  walk_at "w"
  refine ⟨by simp, ?_⟩
  walk_at "w"
  have lH1 : (H ++ [MO.list []]).length = H.length + 1 := by simp
  rw [lH1]
  obtain ⟨refs, p1, p2, p3⟩ := id hP
  generalize hH2 : H ++ [MO.list []] ++ [MO.list []] = H2
  have E2 : Ext H H2 := by rw [← hH2]; exact ((Ext.refl H).app _).app _
  have ka : H2[H.length]? = some (.list []) := by rw [← hH2]; exact get_app get_end
  have kb : H2[H.length + 1]? = some (.list []) := by rw [← hH2, ← lH1]; exact get_end
  refine TS.forL' ok hfm (TE.loc ok rfl ⟨r, refs, rfl, E2 _ _ p1, fun j m1 H3 => ∃ o6 o7 o8, m1 = [some (.ref i), some (.ref r), some (.int (n : Int)), some (.int (e : Int)), some (.ref H.length), some (.ref (H.length + 1)), o6, o7, o8, none, none, none, none, none] ∧ Ext H H3 ∧ TabAt H3 H.length (H.length + 1) (rowsT p n e (pts.take j)) ∧ H3[H.length + 1]? = some (.list (intL (rgtsT p e (pts.take j)))),
    ⟨_, _, _, rfl, E2, ⟨[], ka, rfl, fun k hk => by simp [rowsT] at hk⟩, kb⟩, ?_, ?_, ?_⟩)
  · rintro j m1 H3 ⟨_, _, _, _, E3, _⟩
    exact E3 _ _ p1
  · rintro j m1 H3 v xt ⟨o6, o7, o8, rfl, E3, hT, hQ⟩ hv
    have hj : j < pts.length := by
      have := (List.getElem?_eq_some_iff.mp hv).1
      rw [p2] at this
      exact this
    obtain ⟨t, q1, q2⟩ := p3 j hj
    rw [q1] at hv
    cases hv
    refine ⟨[.int (px pts j), .int (py pts j)], ⟨by simp, rfl, t, rfl, E3 _ _ q2⟩, ?_⟩
    have okx := ok.wx xt
    have hfx : (c.wx xt).fm = none := hfm
    have hix : interactive (c.wx xt).env = false := hint
    have lt : (pts.take j).length = j := by rw [List.length_take]; omega
    have tk : pts.take (j + 1) = pts.take j ++ [(px pts j, py pts j)] := by
      rw [List.take_add_one, List.getElem?_eq_getElem hj]
      unfold px py
      rw [List.getD_eq_getElem?_getD, List.getElem?_eq_getElem hj]
      rfl
    refine try_turn (d := 3) (j := 0) (o6 := none) (o7 := none) okx hfx hix K.toQuoK hp hp2 hF E3 (Nat.le_refl _) (by omega) (by omega) (by omega) (by omega) (hy j hj) hT hQ (by simp [rowsT]; omega) (by simp [rgtsT]; omega) ?_ ?_
    · intro x hx
      obtain ⟨q, _, rfl⟩ := List.mem_map.mp hx
      rw [rowT_len]
      omega
    · intro o8' H4 E4 hT4 hQ4
      refine ⟨_, _, _, rfl, E4, ?_, ?_⟩
      · rw [tk]
        simpa [rowsT] using hT4
      · rw [tk]
        simpa [rgtsT] using hQ4
  rintro m1 H3 ⟨o6, o7, o8, rfl, E3, hT, hQ⟩
  rw [p2, List.take_length] at hT hQ
  have lR : (rowsT p n e pts).length = pts.length := by simp [rowsT]
  have lq : (rgtsT p e pts).length = pts.length := by simp [rgtsT]
  have iF3 := E3.ins hF
  unfold kt_end
  walk_at "w"
  refine (solve_cl (w := n + e + e) dSO K.toQuoK F hp2 iF3 hT hQ (by omega) (by omega) (by omega) (by omega) ?_ ?_).use (by omega) ?_
  · intro x hx
    obtain ⟨q, _, rfl⟩ := List.mem_map.mp hx
    exact ⟨rowT_len, rowT_bd (by omega)⟩
  · intro x hx
    obtain ⟨q, _, rfl⟩ := List.mem_map.mp hx
    exact md (by omega)
  have lS : (sysT (rowsT p n e pts) (rgtsT p e pts)).length = pts.length := by rw [sysT_len, lR]
  rintro v H4 ⟨E4, ⟨rfl, hno⟩ | ⟨z, ans, rfl, hz, la, ba, hs⟩⟩
  · walk_at "w"
    refine ⟨true, rfl, fun _ => ?_, fun h => (by cases h)⟩
    walk_at "w"
    refine ⟨E3.trans E4, .inl ⟨rfl, fun P hP bP ho => ?_⟩⟩
    obtain ⟨ans, hs⟩ := near_sol h0 hP ho lS (fun k hk => sysRow hk) hy (by omega)
    exact hno _ hs
  walk_at "w"
  refine ⟨false, rfl, fun h => (by cases h), fun _ => ?_⟩
  refine TB.nil (TB.cons (TS.assign ok hfm rfl (TE.sliceTo ?_)))
  walk_at "w"
  refine ⟨_, rfl, z, _, rfl, hz, by simp; omega, by omega, ?_⟩
  have ene : ((n : Int) + (e : Int)).toNat = n + e := by omega
  rw [ene]
  have tku : (intL ans).take (n + e) = intL (upL n e ans) := by simp [intL, upL]
  rw [tku]
  have E34 := E3.trans E4
  generalize hH5 : H4 ++ [MO.list (intL (upL n e ans))] = H5
  have E5 : Ext H4 H5 := by rw [← hH5]; exact (Ext.refl H4).app _
  have ku : H5[H4.length]? = some (.list (intL (upL n e ans))) := by rw [← hH5]; exact get_end
  show TB c [some (.ref i), some (.ref r), some (.int (n : Int)), some (.int (e : Int)), some (.ref H.length), some (.ref (H.length + 1)), o6, o7, o8, some (.ref z), some (.ref H4.length), none, none, none] _ _ _
  refine TB.cons (TS.assign ok hfm rfl (TE.addL (TE.sliceFrom ?_)))
  walk_at "w"
  refine ⟨_, rfl, z, _, rfl, E5 _ _ hz, by simp; omega, by omega, ?_⟩
  rw [ene]
  walk_at "w"
  refine ⟨by simp, H5.length, H5.length + 1, _, _, rfl, by simp, get_app get_end, by rw [show H5.length + 1 = (H5 ++ [MO.list ((intL ans).drop (n + e))]).length by simp]; exact get_end, by simp; omega, ?_⟩
  have tkl : (intL ans).drop (n + e) ++ [MV.int 1] = intL (loL n e ans) := by simp [intL, loL]
  rw [tkl]
  generalize hH7 : H5 ++ [MO.list ((intL ans).drop (n + e))] ++ [MO.list [MV.int 1]] ++ [MO.list (intL (loL n e ans))] = H7
  have E7 : Ext H5 H7 := by rw [← hH7]; exact (((Ext.refl H5).app _).app _).app _
  have kl : H7[H5.length + 2]? = some (.list (intL (loL n e ans))) := by
    rw [← hH7, show H5.length + 2 = (H5 ++ [MO.list ((intL ans).drop (n + e))] ++ [MO.list [MV.int 1]]).length by simp]
    exact get_end
  have l7 : (H5 ++ [MO.list ((intL ans).drop (n + e))] ++ [MO.list [MV.int 1]]).length = H5.length + 2 := by simp
  rw [l7]
  show TB c [some (.ref i), some (.ref r), some (.int (n : Int)), some (.int (e : Int)), some (.ref H.length), some (.ref (H.length + 1)), o6, o7, o8, some (.ref z), some (.ref H4.length), some (.ref (H5.length + 2)), none, none] _ _ _
  have E47 := E5.trans E7
  have E07 := E34.trans E47
  have iF7 := E07.ins hF
  have bl : Bd p (loL n e ans) := fun x hx => by
    rcases List.mem_append.mp hx with hx | hx
    · exact ba x (List.mem_of_mem_drop hx)
    · rw [List.mem_singleton.mp hx]; omega
  have bu : Bd p (upL n e ans) := fun x hx => ba x (List.mem_of_mem_take hx)
  refine TB.cons (TS.assignT ok hfm ?_)
  walk_at "w"
  refine (quotient_cl dQU K.toQuoK iF7 F hp2 (E7 _ _ ku) kl bu bl (by simp; omega) (by simp; omega)).use2 (by omega) ?_ ?_
  case refine_2 =>
    rintro C' as H8 ⟨_, h, _⟩
    unfold loL at h
    rw [trim_one] at h
    simp at h
  rintro v H8 ⟨_, t, z1, z2, o, s, rfl, E8, kt, k1, k2, Q⟩
  refine ⟨[.ref z1, .ref z2], ⟨by simp, rfl, t, rfl, kt⟩, ?_⟩
  show TB c [some (.ref i), some (.ref r), some (.int (n : Int)), some (.int (e : Int)), some (.ref H.length), some (.ref (H.length + 1)), o6, o7, o8, some (.ref z), some (.ref H4.length), some (.ref (H5.length + 2)), some (.ref z1), some (.ref z2)] _ _ _
  have near : ∀ P, P.length = n → Bd p P → (offs p P pts).length ≤ e → s = [] ∧ trim o = trim P := fun P hP bP ho =>
    quo_near (by omega) hP bP la Q (sol_near F h0 hP ho hm lS (fun k hk => sysRow hk) g la hs)
  have lo : (trim o).length ≤ 100 := Nat.le_trans (trim_len _ _ rfl) Q.lo
  have ls : s.length ≤ 100 := by
    have h1 := Q.short
    have h2 := trim_len _ (loL n e ans) rfl
    have h3 : (loL n e ans).length ≤ 50 := by simp [loL]; omega
    omega
  have E08 := E07.trans E8
  walk_at "w"
  refine ⟨_, rfl, fun h => ?_, fun h => ?_⟩
  · refine ⟨fun _ => ?_, fun h => (by cases h)⟩
    walk_at "w"
    refine ⟨E08, .inl ⟨rfl, fun P hP bP ho => ?_⟩⟩
    rw [(near P hP bP ho).1] at h
    simp at h
  walk_at "w"
  refine ⟨_, rfl, fun h => ?_, fun h => ?_⟩
  · refine ⟨fun _ => ?_, fun h => (by cases h)⟩
    walk_at "w"
    refine ⟨E08, .inl ⟨rfl, fun P hP bP ho => ?_⟩⟩
    rw [(near P hP bP ho).2] at h
    have := trim_len _ P rfl
    simp at h
    omega
  walk_at "w"
  refine ⟨fun h => (by cases h), fun _ => ?_⟩
  walk_at "w"
  refine ⟨E08, .inr ⟨z1, trim o, rfl, k1, ?_, Q.bo.trim, fun P hP bP ho => (near P hP bP ho).2⟩⟩
  simp at h
  omega
end
noncomputable def k_most_errors_nm : List Str := ["count", "needed"]
noncomputable def k_most_errors : CSs := (.cons (.ret (.call "max" (.cons (.int 0) (.cons (.bin .FloorDiv (.bin .Sub (.loc 0) (.loc 1)) (.int 2)) .nil))))
  .nil)
noncomputable def k_mend_nm : List Str := ["field", "shares", "needed", "error", "count", "found", "wrong"]
noncomputable def k_mend : CSs := (.cons (.try (.cons (.expr (.call "need_shares" (.cons (.loc 0) (.cons (.loc 1) .nil))))
  (.cons (.expr (.call "need_number" (.cons (.loc 2) (.cons (.int 1) (.cons (.call "len" (.cons (.loc 1) .nil)) (.cons (.str "count of shares that suffice") .nil))))))
  .nil)) (.cons "ShareError" (some 3) (.cons (.raiseFrom "CheckError" (.cons (.call "str" (.cons (.loc 3) .nil)) .nil) (.loc 3))
  .nil) .nil))
  (.cons (.assign 4 (.call "most_errors" (.cons (.call "len" (.cons (.loc 1) .nil)) (.cons (.loc 2) .nil))))
  (.cons (.assign 5 (.call "_try" (.cons (.loc 0) (.cons (.loc 1) (.cons (.loc 2) (.cons (.loc 4) .nil))))))
  (.cons (.ite (.cmp .IsNot (.loc 5) CE.none) (.cons (.assign 6 (.comp (.loc 7) ["x", "y"] (.loc 1) (.cons (.cmp .NotEq (.call "value" (.cons (.loc 0) (.cons (.loc 5) (.cons (.loc 7) .nil)))) (.loc 8)) .nil)))
  (.cons (.ite (.cmp .LtE (.call "len" (.cons (.loc 6) .nil)) (.loc 4)) (.cons (.ret (.tup (.cons (.bin .Add (.loc 5) (.bin .Mult (.list (.cons (.int 0) .nil)) (.bin .Sub (.loc 2) (.call "len" (.cons (.loc 5) .nil))))) (.cons (.loc 6) .nil))))
  .nil) .nil)
  .nil)) .nil)
  (.cons (.raise "CheckError" (.cons (.str "more wrong shares than can be found") .nil))
  .nil)))))
theorem most_errors_cl {G : Gx} {prog : Program} {w : World} {f : Addr} {n k : Nat} {H : MH} {xp : Addr → List MV → MH → Prop} (D : GDef G f ["count", "needed"] k_most_errors_nm k_most_errors [])
    (bs : Bs G) (hn : n ≤ 1000) (hk : k ≤ 1000) : CL G prog w 1 f [.int (n : Int), .int (k : Int)] H (fun v H' => v = .int (((n - k) / 2 : Nat) : Int) ∧ H' = H) xp := by
  refine D.cl rfl ?_
  intro c e1 e2 ok hfm hint hnm hX
  show TB c [some (.int (n : Int)), some (.int (k : Int))] _ _ _
  unfold k_most_errors
  walk_at "w"
  refine ⟨_, BinI.div (by decide) (by decide), ?_⟩
  refine BC.max ok.hh ?_
  refine ⟨?_, rfl⟩
  show MV.int _ = MV.int _
  congr 1
  rw [Int.fdiv_eq_ediv_of_nonneg _ (by decide)]
  rcases Nat.le_total k n with h | h
  · obtain ⟨r, rfl⟩ := Nat.exists_eq_add_of_le h
    rw [Nat.add_sub_cancel_left, show ((k + r : Nat) : Int) - (k : Int) = (r : Int) by rw [Int.natCast_add, Int.add_comm, Int.add_sub_cancel]]
    exact Int.max_eq_right (Int.natCast_nonneg (r / 2))
  · rw [Nat.sub_eq_zero_of_le h]
    exact Int.max_eq_left (by omega)
section
variable {G : Gx} {C XE : Addr}
theorem offs_end {p : Int} {row : List Int} {pts : List (Int × Int)} {j : Nat} (h : j < pts.length) : offs p row (pts.take (j + 1)) = offs p row (pts.take j) ++ (if pval p row (px pts j) = py pts j then [] else [px pts j]) := by
  have tk : pts.take (j + 1) = pts.take j ++ [(px pts j, py pts j)] := by
    rw [List.take_add_one, List.getElem?_eq_getElem h]
    unfold px py
    rw [List.getD_eq_getElem?_getD, List.getElem?_eq_getElem h]
    rfl
  unfold offs
  rw [tk, List.filter_append, List.map_append]
  congr 1
  by_cases e : pval p row (px pts j) = py pts j
  · rw [if_pos e]; simp [e]
  · rw [if_neg e]; simp [e]
theorem offs_len {p : Int} {row : List Int} {pts : List (Int × Int)} : (offs p row pts).length ≤ pts.length := by
  unfold offs
  rw [List.length_map]
  exact List.length_filter_le _ _
theorem Src.offs {c : Cx} {d : Nat} (ok : Ok G c (d + 1)) {m : ML} {L fi sh ro i kk r z : Nat} {p : Int} {row : List Int} {pts : List (Int × Int)} {H : MH} (bs : Bs G) (ga : GAtt G C "prime") {fV : Addr} (gV : GFn G "value" fV) (dV : GDef G fV ["field", "row", "x"] k_value_nm k_value [])
    (hm : m.length = L) (h1 : m[fi]? = some (some (.ref i))) (h2 : m[sh]? = some (some (.ref r))) (h3 : m[ro]? = some (some (.ref z))) (hF : Ins H i C kk [("prime", .int p)]) (hP : PtsAt H r pts) (hz : H[z]? = some (.list (intL row))) (hl : pts.length ≤ 1000) (hp : 2 ≤ p) (hp2 : p < 2 ^ 60) {post : MV → MH → Prop}
    (h : post (.ref H.length) (H ++ [.list (intL (offs p row pts))])) :
    Src G (d + 1) c m ["x", "y"] (.loc L) (.cons (.cmp .NotEq (.call "value" (.cons (.loc fi) (.cons (.loc ro) (.cons (.loc L) .nil)))) (.loc (L + 1))) .nil) (.loc sh) H post := by
  obtain ⟨refs, p1, p2, p3⟩ := id hP
  refine Src.list ok (TE.loc ok h2 ?_)
  refine ⟨r, refs, _, rfl, p1, Turns.list (xs := refs) (by omega) (fun j ys H1 => H1 = H ∧ j ≤ pts.length ∧ ys = intL (Mine.offs p row (pts.take j))) ⟨rfl, by omega, rfl⟩ ?_ ?_ ?_⟩
  · rintro j ys H1 ⟨rfl, hj, rfl⟩
    refine ⟨?_, p1⟩
    have := offs_len (p := p) (row := row) (pts := pts.take j)
    rw [List.length_take] at this
    simp only [intL, List.length_map]
    omega
  · rintro j ys H1 v ⟨e, hjl, rfl⟩ hv
    obtain rfl : H = H1 := e.symm
    have hj : j < pts.length := by
      have := (List.getElem?_eq_some_iff.mp hv).1
      rw [p2] at this
      exact this
    obtain ⟨t, q1, q2⟩ := p3 j hj
    rw [q1] at hv
    cases hv
    refine ⟨[.int (px pts j), .int (py pts j)], ⟨by simp, rfl, t, rfl, q2⟩, fun c' sub hnm' => ?_⟩
    have ok' := sub.ok
    have g (k : Nat) (v : MV) (hk : m[k]? = some (some v)) : (m ++ List.map some [MV.int (px pts j), MV.int (py pts j)])[k]? = some (some v) := by
      rw [List.getElem?_append_left (List.getElem?_eq_some_iff.mp hk).1]; exact hk
    have g1 : (m ++ List.map some [MV.int (px pts j), MV.int (py pts j)])[L]? = some (some (.int (px pts j))) := by
      rw [List.getElem?_append_right (by omega), hm, Nat.sub_self]; rfl
    have g2 : (m ++ List.map some [MV.int (px pts j), MV.int (py pts j)])[L + 1]? = some (some (.int (py pts j))) := by
      rw [List.getElem?_append_right (by omega), hm, Nat.add_sub_cancel_left]; rfl
    refine TT.cmp (TE.call ok' gV (TEs.cons (TE.loc ok' (g _ _ h1) (TEs.cons (TE.loc ok' (g _ _ h3) (TEs.cons (TE.loc ok' g1 (TEs.nil ?_)))))))) 
    refine (value_cl dV bs ga hF hz hp hp2).use (by omega) ?_
    rintro _ H3 ⟨rfl, e⟩
    obtain rfl : H = H3 := e.symm
    refine TE.loc ok' g2 ?_
    have hE := offs_end (p := p) (row := row) hj
    by_cases hb : pval p row (px pts j) = py pts j
    · rw [if_pos hb] at hE
      refine ⟨false, by show false = !decide _; simp [hb], fun _ => ⟨fun _ => ⟨rfl, hj, ?_⟩, fun h => (by cases h)⟩, fun h => (by cases h)⟩
      rw [hE, List.append_nil]
    · rw [if_neg hb] at hE
      refine ⟨true, by show true = !decide _; simp [hb], fun h => (by cases h), fun _ => ⟨fun h => (by cases h), fun _ => TE.loc ok' g1 ⟨rfl, hj, ?_⟩⟩⟩
      rw [hE]
      simp [intL]
  · rintro ys H1 ⟨e, _, rfl⟩
    obtain rfl : H = H1 := e.symm
    rw [p2, List.take_length]
    exact h
end
structure NshK (G : Gx) (C CE : Addr) : Prop extends NeedK G CE where
  att : GAtt G C "prime"
  fn : ∃ f, GMth G C "need" f ∧ GDef G f ["self", "a"] k_Field_need_nm k_Field_need []
section
variable {G : Gx} {C CE : Addr}
theorem need_shares_cl2 {prog : Program} {w : World} {f : Addr} {i kk r : Nat} {p : Int} {pts : List (Int × Int)} {H : MH} {xp : Addr → List MV → MH → Prop} (D : GDef G f ["field", "shares"] k_need_shares_nm k_need_shares [])
    (K : NshK G C CE) (hF : Ins H i C kk [("prime", .int p)]) (hP : PtsAt H r pts) (hl : pts.length ≤ 1000) (g : Gs p pts) :
    CL G prog w 4 f [.ref i, .ref r] H (fun v H' => v = .ref r ∧ Ext H H') xp := by
  have bs := K.bs
  obtain ⟨fN, gN, dN⟩ := K.fn
  refine D.cl rfl ?_
  intro c e1 e2 ok hfm hint hnm hX
  subst e1 e2
  show TB c [some (.ref i), some (.ref r), none, none, none] _ _ _
  unfold k_need_shares
  walk_at "w"
  refine ⟨by simp, ?_⟩
  refine TB.cons (TS.forL' ok hfm ?_)
  walk_at "w"
  obtain ⟨refs, p1, p2, p3⟩ := id hP
  refine ⟨r, refs, rfl, get_app p1, fun j m1 H3 => ∃ o3 o4, m1 = [some (.ref i), some (.ref r), some (.ref H.length), o3, o4] ∧ Ext H H3 ∧ H3[H.length]? = some (.list (intL ((List.range j).map (px pts)))), ⟨_, _, rfl, (Ext.refl H).app _, get_end⟩, ?_, ?_, ?_⟩
  · rintro j m1 H3 ⟨_, _, _, E, _⟩
    exact E _ _ p1
  · rintro j m1 H3 v xt ⟨o3, o4, rfl, E, hs⟩ hv
    have hj : j < pts.length := by
      have := (List.getElem?_eq_some_iff.mp hv).1
      rw [p2] at this
      exact this
    obtain ⟨t, q1, q2⟩ := p3 j hj
    rw [q1] at hv
    cases hv
    refine ⟨[.int (px pts j), .int (py pts j)], ⟨by simp, rfl, t, rfl, E _ _ q2⟩, ?_⟩
    have okx := ok.wx xt
    have hfx : (c.wx xt).fm = none := hfm
    have hix : interactive (c.wx xt).env = false := hint
    show TB (c.wx xt) [some (.ref i), some (.ref r), some (.ref H.length), some (.int (px pts j)), some (.int (py pts j))] _ _ _
    refine TB.gen2 fun PP hPP => ?_
    have iF := E.ins hF
    have gx := g.x j hj
    have gy := g.y j hj
    walk_at "w"
    refine (need_cl dN K.toNeedK K.att iF (by omega) gx.2).use (by decide) ?_
    rintro _ H1 ⟨rfl, rfl⟩
    walk_at "w"
    refine (need_cl dN K.toNeedK K.att iF gy.1 gy.2).use (by decide) ?_
    rintro _ H1 ⟨rfl, rfl⟩
    walk_at "w"
    refine ⟨false, by show false = decide _; simp; omega, fun h => (by cases h), fun _ => ?_⟩
    walk_at "w"
    refine ⟨_, Cq.inI hs, ?_⟩
    have hn : (((List.range j).map (px pts)).any (· == px pts j)) = false := by
      rw [List.any_eq_false]
      intro x hx
      obtain ⟨k, hk, rfl⟩ := List.mem_map.mp hx
      have hk := List.mem_range.mp hk
      intro e
      have := g.d k j (by omega) hj (by simpa using e)
      omega
    rw [hn]
    refine ⟨fun h => (by cases h), fun _ => ?_⟩
    walk_at "w"
    refine ⟨fun h => (by cases h), fun _ => ?_⟩
    walk_at "w"
    refine ⟨_, _, rfl, hs, ?_⟩
    walk_at "w"
    refine ⟨_, hs, by simp; omega, ?_⟩
    walk_at "w"
    refine hPP _ _ _ ⟨_, _, rfl, E.set (Nat.le_refl _), ?_⟩
    rw [List.getElem?_set_self (List.getElem?_eq_some_iff.mp hs).1, List.range_succ]
    simp [intL]
  · rintro m1 H3 ⟨o3, o4, rfl, E, _⟩
    walk_at "w"
    exact ⟨rfl, E⟩
end
structure MndK (G : Gx) (C XE CK : Addr) : Prop extends MendK G C XE where
  P : NshK G C XE
  nsh : ∃ f, GFn G "need_shares" f ∧ GDef G f ["field", "shares"] k_need_shares_nm k_need_shares []
  xk : GExc G "CheckError" CK bmV
  va : ∃ f, GFn G "value" f ∧ GDef G f ["field", "row", "x"] k_value_nm k_value []
  me : ∃ f, GFn G "most_errors" f ∧ GDef G f ["count", "needed"] k_most_errors_nm k_most_errors []
  ty : ∃ f, GFn G "_try" f ∧ GDef G f ["field", "shares", "needed", "count"] k_u_try_nm k_u_try []
noncomputable def Near (p : Int) (n : Nat) (pts : List (Int × Int)) (P : List Int) : Prop := P.length = n ∧ Bd p P ∧ (offs p P pts).length ≤ (pts.length - n) / 2
noncomputable def MendP (p : Int) (n : Nat) (pts : List (Int × Int)) (H : MH) (v : MV) (H' : MH) : Prop := Ext H H' ∧ ∃ t z w P, v = .ref t ∧ H'[t]? = some (.tup [.ref z, .ref w]) ∧ H'[z]? = some (.list (intL P)) ∧ H'[w]? = some (.list (intL (offs p P pts))) ∧ Near p n pts P
theorem offs_congr {p : Int} (hp : 0 < p) {a b : List Int} {pts : List (Int × Int)} (h : ∀ x, pz a x = pz b x) : offs p a pts = offs p b pts := by
  unfold offs
  congr 1
  refine List.filter_congr fun q _ => ?_
  rw [show pval p a q.1 = pval p b q.1 from Cg.small (((pval_pz p a q.1).trans (Cg.of (by rw [h]))).trans (pval_pz p b q.1).symm) (pval_bd hp _ _) (pval_bd hp _ _)]
section
variable {G : Gx} {C XE CK : Addr}
theorem mend_cl {prog : Program} {w0 : World} {f : Addr} {i kk r n : Nat} {p : Int} {pts : List (Int × Int)} {H : MH} (D : GDef G f ["field", "shares", "needed"] k_mend_nm k_mend []) (K : MndK G C XE CK) (F : Fer p) (hp2 : p < 2 ^ 60)
    (hF : Ins H i C kk [("prime", .int p)]) (hP : PtsAt H r pts) (g : Gp p pts) (gs : Gs p pts) (h0 : 1 ≤ n) (hn : n ≤ pts.length) (hl : pts.length ≤ 40) :
    CL G prog w0 7 f [.ref i, .ref r, .int (n : Int)] H (MendP p n pts H) (fun C' _ H' => C' = CK ∧ Ext H H' ∧ ∀ P, ¬ Near p n pts P) := by
  have bs := K.bs
  have ga := K.att
  have hp := F.two
  obtain ⟨fS, gS, dS⟩ := K.nsh
  obtain ⟨fN, gN, dN⟩ := K.P.nn
  obtain ⟨fV, gV, dV⟩ := K.va
  obtain ⟨fM, gM, dM⟩ := K.me
  obtain ⟨fT, gT, dT⟩ := K.ty
  refine D.cl rfl ?_
  intro c e1 e2 ok hfm hint hnm hX
  subst e1 e2
  show TB c [some (.ref i), some (.ref r), some (.int (n : Int)), none, none, none, none] _ _ _
  unfold k_mend
  refine TB.cons (TS.tryN ok hfm ?_)
  generalize hXX : (fun (_ : Addr) (_ : List MV) (_ : ML) (_ : MH) => False) = X
  have okX := ok.wX X
  have hfX : (c.wX X).fm = none := hfm
  have hiX : interactive (c.wX X).env = false := hint
  refine TB.cons (TS.expr hiX (TE.call okX gS (TEs.cons (TE.loc okX rfl (TEs.cons (TE.loc okX rfl (TEs.nil ?_)))))))
  refine (need_shares_cl2 dS K.P hF hP (by omega) gs).use (by decide) ?_
  rintro _ H1 ⟨rfl, E1⟩
  have iF1 := E1.ins hF
  have hP1 := hP.ext E1
  refine TB.cons (TS.expr hiX (TE.call okX gN (TEs.cons (TE.loc okX rfl (TEs.cons (TE.int (TEs.cons (TE.len okX bs (TE.loc okX rfl (hP1.len (by omega) (TEs.cons (TE.str ?_))))))))))))
  refine TEs.nil ?_
  refine (need_number_cl dN bs (by omega) (by omega)).use (by decide) ?_
  rintro _ H2 ⟨rfl, e⟩
  obtain rfl : H1 = H2 := e.symm
  refine TB.nil ?_
  show TB c [some (.ref i), some (.ref r), some (.int (n : Int)), none, none, none, none] _ _ _
  walk_at "w"
  refine hP1.len (by omega) ?_
  walk_at "w"
  refine (most_errors_cl dM bs (by omega) (by omega)).use (by decide) ?_
  rintro _ H2 ⟨rfl, e⟩
  obtain rfl : H1 = H2 := e.symm
  walk_at "w"
  generalize he : (pts.length - n) / 2 = e
  refine (try_cl dT K.toMendK F hp2 iF1 hP1 g gs.y h0 hl (by omega) (by omega)).use (by decide) ?_
  have out : ∀ {H' : MH} {o6 : Option MV} {v : MV}, Ext H H' → (∀ P, ¬ Near p n pts P) → TB c [some (.ref i), some (.ref r), some (.int (n : Int)), none, some (.int (e : Int)), some v, o6] (.cons (.raise "CheckError" (.cons (.str "more wrong shares than can be found") .nil)) .nil) H' (fun fl _ H' => MendP p n pts H (retv fl) H') := by
    intro H' o6 v E no
    refine TB.cons (TS.raise ok K.xk ?_)
    walk_at "w"
    rw [hX]
    exact ⟨by simp, rfl, E, no⟩
  rintro v H2 ⟨E2, ⟨rfl, hno⟩ | ⟨z, o, rfl, hz, lo, bo, hs⟩⟩
  · walk_at "w"
    refine ⟨false, rfl, fun h => (by cases h), fun _ => TB.nil ?_⟩
    exact out (E1.trans E2) fun P hN => hno P hN.1 hN.2.1 (by have := hN.2.2; omega)
  walk_at "w"
  refine ⟨true, rfl, fun _ => ?_, fun h => (by cases h)⟩
  have E12 := E1.trans E2
  have iF2 := E12.ins hF
  have hP2 := hP.ext E12
  have ol := offs_len (p := p) (row := o) (pts := pts)
  refine TB.cons (TS.assignC ok hfm (Src.offs ok bs ga gV dV rfl rfl rfl rfl iF2 hP2 hz (by omega) hp hp2 ?_))
  show TB c [some (.ref i), some (.ref r), some (.int (n : Int)), none, some (.int (e : Int)), some (.ref z), some (.ref H2.length)] _ _ _
  generalize hH3 : H2 ++ [MO.list (intL (offs p o pts))] = H3
  have E3 : Ext H2 H3 := by rw [← hH3]; exact (Ext.refl H2).app _
  have kw : H3[H2.length]? = some (.list (intL (offs p o pts))) := by rw [← hH3]; exact get_end
  have kz := E3 _ _ hz
  have E13 := E12.trans E3
  walk_at "w"
  refine ⟨_, rfl, fun h => ?_, fun h => TB.nil (TB.nil (out E13 fun P hN => ?_))⟩
  · have h : (offs p o pts).length ≤ e := by simpa using h
    refine TB.cons (TS.ret (TE.tup (TEs.cons (TE.addL (TE.loc ok rfl (TE.mulL ?_))))))
    walk_at "w"
    refine ⟨by decide, ?_⟩
    have l1 : (H3 ++ [MO.list [MV.int 0]]).length = H3.length + 1 := by simp
    walk_at "w"
    refine BC.lenI (get_app kz) (by omega) ?_
    walk_at "w"
    have en : ((n : Int) - (o.length : Int)).toNat = n - o.length := by omega
    refine ⟨H3.length, .int 0, _, rfl, rfl, get_end, by omega, by omega, z, _, _, _, rfl, rfl, get_app (get_app kz), get_end, ?_, ?_⟩
    · simp only [intL, List.length_map, List.length_replicate]
      omega
    rw [en]
    generalize hH4 : H3 ++ [MO.list [MV.int 0]] ++ [MO.list (List.replicate (n - o.length) (.int 0))] = H4
    have E4 : Ext H3 H4 := by rw [← hH4]; exact ((Ext.refl H3).app _).app _
    refine TEs.cons (TE.loc ok rfl (TEs.nil ⟨by simp, ?_⟩))
    have ep : intL o ++ List.replicate (n - o.length) (MV.int 0) = intL (padTo n o) := by simp [intL, padTo]
    rw [ep]
    have eo : offs p o pts = offs p (padTo n o) pts := offs_congr (by omega) fun x => pz_pad.symm
    refine ⟨E13.trans ((E4.app _).app _), _, H4.length, H2.length, padTo n o, rfl, get_end, get_app get_end, ?_, padTo_len lo, ?_, ?_⟩
    · rw [← eo]
      exact get_app (get_app (E4 _ _ kw))
    · exact fun x hx => (List.mem_append.mp hx).elim (fun h => bo x h) (fun h => by rw [List.eq_of_mem_replicate h]; omega)
    · rw [← eo]
      omega
  · have h : ¬ (offs p o pts).length ≤ e := by simpa using h
    refine h ?_
    have h1 := hs P hN.1 hN.2.1 (by have := hN.2.2; omega)
    rw [h1, offs_congr (by omega) (fun x => trim_pz x _ P rfl)]
    have := hN.2.2
    omega
end
noncomputable def k12_law_nm : List Str := ["script", "field", "needed", "count", "shares", "near", "number", "row", "off", "found", "told"]
noncomputable def k12_4 : CSs := (.cons (.ite (.cmp .Gt (.call "len" (.cons (.loc 5) .nil)) (.int 1)) (.cons (.ret (.bool false))
  .nil) .nil)
  (.cons (.ite (.cmp .NotEq (.tst (.cmp .Eq (.loc 9) (.str ""))) (.tst (.cmp .Eq (.call "len" (.cons (.loc 5) .nil)) (.int 1)))) (.cons (.ret (.bool false))
  .nil) .nil)
  (.cons (.ite (.cmp .NotEq (.loc 9) (.str "")) (.cons (.ret (.tst (.cmp .Eq (.loc 10) (.tup (.cons (.list .nil) (.cons (.list .nil) .nil))))))
  .nil) .nil)
  (.cons (.ret (.tst (.cmp .Eq (.loc 10) (.sub (.loc 5) (.int 0)))))
  .nil))))
noncomputable def k12_3 : CSs := (.cons (.assign 9 (.str ""))
  (.cons (.assign 10 (.tup (.cons (.list .nil) (.cons (.list .nil) .nil))))
  (.cons (.try (.cons (.assign 10 (.call "mend" (.cons (.loc 1) (.cons (.loc 4) (.cons (.loc 2) .nil)))))
  .nil) (.cons "ValueError" none (.cons (.assign 9 (.str "ValueError"))
  .nil) .nil))
  k12_4)))
noncomputable def k12_2 : CSs := (.cons (.assign 5 (.list .nil))
  (.cons (.for [6] (.call "range" (.cons (.bin .Pow (.int 11) (.loc 2)) .nil)) (.cons (.assign 7 (.comp (.bin .Mod (.bin .FloorDiv (.loc 6) (.bin .Pow (.int 11) (.loc 11))) (.int 11)) ["j"] (.call "range" (.cons (.loc 2) .nil)) .nil))
  (.cons (.assign 8 (.comp (.loc 11) ["x", "y"] (.loc 4) (.cons (.cmp .NotEq (.call "value" (.cons (.loc 1) (.cons (.loc 7) (.cons (.loc 11) .nil)))) (.loc 12)) .nil)))
  (.cons (.ite (.cmp .LtE (.call "len" (.cons (.loc 8) .nil)) (.call "most_errors" (.cons (.loc 3) (.cons (.loc 2) .nil)))) (.cons (.expr (.meth (.loc 5) "append" (.cons (.tup (.cons (.loc 7) (.cons (.loc 8) .nil))) .nil)))
  .nil) .nil)
  .nil))))
  k12_3))
noncomputable def k12_law : CSs := (.cons (.assign 1 (.call "Field" (.cons (.int 11) .nil)))
  (.cons (.assign 2 (.bin .Add (.int 1) (.bin .Mod (.call "_law_cell" (.cons (.loc 0) (.cons (.int 0) .nil))) (.int 2))))
  (.cons (.assign 3 (.bin .Add (.loc 2) (.bin .Mod (.call "_law_cell" (.cons (.loc 0) (.cons (.int 1) .nil))) (.int 5))))
  (.cons (.assign 4 (.comp (.tup (.cons (.bin .Add (.loc 11) (.int 1)) (.cons (.bin .Mod (.call "_law_cell" (.cons (.loc 0) (.cons (.bin .Add (.int 2) (.loc 11)) .nil))) (.int 11)) .nil))) ["k"] (.call "range" (.cons (.loc 3) .nil)) .nil))
  (.cons (.ite (.cmp .Eq (.bin .Mod (.call "_law_cell" (.cons (.loc 0) (.cons (.int 9) .nil))) (.int 2)) (.int 0)) (.cons (.assign 4 (.comp (.tup (.cons (.bin .Add (.loc 11) (.int 1)) (.cons (.bin .Mod (.bin .Add (.bin .Add (.call "_law_cell" (.cons (.loc 0) (.cons (.int 2) .nil))) (.bin .Mult (.bin .Mult (.loc 11) (.call "_law_cell" (.cons (.loc 0) (.cons (.int 3) .nil)))) (.bin .Sub (.loc 2) (.int 1)))) (.tst (.cmp .Eq (.bin .Mod (.call "_law_cell" (.cons (.loc 0) (.cons (.bin .Add (.int 4) (.loc 11)) .nil))) (.int 4)) (.int 0)))) (.int 11)) .nil))) ["k"] (.call "range" (.cons (.loc 3) .nil)) .nil))
  .nil) .nil)
  k12_2)))))
noncomputable def iD (l : List Int) : List PyData := l.map .int
noncomputable def tD (P W : List Int) : PyData := .tuple [.list (iD P), .list (iD W)]
theorem iD_eqv : ∀ l, PyData.eqvAll (iD l) (iD l) = true
  | [] => by simp [iD, PyData.eqvAll]
  | a :: l => by
    show (PyData.eqv (.int a) (.int a) && PyData.eqvAll (iD l) (iD l)) = true
    rw [iD_eqv l]
    simp [PyData.eqv]
theorem tD_eqv {P W : List Int} : PyData.eqv (tD P W) (tD P W) = true := by
  simp [tD, PyData.eqv, PyData.eqvAll, iD_eqv]
theorem iD_can : ∀ l, PyData.canLayAll0 (iD l) = true
  | [] => by simp [iD, PyData.canLayAll0]
  | a :: l => by
    show (PyData.canLay0 (.int a) && PyData.canLayAll0 (iD l)) = true
    rw [iD_can l]
    simp [PyData.canLay0]
theorem iD_depth : ∀ l, PyData.depthAll (iD l) ≤ 5
  | [] => by simp [iD, PyData.depthAll]
  | a :: l => by
    have := iD_depth l
    show PyData.depthAll (PyData.int a :: iD l) ≤ 5
    simp [PyData.depthAll, PyData.depth]
    omega
theorem tD_shaped {P W : List Int} : PySem.SeqAt.shaped (tD P W) = true := by
  have h1 := iD_depth P
  have h2 := iD_depth W
  unfold PySem.SeqAt.shaped
  rw [Bool.and_eq_true]
  refine ⟨by simp [tD, PyData.canLay0, PyData.canLayAll0, iD_can], decide_eq_true ?_⟩
  simp only [tD, PyData.depth, PyData.depthAll]
  omega
theorem RD.ints {H : MH} {z : Nat} {l : List Int} (h : H[z]? = some (.list (intL l))) : RD H (.ref z) (.list (iD l)) := by
  refine RD.list h (by simp [iD, intL]) ?_
  intro k v d e1 e2
  obtain ⟨a, rfl, ha⟩ := intL_get e1
  have : (iD l)[k]? = some (.int a) := by unfold iD; rw [List.getElem?_map, ha]; rfl
  rw [this] at e2
  cases e2
  exact .int
theorem RD.tD {H : MH} {t z w : Nat} {P W : List Int} (h : H[t]? = some (.tup [.ref z, .ref w])) (hz : H[z]? = some (.list (intL P))) (hw : H[w]? = some (.list (intL W))) : RD H (.ref t) (tD P W) := by
  refine RD.tup h rfl ?_
  intro k v d e1 e2
  match k with
  | 0 => cases e1; cases e2; exact RD.ints hz
  | 1 => cases e1; cases e2; exact RD.ints hw
  | k + 2 => simp at e1
noncomputable def NearAt (n : Nat) (pts : List (Int × Int)) (H : MH) (a j : Nat) : Prop :=
  ((∀ k, k < j → ¬ Near 11 n pts (dg 11 n k)) ∧ H[a]? = some (.list [])) ∨ ∃ k t z w, k < j ∧ Near 11 n pts (dg 11 n k) ∧ H[a]? = some (.list [.ref t]) ∧ H[t]? = some (.tup [.ref z, .ref w]) ∧ H[z]? = some (.list (intL (dg 11 n k))) ∧ H[w]? = some (.list (intL (offs 11 (dg 11 n k) pts)))
structure K12 (G : Gx) (C XE CK : Addr) : Prop where
  F : FieldK G C
  M : MndK G C XE CK
  mn : ∃ f, GFn G "mend" f ∧ GDef G f ["field", "shares", "needed"] k_mend_nm k_mend []
  ve : nsIn G.K mainGlobals "ValueError" = some none
section
variable {G : Gx} {c : Cx} {sa C XE CK : Addr} {ns : List Int}
theorem law12_4a (ok : Ok G c 200) (hfm : c.fm = none) (bs : Bs G) {H : MH} {i a t : Nat} {o2 o3 o4 o6 o7 o8 : Option MV} (ha : H[a]? = some (.list [])) {u v : Nat} (ht : H[t]? = some (.tup [.ref u, .ref v])) (hu : H[u]? = some (.list [])) (hv : H[v]? = some (.list [])) :
    TB c [some (.glob sa), some (.ref i), o2, o3, o4, some (.ref a), o6, o7, o8, some (.str "ValueError"), some (.ref t)] k12_4 H (fun fl _ _ => retv fl = .bool true) := by
  unfold k12_4
  walk_at "w"
  refine BC.lenI (ns := []) ha (by decide) ?_
  walk_at "w"
  refine ⟨false, rfl, fun h => (by cases h), fun _ => ?_⟩
  walk_at "w"
  refine TV.cmp ?_
  walk_at "w"
  refine ⟨false, rfl, ?_⟩
  refine TE.tst (TV.cmp (TE.len ok bs (TE.loc ok rfl (BC.lenI (ns := []) ha (by decide) (TE.int ⟨false, rfl, ?_⟩)))))
  refine ⟨false, rfl, fun h => (by cases h), fun _ => ?_⟩
  walk_at "w"
  refine ⟨true, rfl, fun _ => ?_, fun h => (by cases h)⟩
  refine TB.cons (TS.ret (TE.tst (TV.cq ?_)))
  walk_at "w"
  refine ⟨by simp, ?_⟩
  walk_at "w"
  refine ⟨by simp, TEs.nil ⟨by simp, ?_⟩⟩
  refine ⟨_, Cq.eqD ok (da := tD [] []) (db := tD [] []) (RD.tD (get_app (get_app (get_app ht))) (get_app (get_app (get_app hu))) (get_app (get_app (get_app hv)))) (RD.tD get_end (get_app (get_app get_end)) (get_app get_end)) tD_shaped tD_shaped, ?_⟩
  rw [tD_eqv]
  rfl
theorem law12_4b (ok : Ok G c 200) (hfm : c.fm = none) (bs : Bs G) {H : MH} {i a t b : Nat} {o2 o3 o4 o6 o7 o8 : Option MV} {P W : List Int} (ha : H[a]? = some (.list [.ref b])) {u v u2 v2 : Nat} (ht : H[t]? = some (.tup [.ref u, .ref v])) (hu : H[u]? = some (.list (intL P))) (hv : H[v]? = some (.list (intL W)))
    (ht2 : H[b]? = some (.tup [.ref u2, .ref v2])) (hu2 : H[u2]? = some (.list (intL P))) (hv2 : H[v2]? = some (.list (intL W))) :
    TB c [some (.glob sa), some (.ref i), o2, o3, o4, some (.ref a), o6, o7, o8, some (.str ""), some (.ref t)] k12_4 H (fun fl _ _ => retv fl = .bool true) := by
  unfold k12_4
  walk_at "w"
  refine BC.len ha (by simp) ?_
  walk_at "w"
  refine ⟨false, rfl, fun h => (by cases h), fun _ => ?_⟩
  walk_at "w"
  refine TV.cmp ?_
  walk_at "w"
  refine ⟨true, rfl, ?_⟩
  refine TE.tst (TV.cmp (TE.len ok bs (TE.loc ok rfl (BC.len ha (by simp) (TE.int ⟨true, rfl, ?_⟩)))))
  refine ⟨false, rfl, fun h => (by cases h), fun _ => ?_⟩
  walk_at "w"
  refine ⟨false, rfl, fun h => (by cases h), fun _ => ?_⟩
  refine TB.nil (TB.cons (TS.ret (TE.tst (TV.cq ?_))))
  walk_at "w"
  refine ⟨.ref b, Sq.list ha ⟨by simp, .inl ⟨by omega, rfl⟩⟩, ?_⟩
  refine ⟨_, Cq.eqD ok (da := tD P W) (db := tD P W) (RD.tD ht hu hv) (RD.tD ht2 hu2 hv2) tD_shaped tD_shaped, ?_⟩
  rw [tD_eqv]
  rfl
theorem law12_3 (ok : Ok G c 200) (hfm : c.fm = none) (hint : interactive c.env = false) (K : K12 G C XE CK) {H : MH} {i kk a r n : Nat} {pts : List (Int × Int)} {o3 o6 o7 o8 : Option MV} (F : Fer 11) (hF : Ins H i C kk [("prime", .int 11)]) (hP : PtsAt H r pts) (g : Gp 11 pts) (gs : Gs 11 pts) (h0 : 1 ≤ n) (hn : n ≤ pts.length) (hl : pts.length ≤ 40)
    (hN : NearAt n pts H a (11 ^ n)) : TB c [some (.glob sa), some (.ref i), some (.int (n : Int)), o3, some (.ref r), some (.ref a), o6, o7, o8, none, none] k12_3 H (fun fl _ _ => retv fl = .bool true) := by
  have bs := K.F.bs
  obtain ⟨fM, gM, dM⟩ := K.mn
  have one : ∀ k P, Near 11 n pts (dg 11 n k) → Near 11 n pts P → P = dg 11 n k := fun k P h1 h2 =>
    near_one (e := (pts.length - n) / 2) F g (by omega) h2.1 h1.1 h2.2.1 h1.2.1 h2.2.2 h1.2.2
  unfold k12_3
  walk_at "w"
  refine ⟨by simp, ?_⟩
  walk_at "w"
  refine ⟨by simp, TEs.nil ⟨by simp, ?_⟩⟩
  generalize hH1 : H ++ [MO.list []] ++ [MO.list []] ++ [MO.tup [.ref H.length, .ref (H ++ [MO.list []]).length]] = H1
  have E1 : Ext H H1 := by rw [← hH1]; exact (((Ext.refl H).app _).app _).app _
  have kt : H1[(H ++ [MO.list []] ++ [MO.list []]).length]? = some (.tup [.ref H.length, .ref (H ++ [MO.list []]).length]) := by rw [← hH1]; exact get_end
  have k1 : H1[H.length]? = some (.list []) := by rw [← hH1]; exact get_app (get_app get_end)
  have k2 : H1[(H ++ [MO.list []]).length]? = some (.list []) := by rw [← hH1]; exact get_app get_end
  generalize (H ++ [MO.list []] ++ [MO.list []]).length = t at *
  generalize (H ++ [MO.list []]).length = t2 at *
  have iF1 := E1.ins hF
  have hP1 := hP.ext E1
  refine TB.cons (TS.tryA ok hfm ?_)
  generalize hX : (fun (C_1 : Addr) (as : List MV) (m1 : ML) (H1_1 : MH) => _) = X
  have okX := ok.wX X
  have hfX : (c.wX X).fm = none := hfm
  have hiX : interactive (c.wX X).env = false := hint
  show TB (c.wX X) [some (.glob sa), some (.ref i), some (.int (n : Int)), o3, some (.ref r), some (.ref a), o6, o7, o8, some (.str ""), some (.ref t)] _ _ _
  refine TB.cons (TS.assign okX hfX rfl (TE.call okX gM (TEs.cons (TE.loc okX rfl (TEs.cons (TE.loc okX rfl (TEs.cons (TE.loc okX rfl (TEs.nil ?_)))))))))
  refine (mend_cl dM K.M F (by decide) iF1 hP1 g gs h0 hn hl).use2 (d' := 200) (by decide) ?_ ?_
  · rintro v H2 ⟨E2, q, z, w, P, rfl, kq, kz, kw, nP⟩
    have E12 := E1.trans E2
    refine TB.nil ?_
    rcases hN with ⟨hno, ha⟩ | ⟨k, t', z', w', hk, nk, ha, ht', hz', hw'⟩
    · refine absurd ?_ (hno (nmb 11 P) ?_)
      · rw [← nP.1, dg_nmb (by decide) P nP.2.1, nP.1]
        exact nP
      · rw [← nP.1]
        exact nmb_lt (by decide) P nP.2.1
    · have e := one k P nk nP
      subst e
      exact law12_4b ok hfm bs (E12 _ _ ha) kq kz kw (E12 _ _ ht') (E12 _ _ hz') (E12 _ _ hw')
  · rintro C' as H2 ⟨rfl, E2, hno⟩
    have E12 := E1.trans E2
    subst hX
    refine ⟨takesV K.M.xk K.ve, ?_⟩
    rcases hN with ⟨_, ha⟩ | ⟨k, t', z', w', hk, nk, ha, ht', hz', hw'⟩
    · exact law12_4a ok hfm bs (E12 _ _ ha) (E2 _ _ kt) (E2 _ _ k1) (E2 _ _ k2)
    · exact absurd nk (hno _)
end
theorem NearAt.ext {n a j : Nat} {pts : List (Int × Int)} {H H' : MH} (h : NearAt n pts H a j) (E : Ext H H') : NearAt n pts H' a j := by
  rcases h with ⟨h1, h2⟩ | ⟨k, t, z, w, h1, h2, h3, h4, h5, h6⟩
  · exact .inl ⟨h1, E _ _ h2⟩
  · exact .inr ⟨k, t, z, w, h1, h2, E _ _ h3, E _ _ h4, E _ _ h5, E _ _ h6⟩
theorem NearAt.skip {n a j : Nat} {pts : List (Int × Int)} {H : MH} (h : NearAt n pts H a j) (hn : ¬ Near 11 n pts (dg 11 n j)) : NearAt n pts H a (j + 1) := by
  rcases h with ⟨h1, h2⟩ | ⟨k, t, z, w, h1, h2, h3⟩
  · refine .inl ⟨fun k hk => ?_, h2⟩
    by_cases e : k = j
    · rw [e]; exact hn
    · exact h1 k (by omega)
  · exact .inr ⟨k, t, z, w, by omega, h2, h3⟩
theorem isP11' : isP 11 := by
  refine ⟨by decide, fun k h1 h2 => ?_⟩
  have h3 : k ≤ 3 := by
    refine Int.not_lt.mp fun q => ?_
    have : 4 * 4 ≤ k * k := Int.mul_le_mul (by omega) (by omega) (by omega) (by omega)
    omega
  have : k = 2 ∨ k = 3 := by omega
  rcases this with rfl | rfl <;> decide
theorem fer11' : Fer 11 := Fer.of (by decide) (by decide +kernel)
noncomputable def pts12 (y : Nat → Int) (cnt : Nat) : List (Int × Int) := (List.range cnt).map fun (k : Nat) => ((k : Int) + 1, y k)
theorem pts12_len {y : Nat → Int} {cnt : Nat} : (pts12 y cnt).length = cnt := by simp [pts12]
theorem pts12_at {y : Nat → Int} {cnt k : Nat} (h : k < cnt) : (pts12 y cnt).getD k (0, 0) = ((k : Int) + 1, y k) := by
  unfold pts12
  rw [List.getD_eq_getElem?_getD, List.getElem?_map, List.getElem?_range h]
  rfl
theorem px12 {y : Nat → Int} {cnt k : Nat} (h : k < cnt) : px (pts12 y cnt) k = (k : Int) + 1 := by unfold px; rw [pts12_at h]
theorem py12 {y : Nat → Int} {cnt k : Nat} (h : k < cnt) : py (pts12 y cnt) k = y k := by unfold py; rw [pts12_at h]
theorem gs12 {y : Nat → Int} {cnt : Nat} (hc : cnt ≤ 10) (hy : ∀ k, 0 ≤ y k ∧ y k < 11) : Gs 11 (pts12 y cnt) := by
  refine ⟨fun k hk => ?_, fun k hk => ?_, fun j k hj hk e => ?_⟩
  · rw [pts12_len] at hk
    rw [px12 hk]; omega
  · rw [pts12_len] at hk
    rw [py12 hk]; exact hy k
  · rw [pts12_len] at hj hk
    rw [px12 hj, px12 hk] at e
    omega
theorem gp12 {y : Nat → Int} {cnt : Nat} (hc : cnt ≤ 10) (hy : ∀ k, 0 ≤ y k ∧ y k < 11) : Gp 11 (pts12 y cnt) := by
  refine ⟨fun q hq => ?_, fun q hq => ?_, ?_⟩
  · obtain ⟨k, hk, rfl⟩ := List.mem_map.mp hq
    have := List.mem_range.mp hk
    show 0 ≤ (k : Int) + 1 ∧ (k : Int) + 1 < 11
    omega
  · obtain ⟨k, hk, rfl⟩ := List.mem_map.mp hq
    exact hy k
  · unfold pts12
    rw [List.map_map]
    unfold List.Nodup
    rw [List.pairwise_map]
    refine List.Pairwise.imp ?_ (List.nodup_range (n := cnt))
    intro a b h e
    have e : (a : Int) + 1 = (b : Int) + 1 := e
    omega
section
variable {G : Gx} {c : Cx} {sa C XE CK : Addr} {ns : List Int}
theorem law12_2 (ok : Ok G c 200) (hfm : c.fm = none) (hint : interactive c.env = false) (K : K12 G C XE CK) {H : MH} {i kk r n : Nat} {pts : List (Int × Int)} (F : Fer 11) (hF : Ins H i C kk [("prime", .int 11)]) (hP : PtsAt H r pts) (g : Gp 11 pts) (gs : Gs 11 pts) (h0 : 1 ≤ n) (h2 : n ≤ 2) (hn : n ≤ pts.length) (hl : pts.length ≤ 40) :
    TB c [some (.glob sa), some (.ref i), some (.int (n : Int)), some (.int (pts.length : Int)), some (.ref r), none, none, none, none, none, none] k12_2 H (fun fl _ _ => retv fl = .bool true) := by
  have bs := K.F.bs
  have ga := K.F.att
  obtain ⟨fV, gV, dV⟩ := K.M.va
  obtain ⟨fM, gM, dM⟩ := K.M.me
  have hq : 11 ^ n ≤ 121 := by
    have : n = 1 ∨ n = 2 := by omega
    rcases this with rfl | rfl <;> decide
  have hcast : (11 : Int) ^ (n : Int).toNat = ((11 ^ n : Nat) : Int) := by
    rw [Int.toNat_natCast]; simp
  obtain ⟨Q, hQ⟩ : ∃ Q, Q = 11 ^ n := ⟨_, rfl⟩
  rw [← hQ] at hq hcast
  unfold k12_2
  walk_at "w"
  refine ⟨by decide, ?_⟩
  walk_at "s"
  refine TS.forR ok hfm bs.range (by nofun) ?_ ⟨_, rfl⟩
  walk_at "w"
  refine ⟨_, BinI.pow (by omega) (by omega) (by decide), ?_⟩
  rw [hcast]
  clear hcast
  refine TEs.nil ⟨0, _, ⟨.inl ⟨rfl, rfl⟩, by omega, by omega, by omega, by omega⟩, fun j m1 H2 => ∃ o6 o7 o8, m1 = [some (.glob sa), some (.ref i), some (.int (n : Int)), some (.int (pts.length : Int)), some (.ref r), some (.ref H.length), o6, o7, o8, none, none] ∧ Ext H H2 ∧ NearAt n pts H2 H.length j,
    ⟨none, none, none, rfl, (Ext.refl H).app _, .inl ⟨fun k hk => by omega, get_end⟩⟩, ?_, ?_⟩
  · rintro j m1 H2 xt ⟨o6, o7, o8, rfl, E2, hN⟩ hlt
    have okx := ok.wx xt
    have hfx : (c.wx xt).fm = none := hfm
    have hix : interactive (c.wx xt).env = false := hint
    rw [Int.zero_add] at *
    have hlt : j < Q := by omega
    show TB (c.wx xt) [some (.glob sa), some (.ref i), some (.int (n : Int)), some (.int (pts.length : Int)), some (.ref r), some (.ref H.length), some (.int (j : Int)), o7, o8, none, none] _ _ _
    refine TB.gen2 fun PP hPP => ?_
    refine TB.cons (TS.assignC okx hfx (Src.range okx bs.range ?_))
    walk_at "w"
    refine ⟨0, (n : Int), ⟨.inl ⟨rfl, rfl⟩, by omega, by omega, by omega, by omega⟩, Turns.range rfl (le0 (by omega)) (fun k ys H1 => H1 = H2 ∧ k ≤ n ∧ ys = intL (dg 11 k j)) ⟨rfl, by omega, rfl⟩ ?_ ?_ ?_⟩
    · rintro k ys H1 ⟨_, _, rfl⟩
      simp [intL, dg_len]
    · rintro k ys H1 ⟨e1, hk, rfl⟩ hk2
      obtain rfl : H2 = H1 := e1.symm
      intro c' sub hnm'
      have ok' := sub.ok
      refine ⟨fun q => (by cases q), fun _ => ?_⟩
      rw [Int.zero_add] at *
      show TE c' [some (.glob sa), some (.ref i), some (.int (n : Int)), some (.int (pts.length : Int)), some (.ref r), some (.ref H.length), some (.int (j : Int)), o7, o8, none, none, some (.int (k : Int))] _ _ _
      have hkc : (11 : Int) ^ (k : Int).toNat = ((11 ^ k : Nat) : Int) := by
        rw [Int.toNat_natCast]; simp
      have hk1 : 0 < 11 ^ k := Nat.pow_pos (by decide)
      have hk3 : 11 ^ k ≤ 11 := by
        have : k = 0 ∨ k = 1 := by omega
        rcases this with rfl | rfl <;> decide
      obtain ⟨W, hW⟩ : ∃ W, W = 11 ^ k := ⟨_, rfl⟩
      rw [← hW] at hk1 hk3 hkc
      walk_at "w"
      refine ⟨_, BinI.pow (by omega) (by omega) (by decide), ?_⟩
      rw [hkc]
      clear hkc
      refine ⟨_, BinI.div (by omega) (by omega), ?_⟩
      walk_at "w"
      refine ⟨rfl, by omega, ?_⟩
      rw [Int.fdiv_eq_ediv_of_nonneg _ (by omega), hW, dg_end]
      simp [intL]
    · rintro ys H1 ⟨e1, _, rfl⟩
      obtain rfl : H2 = H1 := e1.symm
      have en : ((n : Int) - 0).toNat = n := sub0 _
      rw [en]
      show TB (c.wx xt) [some (.glob sa), some (.ref i), some (.int (n : Int)), some (.int (pts.length : Int)), some (.ref r), some (.ref H.length), some (.int (j : Int)), some (.ref H2.length), o8, none, none] _ _ _
      generalize hH3 : H2 ++ [MO.list (intL (dg 11 n j))] = H3
      have E3 : Ext H2 H3 := by rw [← hH3]; exact (Ext.refl H2).app _
      have kr : H3[H2.length]? = some (.list (intL (dg 11 n j))) := by rw [← hH3]; exact get_end
      have E03 := E2.trans E3
      refine TB.cons (TS.assignC okx hfx (Src.offs (d := 199) okx bs ga gV dV rfl rfl rfl rfl (E03.ins hF) (hP.ext E03) kr (by omega) (by decide) (by decide) ?_))
      show TB (c.wx xt) [some (.glob sa), some (.ref i), some (.int (n : Int)), some (.int (pts.length : Int)), some (.ref r), some (.ref H.length), some (.int (j : Int)), some (.ref H2.length), some (.ref H3.length), none, none] _ _ _
      generalize hH4 : H3 ++ [MO.list (intL (offs 11 (dg 11 n j) pts))] = H4
      have E4 : Ext H3 H4 := by rw [← hH4]; exact (Ext.refl H3).app _
      have kw : H4[H3.length]? = some (.list (intL (offs 11 (dg 11 n j) pts))) := by rw [← hH4]; exact get_end
      have E24 := E3.trans E4
      have E04 := E2.trans E24
      have ol := offs_len (p := 11) (row := dg 11 n j) (pts := pts)
      have hN4 := hN.ext E24
      walk_at "w"
      refine (most_errors_cl dM bs (by omega) (by omega)).use (by decide) ?_
      rintro _ H5 ⟨rfl, e5⟩
      obtain rfl : H4 = H5 := e5.symm
      have iff : Near 11 n pts (dg 11 n j) ↔ (offs 11 (dg 11 n j) pts).length ≤ (pts.length - n) / 2 := ⟨fun h => h.2.2, fun h => ⟨dg_len _ _ _, dg_bd (by decide) _ _, h⟩⟩
      refine ⟨_, rfl, fun h => ?_, fun h => ?_⟩
      · have h : (offs 11 (dg 11 n j) pts).length ≤ (pts.length - n) / 2 := by
          have h : ((offs 11 (dg 11 n j) pts).length : Int) ≤ (((pts.length - n) / 2 : Nat) : Int) := by simpa using h
          omega
        have nj := iff.mpr h
        have ha : H4[H.length]? = some (.list []) := by
          rcases hN4 with ⟨_, ha⟩ | ⟨k, t, z, w, hk, nk, _⟩
          · exact ha
          · have e : dg 11 n j = dg 11 n k := near_one (e := (pts.length - n) / 2) F g (by omega) nj.1 nk.1 nj.2.1 nk.2.1 nj.2.2 nk.2.2
            have e1 := nmb_dg (P := 11) (by decide) n j (by rw [← hQ]; exact hlt)
            have e2 := nmb_dg (P := 11) (by decide) n k (by rw [← hQ]; omega)
            rw [e, e2] at e1
            omega
        walk_at "w"
        refine ⟨_, _, rfl, ha, TE.tup (TEs.cons (TE.loc okx rfl (TEs.cons (TE.loc okx rfl (TEs.nil ⟨by simp, _, get_app ha, by simp, ?_⟩)))))⟩
        generalize hH5 : (H4 ++ [MO.tup [.ref H2.length, .ref H3.length]]).set H.length (.list ([] ++ [.ref H4.length])) = H5
        have lH : H.length < H4.length := (List.getElem?_eq_some_iff.mp ha).1
        have E5 : Ext H H5 := by rw [← hH5]; exact (E04.app _).set (Nat.le_refl _)
        have ka : H5[H.length]? = some (.list [.ref H4.length]) := by rw [← hH5]; exact get_set (get_app ha)
        have hkr := E4 _ _ kr
        have l2 : H2.length < H3.length := (List.getElem?_eq_some_iff.mp kr).1
        have l0 : H.length < H2.length := by
          rcases hN with ⟨_, ha⟩ | ⟨_, _, _, _, _, _, ha, _⟩
          · exact (List.getElem?_eq_some_iff.mp ha).1
          · exact (List.getElem?_eq_some_iff.mp ha).1
        have kt : H5[H4.length]? = some (.tup [.ref H2.length, .ref H3.length]) := by rw [← hH5, List.getElem?_set_ne (by omega)]; exact get_end
        have kz : H5[H2.length]? = some (.list (intL (dg 11 n j))) := by rw [← hH5, List.getElem?_set_ne (by omega)]; exact get_app hkr
        have kv : H5[H3.length]? = some (.list (intL (offs 11 (dg 11 n j) pts))) := by rw [← hH5, List.getElem?_set_ne (by omega)]; exact get_app kw
        exact TB.nil (TB.nil (hPP _ _ _ ⟨_, _, _, rfl, E5, .inr ⟨j, _, _, _, by omega, nj, ka, kt, kz, kv⟩⟩))
      · have h : ¬ (offs 11 (dg 11 n j) pts).length ≤ (pts.length - n) / 2 := by
          intro q
          have h : ¬ ((offs 11 (dg 11 n j) pts).length : Int) ≤ (((pts.length - n) / 2 : Nat) : Int) := by simpa using h
          omega
        refine TB.nil (TB.nil (hPP _ _ _ ⟨_, _, _, rfl, E04, hN4.skip fun q => h (iff.mp q)⟩))
  · rintro m1 H2 ⟨o6, o7, o8, rfl, E2, hN⟩
    have en : ((Q : Int) - 0).toNat = 11 ^ n := (sub0 Q).trans hQ
    rw [en] at hN
    exact law12_3 ok hfm hint K F (E2.ins hF) (hP.ext E2) g gs h0 hn hl hN
theorem yform (ok : Ok G c 200) (bs : Bs G) (L : LawK G sa ns) {m : ML} {H : MH} {n k : Nat} (hm0 : m[0]? = some (some (.glob sa))) (hm2 : m[2]? = some (some (.int (n : Int)))) (hm : m[11]? = some (some (.int (k : Int)))) (hk : k ≤ 100) (hn : n ≤ 100) {post : MV → MH → Prop}
    (h : post (.int ((cell ns 2 + (k : Int) * cell ns 3 * ((n : Int) - 1) + if decide (cell ns (4 + k) % 4 = 0) = true then 1 else 0) % 11)) H) :
    TE c m (.bin .Mod (.bin .Add (.bin .Add (.call "_law_cell" (.cons (.loc 0) (.cons (.int 2) .nil))) (.bin .Mult (.bin .Mult (.loc 11) (.call "_law_cell" (.cons (.loc 0) (.cons (.int 3) .nil)))) (.bin .Sub (.loc 2) (.int 1)))) (.tst (.cmp .Eq (.bin .Mod (.call "_law_cell" (.cons (.loc 0) (.cons (.bin .Add (.int 4) (.loc 11)) .nil))) (.int 4)) (.int 0)))) (.int 11)) H post := by
  refine TE.op ok (TE.addB (TE.op ok (TE.cell ok (by decide) L hm0 (TE.int ⟨_, .mk (by decide), ?_⟩))))
  refine TE.op ok (TE.op ok (TE.loc ok hm (TE.cell ok (by decide) L hm0 (TE.int ⟨_, .mk (by decide), ?_⟩))))
  refine ⟨_, BinI.mul (mulL (by omega) (by omega)), TE.op ok (TE.loc ok hm2 (TE.int ⟨_, BinI.sub, ?_⟩))⟩
  refine ⟨_, BinI.mul (mulR (by omega) (by omega)), ⟨_, BinI.add, ?_⟩⟩
  refine TE.tst (TV.cmp (TE.op ok (TE.cell ok (by decide) L hm0 (TE.op ok (TE.int (TE.loc ok hm ⟨_, BinI.add, _, .mk (by omega), ?_⟩))))))
  refine TE.int ⟨_, BinI.modP (by decide), TE.int ⟨_, rfl, _, _, rfl, rfl, ?_⟩⟩
  refine TE.int ⟨_, BinI.modP (by decide), ?_⟩
  have e : (4 + (k : Int)).toNat = 4 + k := by omega
  rw [e]
  exact h
noncomputable def PtsJ (y : Nat → Int) (H0 : MH) (j : Nat) (ys : List MV) (H1 : MH) : Prop := Ext H0 H1 ∧ ys.length = j ∧ ∀ k, k < j → ∃ t, ys[k]? = some (.ref t) ∧ H1[t]? = some (.tup [.int ((k : Int) + 1), .int (y k)])
theorem PtsJ.turn {y : Nat → Int} {H0 H1 : MH} {j : Nat} {ys : List MV} (h : PtsJ y H0 j ys H1) : PtsJ y H0 (j + 1) (ys ++ [.ref H1.length]) (H1 ++ [.tup [.int ((j : Int) + 1), .int (y j)]]) := by
  obtain ⟨E1, hy, hk⟩ := h
  refine ⟨E1.app _, by simp [hy], fun k hk' => ?_⟩
  by_cases e : k = j
  · subst e
    exact ⟨H1.length, by rw [← hy]; simp, get_end⟩
  · obtain ⟨t, q1, q2⟩ := hk k (by omega)
    exact ⟨t, by rw [List.getElem?_append_left (by omega)]; exact q1, get_app q2⟩
theorem PtsJ.done {y : Nat → Int} {H0 H1 : MH} {j : Nat} {ys : List MV} (h : PtsJ y H0 j ys H1) : Ext H0 (H1 ++ [.list ys]) ∧ PtsAt (H1 ++ [.list ys]) H1.length (pts12 y j) := by
  obtain ⟨E1, hy, hk⟩ := h
  refine ⟨E1.app _, ys, get_end, by rw [pts12_len, hy], fun k hk' => ?_⟩
  rw [pts12_len] at hk'
  obtain ⟨t, q1, q2⟩ := hk k hk'
  refine ⟨t, q1, ?_⟩
  rw [px12 hk', py12 hk']
  exact get_app q2
theorem law12 (ok : Ok G c 200) (hfm : c.fm = none) (hint : interactive c.env = false) (L : LawK G sa ns) (K : K12 G C XE CK) : TB c (start k12_law_nm [.glob sa]) k12_law [] (fun fl _ _ => retv fl = .bool true) := by
  have bs := L.bs
  have ga := K.F.att
  have F := fer11'
  show TB c [some (.glob sa), none, none, none, none, none, none, none, none, none, none] _ _ _
  unfold k12_law
  refine TB.cons (TS.assign ok hfm rfl (TE.field ok (by decide) K.F (TE.int ⟨11, rfl, isP11', by decide, ?_⟩)))
  generalize hH0 : ([] ++ [MO.ns [("prime", .int 11)]] ++ [.inst C ([] : MH).length] : MH) = H0
  have iF : Ins H0 1 C 0 [("prime", .int 11)] := by subst hH0; exact ⟨rfl, rfl⟩
  show TB c [some (.glob sa), some (.ref 1), none, none, none, none, none, none, none, none, none] _ _ _
  walk_at "w"
  obtain ⟨n, hn, h0, h2⟩ : ∃ n : Nat, 1 + cell ns (Int.toNat 0) % 2 = (n : Int) ∧ 1 ≤ n ∧ n ≤ 2 := by
    have q := md (p := 2) (a := cell ns (Int.toNat 0)) (by decide)
    generalize cell ns (Int.toNat 0) % 2 = x at q ⊢
    exact ⟨(1 + x).toNat, by omega, by omega, by omega⟩
  rw [hn]
  obtain ⟨q, hq, hq1, hq2⟩ : ∃ q : Nat, (n : Int) + cell ns (Int.toNat 1) % 5 = (q : Int) ∧ n ≤ q ∧ q ≤ 6 := by
    have q := md (p := 5) (a := cell ns (Int.toNat 1)) (by decide)
    clear hn
    generalize cell ns (Int.toNat 1) % 5 = x at q ⊢
    exact ⟨((n : Int) + x).toNat, by omega, by omega, by omega⟩
  rw [hq]
  clear hn hq
  show TS c [some (.glob sa), some (.ref 1), some (.int (n : Int)), some (.int (q : Int)), none, none, none, none, none, none, none] _ _ _
  refine TS.assignC ok hfm (Src.range ok bs.range ?_)
  walk_at "w"
  have eq0 : ((q : Int) - 0).toNat = q := sub0 _
  refine ⟨0, _, ⟨.inl ⟨rfl, rfl⟩, by omega, by omega, by omega, by omega⟩, ?_⟩
  refine Turns.range (x := "k") rfl (le0 (by omega)) (fun j ys H1 => PtsJ (fun k => cell ns (2 + k) % 11) H0 j ys H1) ⟨Ext.refl H0, rfl, fun k hk => by omega⟩ ?_ ?_ ?_
  · rintro j ys H1 ⟨_, h, _⟩
    omega
  · rintro j ys H1 hJ hlt c' sub hnm'
    have ok' := sub.ok
    refine ⟨fun q => (by cases q), fun _ => ?_⟩
    rw [Int.zero_add] at *
    show TE c' [some (.glob sa), some (.ref 1), some (.int (n : Int)), some (.int (q : Int)), none, none, none, none, none, none, none, some (.int (j : Int))] _ _ _
    walk_at "w"
    have e8 : (2 + (j : Int)).toNat = 2 + j := by omega
    rw [e8]
    exact ⟨Nat.le_of_ble_eq_true rfl, hJ.turn⟩
  rintro ys H1 hJ
  rw [eq0] at hJ
  obtain ⟨E1, hP1⟩ := hJ.done
  generalize hH2 : H1 ++ [MO.list ys] = H2 at *
  show TB c [some (.glob sa), some (.ref 1), some (.int (n : Int)), some (.int (q : Int)), some (.ref H1.length), none, none, none, none, none, none] _ _ _
  have fin : ∀ {y : Nat → Int} {H : MH} {r : Nat}, (∀ k, 0 ≤ y k ∧ y k < 11) → Ext H0 H → PtsAt H r (pts12 y q) →
      TB c [some (.glob sa), some (.ref 1), some (.int (n : Int)), some (.int (q : Int)), some (.ref r), none, none, none, none, none, none] k12_2 H (fun fl _ _ => retv fl = .bool true) := by
    intro y H r hy E hP
    have h := law12_2 (sa := sa) ok hfm hint K (n := n) F (E.ins iF) hP (gp12 (by omega) hy) (gs12 (by omega) hy) h0 h2 (by rw [pts12_len]; exact hq1) (by rw [pts12_len]; omega)
    rw [pts12_len] at h
    exact h
  walk_at "w"
  refine ⟨_, rfl, fun _ => ?_, fun _ => TB.nil (fin (fun k => md (by decide)) E1 hP1)⟩
  refine TB.cons (TS.assignC ok hfm (Src.range ok bs.range ?_))
  walk_at "w"
  refine ⟨0, _, ⟨.inl ⟨rfl, rfl⟩, by omega, by omega, by omega, by omega⟩, ?_⟩
  refine Turns.range (x := "k") rfl (le0 (by omega)) (fun j ys H1 => PtsJ (fun k => (cell ns 2 + (k : Int) * cell ns 3 * ((n : Int) - 1) + if decide (cell ns (4 + k) % 4 = 0) = true then 1 else 0) % 11) H2 j ys H1) ⟨Ext.refl H2, rfl, fun k hk => by omega⟩ ?_ ?_ ?_
  · rintro j ys H1 ⟨_, h, _⟩
    omega
  · rintro j ys H1 hJ hlt c' sub hnm'
    have ok' := sub.ok
    refine ⟨fun q => (by cases q), fun _ => ?_⟩
    rw [Int.zero_add] at *
    refine TE.tup (TEs.cons (TE.op ok' (TE.loc ok' (i := 11) (v := .int (j : Int)) rfl (TE.int ⟨_, BinI.add, TEs.cons (yform ok' bs L (n := n) (k := j) rfl rfl rfl (by omega) (by omega) (TEs.nil ⟨by simp, ?_⟩))⟩))))
    exact hJ.turn
  rintro ys' H3 hJ3
  rw [eq0] at hJ3
  obtain ⟨E3, hP3⟩ := hJ3.done
  exact TB.nil (fin (fun k => md (by decide)) (E1.trans E3) hP3)
end
noncomputable def scrEx (a : Addr) (ns : List Int) : Heap → Prop := fun h => ∃ vs : List Value, h.IsList a vs.toArray ∧ IntsAre vs ns ∧ ns.length ≤ 63
section
variable {G : Gx} {P : Params} (h : G.K = _root_.Mine.hd.heap_1 P)
include h
theorem z_bs : Bs G := by
  constructor <;> (rw [h]; kernel_rfl)
theorem z_f_shown : ∃ f, GFn G "shown" f ∧ GDef G f ["value"] k_shown_nm k_shown [] := by
  refine ⟨53, GFn.of ?_, GDef.of ?_ ?_⟩
  all_goals (rw [h]; kernel_rfl)
theorem z_f_need_number : ∃ f, GFn G "need_number" f ∧ GDef G f ["value", "least", "most", "what"] k_need_number_nm k_need_number [] := by
  refine ⟨60, GFn.of ?_, GDef.of ?_ ?_⟩
  all_goals (rw [h]; kernel_rfl)
theorem z_f_is_prime : ∃ f, GFn G "is_prime" f ∧ GDef G f ["n"] k_is_prime_nm k_is_prime [] := by
  refine ⟨67, GFn.of ?_, GDef.of ?_ ?_⟩
  all_goals (rw [h]; kernel_rfl)
theorem z_f_trimmed : ∃ f, GFn G "trimmed" f ∧ GDef G f ["row"] k_trimmed_nm k_trimmed [] := by
  refine ⟨158, GFn.of ?_, GDef.of ?_ ?_⟩
  all_goals (rw [h]; kernel_rfl)
theorem z_f_quotient : ∃ f, GFn G "quotient" f ∧ GDef G f ["field", "one", "two"] k_quotient_nm k_quotient [] := by
  refine ⟨165, GFn.of ?_, GDef.of ?_ ?_⟩
  all_goals (rw [h]; kernel_rfl)
theorem z_f_solve : ∃ f, GFn G "solve" f ∧ GDef G f ["field", "rows", "rights"] k_solve_nm k_solve [] := by
  refine ⟨170, GFn.of ?_, GDef.of ?_ ?_⟩
  all_goals (rw [h]; kernel_rfl)
theorem z_f_value : ∃ f, GFn G "value" f ∧ GDef G f ["field", "row", "x"] k_value_nm k_value [] := by
  refine ⟨151, GFn.of ?_, GDef.of ?_ ?_⟩
  all_goals (rw [h]; kernel_rfl)
theorem z_f_need_shares : ∃ f, GFn G "need_shares" f ∧ GDef G f ["field", "shares"] k_need_shares_nm k_need_shares [] := by
  refine ⟨177, GFn.of ?_, GDef.of ?_ ?_⟩
  all_goals (rw [h]; kernel_rfl)
theorem z_f_most_errors : ∃ f, GFn G "most_errors" f ∧ GDef G f ["count", "needed"] k_most_errors_nm k_most_errors [] := by
  refine ⟨184, GFn.of ?_, GDef.of ?_ ?_⟩
  all_goals (rw [h]; kernel_rfl)
theorem z_f_try : ∃ f, GFn G "_try" f ∧ GDef G f ["field", "shares", "needed", "count"] k_u_try_nm k_u_try [] := by
  refine ⟨194, GFn.of ?_, GDef.of ?_ ?_⟩
  all_goals (rw [h]; kernel_rfl)
theorem z_f_mend : ∃ f, GFn G "mend" f ∧ GDef G f ["field", "shares", "needed"] k_mend_nm k_mend [] := by
  refine ⟨189, GFn.of ?_, GDef.of ?_ ?_⟩
  all_goals (rw [h]; kernel_rfl)
theorem z_f_law_cell : ∃ f, GFn G "_law_cell" f ∧ GDef G f ["script", "k"] k_law_cell_nm k_law_cell [] := by
  refine ⟨201, GFn.of ?_, GDef.of ?_ ?_⟩
  all_goals (rw [h]; kernel_rfl)
theorem z_m_Field_power : ∃ f, GMth G 140 "power" f ∧ GDef G f ["self", "a", "n"] k_Field_power_nm k_Field_power [] := by
  refine ⟨116, GMth.of ?_, GDef.of ?_ ?_⟩
  all_goals (rw [h]; kernel_rfl)
theorem z_m_Field_inverse : ∃ f, GMth G 140 "inverse" f ∧ GDef G f ["self", "a"] k_Field_inverse_nm k_Field_inverse [] := by
  refine ⟨123, GMth.of ?_, GDef.of ?_ ?_⟩
  all_goals (rw [h]; kernel_rfl)
theorem z_m_Field_need : ∃ f, GMth G 140 "need" f ∧ GDef G f ["self", "a"] k_Field_need_nm k_Field_need [] := by
  refine ⟨88, GMth.of ?_, GDef.of ?_ ?_⟩
  all_goals (rw [h]; kernel_rfl)
theorem z_c_Field : ∃ f, GCls G "Field" 140 f ∧ GDef G f ["self", "prime"] k_Field_init_nm k_Field_init [] := by
  refine ⟨81, GCls.of ?_, GDef.of ?_ ?_⟩
  all_goals (rw [h]; kernel_rfl)
theorem z_a_Field_prime : GAtt G 140 "prime" := GAtt.of (by rw [h]; kernel_rfl)
theorem z_s_Field_prime : GSto G 140 "prime" := GSto.of (by rw [h]; kernel_rfl)
theorem z_e_ShareError : GExc G "ShareError" 31 bmV := GExc.of (by rw [h]; kernel_rfl)
theorem z_e_CheckError : GExc G "CheckError" 44 bmV := GExc.of (by rw [h]; kernel_rfl)
theorem z_i_GREATEST : ∃ t, nsIn G.K mainGlobals "GREATEST" = some (some (.int 1048576 t)) := isSomeInt_eq (by rw [h]; kernel_rfl)
theorem z_n_ValueError : nsIn G.K mainGlobals "ValueError" = some none := by rw [h]; kernel_rfl
theorem z_law {sa : Addr} {ns : List Int} (e : G.ex = scrEx sa ns) : LawK G sa ns := ⟨z_bs h, fun h x => by rw [e] at x; exact x, z_f_law_cell h⟩
theorem z_field : FieldK G 140 := ⟨z_c_Field h, z_f_need_number h, z_f_is_prime h, z_a_Field_prime h, z_s_Field_prime h, z_i_GREATEST h, z_bs h⟩
theorem z_need : NeedK G 31 := ⟨z_bs h, z_f_shown h, z_f_need_number h, z_e_ShareError h⟩
theorem z_quo : QuoK G 140 31 := ⟨z_bs h, z_a_Field_prime h, z_m_Field_power h, z_m_Field_inverse h, z_f_trimmed h, z_e_ShareError h⟩
theorem z_mnd : MndK G 140 31 44 := ⟨⟨z_quo h, z_f_solve h, z_f_quotient h⟩, ⟨z_need h, z_a_Field_prime h, z_m_Field_need h⟩, z_f_need_shares h, z_e_CheckError h, z_f_value h, z_f_most_errors h, z_f_try h⟩
theorem z_K : K12 G 140 31 44 := ⟨z_field h, z_mnd h, z_f_mend h, z_n_ValueError h⟩
end
end Mine
theorem PySem.Challenge.cw_ui0506_12_holds : PySem.Challenge.rw_ui0506_12.Holds := by
  refine _root_.Mine.hd ?_
  intro w s₀ s₁ mg mb G Y fa o pm cd doc dV kV ho hd hcd hD hmg hg args vals as hpre hlay hrd hwl hlo
  have KX := kIn_of Y
  refine Ground.open G ?_
  intro T B D TE TW
  wrow_args hpre hlay hrd hwl hlo
  refine enter_call ?_
  have e0 := hD.none rfl
  subst e0
  refine Mine.law_entry 200 (by decide) (G := ⟨_root_.Mine.hd.heap_1 w.params, _, _, _, mg, mb, Mine.scrEx _ _⟩) (x := "script") (nm := Mine.k12_law_nm) (k := Mine.k12_law) KX ⟨_, by assumption, by assumption, by omega⟩ T ho hd hcd rfl rfl rfl rfl ?_ ?_ ?_ ?_ ?_ ?_
  · exact BindsTo.of_eq (Mine.bind_plain rfl rfl (show List.Nodup [("script" : Str)] by simp) rfl)
  · kernel_rfl
  · kernel_rfl
  · kernel_rfl
  · intro c e1 e2 e3 ok hfm hint hnm hX
    exact Mine.law12 ok hfm hint (Mine.z_law rfl rfl) (Mine.z_K rfl)
  · intro L m h' tk F
    exact GoodW.toG (goodW_bool F hg (fun cls => rfl) (postW_of rfl rfl (by simp [W.same])))
