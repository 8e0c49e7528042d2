import PyProof.Rows.All
import Wide.All
import OpenK.AllK
import Wide.FinOn
import KE.BitLaws
import KE.KEqSeq
import PyProof.ExcBaseAll.ValueError
import KE.KDictOf
import KE.KDictSum
import Lean
import PySem.Challenge.RW_ui0506_15
open PySem PySem.W PyProof.Rows PySem.Calls PySem.Spec
set_option Elab.async false
set_option linter.unusedVariables false
set_option maxRecDepth 100000
set_option maxHeartbeats 8000000
set_option genSizeOf false
set_option genInjectivity false
set_option compiler.extract_closed false
namespace Mine
noncomputable def runQ (p : Program) (w : World) (n₀ : Nat) (ann : Option Value) : Nat → SharedT → Thread → Option SharedT
  | 0, _, _ => none
  | n + 1, s, t => match through t with
    | true => some s
    | false => match Fast.tw6613529449190102663 n₀ ann t with
      | false => none
      | true => match Fast.tw10156331382660048174 (Fast.tw11892475500146522536 Fast.tw14364793385576792824) p w s t with
        | some (s', t') => runQ p w n₀ ann n s' t'
        | none => none
theorem q_den : denote treeTable = Fast.tw11892475500146522536 Fast.tw14364793385576792824 := by
  rw [← Fast.te11892475500146522536, ← Fast.te14364793385576792824]
theorem runQ_of {p : Program} {w : World} {n₀ : Nat} {ann : Option Value} : ∀ {n : Nat} {s s' : SharedT} {t : Thread}, runQ p w n₀ ann n s t = some s' → topRun treeTable p w n₀ ann n s.abs t = some s'.abs
  | 0, _, _, _, h => by cases h
  | n + 1, s, s', t, h => by
    unfold runQ at h
    unfold topRun
    rw [← q_den, ← Fast.te6613529449190102663, ← Fast.te10156331382660048174] at h
    cases ht : through t with
    | true => rw [ht] at h; cases h; rfl
    | false =>
      rw [ht] at h
      cases hk : stepOk n₀ ann t with
      | false => rw [hk] at h; cases h
      | true =>
        rw [hk] at h
        cases hs : stepT (denote treeTable) p w s t with
        | none => rw [hs] at h; cases h
        | some r => obtain ⟨s₂, t₂⟩ := r; rw [hs] at h; rw [stepT_spec hs]; exact runQ_of h
noncomputable def build : List Obj → Nat → BT → Option BT
  | [], _, t => some t
  | o :: r, n, t => match ((t.ins n o).get n).isSome with
    | true => build r (n + 1) (t.ins n o)
    | false => none
theorem build_abs {life : Life} : ∀ {l pre : List Obj} {n : Nat} {t t' : BT}, build l n t = some t' → absHeap t n life = ⟨pre.toArray, life⟩ → absHeap t' (n + l.length) life = ⟨(pre ++ l).toArray, life⟩
  | [], pre, n, t, t', h, e => by cases h; simpa using e
  | o :: r, pre, n, t, t', h, e => by
    unfold build at h
    cases hk : ((t.ins n o).get n).isSome with
    | false => rw [hk] at h; cases h
    | true =>
      rw [hk] at h
      have h1 := absHeap_ins (life := life) hk
      rw [e] at h1
      have h2 := build_abs (pre := pre ++ [o]) h (h1.trans (by simp [Heap.push]))
      have e1 : n + 1 + r.length = n + (o :: r).length := by simp; omega
      rw [e1] at h2
      rw [h2]
      simp
theorem build_heap {h : Heap} {t : BT} (e : build h.objs.toList 0 .nil = some t) : absHeap t h.objs.size h.life = h := by
  have := build_abs (life := h.life) (pre := []) e (by simp [absHeap, BT.list])
  simpa using this
theorem left_quick {p q : Program} {loose : List Str} {Xt : Shared → Bool} {α : Type} {Yf : Shared → α} {Ya : World → α} {N : Nat} {g0 : Bool}
    (h : ∀ w : World, ((Fast.tw10274390034422433532 Fast.tw14364793385576792824 (opening p) w N (Fast.tw1435165496053646825 (opening p)).1 (Fast.tw1435165496053646825 (opening p)).2).bind (Fast.tw14289696077712309145 p)).bind (fun s₀ =>
      match s₀.heap.isNs mainGlobals && s₀.gens.size == 0 with
      | true => (build s₀.heap.objs.toList 0 .nil).bind fun T => (runQ p w s₀.heap.objs.size (Fast.tw8920871248978507458 s₀.heap mainGlobals "__annotations__") N ⟨T, s₀.heap.objs.size, s₀.heap.life, s₀.gens, s₀.drawn, s₀.toks, s₀.os⟩ (topStub p)).bind fun S₁ =>
        match staticsOk (Fast.tw5923862056798008813 p.main.body) s₀.heap S₁.abs.heap && namesBound p S₁.abs.heap && gensDone S₁.abs && laidKept s₀.heap S₁.abs.heap with
        | true => some (Fast.tw4187177175401517315 q loose (Fast.tw5923862056798008813 p.main.body) Xt g0 S₁.abs, Yf S₁.abs)
        | false => none
      | false => none) = some (openGood q loose, Ya w)) : LeftO p q loose Xt Yf Ya N g0 := by
  intro w
  have h := h w
  rw [← Fast.te10274390034422433532, ← Fast.te14364793385576792824, ← Fast.te1435165496053646825, ← Fast.te14289696077712309145, ← Fast.te8920871248978507458, ← Fast.te5923862056798008813, ← Fast.te4187177175401517315] at h
  obtain ⟨s₀, h0, h⟩ := Option.bind_eq_some_iff.mp h
  unfold openEnds fencedOpening
  rw [h0]
  show Option.map _ (topFrom treeTable p w N s₀) = _
  unfold topFrom
  cases hg : s₀.heap.isNs mainGlobals && s₀.gens.size == 0 with
  | false => rw [hg] at h; cases h
  | true =>
    rw [hg] at h
    obtain ⟨T, hT, h⟩ := Option.bind_eq_some_iff.mp h
    obtain ⟨S₁, hS, h⟩ := Option.bind_eq_some_iff.mp h
    have e := runQ_of hS
    have ea : (SharedT.mk T s₀.heap.objs.size s₀.heap.life s₀.gens s₀.drawn s₀.toks s₀.os).abs = s₀ := by
      unfold SharedT.abs
      rw [build_heap hT]
    rw [ea] at e
    rw [e]
    show Option.map _ (match staticsOk (importedModules p.main.body) s₀.heap S₁.abs.heap && namesBound p S₁.abs.heap && gensDone S₁.abs && laidKept s₀.heap S₁.abs.heap with | true => some S₁.abs | false => none) = _
    cases hk : staticsOk (importedModules p.main.body) s₀.heap S₁.abs.heap && namesBound p S₁.abs.heap && gensDone S₁.abs && laidKept s₀.heap S₁.abs.heap with
    | false => rw [hk] at h; cases h
    | true => rw [hk] at h; exact h
noncomputable def qv : Program := view PySem.Challenge.pw_ui0506_15 [0, 2, 3, 4, 5, 6, 7, 9, 10, 11, 12, 13, 14, 15, 16, 18, 19, 20, 21, 22, 23, 24, 25, 26, 28, 30, 32, 33]
noncomputable def qlo : List PySem.Str := ["GREATEST", "deal_polynomial", "rebuild_polynomial"]
noncomputable def qlv : List (PySem.Str × WData) := [("GREATEST", .int 1048576)]
set_option hygiene false in
local macro_rules | `(tactic| o_head $H) => `(tactic| (
  refine PySem.W.holds_open (q := Mine.qv) (loose := Mine.qlo) (Xt := fun s => xlAt Mine.qv Mine.qlv s && recOk [] s) (XP := XL Mine.qv Mine.qlv) (Yf := Hook.obs $H) (Ya := Hook.val $H) (YP := Hook.says $H) (N := 4194) ?hl (Hook.of $H) (Hook.keeps $H) (fun s e => xl_of s (Bool.and_eq_true_iff.mp e).1) XL.keeps (by rfl) (by rfl) (by rfl) (fun s e => recFacts_of (Bool.and_eq_true_iff.mp e).2) (by rfl) (by first | assumption | decide +kernel) (by decide +kernel) ⟨rfl, rfl, rfl, rfl, rfl, by decide +kernel⟩ ?hw ?hc
  (case hl => (refine Mine.left_quick ?_; intro w; kernel_rfl))))
set_option hygiene false in
local macro_rules | `(tactic| o_law) => `(tactic| refine PySem.W.holds_law (by kernel_rfl) fun said => ?_)
open_top hd for PySem.Challenge.rw_ui0506_15
inductive MV where
  | none
  | bool (b : Bool)
  | int (i : Int)
  | str (x : Str)
  | ref (a : Nat)
  | glob (a : Addr)
inductive MO where
  | list (xs : List MV)
  | tup (xs : List MV)
  | inst (c : Addr) (d : Nat)
  | ns (fs : List (Str × MV))
  | dI (j : Nat) (es : List (Int × MV))
  | dS (j : Nat) (es : List (Str × MV))
  | view (k : String) (d : Nat)
  | exc (c : Addr) (t : Nat)
  | setN (n : Nat)
  | lany (k : Nat)
  | junk
abbrev MH := List MO
abbrev ML := List (Option MV)
noncomputable def VR (ρ : List Addr) : MV → Value → Prop
  | .none, v => v = .none
  | .bool b, v => v = .bool b
  | .int i, v => ∃ t, v = .int i t
  | .str x, v => ∃ t, v = .str x t
  | .ref a, v => ∃ x, ρ[a]? = some x ∧ v = .ref x
  | .glob a, v => v = .ref a
noncomputable def VRs (ρ : List Addr) : List MV → List Value → Prop
  | [], vs => vs = []
  | m :: ms, vs => ∃ v r, vs = v :: r ∧ VR ρ m v ∧ VRs ρ ms r
noncomputable def NR (P : Params) (ρ : List Addr) : List (Str × MV) → List DictEntry → Prop
  | [], es => es = []
  | (x, m) :: fs, es => ∃ t v r, es = ⟨PyData.keyHash P x, .str x t, v⟩ :: r ∧ VR ρ m v ∧ NR P ρ fs r
noncomputable def PR {K : Type} (ρ : List Addr) : List (K × MV) → List (K × Value) → Prop
  | [], es => es = []
  | (k, m) :: fs, es => ∃ v r, es = (k, v) :: r ∧ VR ρ m v ∧ PR ρ fs r
def IsD {prog : Program} {w : World} {K : Type} [DecidableEq K] (knd : KeyKind prog w K) (o : Obj) (kvs : List (K × Value)) : Prop := ∃ es, o.ExactDict ∧ o.data = .dict es kvs.length ∧ KeysOf knd es ∧ Pairs knd es.toList kvs ∧ (kvs.map (·.1)).Nodup
theorem IsD.dict {prog : Program} {w : World} {K : Type} [DecidableEq K] {knd : KeyKind prog w K} {o : Obj} {kvs : List (K × Value)} (h : IsD knd o kvs) : o.IsDictOf knd kvs := let ⟨es, r⟩ := h; ⟨es, _, r⟩
noncomputable def OR (prog : Program) (w : World) (ρ : List Addr) : MO → Obj → Prop
  | .list xs, o => ∃ vs n, VRs ρ xs vs ∧ o = listOf vs.toArray n
  | .tup xs, o => ∃ vs n, VRs ρ xs vs ∧ o = { cls := .type "tuple", data := .seq vs.toArray n }
  | .inst c d, o => ∃ x, ρ[d]? = some x ∧ o = instObj c x
  | .ns fs, o => ∃ es n, NR w.params ρ fs es ∧ o = dictOf es n
  | .dI j fs, o => ∃ x kvs, ρ[j]? = some x ∧ (x == sysModules) = false ∧ PR ρ fs kvs ∧ IsD (intKind prog w) o kvs
  | .dS j fs, o => ∃ x kvs, ρ[j]? = some x ∧ (x == sysModules) = false ∧ PR ρ fs kvs ∧ IsD (strKind prog w) o kvs
  | .view k d, o => ∃ x, ρ[d]? = some x ∧ o = { cls := .type k, data := .fields #[.ref x] }
  | .exc c d, o => ∃ x vs, ρ[d]? = some x ∧ o.cls = .ref c ∧ o.data = .fields vs ∧ vs[0]? = some (.ref x)
  | .setN n, o => ∃ S, o.SetObjOf (intKind prog w) S n
  | .lany k, o => ∃ vs n, o = listOf vs n ∧ vs.size ≤ k
  | .junk, _ => True
theorem hideG {g : Prop} (h : ∀ P : Prop, (g → P) → P) : g := h g id
theorem get_mono {ρ t : List Addr} {a : Nat} {x : Addr} (h : ρ[a]? = some x) : (ρ ++ t)[a]? = some x := by
  rw [List.getElem?_append_left (List.getElem?_eq_some_iff.mp h).1]; exact h
theorem VR.mono {ρ t : List Addr} {m : MV} {v : Value} (h : VR ρ m v) : VR (ρ ++ t) m v := by
  cases m <;> try exact h
  obtain ⟨x, hx, e⟩ := h
  exact ⟨x, get_mono hx, e⟩
theorem VRs.mono {ρ t : List Addr} : ∀ {ms : List MV} {vs : List Value}, VRs ρ ms vs → VRs (ρ ++ t) ms vs
  | [], _, h => h
  | _ :: _, _, ⟨v, r, e, h1, h2⟩ => ⟨v, r, e, h1.mono, h2.mono⟩
theorem NR.mono {P : Params} {ρ t : List Addr} : ∀ {fs : List (Str × MV)} {es : List DictEntry}, NR P ρ fs es → NR P (ρ ++ t) fs es
  | [], _, h => h
  | (_, _) :: _, _, ⟨k, v, r, e, h1, h2⟩ => ⟨k, v, r, e, h1.mono, h2.mono⟩
theorem PR.mono {K : Type} {ρ t : List Addr} : ∀ {fs : List (K × MV)} {es : List (K × Value)}, PR ρ fs es → PR (ρ ++ t) fs es
  | [], _, h => h
  | (_, _) :: _, _, ⟨v, r, e, h1, h2⟩ => ⟨v, r, e, h1.mono, h2.mono⟩
theorem OR.mono {prog : Program} {w : World} {ρ t : List Addr} {m : MO} {o : Obj} (h : OR prog w ρ m o) : OR prog w (ρ ++ t) m o := by
  cases m with
  | list xs => obtain ⟨vs, n, h, e⟩ := h; exact ⟨vs, n, h.mono, e⟩
  | tup xs => obtain ⟨vs, n, h, e⟩ := h; exact ⟨vs, n, h.mono, e⟩
  | inst c d => obtain ⟨x, hx, e⟩ := h; exact ⟨x, get_mono hx, e⟩
  | ns fs => obtain ⟨es, n, h, e⟩ := h; exact ⟨es, n, h.mono, e⟩
  | dI j fs => obtain ⟨x, es, hx, lo, h, e⟩ := h; exact ⟨x, es, get_mono hx, lo, h.mono, e⟩
  | dS j fs => obtain ⟨x, es, hx, lo, h, e⟩ := h; exact ⟨x, es, get_mono hx, lo, h.mono, e⟩
  | view k d => obtain ⟨x, hx, e⟩ := h; exact ⟨x, get_mono hx, e⟩
  | exc c d => obtain ⟨x, vs, h, e⟩ := h; exact ⟨x, vs, get_mono h, e⟩
  | setN n => exact h
  | lany k => exact h
  | junk => trivial
theorem VRs.length {ρ : List Addr} : ∀ {ms : List MV} {vs : List Value}, VRs ρ ms vs → vs.length = ms.length
  | [], _, h => by rw [h]; rfl
  | _ :: _, _, ⟨v, r, e, _, h2⟩ => by rw [e, List.length_cons, List.length_cons, h2.length]
theorem VRs.get {ρ : List Addr} : ∀ {ms : List MV} {vs : List Value} {i : Nat} {m : MV}, VRs ρ ms vs → ms[i]? = some m → ∃ v, vs[i]? = some v ∧ VR ρ m v
  | [], _, _, _, _, e => by simp at e
  | a :: ms, _, 0, m, ⟨v, r, e, h1, _⟩, hi => by
    subst e
    simp at hi
    subst hi
    exact ⟨v, rfl, h1⟩
  | a :: ms, _, i + 1, m, ⟨v, r, e, _, h2⟩, hi => by
    subst e
    simp at hi
    obtain ⟨u, hu, hr⟩ := h2.get hi
    exact ⟨u, by simpa using hu, hr⟩
theorem VRs.set {ρ : List Addr} {m : MV} {v : Value} (hv : VR ρ m v) : ∀ {ms : List MV} {vs : List Value} {i : Nat}, VRs ρ ms vs → VRs ρ (ms.set i m) (vs.set i v)
  | [], _, _, h => by rw [h]; rfl
  | _ :: _, _, 0, ⟨_, r, e, _, h2⟩ => by subst e; exact ⟨v, r, rfl, hv, h2⟩
  | _ :: _, _, i + 1, ⟨u, r, e, h1, h2⟩ => by subst e; exact ⟨u, r.set i v, rfl, h1, h2.set hv⟩
theorem VRs.append {ρ : List Addr} : ∀ {ms ms' : List MV} {vs vs' : List Value}, VRs ρ ms vs → VRs ρ ms' vs' → VRs ρ (ms ++ ms') (vs ++ vs')
  | [], _, _, _, h, h' => by rw [h]; exact h'
  | _ :: _, _, _, _, ⟨u, r, e, h1, h2⟩, h' => by subst e; exact ⟨u, r ++ _, rfl, h1, h2.append h'⟩
theorem VRs.concat {ρ : List Addr} {m : MV} : ∀ {ms : List MV} {vs : List Value}, VRs ρ (ms ++ [m]) vs → ∃ ws v, vs = ws ++ [v] ∧ VRs ρ ms ws ∧ VR ρ m v
  | [], _, ⟨v, r, e, h1, h2⟩ => by
    have hr : r = [] := h2
    subst hr
    exact ⟨[], v, e, rfl, h1⟩
  | a :: ms, _, ⟨u, r, e, h1, h2⟩ => by
    obtain ⟨ws, v, e2, h3, h4⟩ := VRs.concat (ms := ms) h2
    subst e2
    exact ⟨u :: ws, v, e, ⟨u, ws, rfl, h1, h3⟩, h4⟩
structure Cx where
  prog : Program
  w : World
  A : Around
  env : Env
  h₀ : Heap
  L : Addr
  /-- in a comprehension: what the frame's names hold, and the cells and names around it -/
  fm : Option ((Str → Option Value) × List (Addr × Obj))
  /-- the frames below: their names' objects, up to slots -/
  fr : List (Addr × Obj)
  /-- further objects that stay -/
  xt : List (Addr × Obj)
  /-- what must hold where an exception leaves -/
  X : Addr → List MV → ML → MH → Prop
  /-- the names, by their places; the scope that says their kinds -/
  nm : List Str
  sc : Scope
noncomputable def Led (h₀ : Heap) (L : Addr) (prog : Program) (w : World) (ml : Str → Option Value) (xs : List (Addr × Obj)) (ρ : List Addr) (H : MH) (h : Heap) : Prop :=
  Fr h₀ L h ml ∧ ∃ os : List Obj, os.length = H.length ∧ ρ.length = H.length ∧
    (∀ (i : Nat) (o : MO), H[i]? = some o → ∃ x, os[i]? = some x ∧ OR prog w ρ o x) ∧
    News h₀ L h (xs ++ ρ.zip os) ∧ (xs.map (·.1) ++ ρ).Nodup
noncomputable def Own (c : Cx) (mr ml : Str → Option Value) (ex : List (Addr × Obj)) : Prop :=
  match c.fm with
  | none => c.env.locals = c.L ∧ (∀ x, c.env.kindOf x = some .local → ml x = mr x) ∧
      ∀ x, c.env.kindOf x = some .cell ∨ c.env.kindOf x = some .free → ∃ a o, c.env.cells.lookup x = some a ∧ (a, o) ∈ ex ∧ o.data = .cell (mr x)
  | some (f, ox) => ml = f ∧ ∃ oC mC cs, ex = (c.env.locals, oC) :: (cs ++ ox) ∧ LCg.NsObj oC mC ∧ (∀ x, c.env.kindOf x = some .local → mC x = mr x) ∧
      (∀ x, c.env.kindOf x = some .cell ∨ c.env.kindOf x = some .free → ∃ a o, c.env.cells.lookup x = some a ∧ (a, o) ∈ cs ++ ox ∧ o.data = .cell (mr x)) ∧
      (∀ x, c.sc.names.lookup x = some .cell → c.env.kindOf x = some .cell ∧ ∃ a o, c.env.cells.lookup x = some a ∧ (a, o) ∈ cs) ∧
      ∀ x y a o, c.env.cells.lookup x = some a → c.env.cells.lookup y = some a → (a, o) ∈ cs → x = y
noncomputable def St (c : Cx) (mr : Str → Option Value) (ρ : List Addr) (H : MH) (h : Heap) : Prop :=
  ∃ ml fr ex, Own c mr ml ex ∧ TI.SameUp c.fr fr ∧ Led c.h₀ c.L c.prog c.w ml (fr ++ (c.xt ++ ex)) ρ H h
theorem St.open {c : Cx} {mr : Str → Option Value} {ρ : List Addr} {H : MH} {h : Heap} (S : St c mr ρ H h) :
    ∃ ml xs, Led c.h₀ c.L c.prog c.w ml xs ρ H h ∧ ∀ ρ' H' h', Led c.h₀ c.L c.prog c.w ml xs ρ' H' h' → St c mr ρ' H' h' := by
  obtain ⟨ml, fr, ex, o, u, l⟩ := S
  exact ⟨ml, _, l, fun ρ' H' h' l' => ⟨ml, fr, ex, o, u, l'⟩⟩
theorem St.op {c : Cx} {mr : Str → Option Value} {ρ : List Addr} {H : MH} {h : Heap} (S : St c mr ρ H h) {P : Prop}
    (k : ∀ ml xt os, Fr c.h₀ c.L h ml → os.length = H.length → ρ.length = H.length → (∀ (i : Nat) (o : MO), H[i]? = some o → ∃ x, os[i]? = some x ∧ OR c.prog c.w ρ o x) → News c.h₀ c.L h (xt ++ ρ.zip os) → (xt.map (·.1) ++ ρ).Nodup →
      (∀ ρ' H' h', Led c.h₀ c.L c.prog c.w ml xt ρ' H' h' → St c mr ρ' H' h') → P) : P := by
  obtain ⟨ml, xt, ⟨F, os, a1, a2, a3, N, a5⟩, back⟩ := S.open
  exact k ml xt os F a1 a2 a3 N a5 back
theorem St.oq {c : Cx} {mr : Str → Option Value} {ρ : List Addr} {H : MH} {h : Heap} (S : St c mr ρ H h) {P : Prop}
    (k : ∀ ml fr ex os, Own c mr ml ex → TI.SameUp c.fr fr → Fr c.h₀ c.L h ml → os.length = H.length → ρ.length = H.length → (∀ (i : Nat) (o : MO), H[i]? = some o → ∃ x, os[i]? = some x ∧ OR c.prog c.w ρ o x) →
      News c.h₀ c.L h ((fr ++ (c.xt ++ ex)) ++ ρ.zip os) → ((fr ++ (c.xt ++ ex)).map (·.1) ++ ρ).Nodup → P) : P := by
  obtain ⟨ml, fr, ex, o, u, F, os, a1, a2, a3, N, a5⟩ := S
  exact k ml fr ex os o u F a1 a2 a3 N a5
theorem Led.oq {h₀ : Heap} {L : Addr} {prog : Program} {w : World} {ml : Str → Option Value} {xs : List (Addr × Obj)} {ρ : List Addr} {H : MH} {h : Heap} (S : Led h₀ L prog w ml xs ρ H h) {P : Prop}
    (k : ∀ os, Fr h₀ L h ml → os.length = H.length → ρ.length = H.length → (∀ (i : Nat) (o : MO), H[i]? = some o → ∃ x, os[i]? = some x ∧ OR prog w ρ o x) → News h₀ L h (xs ++ ρ.zip os) → (xs.map (·.1) ++ ρ).Nodup → P) : P := by
  obtain ⟨F, os, a1, a2, a3, N, a5⟩ := S
  exact k os F a1 a2 a3 N a5
theorem St.keep {c : Cx} {mr : Str → Option Value} {ρ : List Addr} {H : MH} {h : Heap} (S : St c mr ρ H h) : ∀ b o, c.h₀.get? b = some o → h.get? b = some o := by
  obtain ⟨ml, xs, l, _⟩ := S.open
  exact l.1.keep
noncomputable def slot : List Str → Str → Option Nat
  | [], _ => none
  | y :: r, x => match slot r x with
    | some i => some (i + 1)
    | none => if y == x then some 0 else none
theorem slot_get : ∀ {nm : List Str} {x : Str} {i : Nat}, slot nm x = some i → nm[i]? = some x
  | [], _, _, h => by cases h
  | y :: r, x, i, h => by
    unfold slot at h
    cases e : slot r x with
    | some j =>
      rw [e] at h
      cases h
      simpa using slot_get e
    | none =>
      rw [e] at h
      simp only at h
      split at h
      · rename_i q
        cases h
        simpa using q
      · cases h
noncomputable def LR (mr : Str → Option Value) (nm : List Str) (ρ : List Addr) (m : ML) : Prop :=
  m.length = nm.length ∧ ∀ i x v, slot nm x = some i → m[i]? = some (some v) → ∃ vr, VR ρ v vr ∧ mr x = some vr
theorem LR.mono {mr : Str → Option Value} {nm : List Str} {ρ t : List Addr} {m : ML} (h : LR mr nm ρ m) : LR mr nm (ρ ++ t) m :=
  ⟨h.1, fun i x v e1 e2 => let ⟨vr, h1, h2⟩ := h.2 i x v e1 e2; ⟨vr, h1.mono, h2⟩⟩
theorem LR.set {mr : Str → Option Value} {nm : List Str} {ρ : List Addr} {m : ML} (h : LR mr nm ρ m) {x : Str} {i : Nat} {v : MV} {vr : Value} (hs : slot nm x = some i) (hv : VR ρ v vr) :
    LR (fun y => if y = x then some vr else mr y) nm ρ (m.set i (some v)) := by
  refine ⟨by rw [List.length_set]; exact h.1, fun j y u e1 e2 => ?_⟩
  by_cases e : y = x
  · subst e
    rw [hs] at e1
    cases e1
    rw [List.getElem?_set_self'] at e2
    cases hm : m[i]? with
    | none => rw [hm] at e2; cases e2
    | some o =>
      rw [hm] at e2
      cases e2
      exact ⟨vr, hv, by simp⟩
  · have hij : i ≠ j := by
      rintro rfl
      have h1 := slot_get hs
      have h2 := slot_get e1
      rw [h1] at h2
      cases h2
      exact e rfl
    rw [List.getElem?_set_ne hij] at e2
    obtain ⟨w, h1, h2⟩ := h.2 j y u e1 e2
    exact ⟨w, h1, by simp [e, h2]⟩
noncomputable def Fly (c : Cx) (mr : Str → Option Value) (ρ : List Addr) (H : MH) (C : Addr) (as : List MV) (e : Addr) (h : Heap) : Prop :=
  ∃ (hB : Heap) (t : Addr) (vs : List Value), St c mr ρ H hB ∧ VRs ρ as vs ∧ hB.get? e = none ∧ hB.get? t = none ∧ h.TupAt t vs ∧ hB.UpToSlots h ∧
    (TI.gone hB (c.L :: c.fr.map (·.1))).StaysIn h ∧
    ((∃ oe ws, h.get? e = some oe ∧ oe.cls = .ref C ∧ oe.data = .fields ws ∧ ws[0]? = some (.ref t) ∧ ws[1]? = some .none) ∨
     ∃ fl, h.TracedAtW (TI.gone hB (c.L :: c.fr.map (·.1))) e (.ref C) (.ref t) fl ∧ (fl = .none ∨ fl = rawInt c.L))
noncomputable def Kx (c : Cx) (ρ : List Addr) (s : Shared) (E : Value → Shared → Prop) : Prop :=
  ∀ t C as e m' mr' H' h' tk, c.X C as m' H' → Fly c mr' (ρ ++ t) H' C as e h' → LR mr' c.nm (ρ ++ t) m' → E (.ref e) { s with heap := h', toks := tk }
theorem Kx.mono {c : Cx} {ρ t : List Addr} {s : Shared} {E : Value → Shared → Prop} {h : Heap} {tk : Nat} (k : Kx c ρ s E) : Kx c (ρ ++ t) { s with heap := h, toks := tk } E := by
  intro t' C as e m' mr' H' h' tk' hX hF hL
  rw [List.append_assoc] at hF hL
  exact k (t ++ t') C as e m' mr' H' h' tk' hX hF hL
noncomputable def EV (c : Cx) (m : ML) (e : PySem.Expr) (H : MH) (post : MV → MH → Prop) : Prop :=
  ∀ (mr : Str → Option Value) (ρ : List Addr) (s : Shared) (Q : Value → Shared → Prop) (E : Value → Shared → Prop), St c mr ρ H s.heap → LR mr c.nm ρ m →
    (∀ t v vr H' h' tk, post v H' → VR (ρ ++ t) v vr → St c mr (ρ ++ t) H' h' → Q vr { s with heap := h', toks := tk }) → Kx c ρ s E →
    wpAny (model c.prog c.w) c.A (eval e c.env) Q E s
theorem EV.mono {c : Cx} {m : ML} {e : PySem.Expr} {H : MH} {p q : MV → MH → Prop} (h : EV c m e H p) (hp : ∀ v H', p v H' → q v H') : EV c m e H q :=
  fun mr ρ s Q E S l k kx => h mr ρ s Q E S l (fun t v vr H' h' tk hv => k t v vr H' h' tk (hp _ _ hv)) kx
theorem nil_of {c : Cx} {mr : Str → Option Value} {ρ : List Addr} {H : MH} {h : Heap} (S : St c mr ρ H h) : St c mr (ρ ++ []) H h := by rw [List.append_nil]; exact S
theorem ns_of {oC : Obj} {mC : Str → Option Value} {h : Heap} {C : Addr} (hC : LCg.NsObj oC mC) (e : h.get? C = some oC) : h.Ns C mC := hC.ns e
noncomputable def kcl : Option NameKind → Nat
  | some .local => 1
  | some .cell => 2
  | some .free => 2
  | some .globalImplicit => 3
  | _ => 0
noncomputable def rdb (sc : Scope) (x : Str) : Bool := (x != ("__debug__" : Str)) && (x != ("__classdict__" : Str)) && (kcl (sc.names.lookup x) == 1 || kcl (sc.names.lookup x) == 2)
noncomputable def glb (sc : Scope) (x : Str) : Bool := (x != ("__debug__" : Str)) && kcl (sc.names.lookup x) == 3
theorem kcl1 {k : Option NameKind} (h : kcl k = 1) : k = some .local := by
  unfold kcl at h
  split at h <;> first | rfl | cases h
theorem kcl2 {k : Option NameKind} (h : kcl k = 2) : k = some .cell ∨ k = some .free := by
  unfold kcl at h
  split at h <;> first | (exact .inl rfl) | (exact .inr rfl) | cases h
theorem kcl3 {k : Option NameKind} (h : kcl k = 3) : k = some .globalImplicit := by
  unfold kcl at h
  split at h <;> first | rfl | cases h
structure Gx where
  K : Frag
  p : Program
  loose : List Str
  mean : ExcName → Option Value
  mg : Str → Option Value
  mb : Str → Option Value
  /-- what else stands in the heap -/
  ex : Heap → Prop
structure Ok (G : Gx) (c : Cx) (d : Nat) : Prop where
  frames : ∃ env₀ outer, c.A.frames = some (env₀ :: outer) ∧ env₀.frame = some c.L ∧ env₀.scope.kind = .function ∧ TI.Frs outer c.fr ∧ (c.fm = none → env₀ = c.env)
  kin : G.K.In c.h₀
  top : Top G.p G.loose G.mean G.mg G.mb c.h₀
  hh : c.A.handled = none
  dep : c.A.depth + d < recursionLimit
  uni : c.A.units + 8 * d + 64 < cLine
  fn : c.env.scope.kind = .function
  gl : c.env.globals = mainGlobals
  bi : c.env.builtins = builtinsNs
  ap : c.fm = none → c.env.cells.Pairwise fun x y => x.2 ≠ y.2
  kd : ∀ x, kcl (c.env.kindOf x) = kcl (c.sc.names.lookup x)
  fs : c.fm = none → c.env.scope = c.sc
  ex : G.ex c.h₀
theorem read {G : Gx} {c : Cx} {d : Nat} (ok : Ok G c d) {mr : Str → Option Value} {ρ : List Addr} {H : MH} {s : Shared} {x : Str} {pos : Pos} {v : Value} {Q E} (S : St c mr ρ H s.heap) (hx : rdb c.sc x = true) (hv : mr x = some v) (h : Q v s) :
    wpAny (model c.prog c.w) c.A (eval (.Name x pos) c.env) Q E s := by
  unfold rdb at hx
  simp only [Bool.and_eq_true, Bool.or_eq_true, beq_iff_eq, bne_iff_ne, ne_eq] at hx
  obtain ⟨⟨hd, hcd⟩, hx⟩ := hx
  rw [← ok.kd] at hx
  have hd' : (x == ("__debug__" : Str)) = false := by simpa using hd
  have hcd' : (x == ("__classdict__" : Str)) = false := by simpa using hcd
  have hk := ok.fn
  refine wpAny_Name ?_ hd'
  refine S.oq fun ml fr ex os o u F a1 a2 a3 N a5 => ?_
  unfold Own at o
  have cellRead : ∀ a o, c.env.cells.lookup x = some a → (a, o) ∈ fr ++ (c.xt ++ ex) → o.data = .cell (mr x) → (c.env.kindOf x = some .cell ∨ c.env.kindOf x = some .free) → wpAny (model c.prog c.w) c.A (loadName c.env x) Q E s := by
    intro a o e1 e2 e3 hk'
    rw [hv] at e3
    have hc : s.heap.IsCell a (some v) := ⟨o, (N _ (List.mem_append_left _ e2)).1, e3⟩
    rcases hk' with hk' | hk'
    · exact wpAny_loadName_cell hk hk' e1 hc h
    · exact wpAny_loadName_free hk hk' e1 hc h hcd'
  cases hf : c.fm with
  | none =>
    rw [hf] at o
    obtain ⟨oL, o1, o2⟩ := o
    rcases hx with hx | hx
    · exact wpAny_loadName_local hk (kcl1 hx) (by rw [oL]; exact F.ns) ((o1 x (kcl1 hx)).trans hv) h
    · obtain ⟨a, ob, e1, e2, e3⟩ := o2 x (kcl2 hx)
      exact cellRead a ob e1 (List.mem_append_right _ (List.mem_append_right _ e2)) e3 (kcl2 hx)
  | some f =>
    obtain ⟨f, ox⟩ := f
    rw [hf] at o
    obtain ⟨rfl, oC, mC, cs, q1, q2, q3, o2, _, _⟩ := o
    have hox : ∀ p ∈ cs ++ ox, p ∈ fr ++ (c.xt ++ ex) := fun p hp => List.mem_append_right _ (List.mem_append_right _ (by rw [q1]; exact .tail _ hp))
    rcases hx with hx | hx
    · exact wpAny_loadName_local hk (kcl1 hx) (ns_of q2 (N _ (List.mem_append_left _ (List.mem_append_right _ (List.mem_append_right _ (by rw [q1]; exact .head _))))).1) ((q3 x (kcl1 hx)).trans hv) h
    · obtain ⟨a, ob, e1, e2, e3⟩ := o2 x (kcl2 hx)
      exact cellRead a ob e1 (hox _ e2) e3 (kcl2 hx)
theorem mem_zip_of {ρ : List Addr} {os : List Obj} {i : Nat} {a : Addr} {x : Obj} (h1 : ρ[i]? = some a) (h2 : os[i]? = some x) : (a, x) ∈ ρ.zip os := by
  have : (ρ.zip os)[i]? = some (a, x) := by
    rw [List.getElem?_zip_eq_some]
    exact ⟨h1, h2⟩
  exact List.mem_of_getElem? this
section
variable {h₀ h h' : Heap} {L : Addr} {prog : Program} {w : World} {ml : Str → Option Value} {xs : List (Addr × Obj)} {ρ : List Addr} {H : MH}
theorem Led.get (S : Led h₀ L prog w ml xs ρ H h) {i : Nat} {o : MO} (hi : H[i]? = some o) : ∃ a x, ρ[i]? = some a ∧ OR prog w ρ o x ∧ News h₀ L h [(a, x)] := by
  refine S.oq fun os F a1 a2 a3 N a5 => ?_
  obtain ⟨x, hx, hr⟩ := a3 i o hi
  have hlt : i < ρ.length := by rw [a2]; exact (List.getElem?_eq_some_iff.mp hi).1
  refine ⟨ρ[i], x, List.getElem?_eq_getElem hlt, hr, fun p hp => ?_⟩
  rw [List.mem_singleton.mp hp]
  exact N _ (List.mem_append_right _ (mem_zip_of (List.getElem?_eq_getElem hlt) hx))
theorem zip_append_one {os : List Obj} {l : Addr} {x : Obj} (h : ρ.length = os.length) : (ρ ++ [l]).zip (os ++ [x]) = ρ.zip os ++ [(l, x)] := by
  rw [List.zip_append h]
  rfl
theorem led_addr {os : List Obj} (a1 : os.length = H.length) (a2 : ρ.length = H.length) {a : Addr} (ha : a ∈ xs.map (·.1) ++ ρ) : ∃ p ∈ xs ++ ρ.zip os, p.1 = a := by
  rcases List.mem_append.mp ha with ha | ha
  · obtain ⟨p, hp, rfl⟩ := List.mem_map.mp ha
    exact ⟨p, List.mem_append_left _ hp, rfl⟩
  · obtain ⟨i, hi, rfl⟩ := List.getElem_of_mem ha
    have hi' : i < os.length := by rw [a1, ← a2]; exact hi
    exact ⟨(ρ[i], os[i]), List.mem_append_right _ (mem_zip_of (List.getElem?_eq_getElem hi) (List.getElem?_eq_getElem hi')), rfl⟩
theorem Led.alloc {os : List Obj} {l : Addr} {x : Obj} {o : MO}
    (a1 : os.length = H.length) (a2 : ρ.length = H.length) (a3 : ∀ (i : Nat) (o : MO), H[i]? = some o → ∃ x, os[i]? = some x ∧ OR prog w ρ o x)
    (a5 : (xs.map (·.1) ++ ρ).Nodup)
    (F : Fr h₀ L h' ml) (N : News h₀ L h' ((l, x) :: (xs ++ ρ.zip os))) (hl : ∀ p ∈ xs ++ ρ.zip os, p.1 ≠ l) (ho : OR prog w (ρ ++ [l]) o x) :
    Led h₀ L prog w ml xs (ρ ++ [l]) (H ++ [o]) h' := by
  refine ⟨F, os ++ [x], by simp [a1], by simp [a2], ?_, ?_, ?_⟩
  · intro i o' hi
    by_cases hlt : i < H.length
    · rw [List.getElem?_append_left hlt] at hi
      obtain ⟨y, hy, hr⟩ := a3 i o' hi
      exact ⟨y, by rw [List.getElem?_append_left (by rw [a1]; exact hlt)]; exact hy, hr.mono⟩
    · rw [List.getElem?_append_right (Nat.le_of_not_lt hlt)] at hi
      have hz : i - H.length = 0 := by
        have := (List.getElem?_eq_some_iff.mp hi).1
        simp at this
        lia
      rw [hz] at hi
      simp at hi
      subst hi
      refine ⟨x, ?_, ho⟩
      rw [List.getElem?_append_right (by rw [a1]; exact Nat.le_of_not_lt hlt), a1, hz]
      rfl
  · intro p hp
    rw [zip_append_one (by rw [a1, a2])] at hp
    refine N p ?_
    rw [← List.append_assoc] at hp
    rcases List.mem_append.mp hp with hp | hp
    · exact .tail _ hp
    · rw [List.mem_singleton.mp hp]; exact .head _
  · rw [← List.append_assoc, List.nodup_append]
    refine ⟨a5, by simp, ?_⟩
    intro a ha b hb e
    rw [List.mem_singleton.mp hb] at e
    obtain ⟨p, hp, e2⟩ := led_addr (os := os) a1 a2 ha
    exact hl p hp (e2.trans e)
theorem Led.upd (S : Led h₀ L prog w ml xs ρ H h) {i : Nat} {o o' : MO} {a : Addr} {x' : Obj} (hi : H[i]? = some o) (ha : ρ[i]? = some a)
    (hs : Heap.SameBut a h h') (hx : h'.get? a = some x') (ho : OR prog w ρ o' x') : Led h₀ L prog w ml xs ρ (H.set i o') h' := by
  refine S.oq fun os F a1 a2 a3 N a5 => ?_
  obtain ⟨x, hx0, _⟩ := a3 i o hi
  have hm : (a, x) ∈ ρ.zip os := mem_zip_of ha hx0
  have na := N _ (List.mem_append_right _ hm)
  have hlt : i < H.length := (List.getElem?_eq_some_iff.mp hi).1
  refine ⟨F.change hs na.2.1 na.2.2, os.set i x', by simp [a1], by simp [a2], ?_, ?_, a5⟩
  · intro j o1 hj
    by_cases e : i = j
    · subst e
      rw [List.getElem?_set_self hlt] at hj
      cases hj
      exact ⟨x', List.getElem?_set_self (by rw [a1]; exact hlt), ho⟩
    · rw [List.getElem?_set_ne e] at hj
      obtain ⟨y, hy, hr⟩ := a3 j o1 hj
      exact ⟨y, by rw [List.getElem?_set_ne e]; exact hy, hr⟩
  · intro p hp
    rw [List.nodup_append] at a5
    rcases List.mem_append.mp hp with hp | hp
    · have P := N p (List.mem_append_left _ hp)
      have hne : p.1 ≠ a := fun e => a5.2.2 p.1 (List.mem_map_of_mem hp) a (List.mem_of_getElem? ha) e
      exact ⟨(hs.2 _ hne).trans P.1, P.2⟩
    · obtain ⟨j, hj, e⟩ := List.getElem_of_mem hp
      obtain ⟨b, y⟩ := p
      have e' : (ρ.zip (os.set i x'))[j]? = some (b, y) := by rw [List.getElem?_eq_getElem hj, e]
      rw [List.getElem?_zip_eq_some] at e'
      by_cases eij : i = j
      · subst eij
        rw [ha, List.getElem?_set_self (by rw [a1]; exact hlt)] at e'
        obtain ⟨e1, e2⟩ := e'
        cases e1; cases e2
        exact ⟨hx, na.2⟩
      · rw [List.getElem?_set_ne eij] at e'
        have P := N _ (List.mem_append_right _ (mem_zip_of e'.1 e'.2))
        have hne : b ≠ a := by
          intro e3
          subst e3
          have l1 := (List.getElem?_eq_some_iff.mp ha).1
          exact eij ((List.getElem?_inj l1 a5.2.1).mp (ha.trans e'.1.symm))
        exact ⟨(hs.2 _ hne).trans P.1, P.2⟩
theorem Led.grow (S : Led h₀ L prog w ml xs ρ H h) (hk : ∀ b o, h.get? b = some o → h'.get? b = some o) : Led h₀ L prog w ml xs ρ H h' := by
  refine S.oq fun os F a1 a2 a3 N a5 => ?_
  exact ⟨F.keeps hk, os, a1, a2, a3, N.grown hk, a5⟩
end
theorem St.get {c : Cx} {mr : Str → Option Value} {ρ : List Addr} {H : MH} {h : Heap} (S : St c mr ρ H h) {i : Nat} {o : MO} (hi : H[i]? = some o) :
    ∃ a x, ρ[i]? = some a ∧ OR c.prog c.w ρ o x ∧ News c.h₀ c.L h [(a, x)] := by
  obtain ⟨ml, xs, l, _⟩ := S.open
  exact l.get hi
theorem St.upd {c : Cx} {mr : Str → Option Value} {ρ : List Addr} {H : MH} {h h' : Heap} (S : St c mr ρ H h) {i : Nat} {o o' : MO} {a : Addr} {x' : Obj} (hi : H[i]? = some o) (ha : ρ[i]? = some a)
    (hs : Heap.SameBut a h h') (hx : h'.get? a = some x') (ho : OR c.prog c.w ρ o' x') : St c mr ρ (H.set i o') h' := by
  obtain ⟨ml, xs, l, back⟩ := S.open
  exact back _ _ _ (l.upd hi ha hs hx ho)
theorem St.grow {c : Cx} {mr : Str → Option Value} {ρ : List Addr} {H : MH} {h h' : Heap} (S : St c mr ρ H h) (hk : ∀ b o, h.get? b = some o → h'.get? b = some o) : St c mr ρ H h' := by
  obtain ⟨ml, xs, l, back⟩ := S.open
  exact back _ _ _ (l.grow hk)
theorem last_get {ρ : List Addr} {H : MH} {l : Addr} (a2 : ρ.length = H.length) : (ρ ++ [l])[H.length]? = some l := by
  rw [List.getElem?_append_right (by rw [a2]; exact Nat.le_refl _), a2, Nat.sub_self]
  rfl
noncomputable def stb (sc : Scope) (x : Str) : Bool := sc.names.lookup x == some .local || sc.names.lookup x == some .cell
theorem store' {c : Cx} (hap : c.fm = none → c.env.cells.Pairwise fun x y => x.2 ≠ y.2) (hk : c.env.scope.kind = .function) (hfs : c.fm = none → c.env.scope = c.sc) {mr : Str → Option Value} {ρ : List Addr} {H : MH} {s : Shared} {x : Str} {v : Value} {Q E} (S : St c mr ρ H s.heap) (hfm : c.fm = none) (hx : stb c.sc x = true)
    (h : ∀ h' tk, St c (fun y => if y = x then some v else mr y) ρ H h' → Q () { s with heap := h', toks := tk }) :
    wpAny (model c.prog c.w) c.A (storeName c.env x v) Q E s := by
  unfold stb at hx
  replace hap := hap hfm
  rw [← hfs hfm] at hx
  simp only [Bool.or_eq_true, beq_iff_eq] at hx
  change c.env.kindOf x = some .local ∨ c.env.kindOf x = some .cell at hx
  refine S.oq fun ml fr ex os o u F a1 a2 a3 N a5 => ?_
  unfold Own at o
  rw [hfm] at o
  obtain ⟨oL, o1, o2⟩ := o
  rcases hx with hx | hx
  · refine wpAny_storeName_local hx (by rw [oL]; exact F.ns) (fun h' hn hs => ?_) (by rw [hk]; rfl)
    rw [oL] at hn hs
    refine h h' _ ⟨_, fr, ex, ?_, u, F.set hn hs, os, a1, a2, a3, N.set hs, a5⟩
    unfold Own
    rw [hfm]
    refine ⟨oL, fun y hy => ?_, fun y hy => ?_⟩
    · by_cases e : y = x
      · simp [e]
      · simp [e, o1 y hy]
    · have hne : y ≠ x := by
        rintro rfl
        rw [hx] at hy
        rcases hy with hy | hy <;> cases hy
      simp only [if_neg hne]
      exact o2 y hy
  · obtain ⟨a, ob, e1, e2, e3⟩ := o2 x (.inl hx)
    have hmem : (a, ob) ∈ fr ++ (c.xt ++ ex) := List.mem_append_right _ (List.mem_append_right _ e2)
    have hN := N _ (List.mem_append_left _ hmem)
    refine wpAny_storeName_cell hk hx e1 ⟨ob, hN.1, e3⟩ fun h' hv hs => ?_
    obtain ⟨o', ho', hd'⟩ := hv
    have hF : Fr c.h₀ c.L h' ml := F.change hs hN.2.1 hN.2.2
    let f : Addr × Obj → Addr × Obj := fun p => if p.1 = a then (a, o') else p
    have hfst : ∀ l : List (Addr × Obj), (l.map f).map (·.1) = l.map (·.1) := by
      intro l
      induction l with
      | nil => rfl
      | cons p l ih =>
        simp only [List.map_cons, ih]
        congr 1
        show (if p.1 = a then (a, o') else p).1 = p.1
        split
        · rename_i q; exact q.symm
        · rfl
    have hnd := a5
    rw [List.nodup_append] at hnd
    obtain ⟨nd1, nd2, nd3⟩ := hnd
    have hfix : ∀ p ∈ fr ++ c.xt, f p = p := by
      intro p hp
      show (if p.1 = a then (a, o') else p) = p
      rw [if_neg]
      intro q
      rw [List.map_append, List.map_append, ← List.append_assoc, ← List.map_append, List.nodup_append] at nd1
      exact nd1.2.2 p.1 (List.mem_map_of_mem hp) a (List.mem_map_of_mem (f := (·.1)) e2) q
    have hfix1 : fr.map f = fr := by
      have := List.map_congr_left (l := fr) (f := f) (g := id) (fun p hp => hfix p (List.mem_append_left _ hp))
      rw [this]; simp
    have hfix2 : c.xt.map f = c.xt := by
      have := List.map_congr_left (l := c.xt) (f := f) (g := id) (fun p hp => hfix p (List.mem_append_right _ hp))
      rw [this]; simp
    refine h h' _ ⟨ml, fr, ex.map f, ?_, u, hF, os, a1, a2, a3, ?_, ?_⟩
    · unfold Own
      rw [hfm]
      refine ⟨oL, fun y hy => ?_, fun y hy => ?_⟩
      · have hne : y ≠ x := by
          rintro rfl
          rw [hx] at hy
          cases hy
        simp only [if_neg hne]
        exact o1 y hy
      · by_cases e : y = x
        · subst e
          refine ⟨a, o', e1, ?_, by simp [hd']⟩
          have : f (a, ob) = (a, o') := by show (if a = a then (a, o') else _) = _; rw [if_pos rfl]
          rw [← this]
          exact List.mem_map_of_mem e2
        · obtain ⟨b, oy, y1, y2, y3⟩ := o2 y hy
          have hba : b ≠ a := fun q => e (name_of_addr hap (mem_of_lookup y1) (q ▸ mem_of_lookup e1))
          refine ⟨b, oy, y1, ?_, by simp [e, y3]⟩
          have : f (b, oy) = (b, oy) := by show (if b = a then (a, o') else _) = _; rw [if_neg hba]
          rw [← this]
          exact List.mem_map_of_mem y2
    · intro p hp
      have hsplit : fr ++ (c.xt ++ ex.map f) = (fr ++ (c.xt ++ ex)).map f := by simp only [List.map_append, hfix1, hfix2]
      rw [hsplit] at hp
      rcases List.mem_append.mp hp with hp | hp
      · obtain ⟨q, hq, rfl⟩ := List.mem_map.mp hp
        have P := N q (List.mem_append_left _ hq)
        show h'.get? (f q).1 = some (f q).2 ∧ _
        by_cases e : q.1 = a
        · have : f q = (a, o') := by show (if q.1 = a then (a, o') else q) = _; rw [if_pos e]
          rw [this]
          exact ⟨ho', hN.2⟩
        · have : f q = q := by show (if q.1 = a then (a, o') else q) = _; rw [if_neg e]
          rw [this]
          exact ⟨(hs.2 _ e).trans P.1, P.2⟩
      · have P := N p (List.mem_append_right _ hp)
        refine ⟨(hs.2 _ fun q => ?_).trans P.1, P.2⟩
        exact nd3 a (List.mem_map_of_mem (f := (·.1)) hmem) p.1 (List.of_mem_zip (show (p.1, p.2) ∈ _ from hp)).1 q.symm
    · have hsplit : fr ++ (c.xt ++ ex.map f) = (fr ++ (c.xt ++ ex)).map f := by simp only [List.map_append, hfix1, hfix2]
      rw [hsplit, hfst]
      exact a5
theorem store {G : Gx} {c : Cx} {d : Nat} (ok : Ok G c d) {mr : Str → Option Value} {ρ : List Addr} {H : MH} {s : Shared} {x : Str} {v : Value} {Q E} (S : St c mr ρ H s.heap) (hfm : c.fm = none) (hx : stb c.sc x = true)
    (h : ∀ h' tk, St c (fun y => if y = x then some v else mr y) ρ H h' → Q () { s with heap := h', toks := tk }) :
    wpAny (model c.prog c.w) c.A (storeName c.env x v) Q E s := store' ok.ap ok.fn ok.fs S hfm hx h
theorem su_addrs : ∀ {a b : List (Addr × Obj)}, TI.SameUp a b → b.map (·.1) = a.map (·.1)
  | [], [], _ => rfl
  | [], _ :: _, h => False.elim h
  | _ :: _, [], h => False.elim h
  | _ :: _, _ :: _, ⟨h1, _, h3⟩ => by simp only [List.map_cons, h1, su_addrs h3]
abbrev FA (c : Cx) : List Addr := c.L :: c.fr.map (·.1)
structure FlyB (c : Cx) (mr : Str → Option Value) (ρ : List Addr) (H : MH) (as : List MV) (e : Addr) (h hB : Heap) (t : Addr) (vs : List Value) : Prop where
  st : St c mr ρ H hB
  vr : VRs ρ as vs
  en : hB.get? e = none
  tn : hB.get? t = none
  tup : h.TupAt t vs
  up : hB.UpToSlots h
  stay : (TI.gone hB (FA c)).StaysIn h
noncomputable def FlyH (c : Cx) (mr : Str → Option Value) (ρ : List Addr) (H : MH) (C : Addr) (as : List MV) (e : Addr) (fl : Value) (h : Heap) : Prop :=
  ∃ hB t vs, FlyB c mr ρ H as e h hB t vs ∧ h.TracedAtW (TI.gone hB (FA c)) e (.ref C) (.ref t) fl
section
variable {c : Cx} {mr : Str → Option Value} {ρ : List Addr} {H : MH} {C : Addr} {as : List MV} {e : Addr} {h hB : Heap} {t : Addr} {vs : List Value} {G : Gx} {d : Nat}
theorem Fly.split (f : Fly c mr ρ H C as e h) : ∃ hB t vs, FlyB c mr ρ H as e h hB t vs ∧
    ((∃ oe ws, h.get? e = some oe ∧ oe.cls = .ref C ∧ oe.data = .fields ws ∧ ws[0]? = some (.ref t) ∧ ws[1]? = some .none) ∨
     ∃ fl, h.TracedAtW (TI.gone hB (FA c)) e (.ref C) (.ref t) fl ∧ (fl = .none ∨ fl = rawInt c.L)) := by
  obtain ⟨hB, t, vs, a1, a2, a3, a4, a5, a6, a7, a8⟩ := f
  exact ⟨hB, t, vs, ⟨a1, a2, a3, a4, a5, a6, a7⟩, a8⟩
theorem FlyB.fly (b : FlyB c mr ρ H as e h hB t vs) (x : (∃ oe ws, h.get? e = some oe ∧ oe.cls = .ref C ∧ oe.data = .fields ws ∧ ws[0]? = some (.ref t) ∧ ws[1]? = some .none) ∨
     ∃ fl, h.TracedAtW (TI.gone hB (FA c)) e (.ref C) (.ref t) fl ∧ (fl = .none ∨ fl = rawInt c.L)) : Fly c mr ρ H C as e h :=
  ⟨hB, t, vs, b.st, b.vr, b.en, b.tn, b.tup, b.up, b.stay, x⟩
theorem FlyH.fly {fl : Value} (f : FlyH c mr ρ H C as e fl h) (hfl : fl = .none ∨ fl = rawInt c.L) : Fly c mr ρ H C as e h := by
  obtain ⟨hB, t, vs, b, x⟩ := f
  exact b.fly (.inr ⟨fl, x, hfl⟩)
theorem FlyB.frames (ok : Ok G c d) (b : FlyB c mr ρ H as e h hB t vs) : ∃ env₀ outer, c.A.frames = some (env₀ :: outer) ∧ env₀.frame = some c.L ∧ (c.fm = none → env₀ = c.env) ∧ h.FunFrames (TI.gone hB (FA c)) (env₀ :: outer) := by
  obtain ⟨env₀, outer, hA, hf, hk, Fs, he⟩ := ok.frames
  refine ⟨env₀, outer, hA, hf, he, ?_⟩
  refine b.st.oq fun ml fr ex os own u F a1 a2 a3 N a5 => ?_
  have Fs' := Fs.up u
  obtain ⟨fr', u', ht'⟩ := TI.sameUp_of (h' := h) (frs := fr) fun p hp => b.up p.1 p.2 (N p (List.mem_append_left _ (List.mem_append_left _ hp))).1 fun ws q => by
    obtain ⟨es, ep, hd⟩ := Fs'.dict p hp
    rw [hd] at q; cases q
  refine Heap.FunFrames.cons (by rw [hk]; decide) hf (b.up.ns F.ns) (TI.gone_none (.head _)) ((Fs'.up u').fun fun q hq => ⟨ht' q hq, TI.gone_none (.tail _ ?_)⟩)
  rw [← su_addrs u, ← su_addrs u']
  exact List.mem_map_of_mem hq
theorem FlyB.st' (ok : Ok G c d) (b : FlyB c mr ρ H as e h hB t vs) : St c mr ρ H h := by
  obtain ⟨env₀, outer, hA, hf, hk, Fs, he⟩ := ok.frames
  refine b.st.oq fun ml fr ex os own u F a1 a2 a3 N a5 => ?_
  have Fs' := Fs.up u
  obtain ⟨fr', u', ht'⟩ := TI.sameUp_of (h' := h) (frs := fr) fun p hp => b.up p.1 p.2 (N p (List.mem_append_left _ (List.mem_append_left _ hp))).1 fun ws q => by
    obtain ⟨es, ep, hd⟩ := Fs'.dict p hp
    rw [hd] at q; cases q
  have hFA : FA c = c.L :: fr.map (·.1) := by unfold FA; rw [su_addrs u]
  have nd := a5
  rw [List.map_append, List.append_assoc, List.nodup_append] at nd
  refine ⟨ml, fr', ex, own, u.trans u', ⟨b.up.ns F.ns, fun x o ex => b.stay x o ((TI.gone_get ?_).trans (F.keep x o ex)), F.above⟩, os, a1, a2, a3, ?_, ?_⟩
  · rw [hFA]
    exact TI.base_apart (frs := fr) F N (fun p hp => List.mem_append_left _ (List.mem_append_left _ hp)) ex
  · intro p hp
    rw [List.append_assoc] at hp
    rcases List.mem_append.mp hp with hp | hp
    · obtain ⟨q, hq, e1⟩ := u'.fwd p hp
      have P := N q (List.mem_append_left _ (List.mem_append_left _ hq))
      exact ⟨ht' p hp, by rw [e1]; exact P.2.1, by rw [e1]; exact P.2.2⟩
    · have P := N p (by rw [List.append_assoc]; exact List.mem_append_right _ hp)
      refine ⟨b.stay _ _ ((TI.gone_get ?_).trans P.1), P.2⟩
      rw [hFA]
      intro hm
      rcases List.mem_cons.mp hm with q | hm
      · exact P.2.1 q
      · refine nd.2.2 p.1 hm p.1 ?_ rfl
        rcases List.mem_append.mp hp with hp | hp
        · exact List.mem_append_left _ (List.mem_map_of_mem hp)
        · exact List.mem_append_right _ (List.of_mem_zip (show (p.1, p.2) ∈ _ from hp)).1
  · rw [List.map_append, su_addrs u', ← List.map_append]
    exact a5
theorem Fly.st (ok : Ok G c d) (f : Fly c mr ρ H C as e h) : St c mr ρ H h := by
  obtain ⟨hB, t, vs, b, _⟩ := f.split
  exact b.st' ok
theorem FlyB.base (b : FlyB c mr ρ H as e h hB t vs) : (TI.gone hB (FA c)).get? e = none := TI.none_of (fun _ _ q => (TI.gone_some q).2) b.en
theorem FlyB.on {h' : Heap} (b : FlyB c mr ρ H as e h hB t vs) (up : h.UpToSlots h') (st : (TI.gone hB (FA c)).StaysIn h') : FlyB c mr ρ H as e h' hB t vs :=
  ⟨b.st, b.vr, b.en, b.tn, b.tup.of_slots up, b.up.trans up, st⟩
end
section
variable {c : Cx} {mr : Str → Option Value} {ρ : List Addr} {H : MH} {C : Addr} {as : List MV} {e : Addr} {G : Gx} {d : Nat} {M : Model} {A : Around} {s : Shared} {Q : Unit → Shared → Prop} {E : Value → Shared → Prop}
theorem setFlightW {base : Heap} {cls a0 fl : Value} (o : Option Addr) (hkb : base.StaysIn s.heap) (ht : s.heap.TracedAtW base e cls a0 fl)
    (h : ∀ h', base.StaysIn h' → h'.TracedAtW base e cls a0 (o.elim .none fun f => rawInt f) → (∀ b x, s.heap.get? b = some x → (∀ vs, x.data ≠ .fields vs) → h'.get? b = some x) → Q () { s with heap := h' }) :
    wpAny M A (setFlight (.ref e) o) Q E s := by
  obtain ⟨oe, vs, T, oT, ts, he, hcls, hd, h1, hnT, hTe, hT, hdT, h3⟩ := ht
  have hsz3 : 3 < ts.size := (Array.getElem?_eq_some_iff.mp h3).1
  have other : ∀ b, b ≠ T → (s.heap.update T (Obj.mapFields (·.setIfInBounds 3 (o.elim Value.none fun f => rawInt f)))).get? b = s.heap.get? b :=
    fun b hb => Heap.get?_update_other _ _ (Ne.symm hb)
  have noRecord : ∀ b o, s.heap.get? b = some o → (∀ vs, o.data ≠ .fields vs) → b ≠ T := fun b o hb hnf q => by
    rw [q, hT] at hb; injection hb with hb; subst hb; exact hnf ts hdT
  unfold setFlight
  refine wpAny_bind (wpAny_field he hd h1 ?_)
  rw [if_pos (show (Value.ref T != Value.none) = true from by simp)]
  refine wpAny_setField hT hdT hsz3 (h _ (fun b o hbo => (other b fun q => by rw [q, hnT] at hbo; cases hbo).trans (hkb b o hbo)) ?_ fun b o hb hnf => (other b (noRecord b o hb hnf)).trans hb)
  exact ⟨oe, vs, T, _, _, (other e (Ne.symm hTe)).trans he, hcls, hd, h1, hnT, hTe, Heap.get?_update_self _ hT (Obj.isFreed_of_fields (Obj.data_mapFields hdT _)), Obj.data_mapFields hdT _, by simp [hsz3]⟩
theorem FlyH.flight {fl : Value} (o : Option Addr) (f : FlyH c mr ρ H C as e fl s.heap) (k : ∀ h', FlyH c mr ρ H C as e (o.elim .none fun f => rawInt f) h' → Q () { s with heap := h' }) : wpAny M A (setFlight (.ref e) o) Q E s := by
  obtain ⟨hB, t, vs, b, x⟩ := f
  exact setFlightW o b.stay x fun h' k1 k2 k3 => k h' ⟨hB, t, vs, b.on (fun a x ha hn => ⟨x.slots, k3 a x ha hn⟩) k1, k2⟩
theorem Fly.note (ok : Ok G c d) (hfm : c.fm = none) (hA : A.frames = c.A.frames) (f : Fly c mr ρ H C as e s.heap) (k : ∀ h', FlyH c mr ρ H C as e (rawInt c.L) h' → Q () { s with heap := h' }) :
    wpAny M A (noteFrame (.ref e) c.env) Q E s := by
  obtain ⟨hB, t, vs, b, x⟩ := f.split
  obtain ⟨env₀, outer, hA0, hf, he0, hFF⟩ := b.frames ok
  have he1 := he0 hfm
  subst he1
  rw [hA0] at hA
  rcases x with ⟨oe, ws, q1, q2, q3, q4, q5⟩ | ⟨fl, x, rfl | rfl⟩
  · unfold noteFrame
    simp only [hf]
    refine wpAny_bind (wpAny_field q1 q3 q5 ?_)
    rw [if_neg (by decide)]
    refine wpAny_entryW (a0 := .ref t) hA hFF hf q1 b.stay b.base q3 (Array.getElem?_eq_some_iff.mp q5).1 q4 fun h' hN => ?_
    obtain ⟨k1, k2, k3, k4⟩ := hN
    rw [q2] at k3
    exact k h' ⟨hB, t, vs, b.on k4 k1, k3⟩
  · refine wpAny_noteFrame_onW hA hFF hf x b.stay b.base fun h' hN => ?_
    obtain ⟨k1, k2, k3, k4⟩ := hN
    exact k h' ⟨hB, t, vs, b.on k4 k1, k3⟩
  · exact wpAny_noteFrame_againW hf x (k s.heap ⟨hB, t, vs, b, x⟩)
theorem Fly.leave (ok : Ok G c d) (hfm : c.fm = none) (hA : A.frames = c.A.frames) (f : Fly c mr ρ H C as e s.heap) (k : ∀ h', FlyH c mr ρ H C as e .none h' → Q () { s with heap := h' }) :
    wpAny M A (leaving c.env (.ref e)) Q E s := by
  unfold leaving
  refine wpAny_bind (f.note ok hfm hA fun h' f' => ?_)
  exact f'.flight none k
theorem Kx.pass (ok : Ok G c d) (hfm : c.fm = none) {A' : Around} (hA : A.frames = c.A.frames) (k : Kx c ρ s E) : Kx c ρ s (notedBy M A c.env (cameBackBy M A' c.env E)) := by
  intro t C as e m' mr' H' h' tk hX hF hL
  obtain ⟨_, _, _, _, _, _, he⟩ := ok.frames
  have hfr : c.env.frame = some c.L := by
    obtain ⟨env₀, outer, _, hf, _, _, he⟩ := ok.frames
    rw [← he hfm]; exact hf
  unfold notedBy
  refine Fly.note (s := { s with heap := h', toks := tk }) ok hfm hA hF fun h2 f2 => ?_
  unfold cameBackBy
  obtain ⟨hB, t', vs, b, x⟩ := id f2
  obtain ⟨oe, ws, T, oT, ts, q1, q2, q3, q4, q5, q6, q7, q8, q9⟩ := id x
  refine wpAny_bind (wpAny_field q1 q3 q4 ?_)
  rw [if_neg (by simp)]
  rw [hfr]
  refine FlyH.flight (s := { s with heap := h2, toks := tk }) (some c.L) f2 fun h3 f3 => ?_
  exact k t C as e m' mr' H' h3 tk hX (f3.fly (.inr rfl)) hL
end
structure Over (c c' : Cx) (mr ml : Str → Option Value) (fr ex : List (Addr × Obj)) (oL : Obj) : Prop where
  prog : c'.prog = c.prog
  w : c'.w = c.w
  h₀ : c'.h₀ = c.h₀
  fr' : c'.fr = (c.L, oL) :: fr
  xt' : c'.xt = c.xt ++ ex
  su : TI.SameUp c.fr fr
  own : Own c mr ml ex
  ns : ∀ (h : Heap) sl, h.get? c.L = some { oL with slots := sl } → h.Ns c.L ml
  above : c.h₀.objs.size ≤ c.L
theorem Over.back {c c' : Cx} {mr ml mr' : Str → Option Value} {fr ex : List (Addr × Obj)} {oL : Obj} {ρ : List Addr} {H : MH} {h h' : Heap} (O : Over c c' mr ml fr ex oL) (S : St c' mr' ρ H h)
    (hk : ∀ b o, b ≠ c'.L → h.get? b = some o → h'.get? b = some o) : St c mr ρ H h' := by
  obtain ⟨ml', fr', ex', own', u', F', os, a1, a2, a3, N', a5⟩ := S
  obtain ⟨ep, ew, e0, ef, ex0, su, own, ns, above⟩ := O
  rw [ef] at u'
  cases fr' with
  | nil => exact False.elim u'
  | cons q fr'' =>
    obtain ⟨u1, ⟨sl, u2⟩, u3⟩ := u'
    obtain ⟨qa, qo⟩ := q
    simp only at u1 u2
    subst u1 u2
    have hmem : ∀ p ∈ (fr'' ++ (c.xt ++ ex)) ++ ρ.zip os, p ∈ ((c.L, { oL with slots := sl }) :: fr'' ++ (c'.xt ++ ex')) ++ ρ.zip os := by
      intro p hp
      rw [ex0]
      simp only [List.mem_append, List.mem_cons, List.cons_append] at hp ⊢
      rcases hp with (hp | hp | hp) | hp <;> simp [hp]
    have hL := N' (c.L, { oL with slots := sl }) (List.mem_append_left _ (.head _))
    have hnd : (c.L :: ((fr'' ++ (c.xt ++ ex)).map (·.1) ++ ρ)).Nodup := by
      refine List.Nodup.sublist ?_ a5
      rw [ex0]
      simp only [List.cons_append, List.map_cons, List.map_append, List.append_assoc]
      refine List.Sublist.cons_cons _ ?_
      refine List.Sublist.append (List.Sublist.refl _) ?_
      refine List.Sublist.append (List.Sublist.refl _) ?_
      refine List.Sublist.append (List.Sublist.refl _) ?_
      exact List.sublist_append_right _ _
    rw [List.nodup_cons] at hnd
    refine ⟨ml, fr'', ex, own, su.trans u3, ⟨ns _ sl (hk _ _ hL.2.1 hL.1), fun b o e => hk b o ?_ (F'.keep b o (by rw [e0]; exact e)), above⟩, os, a1, a2, ?_, ?_, hnd.2⟩
    · rintro rfl
      have := F'.above
      rw [e0] at this
      exact absurd (Heap.lt_size e) (Nat.not_lt.mpr this)
    · rw [← ep, ← ew]; exact a3
    · intro p hp
      have P := N' p (hmem p hp)
      refine ⟨hk _ _ P.2.1 P.1, ?_, by rw [← e0]; exact P.2.2⟩
      intro q
      refine hnd.1 ?_
      rw [← q]
      rcases List.mem_append.mp hp with hp | hp
      · exact List.mem_append_left _ (List.mem_map_of_mem hp)
      · exact List.mem_append_right _ (List.of_mem_zip (show (p.1, p.2) ∈ _ from hp)).1
theorem Over.fly {c c' : Cx} {mr ml mr' : Str → Option Value} {fr ex : List (Addr × Obj)} {oL : Obj} {ρ : List Addr} {H : MH} {C : Addr} {as : List MV} {e : Addr} {h : Heap} (O : Over c c' mr ml fr ex oL)
    (f : FlyH c' mr' ρ H C as e .none h) : Fly c mr ρ H C as e h := by
  obtain ⟨hB, t, vs, b, x⟩ := f
  have hg : ∀ b o, (TI.gone hB [c'.L]).get? b = some o → b ≠ c'.L ∧ hB.get? b = some o := fun b o q => by
    obtain ⟨h1, h2⟩ := TI.gone_some q
    exact ⟨fun e => h1 (by rw [e]; exact .head _), h2⟩
  have hin : ∀ b o, (TI.gone (TI.gone hB [c'.L]) (FA c)).get? b = some o → (TI.gone hB (FA c')).get? b = some o := fun b o q => by
    obtain ⟨h1, h2⟩ := TI.gone_some q
    obtain ⟨h3, h4⟩ := hg b o h2
    refine (TI.gone_get ?_).trans h4
    unfold FA at h1 ⊢
    rw [O.fr', List.map_cons, su_addrs O.su]
    intro hm
    rcases List.mem_cons.mp hm with q | hm
    · exact h3 q
    · exact h1 hm
  refine FlyB.fly (hB := TI.gone hB [c'.L]) (t := t) (vs := vs) ⟨O.back b.st fun b o hb q => (TI.gone_get (by simpa using hb)).trans q, b.vr, TI.none_of (fun b o q => (hg b o q).2) b.en, TI.none_of (fun b o q => (hg b o q).2) b.tn, b.tup,
    fun a o q hn => b.up a o (hg a o q).2 hn, fun a o q => b.stay a o (hin a o q)⟩ (.inr ⟨.none, ?_, .inl rfl⟩)
  obtain ⟨oe, ws, T, oT, ts, q1, q2, q3, q4, q5, q6, q7, q8, q9⟩ := x
  exact ⟨oe, ws, T, oT, ts, q1, q2, q3, q4, TI.none_of hin q5, q6, q7, q8, q9⟩
noncomputable def CL (G : Gx) (prog : Program) (w : World) (d : Nat) (f : Addr) (args : List MV) (H : MH) (post : MV → MH → Prop) (xp : Addr → List MV → MH → Prop) : Prop :=
  ∀ (c : Cx) (mr : Str → Option Value) (ρ : List Addr) (s : Shared) (Q : Value → Shared → Prop) (E : Value → Shared → Prop) (vs : List Value), c.prog = prog → c.w = w → Ok G c d → St c mr ρ H s.heap → VRs ρ args vs →
    (∀ t v vr H' h' tk, post v H' → VR (ρ ++ t) v vr → St c mr (ρ ++ t) H' h' → Q vr { s with heap := h', toks := tk }) →
    (∀ t C as e H' h' tk, xp C as H' → Fly c mr (ρ ++ t) H' C as e h' → E (.ref e) { s with heap := h', toks := tk }) →
    codeAny (model prog w) c.A (.call (.ref f) ⟨vs, []⟩) (fun r s' => match r with | .ok (.ret v) => Q v s' | .ok _ => False | .error e => E e s') s
theorem CL.mono {G : Gx} {prog : Program} {w : World} {d : Nat} {f : Addr} {args : List MV} {H : MH} {p q : MV → MH → Prop} {xp xq : Addr → List MV → MH → Prop} (h : CL G prog w d f args H p xp) (hp : ∀ v H', p v H' → q v H')
    (hx : ∀ C as H', xp C as H' → xq C as H') : CL G prog w d f args H q xq :=
  fun c mr ρ s Q E vs e1 e2 o S l k kx => h c mr ρ s Q E vs e1 e2 o S l (fun t v vr H' h' tk hv => k t v vr H' h' tk (hp _ _ hv)) fun t C as e H' h' tk hv => kx t C as e H' h' tk (hx _ _ _ hv)
inductive Fl where
  | next
  | brk
  | cont
  | ret (v : MV)
noncomputable def FlR (ρ : List Addr) : Fl → Flow → Prop
  | .next, f => f = .next
  | .brk, f => f = .brk
  | .cont, f => f = .cont
  | .ret m, f => ∃ v, f = .ret v ∧ VR ρ m v
noncomputable def retv : Fl → MV
  | .ret v => v
  | _ => .none
noncomputable def EX (c : Cx) (m : ML) (ss : List Stmt) (H : MH) (post : Fl → ML → MH → Prop) : Prop :=
  ∀ (mr : Str → Option Value) (ρ : List Addr) (s : Shared) (Q : Flow → Shared → Prop) (E : Value → Shared → Prop), St c mr ρ H s.heap → LR mr c.nm ρ m →
    (∀ t f fr m' mr' H' h' tk, post f m' H' → FlR (ρ ++ t) f fr → St c mr' (ρ ++ t) H' h' → LR mr' c.nm (ρ ++ t) m' → Q fr { s with heap := h', toks := tk }) → Kx c ρ s E →
    wpAny (model c.prog c.w) c.A (execs ss c.env) Q E s
theorem bindL_off {k : Str → Option NameKind} {x : Str} : ∀ {names : List Str} {vals : List Value} {m₀ : Str → Option Value}, x ∉ names → bindL k (names.zip vals) m₀ x = m₀ x
  | [], _, _, _ => rfl
  | _ :: _, [], _, _ => rfl
  | n :: ns, v :: vs, m₀, h => by
    have hn : x ≠ n := fun e => h (e ▸ .head _)
    rw [List.zip_cons_cons]
    unfold bindL
    rw [bindL_off fun q => h (.tail _ q)]
    split <;> simp [hn]
theorem bindC_off {k : Str → Option NameKind} {x : Str} : ∀ {names : List Str} {vals : List Value} {m₀ : Str → Option Value}, x ∉ names → bindC k (names.zip vals) m₀ x = m₀ x
  | [], _, _, _ => rfl
  | _ :: _, [], _, _ => rfl
  | n :: ns, v :: vs, m₀, h => by
    have hn : x ≠ n := fun e => h (e ▸ .head _)
    rw [List.zip_cons_cons]
    unfold bindC
    rw [bindC_off fun q => h (.tail _ q)]
    split <;> simp [hn]
theorem bindL_at {k : Str → Option NameKind} {x : Str} {v : Value} (hk : k x = some .local) : ∀ {names : List Str} {vals : List Value} {i : Nat} {m₀ : Str → Option Value}, names.Nodup → names[i]? = some x → vals[i]? = some v → bindL k (names.zip vals) m₀ x = some v
  | [], _, _, _, _, e, _ => by simp at e
  | _ :: _, [], _, _, _, _, e => by simp at e
  | n :: ns, u :: us, 0, m₀, hn, e1, e2 => by
    simp at e1 e2
    subst e1 e2
    rw [List.zip_cons_cons]
    unfold bindL
    rw [bindL_off (List.nodup_cons.mp hn).1, if_pos hk]
    simp
  | n :: ns, u :: us, i + 1, m₀, hn, e1, e2 => by
    rw [List.zip_cons_cons]
    unfold bindL
    exact bindL_at hk (List.nodup_cons.mp hn).2 (by simpa using e1) (by simpa using e2)
theorem bindC_at {k : Str → Option NameKind} {x : Str} {v : Value} (hk : k x ≠ some .local) : ∀ {names : List Str} {vals : List Value} {i : Nat} {m₀ : Str → Option Value}, names.Nodup → names[i]? = some x → vals[i]? = some v → bindC k (names.zip vals) m₀ x = some v
  | [], _, _, _, _, e, _ => by simp at e
  | _ :: _, [], _, _, _, _, e => by simp at e
  | n :: ns, u :: us, 0, m₀, hn, e1, e2 => by
    simp at e1 e2
    subst e1 e2
    rw [List.zip_cons_cons]
    unfold bindC
    rw [bindC_off (List.nodup_cons.mp hn).1, if_neg hk]
    simp
  | n :: ns, u :: us, i + 1, m₀, hn, e1, e2 => by
    rw [List.zip_cons_cons]
    unfold bindC
    exact bindC_at hk (List.nodup_cons.mp hn).2 (by simpa using e1) (by simpa using e2)
theorem cells_get {cm : Str → Option Value} {x : Str} {a : Addr} : ∀ {cs : List (Str × Addr)} {cells : List (Addr × Obj)}, CellsAre cm cs cells → cs.lookup x = some a → ∃ o, (a, o) ∈ cells ∧ o.data = .cell (cm x)
  | _, _, .nil, h => by cases h
  | _, _, .cons (n := n) (c := b) (o := o) hd X, h => by
    rw [List.lookup_cons] at h
    by_cases e : x = n
    · subst e
      simp at h
      subst h
      exact ⟨o, .head _, hd⟩
    · have hb : (x == n) = false := by simpa using e
      rw [hb] at h
      obtain ⟨o', h1, h2⟩ := cells_get X h
      exact ⟨o', .tail _ h1, h2⟩
theorem cells_addrs {cm : Str → Option Value} : ∀ {cs : List (Str × Addr)} {cells : List (Addr × Obj)}, CellsAre cm cs cells → cells.map (·.1) = cs.map (·.2)
  | _, _, .nil => rfl
  | _, _, .cons hd X => by simp only [List.map_cons, cells_addrs X]
noncomputable def start (nm : List Str) (args : List MV) : ML := args.map some ++ List.replicate (nm.length - args.length) none
noncomputable def fnb (scope : Scope) (names nm : List Str) : Bool :=
  names == nm.take names.length && decide nm.Nodup && names.all (fun x => stb scope x) && !scope.isCoroutine && !scope.isGenerator && scope.kind == .function &&
    decide (((cellsFrom 0 scope.names []).map (·.1)).Nodup) && scope.names.all (fun p => p.2 != .free)
theorem nofree {x : Str} : ∀ {l : List (Str × NameKind)}, l.all (fun p => p.2 != .free) = true → l.lookup x ≠ some .free
  | [], _, h => by cases h
  | (y, k) :: r, h, e => by
    simp only [List.all_cons, Bool.and_eq_true] at h
    rw [List.lookup_cons] at e
    by_cases q : x = y
    · subst q
      simp at e
      rw [e] at h
      exact absurd h.1 (by decide)
    · have hb : (x == y) = false := by simpa using q
      rw [hb] at e
      exact nofree h.2 e
theorem CL.body {G : Gx} {prog : Program} {w : World} {d : Nat} {f : Addr} {args : List MV} {H : MH} {post : MV → MH → Prop} {xp : Addr → List MV → MH → Prop}
    {name qual : Str} {params : Arguments} {body : List Stmt} {scope : Scope} {dV kV doc pm cdv ct oc : Value} {an od : Option Addr} {osl : Array (Option Value)} {names nm : List Str} {dm : List MV} {dv : List Value}
    (hf : G.K.lookup f = some ⟨oc, od, .func (fnOf name qual params body scope dV kV doc pm an cdv ct), osl⟩) (hcd : codeIn G.K cdv qual = true)
    (hb : ∀ (s : Shared) (vs : List Value), G.K.In s.heap → vs.length = args.length → BindsTo s (fnOf name qual params body scope dV kV doc pm an cdv ct) ⟨vs, []⟩ (names.zip (vs ++ dv)))
    (hdm : VRs [] dm dv) (hl : (args ++ dm).length = names.length) (hfn : fnb scope names nm = true)
    (h : ∀ c : Cx, c.prog = prog → c.w = w → Ok G c d → c.fm = none → c.nm = nm → c.sc = scope → c.X = (fun C as _ H => xp C as H) → EX c (start nm (args ++ dm)) body H (fun fl _ H' => post (retv fl) H')) :
    CL G prog w (d + 1) f args H post xp := by
  intro c mr ρ s Q E vs ep ew ok S hvs k kx
  subst ep ew
  unfold fnb at hfn
  simp only [Bool.and_eq_true, beq_iff_eq, decide_eq_true_eq, Bool.not_eq_true', List.all_eq_true] at hfn
  obtain ⟨⟨⟨⟨⟨⟨⟨hn1, hn2⟩, hn3⟩, hco⟩, hgen⟩, hk⟩, hnd⟩, hnf⟩ := hfn
  have hnf' : scope.names.all (fun p => p.2 != .free) = true := List.all_eq_true.mpr hnf
  obtain ⟨ml, fr, ex, own, u, F, os, a1, a2, a3, N, a5⟩ := id S
  obtain ⟨env₀, outer, hA, hfr, hkf, Fs, _⟩ := ok.frames
  have X := ok.kin.keeps F.keep
  have hnn : names.Nodup := by rw [hn1]; exact (List.take_sublist _ _).nodup hn2
  have hvd : VRs ρ (args ++ dm) (vs ++ dv) := hvs.append (by simpa using hdm.mono (t := ρ))
  have hlen : (vs ++ dv).length = names.length := by rw [hvd.length, hl]
  have hmemn : ∀ x ∈ names.zip (vs ++ dv), scope.names.lookup x.1 = some .local ∨ scope.names.lookup x.1 = some .cell := fun x hx => by
    have := hn3 x.1 (List.of_mem_zip (show (x.1, x.2) ∈ _ from hx)).1
    unfold stb at this
    simpa using this
  refine codeAny_call_function (by have := ok.dep; lia) (X _ _ hf) rfl hco hgen rfl (codeRec_of X hcd) (hb s vs X hvs.length _ _ _ _ ?_)
  refine wpAny_newFunctionEnv_cells hk (fun x hx => (hmemn x hx).imp id fun q => ⟨q, cellsFrom_some _ _ _ (.inl q)⟩) fun env' he s' x => ?_
  subst he
  refine ⟨(ok.top.nolimit.keeps F.keep).keeps x.toInCall.keep, codeAny_func ?_⟩
  obtain ⟨h₁, tk, rfl, hk₁⟩ := x.done
  obtain ⟨cells, NC, Y⟩ := Cl.news (h₀ := s.heap) (Nat.le_refl _) fun n c hm => ⟨x.cell n c (lookup_of_mem_nodup (cellsFrom_names scope.names 0 (s.heap.objs.size + 1) [] [] rfl ▸ hnd) hm), x.above n c hm⟩
  obtain ⟨oL, es, eP, hL, hLd, hLk, hLf⟩ := F.ns
  have hLt := Heap.lt_size hL
  let env' : Env := envOfC qual scope s.heap.objs.size f cdv
  let mr' : Str → Option Value := fun y => if env'.kindOf y = some .local then bindL env'.kindOf (names.zip (vs ++ dv)) (fun _ => none) y else bindC env'.kindOf (names.zip (vs ++ dv)) (fun _ => none) y
  let c' : Cx := { prog := c.prog, w := c.w, A := c.A.deeper env', env := env', h₀ := c.h₀, L := s.heap.objs.size, fm := none, fr := (c.L, oL) :: fr, xt := c.xt ++ ex, X := fun C as _ H => xp C as H, nm := nm, sc := scope }
  have O : Over c c' mr ml fr ex oL := ⟨rfl, rfl, rfl, rfl, rfl, u, own, fun h' sl e => ⟨_, es, eP, e, hLd, hLk, hLf⟩, F.above⟩
  have ok' : Ok G c' d := by
    refine ⟨⟨env', env₀ :: outer, Around.frames_deeper hA, rfl, hk, ⟨by rw [hkf]; decide, hfr, ⟨es, eP, hLd⟩, Fs.up u⟩, fun _ => rfl⟩, ok.kin, ok.top, ok.hh, ?_, ?_, hk, rfl, rfl, fun _ => x.apart, fun _ => rfl, fun _ => rfl, ok.ex⟩
    · have := ok.dep
      show c.A.depth + 1 + d < recursionLimit
      lia
    · have := ok.uni
      show c.A.units + 3 + 8 * d + 64 < cLine
      lia
  have hall : ∀ p ∈ (fr ++ (c.xt ++ ex)) ++ ρ.zip os, h₁.get? p.1 = some p.2 ∧ p.1 ≠ s.heap.objs.size ∧ c.h₀.get? p.1 = none := fun p hp => ⟨hk₁ _ _ (N p hp).1, Nat.ne_of_lt (Heap.lt_size (N p hp).1), (N p hp).2.2⟩
  have S' : St c' mr' ρ H h₁ := by
    refine ⟨bindL env'.kindOf (names.zip (vs ++ dv)) (fun _ => none), (c.L, oL) :: fr, cells, ?_, TI.SameUp.refl _, ⟨x.toInCall.ns, fun b o e => hk₁ b o (F.keep b o e), Nat.le_trans F.above (Nat.le_of_lt hLt)⟩, os, a1, a2, a3, ?_, ?_⟩
    · refine ⟨rfl, fun y hy => ?_, fun y hy => ?_⟩
      · show _ = if env'.kindOf y = some .local then _ else _
        rw [if_pos hy]
      · rcases hy with hy | hy
        · have hs : ((cellsFrom (s.heap.objs.size + 1) scope.names []).lookup y).isSome = true := cellsFrom_some _ _ _ (.inl hy)
          obtain ⟨a, ha⟩ := Option.isSome_iff_exists.mp hs
          obtain ⟨o, h1, h2⟩ := cells_get Y ha
          refine ⟨a, o, ha, h1, h2.trans ?_⟩
          have hnl : ¬ env'.kindOf y = some .local := by
            intro q
            have q' : env'.kindOf y = some .cell := hy
            rw [q] at q'
            cases q'
          show _ = Data.cell (if env'.kindOf y = some .local then _ else _)
          rw [if_neg hnl]
          rfl
        · exact absurd hy (nofree hnf')
    · intro p hp
      replace hp : p ∈ (((c.L, oL) :: fr) ++ ((c.xt ++ ex) ++ cells)) ++ ρ.zip os := hp
      simp only [List.cons_append, List.append_assoc, List.mem_cons, List.mem_append] at hp
      rcases hp with rfl | hp | hp | hp | hp | hp
      · exact ⟨hk₁ _ _ hL, Nat.ne_of_lt hLt, Heap.get?_none_of_le F.above⟩
      · exact hall p (by simp [hp])
      · exact hall p (by simp [hp])
      · exact hall p (by simp [hp])
      · exact ⟨(NC p hp).1, (NC p hp).2.1, TI.none_of F.keep (NC p hp).2.2⟩
      · exact hall p (by simp [hp])
    · have hLn : c.L ∉ (fr ++ (c.xt ++ ex)).map (·.1) ++ ρ := fun q => by
        obtain ⟨p, hp, e⟩ := led_addr (os := os) a1 a2 q
        exact (N p hp).2.1 e
      have hcn : ∀ a ∈ cells.map (·.1), s.heap.get? a = none := fun a ha => by
        obtain ⟨p, hp, rfl⟩ := List.mem_map.mp ha
        exact (NC p hp).2.2
      have hcnd : (cells.map (·.1)).Nodup := by
        rw [cells_addrs Y]
        exact List.pairwise_map.mpr x.apart
      have hp : ((((c.L, oL) :: fr) ++ ((c.xt ++ ex) ++ cells)).map (·.1) ++ ρ).Perm (cells.map (·.1) ++ (c.L :: ((fr ++ (c.xt ++ ex)).map (·.1) ++ ρ))) := by
        simp only [List.map_append, List.map_cons, List.cons_append, List.append_assoc]
        have : ∀ (A B C R : List Addr), (A ++ (B ++ (C ++ R))).Perm (C ++ (A ++ (B ++ R))) := by
          intro A B C R
          have h1 : ((A ++ B) ++ C ++ R).Perm (C ++ (A ++ B) ++ R) := List.perm_append_comm.append_right R
          simpa [List.append_assoc] using h1
        have h2 := this (c.L :: fr.map (·.1)) (c.xt.map (·.1) ++ ex.map (·.1)) (cells.map (·.1)) ρ
        simpa [List.append_assoc] using h2
      rw [hp.nodup_iff, List.nodup_append]
      refine ⟨hcnd, List.nodup_cons.mpr ⟨hLn, a5⟩, fun a ha b hb e => ?_⟩
      subst e
      have h0 := hcn a ha
      rcases List.mem_cons.mp hb with q | q
      · rw [q, hL] at h0; cases h0
      · obtain ⟨p, hp, e⟩ := led_addr (os := os) a1 a2 q
        have := (N p hp).1
        rw [e, h0] at this
        cases this
  have l' : LR mr' nm ρ (start nm (args ++ dm)) := by
    have hle : names.length ≤ nm.length := by
      have := congrArg List.length hn1
      rw [List.length_take] at this
      lia
    refine ⟨by unfold start; rw [List.length_append, List.length_map, List.length_replicate]; lia, fun i y v e1 e2 => ?_⟩
    unfold start at e2
    by_cases hi : i < (args ++ dm).length
    · rw [List.getElem?_append_left (by rw [List.length_map]; exact hi), List.getElem?_map] at e2
      cases q : (args ++ dm)[i]? with
      | none => rw [q] at e2; cases e2
      | some v' =>
        rw [q] at e2
        cases e2
        obtain ⟨vr, g1, g2⟩ := hvd.get q
        have hy : names[i]? = some y := by
          rw [hn1, List.getElem?_take_of_lt (by rw [← hl]; exact hi)]
          exact slot_get e1
        refine ⟨vr, g2, ?_⟩
        show (if env'.kindOf y = some .local then _ else _) = _
        split
        · rename_i q; exact bindL_at q hnn hy g1
        · rename_i q; exact bindC_at q hnn hy g1
    · rw [List.getElem?_append_right (by rw [List.length_map]; lia), List.getElem?_replicate] at e2
      split at e2 <;> cases e2
  refine h c' rfl rfl ok' rfl rfl rfl rfl mr' ρ { s with heap := h₁, toks := tk } _ _ S' l' ?_ ?_
  · intro t fl fr' m' mr'' H' h' tk' hp hfl S2 _
    have S3 : St c mr (ρ ++ t) H' h' := O.back S2 fun b o _ q => q
    cases fl with
    | ret v =>
      obtain ⟨vr, rfl, hv⟩ := hfl
      exact k t v vr H' h' tk' hp hv S3
    | next => subst hfl; exact k t .none .none H' h' tk' hp rfl S3
    | brk => subst hfl; exact k t .none .none H' h' tk' hp rfl S3
    | cont => subst hfl; exact k t .none .none H' h' tk' hp rfl S3
  · intro t C as e m' mr'' H' h' tk' hX hF hL'
    refine Fly.leave (c := c') (s := { s with heap := h', toks := tk' }) ok' rfl rfl hF fun h2 f2 => ?_
    exact kx t C as e H' h2 tk' hX (O.fly f2)
mutual
inductive CE where
  | int (i : Int)
  | str (x : Str)
  | none
  | bool (b : Bool)
  | loc (i : Nat)
  | glob (x : Str)
  | bin (op : Operator) (a b : CE)
  | neg (a : CE)
  | tst (t : CT)
  | ite (t : CT) (a b : CE)
  | call (g : Str) (as : CEs)
  | meth (o : CE) (n : Str) (as : CEs)
  | attr (o : CE) (n : Str)
  | sub (o i : CE)
  | slice (o : CE) (lo hi : CO)
  | list (as : CEs)
  | tup (as : CEs)
  | dict0
  | comp (elt : CE) (tg : List Str) (it : CE) (cs : CTs)
inductive CEs where
  | nil
  | cons (e : CE) (r : CEs)
inductive CO where
  | none
  | some (e : CE)
inductive CT where
  | cmp (op : CmpOp) (a b : CE)
  | cmp2 (a : CE) (o1 : CmpOp) (b : CE) (o2 : CmpOp) (c : CE)
  | not (t : CT)
  | and (ts : CTs)
  | or (ts : CTs)
  | plain (e : CE)
inductive CTs where
  | nil
  | cons (t : CT) (r : CTs)
end
mutual
inductive CS where
  | assign (i : Nat) (e : CE)
  | assignT (is : List Nat) (e : CE)
  | setItem (o i e : CE)
  | setAttr (o : CE) (n : Str) (e : CE)
  | swap (o1 i1 o2 i2 e1 e2 : CE)
  | expr (e : CE)
  | ite (t : CT) (a b : CSs)
  | while (t : CT) (b : CSs)
  | for (tg : List Nat) (it : CE) (b : CSs)
  | ret (e : CE)
  | ret0
  | raise (g : Str) (as : CEs)
  | raiseFrom (g : Str) (as : CEs) (c : CE)
  | try (b : CSs) (h : CHs)
  | brk
  | cont
  | pass
inductive CSs where
  | nil
  | cons (s : CS) (r : CSs)
inductive CHs where
  | nil
  | cons (g : Str) (x : Option Nat) (b : CSs) (r : CHs)
end
noncomputable def kids : PySem.Expr → List PySem.Expr
  | .BinOp l _ r _ => [l, r]
  | .UnaryOp _ x _ => [x]
  | .IfExp a b c _ => [a, b, c]
  | .Compare l _ rs _ => l :: rs
  | .Call f as _ _ => f :: as
  | .Attribute o _ _ => [o]
  | .Subscript o i _ => [o, i]
  | .List es _ => es
  | .Tuple es _ _ => es
  | .BoolOp _ es _ => es
  | .ListComp el [⟨t, i, ifs, _⟩] _ _ => el :: t :: i :: ifs
  | .Slice l h _ _ => l.toList ++ h.toList
  | _ => []
noncomputable def numOf : PySem.Expr → Nat
  | .Constant _ k _ => k
  | .Tuple _ k _ => k
  | _ => 0
noncomputable def scOf : PySem.Expr → Scope
  | .ListComp _ _ s _ => s
  | _ => default
noncomputable def kid (i : Nat) (e : PySem.Expr) : PySem.Expr := (kids e).getD i e
noncomputable def nth (i : Nat) (es : List PySem.Expr) : PySem.Expr := es.getD i (.Name "" default)
noncomputable def reNames (ns : List Str) (es : List PySem.Expr) : List PySem.Expr := match ns with
  | [] => []
  | x :: r => .Name x (nth 0 es).pos :: reNames r es.tail
noncomputable def reTg (ns : List Str) (e : PySem.Expr) : PySem.Expr := match ns with
  | [x] => .Name x e.pos
  | ns => .Tuple (reNames ns (kids e)) (numOf e) e.pos
mutual
noncomputable def reE : CE → List Str → PySem.Expr → PySem.Expr
  | .int i => fun _ e => .Constant (.int i) (numOf e) e.pos
  | .str x => fun _ e => .Constant (.str x) (numOf e) e.pos
  | .none => fun _ e => .Constant .none (numOf e) e.pos
  | .bool b => fun _ e => .Constant (.bool b) (numOf e) e.pos
  | .loc i => fun nm e => .Name (nm.getD i "") e.pos
  | .glob x => fun _ e => .Name x e.pos
  | .bin op a b => fun nm e => .BinOp (reE a nm (kid 0 e)) op (reE b nm (kid 1 e)) e.pos
  | .neg a => fun nm e => .UnaryOp .USub (reE a nm (kid 0 e)) e.pos
  | .tst t => fun nm e => reT t nm e
  | .ite t a b => fun nm e => .IfExp (reT t nm (kid 0 e)) (reE a nm (kid 1 e)) (reE b nm (kid 2 e)) e.pos
  | .call g as => fun nm e => .Call (.Name g (kid 0 e).pos) (reEs as nm (kids e).tail) [] e.pos
  | .meth o n as => fun nm e => .Call (.Attribute (reE o nm (kid 0 (kid 0 e))) n (kid 0 e).pos) (reEs as nm (kids e).tail) [] e.pos
  | .attr o n => fun nm e => .Attribute (reE o nm (kid 0 e)) n e.pos
  | .sub o i => fun nm e => .Subscript (reE o nm (kid 0 e)) (reE i nm (kid 1 e)) e.pos
  | .slice o lo hi => fun nm e => .Subscript (reE o nm (kid 0 e)) (.Slice (reO lo nm (nth 0 (kids (kid 1 e)))) (reO hi nm (nth 0 (kids (kid 1 e)).reverse)) Option.none (kid 1 e).pos) e.pos
  | .list as => fun nm e => .List (reEs as nm (kids e)) e.pos
  | .tup as => fun nm e => .Tuple (reEs as nm (kids e)) (numOf e) e.pos
  | .dict0 => fun _ e => .Dict [] [] e.pos
  | .comp elt tg it cs => fun nm e => .ListComp (reE elt (nm ++ tg) (kid 0 e)) [⟨reTg tg (kid 1 e), reE it nm (kid 2 e), reTs cs (nm ++ tg) ((kids e).drop 3), 0⟩] (scOf e) e.pos
noncomputable def reEs : CEs → List Str → List PySem.Expr → List PySem.Expr
  | .nil => fun _ _ => []
  | .cons a r => fun nm es => reE a nm (nth 0 es) :: reEs r nm es.tail
noncomputable def reO : CO → List Str → PySem.Expr → Option PySem.Expr
  | .none => fun _ _ => Option.none
  | .some a => fun nm e => Option.some (reE a nm e)
noncomputable def reT : CT → List Str → PySem.Expr → PySem.Expr
  | .cmp op a b => fun nm e => .Compare (reE a nm (kid 0 e)) [op] [reE b nm (kid 1 e)] e.pos
  | .cmp2 a o1 b o2 c => fun nm e => .Compare (reE a nm (kid 0 e)) [o1, o2] [reE b nm (kid 1 e), reE c nm (kid 2 e)] e.pos
  | .not t => fun nm e => .UnaryOp .Not (reT t nm (kid 0 e)) e.pos
  | .and ts => fun nm e => .BoolOp .And (reTs ts nm (kids e)) e.pos
  | .or ts => fun nm e => .BoolOp .Or (reTs ts nm (kids e)) e.pos
  | .plain a => fun nm e => reE a nm e
noncomputable def reTs : CTs → List Str → List PySem.Expr → List PySem.Expr
  | .nil => fun _ _ => []
  | .cons t r => fun nm es => reT t nm (nth 0 es) :: reTs r nm es.tail
end
noncomputable def notSup : PySem.Expr → Bool
  | .Call (.Name _ _) [] [] _ => false
  | _ => true
noncomputable def notSlice : PySem.Expr → Bool
  | .Slice .. => false
  | _ => true
noncomputable def notStar : PySem.Expr → Bool
  | .Starred .. => false
  | _ => true
noncomputable def notComp : PySem.Expr → Bool
  | .ListComp .. => false
  | .SetComp .. => false
  | .DictComp .. => false
  | _ => true
noncomputable def notTuple : PySem.Expr → Bool
  | .Tuple .. => false
  | _ => true
noncomputable def plainX : PySem.Expr → Bool
  | .UnaryOp .Not _ _ => false
  | .BoolOp .. => false
  | .IfExp .. => false
  | .Compare .. => false
  | _ => true
noncomputable def nonPlain : CT → Bool
  | .plain _ => false
  | _ => true
noncomputable def plainC : CE → Bool
  | .tst _ => false
  | .ite .. => false
  | _ => true
noncomputable def nsup : CE → Bool
  | .call _ .nil => false
  | _ => true
noncomputable def okNames (p : Str → Bool) : List Str → Bool
  | [] => true
  | x :: r => p x && !r.contains x && okNames p r
noncomputable def tgk (scope : Scope) (x : Str) : Bool := scope.names.lookup x == some .local || scope.names.lookup x == some .cell
noncomputable def compb (sc scope : Scope) (tg : List Str) : Bool :=
  scope.kind == .function && scope.names.all fun p => match p.2 with
    | .local => (p.1 == (".0" : Str) || tg.contains p.1) && scope.names.lookup p.1 == some .local
    | .cell => tg.contains p.1 && scope.names.lookup p.1 == some .cell
    | .free => kcl (sc.names.lookup p.1) == 2 && !tg.contains p.1
    | .globalImplicit => true
    | _ => false
noncomputable def lenEs : CEs → Nat
  | .nil => 0
  | .cons _ r => lenEs r + 1
noncomputable def okSlot (nm : List Str) (i : Nat) : Bool := slot nm (nm.getD i "") == some i
mutual
noncomputable def wfE : CE → List Str → Scope → PySem.Expr → Bool
  | .int _ => fun _ _ _ => true
  | .str _ => fun _ _ _ => true
  | .none => fun _ _ _ => true
  | .bool _ => fun _ _ _ => true
  | .loc i => fun nm sc _ => okSlot nm i && rdb sc (nm.getD i "")
  | .glob x => fun _ sc _ => glb sc x
  | .bin _ a b => fun nm sc e => wfE a nm sc (kid 0 e) && wfE b nm sc (kid 1 e)
  | .neg a => fun nm sc e => wfE a nm sc (kid 0 e)
  | .tst t => fun nm sc e => nonPlain t && wfT t nm sc e
  | .ite t a b => fun nm sc e => wfT t nm sc (kid 0 e) && wfE a nm sc (kid 1 e) && wfE b nm sc (kid 2 e)
  | .call g as => fun nm sc e => glb sc g && wfEs as nm sc (kids e).tail
  | .meth o _ as => fun nm sc e => nsup o && (kid 0 e).pos.endLine == e.pos.line && lenEs as < 30 && wfE o nm sc (kid 0 (kid 0 e)) && wfEs as nm sc (kids e).tail
  | .attr o _ => fun nm sc e => nsup o && wfE o nm sc (kid 0 e)
  | .sub o i => fun nm sc e => wfE o nm sc (kid 0 e) && wfE i nm sc (kid 1 e)
  | .slice o lo hi => fun nm sc e => wfE o nm sc (kid 0 e) && wfO lo nm sc (nth 0 (kids (kid 1 e))) && wfO hi nm sc (nth 0 (kids (kid 1 e)).reverse)
  | .list as => fun nm sc e => wfEs as nm sc (kids e)
  | .tup as => fun nm sc e => wfEs as nm sc (kids e)
  | .dict0 => fun _ _ _ => true
  | .comp elt tg it cs => fun nm sc e => !nm.contains (".0" : Str) && !tg.isEmpty && okNames (tgk (scOf e)) tg && compb sc (scOf e) tg && wfE it nm sc (kid 2 e) && wfTs cs (nm ++ tg) (scOf e) ((kids e).drop 3) && wfE elt (nm ++ tg) (scOf e) (kid 0 e)
noncomputable def wfEs : CEs → List Str → Scope → List PySem.Expr → Bool
  | .nil => fun _ _ _ => true
  | .cons a r => fun nm sc es => wfE a nm sc (nth 0 es) && wfEs r nm sc es.tail
noncomputable def wfO : CO → List Str → Scope → PySem.Expr → Bool
  | .none => fun _ _ _ => true
  | .some a => fun nm sc e => wfE a nm sc e
noncomputable def wfT : CT → List Str → Scope → PySem.Expr → Bool
  | .cmp _ a b => fun nm sc e => wfE a nm sc (kid 0 e) && wfE b nm sc (kid 1 e)
  | .cmp2 a _ b _ c => fun nm sc e => wfE a nm sc (kid 0 e) && wfE b nm sc (kid 1 e) && wfE c nm sc (kid 2 e)
  | .not t => fun nm sc e => wfT t nm sc (kid 0 e)
  | .and ts => fun nm sc e => wfTs ts nm sc (kids e)
  | .or ts => fun nm sc e => wfTs ts nm sc (kids e)
  | .plain a => fun nm sc e => plainC a && wfE a nm sc e
noncomputable def wfTs : CTs → List Str → Scope → List PySem.Expr → Bool
  | .nil => fun _ _ _ => true
  | .cons t r => fun nm sc es => wfT t nm sc (nth 0 es) && wfTs r nm sc es.tail
end
noncomputable def exps : Stmt → List PySem.Expr
  | .Assign ts v _ => v :: ts
  | .Expr v _ => [v]
  | .If t _ _ _ => [t]
  | .While t _ _ _ => [t]
  | .For t i _ _ _ => [t, i]
  | .Return v _ => v.toList
  | .Raise x c _ => x.toList ++ c.toList
  | _ => []
noncomputable def bl0 : Stmt → List Stmt
  | .If _ b _ _ => b
  | .While _ b _ _ => b
  | .For _ _ b _ _ => b
  | .Try b _ _ _ _ => b
  | _ => []
noncomputable def bl1 : Stmt → List Stmt
  | .If _ _ b _ => b
  | _ => []
noncomputable def hsOf : Stmt → List ExceptHandler
  | .Try _ h _ _ _ => h
  | _ => []
noncomputable def ex (i : Nat) (st : Stmt) : PySem.Expr := nth i (exps st)
noncomputable def hBody : ExceptHandler → List Stmt
  | .ExceptHandler _ _ b _ => b
noncomputable def hPos : ExceptHandler → Pos
  | .ExceptHandler _ _ _ p => p
noncomputable def hTy : ExceptHandler → Pos
  | .ExceptHandler (some t) _ _ _ => t.pos
  | .ExceptHandler none _ _ p => p
noncomputable def nthS (ss : List Stmt) : Stmt := ss.headD (.Pass default)
noncomputable def nthH (hs : List ExceptHandler) : ExceptHandler := hs.headD (.ExceptHandler none none [] default)
noncomputable def atNm (nm : List Str) (is : List Nat) : List Str := is.map fun i => nm.getD i ""
mutual
noncomputable def reS : CS → List Str → Stmt → Stmt
  | .assign i a => fun nm st => .Assign [.Name (nm.getD i "") (ex 1 st).pos] (reE a nm (ex 0 st)) st.pos
  | .assignT is a => fun nm st => .Assign [.Tuple (reNames (atNm nm is) (kids (ex 1 st))) (numOf (ex 1 st)) (ex 1 st).pos] (reE a nm (ex 0 st)) st.pos
  | .setItem o i a => fun nm st => .Assign [.Subscript (reE o nm (kid 0 (ex 1 st))) (reE i nm (kid 1 (ex 1 st))) (ex 1 st).pos] (reE a nm (ex 0 st)) st.pos
  | .setAttr o n a => fun nm st => .Assign [.Attribute (reE o nm (kid 0 (ex 1 st))) n (ex 1 st).pos] (reE a nm (ex 0 st)) st.pos
  | .swap o1 i1 o2 i2 a1 a2 => fun nm st => .Assign [.Tuple [.Subscript (reE o1 nm (kid 0 (kid 0 (ex 1 st)))) (reE i1 nm (kid 1 (kid 0 (ex 1 st)))) (kid 0 (ex 1 st)).pos, .Subscript (reE o2 nm (kid 0 (kid 1 (ex 1 st)))) (reE i2 nm (kid 1 (kid 1 (ex 1 st)))) (kid 1 (ex 1 st)).pos] (numOf (ex 1 st)) (ex 1 st).pos]
      (.Tuple [reE a1 nm (kid 0 (ex 0 st)), reE a2 nm (kid 1 (ex 0 st))] (numOf (ex 0 st)) (ex 0 st).pos) st.pos
  | .expr a => fun nm st => .Expr (reE a nm (ex 0 st)) st.pos
  | .ite t a b => fun nm st => .If (reT t nm (ex 0 st)) (reSs a nm (bl0 st)) (reSs b nm (bl1 st)) st.pos
  | .while t b => fun nm st => .While (reT t nm (ex 0 st)) (reSs b nm (bl0 st)) [] st.pos
  | .for is it b => fun nm st => .For (reTg (atNm nm is) (ex 0 st)) (reE it nm (ex 1 st)) (reSs b nm (bl0 st)) [] st.pos
  | .ret a => fun nm st => .Return (some (reE a nm (ex 0 st))) st.pos
  | .ret0 => fun _ st => .Return none st.pos
  | .raise g as => fun nm st => .Raise (some (.Call (.Name g (kid 0 (ex 0 st)).pos) (reEs as nm (kids (ex 0 st)).tail) [] (ex 0 st).pos)) none st.pos
  | .raiseFrom g as c => fun nm st => .Raise (some (.Call (.Name g (kid 0 (ex 0 st)).pos) (reEs as nm (kids (ex 0 st)).tail) [] (ex 0 st).pos)) (some (reE c nm (ex 1 st))) st.pos
  | .try b h => fun nm st => .Try (reSs b nm (bl0 st)) (reHs h nm (hsOf st)) [] [] st.pos
  | .brk => fun _ st => .Break st.pos
  | .cont => fun _ st => .Continue st.pos
  | .pass => fun _ st => .Pass st.pos
noncomputable def reSs : CSs → List Str → List Stmt → List Stmt
  | .nil => fun _ _ => []
  | .cons a r => fun nm ss => reS a nm (nthS ss) :: reSs r nm ss.tail
noncomputable def reHs : CHs → List Str → List ExceptHandler → List ExceptHandler
  | .nil => fun _ _ => []
  | .cons g x b r => fun nm hs => .ExceptHandler (some (.Name g (hTy (nthH hs)))) (x.map fun i => nm.getD i "") (reSs b nm (hBody (nthH hs))) (hPos (nthH hs)) :: reHs r nm hs.tail
end
noncomputable def isComp : CE → Bool
  | .comp .. => true
  | _ => false
noncomputable def isTup : CE → Bool
  | .tup .. => true
  | _ => false
noncomputable def notNilS : CSs → Bool
  | .nil => false
  | _ => true
mutual
noncomputable def wfS : CS → List Str → Scope → Stmt → Bool
  | .assign i a => fun nm sc st => okSlot nm i && stb sc (nm.getD i "") && wfE a nm sc (ex 0 st)
  | .assignT is a => fun nm sc st => is.all (fun i => okSlot nm i && stb sc (nm.getD i "")) && decide (1 < is.length) && !isTup a && !isComp a && wfE a nm sc (ex 0 st)
  | .setItem o i a => fun nm sc st => wfE o nm sc (kid 0 (ex 1 st)) && wfE i nm sc (kid 1 (ex 1 st)) && wfE a nm sc (ex 0 st)
  | .setAttr o _ a => fun nm sc st => wfE o nm sc (kid 0 (ex 1 st)) && wfE a nm sc (ex 0 st)
  | .swap o1 i1 o2 i2 a1 a2 => fun nm sc st => wfE o1 nm sc (kid 0 (kid 0 (ex 1 st))) && wfE i1 nm sc (kid 1 (kid 0 (ex 1 st))) && wfE o2 nm sc (kid 0 (kid 1 (ex 1 st))) && wfE i2 nm sc (kid 1 (kid 1 (ex 1 st))) && wfE a1 nm sc (kid 0 (ex 0 st)) && wfE a2 nm sc (kid 1 (ex 0 st))
  | .expr a => fun nm sc st => !isComp a && wfE a nm sc (ex 0 st)
  | .ite t a b => fun nm sc st => wfT t nm sc (ex 0 st) && wfSs a nm sc (bl0 st) && wfSs b nm sc (bl1 st)
  | .while t b => fun nm sc st => wfT t nm sc (ex 0 st) && wfSs b nm sc (bl0 st)
  | .for is it b => fun nm sc st => !is.isEmpty && is.all (fun i => okSlot nm i && stb sc (nm.getD i "")) && wfE it nm sc (ex 1 st) && wfSs b nm sc (bl0 st)
  | .ret a => fun nm sc st => wfE a nm sc (ex 0 st)
  | .ret0 => fun _ _ _ => true
  | .raise g as => fun nm sc st => glb sc g && wfEs as nm sc (kids (ex 0 st)).tail
  | .raiseFrom g as c => fun nm sc st => glb sc g && wfEs as nm sc (kids (ex 0 st)).tail && wfE c nm sc (ex 1 st)
  | .try b h => fun nm sc st => wfSs b nm sc (bl0 st) && wfHs h nm sc (hsOf st)
  | .brk => fun _ _ _ => true
  | .cont => fun _ _ _ => true
  | .pass => fun _ _ _ => true
noncomputable def wfSs : CSs → List Str → Scope → List Stmt → Bool
  | .nil => fun _ _ _ => true
  | .cons a r => fun nm sc ss => wfS a nm sc (nthS ss) && wfSs r nm sc ss.tail
noncomputable def wfHs : CHs → List Str → Scope → List ExceptHandler → Bool
  | .nil => fun _ _ _ => true
  | .cons g x b r => fun nm sc hs => glb sc g && notNilS b && (match x with
      | none => true
      | some i => okSlot nm i && sc.names.lookup (nm.getD i "") == some .local) && wfSs b nm sc (hBody (nthH hs)) && wfHs r nm sc hs.tail
end
noncomputable def AR (c : Cx) (m : ML) (es : List PySem.Expr) (pos : Pos) (H : MH) (post : List MV → MH → Prop) : Prop :=
  ∀ (mr : Str → Option Value) (ρ : List Addr) (s : Shared) (Q : List Value → Shared → Prop) (E : Value → Shared → Prop), St c mr ρ H s.heap → LR mr c.nm ρ m →
    (∀ t vs vrs H' h' tk, post vs H' → VRs (ρ ++ t) vs vrs → St c mr (ρ ++ t) H' h' → Q vrs { s with heap := h', toks := tk }) → Kx c ρ s E →
    wpAny (model c.prog c.w) c.A (spliced (backTo pos (starEach es c.env))) Q E s
noncomputable def IT (c : Cx) (m : ML) (e : PySem.Expr) (H : MH) (post : Bool → MH → Prop) : Prop :=
  ∀ (whole : Sem Value) (mr : Str → Option Value) (ρ : List Addr) (s : Shared) (Q : Bool → Shared → Prop) (E : Value → Shared → Prop), (plainX e = true → whole = eval e c.env) → St c mr ρ H s.heap → LR mr c.nm ρ m →
    (∀ t b H' h' tk, post b H' → St c mr (ρ ++ t) H' h' → Q b { s with heap := h', toks := tk }) → Kx c ρ s E →
    wpAny (model c.prog c.w) c.A (isTrue e c.env whole) Q E s
noncomputable def IB (c : Cx) (m : ML) (op : BoolOp) (es : List PySem.Expr) (H : MH) (post : Bool → MH → Prop) : Prop :=
  ∀ (mr : Str → Option Value) (ρ : List Addr) (s : Shared) (Q : Bool → Shared → Prop) (E : Value → Shared → Prop), St c mr ρ H s.heap → LR mr c.nm ρ m →
    (∀ t b H' h' tk, post b H' → St c mr (ρ ++ t) H' h' → Q b { s with heap := h', toks := tk }) → Kx c ρ s E →
    wpAny (model c.prog c.w) c.A (allTrue op es c.env) Q E s
noncomputable def X1 (c : Cx) (m : ML) (st : Stmt) (H : MH) (post : Fl → ML → MH → Prop) : Prop :=
  ∀ (mr : Str → Option Value) (ρ : List Addr) (s : Shared) (Q : Flow → Shared → Prop) (E : Value → Shared → Prop), St c mr ρ H s.heap → LR mr c.nm ρ m →
    (∀ t f fr m' mr' H' h' tk, post f m' H' → FlR (ρ ++ t) f fr → St c mr' (ρ ++ t) H' h' → LR mr' c.nm (ρ ++ t) m' → Q fr { s with heap := h', toks := tk }) → Kx c ρ s E →
    wpAny (model c.prog c.w) c.A (exec st c.env) Q E s
def TE (c : Cx) (m : ML) (a : CE) (H : MH) (post : MV → MH → Prop) : Prop := ∀ e, wfE a c.nm c.sc e = true → EV c m (reE a c.nm e) H post
def TEs (c : Cx) (m : ML) (as : CEs) (H : MH) (post : List MV → MH → Prop) : Prop := ∀ es pos, wfEs as c.nm c.sc es = true → AR c m (reEs as c.nm es) pos H post
def TT (c : Cx) (m : ML) (t : CT) (H : MH) (post : Bool → MH → Prop) : Prop := ∀ e, wfT t c.nm c.sc e = true → IT c m (reT t c.nm e) H post
def TTs (c : Cx) (m : ML) (op : BoolOp) (ts : CTs) (H : MH) (post : Bool → MH → Prop) : Prop := ∀ es, wfTs ts c.nm c.sc es = true → IB c m op (reTs ts c.nm es) H post
def TV (c : Cx) (m : ML) (t : CT) (H : MH) (post : MV → MH → Prop) : Prop := ∀ e, nonPlain t = true → wfT t c.nm c.sc e = true → EV c m (reT t c.nm e) H post
def TS (c : Cx) (m : ML) (a : CS) (H : MH) (post : Fl → ML → MH → Prop) : Prop := ∀ st, wfS a c.nm c.sc st = true → X1 c m (reS a c.nm st) H post
def TB (c : Cx) (m : ML) (b : CSs) (H : MH) (post : Fl → ML → MH → Prop) : Prop := ∀ ss, wfSs b c.nm c.sc ss = true → EX c m (reSs b c.nm ss) H post
section
variable {c : Cx} {m : ML} {H : MH} {G : Gx} {d : Nat}
theorem TE.mono {a : CE} {p q : MV → MH → Prop} (h : TE c m a H p) (hp : ∀ v H', p v H' → q v H') : TE c m a H q := fun e he => (h e he).mono hp
theorem TT.mono {t : CT} {p q : Bool → MH → Prop} (h : TT c m t H p) (hp : ∀ v H', p v H' → q v H') : TT c m t H q :=
  fun e he wh mr ρ s Q E hw S l k kx => h e he wh mr ρ s Q E hw S l (fun t v H' h' tk hv => k t v H' h' tk (hp _ _ hv)) kx
theorem TB.mono {a : CSs} {p q : Fl → ML → MH → Prop} (h : TB c m a H p) (hp : ∀ f m' H', p f m' H' → q f m' H') : TB c m a H q :=
  fun st hs mr ρ s Q E S l k kx => h st hs mr ρ s Q E S l (fun t f fr m' mr' H' h' tk hv => k t f fr m' mr' H' h' tk (hp _ _ _ hv)) kx
theorem and2 {a b : Bool} (h : (a && b) = true) : a = true ∧ b = true := (Bool.and_eq_true a b).mp h
theorem and3 {a b c : Bool} (h : (a && b && c) = true) : a = true ∧ b = true ∧ c = true := ⟨(and2 (and2 h).1).1, (and2 (and2 h).1).2, (and2 h).2⟩
theorem TE.int {i : Int} {post : MV → MH → Prop} (h : post (.int i) H) : TE c m (.int i) H post := by
  intro e he mr ρ s Q E S l k kx
  exact wpAny_Constant_int (k [] (.int i) _ H s.heap _ h ⟨_, rfl⟩ (nil_of S))
theorem TE.str {x : Str} {post : MV → MH → Prop} (h : post (.str x) H) : TE c m (.str x) H post := by
  intro e he mr ρ s Q E S l k kx
  exact wpAny_Constant_str (k [] (.str x) _ H s.heap _ h ⟨_, rfl⟩ (nil_of S))
theorem TE.bool {b : Bool} {post : MV → MH → Prop} (h : post (.bool b) H) : TE c m (.bool b) H post := by
  intro e he mr ρ s Q E S l k kx
  exact wpAny_Constant_bool (k [] (.bool b) _ H s.heap s.toks h rfl (nil_of S))
theorem TE.loc (ok : Ok G c d) {i : Nat} {v : MV} {post : MV → MH → Prop} (hm : m[i]? = some (some v)) (h : post v H) : TE c m (.loc i) H post := by
  intro e he mr ρ s Q E S l k kx
  obtain ⟨h1, h2⟩ := and2 he
  obtain ⟨vr, h3, h4⟩ := l.2 _ _ _ (beq_iff_eq.mp h1) hm
  exact read ok S h2 h4 (k [] v vr H s.heap s.toks h (by rw [List.append_nil]; exact h3) (nil_of S))
theorem nameG (ok : Ok G c d) {mr : Str → Option Value} {ρ : List Addr} {s : Shared} {x : Str} {pos : Pos} {v : Value} {Q E} (S : St c mr ρ H s.heap) (hx : glb c.sc x = true) (hg : nsIn G.K mainGlobals x = some (some v)) (h : Q v s) :
    wpAny (model c.prog c.w) c.A (eval (.Name x pos) c.env) Q E s := by
  unfold glb at hx
  simp only [Bool.and_eq_true, beq_iff_eq, bne_iff_ne, ne_eq] at hx
  have hd' : (x == ("__debug__" : Str)) = false := by simpa using hx.1
  have hk := kcl3 ((ok.kd x).trans hx.2)
  exact Name_function_global ok.fn hk (loadGlobal_global (env := c.env) (by rw [ok.gl]; exact ok.top.g.keeps S.keep) (mg_of ok.kin ok.top.g hg) h) hd'
theorem nameB (ok : Ok G c d) {mr : Str → Option Value} {ρ : List Addr} {s : Shared} {x : Str} {pos : Pos} {v : Value} {Q E} (S : St c mr ρ H s.heap) (hx : glb c.sc x = true) (hg : nsIn G.K mainGlobals x = some Option.none)
    (hb : bootBuiltins x = some v) (hn : x ≠ "__name__") (h : Q v s) : wpAny (model c.prog c.w) c.A (eval (.Name x pos) c.env) Q E s := by
  unfold glb at hx
  simp only [Bool.and_eq_true, beq_iff_eq, bne_iff_ne, ne_eq] at hx
  have hd' : (x == ("__debug__" : Str)) = false := by simpa using hx.1
  have hk := kcl3 ((ok.kd x).trans hx.2)
  have T := topRead_of ok.top
  exact Name_function_global ok.fn hk (loadGlobal_builtin (env := c.env) (by rw [ok.gl]; exact T.g.keeps S.keep) (mg_none_of ok.kin T.g hg) (by rw [ok.bi]; exact T.b.keeps S.keep) ((T.builtins x hn).trans hb) h) hd'
theorem TE.glob (ok : Ok G c d) {x : Str} {v : MV} {vr : Value} {post : MV → MH → Prop} (hg : nsIn G.K mainGlobals x = some (some vr)) (hv : VR [] v vr) (h : post v H) : TE c m (.glob x) H post := by
  intro e he mr ρ s Q E S l k kx
  exact nameG ok S he hg (k [] v vr H s.heap s.toks h (by rw [List.append_nil]; have := hv.mono (t := ρ); rwa [List.nil_append] at this) (nil_of S))
theorem fm {a p : Int} (h : 0 < p) : a.fmod p = a % p := Int.fmod_eq_emod_of_nonneg _ (by lia)
inductive BinI : Operator → MV → MV → MV → Prop where
  | add {x y : Int} : BinI .Add (.int x) (.int y) (.int (x + y))
  | sub {x y : Int} : BinI .Sub (.int x) (.int y) (.int (x - y))
  | mul {x y : Int} (h : IntMulOk x y) : BinI .Mult (.int x) (.int y) (.int (x * y))
  | mod {x y : Int} (h : y ≠ 0) : BinI .Mod (.int x) (.int y) (.int (x.fmod y))
  | modP {x y : Int} (h : 0 < y) : BinI .Mod (.int x) (.int y) (.int (x % y))
  | div {x y : Int} (h : y ≠ 0) (h2 : y.natAbs < 1073741824) : BinI .FloorDiv (.int x) (.int y) (.int (x.fdiv y))
  | band {x y : Int} : BinI .BitAnd (.int x) (.int y) (.int (Builtin.bitAnd x y))
  | shr {x y : Int} (h : 0 ≤ y) : BinI .RShift (.int x) (.int y) (.int (x.fdiv (2 ^ y.toNat)))
  | pow {x y : Int} (h0 : 0 ≤ y) (h1 : y ≤ 1000000) (h2 : x.natAbs < 2 ^ 64) : BinI .Pow (.int x) (.int y) (.int (x ^ y.toNat))
  | shl {x y : Int} (h0 : 0 ≤ y) (h1 : y ≤ 1000000) (h2 : x.natAbs < 2 ^ 64) : BinI .LShift (.int x) (.int y) (.int (x * 2 ^ y.toNat))
  | smul {x : Str} {n : Int} (h : MulOk x n) : BinI .Mult (.str x) (.int n) (.str (Txt.mul x n))
  | cat {x y : Str} (h : x.length + y.length ≤ 1000000) : BinI .Add (.str x) (.str y) (.str (x ++ y))
theorem bin_ok {op : Operator} {a b v : MV} {x y : Value} {ρ : List Addr} {s : Shared} {Q E} (hh : c.A.handled = Option.none) (hb : BinI op a b v) (ha : VR ρ a x) (hy : VR ρ b y) (k : ∀ z tk, VR ρ v z → Q z { s with toks := tk }) :
    wpAny (model c.prog c.w) c.A (binaryOp op x y) Q E s := by
  cases hb <;> obtain ⟨t, rfl⟩ := ha <;> obtain ⟨u, rfl⟩ := hy
  case add => exact add_int (k _ _ ⟨_, rfl⟩)
  case sub => exact sub_int (k _ _ ⟨_, rfl⟩)
  case mul h => exact mul_int (k _ _ ⟨_, rfl⟩) h
  case mod h => exact mod_int' h (k _ _ ⟨_, rfl⟩)
  case modP h => exact mod_int' (Int.ne_of_gt h) (by rw [fm h]; exact k _ _ ⟨_, rfl⟩)
  case div h h2 => exact floordiv_int h (k _ _ ⟨_, rfl⟩) (.inl (PyProof.noPylong_small h2))
  case band => exact and_int (k _ _ ⟨_, rfl⟩)
  case shr h => exact rshift_int_or hh (fun hn => absurd hn (Int.not_lt.mpr h)) fun _ => k _ _ ⟨_, rfl⟩
  case pow h0 h1 h2 => exact pow_int_small h0 h1 h2 (k _ _ ⟨_, rfl⟩)
  case shl h0 h1 h2 => exact lshift_int_small h0 h1 h2 (k _ _ ⟨_, rfl⟩)
  case smul h => exact SB.mul h fun _ _ => k _ _ ⟨_, rfl⟩
  case cat h => exact add_str (fun _ _ => k _ _ ⟨_, rfl⟩) (Nat.le_trans h (by decide))
theorem TE.op (ok : Ok G c d) {op : Operator} {a b : CE} {post : MV → MH → Prop} (h : TE c m a H (fun x H1 => TE c m b H1 (fun y H2 => ∃ v, BinI op x y v ∧ post v H2))) : TE c m (.bin op a b) H post := by
  intro e he mr ρ s Q E S l k kx
  obtain ⟨h2, h3⟩ := and2 he
  refine wpAny_BinOp ?_
  refine h _ h2 mr ρ s _ E S l ?_ kx
  intro t x xr H1 hp1 tk1 hr hx S1
  refine hr _ h3 mr (ρ ++ t) _ _ E S1 l.mono ?_ kx.mono
  rintro t' y yr H2 hp2 tk2 ⟨v, hv, hp⟩ hy S2
  refine bin_ok ok.hh hv hx.mono hy ?_
  intro z tk hz
  rw [List.append_assoc] at hz S2
  exact k (t ++ t') v z H2 hp2 tk hp hz S2
inductive NegI : MV → MV → Prop where
  | mk {i : Int} : NegI (.int i) (.int (-i))
theorem TE.negI {a : CE} {post : MV → MH → Prop} (h : TE c m a H (fun x H1 => ∃ v, NegI x v ∧ post v H1)) : TE c m (.neg a) H post := by
  intro e he mr ρ s Q E S l k kx
  refine wpAny_UnaryOp ?_
  refine h _ he mr ρ s _ E S l ?_ kx
  rintro t a ar H1 h1 tk1 ⟨v, ⟨⟩, hp⟩ ⟨u, rfl⟩ S1
  exact neg_int (k t _ _ H1 h1 _ hp ⟨_, rfl⟩ S1)
end
noncomputable def Cq (c : Cx) (op : CmpOp) (H : MH) (a b : MV) (r : Bool) : Prop :=
  ∀ (mr : Str → Option Value) (ρ : List Addr) (s : Shared) (Q : Value → Shared → Prop) (E : Value → Shared → Prop) (va vb : Value), St c mr ρ H s.heap → VR ρ a va → VR ρ b vb →
    (∀ h' tk, St c mr ρ H h' → Q (.bool r) { s with heap := h', toks := tk }) → wpAny (model c.prog c.w) c.A (compareOp op va vb) Q E s
noncomputable def cmpN (op : CmpOp) (x y : Int) : Option Bool := match op with
  | .Lt => some (decide (x < y))
  | .LtE => some (decide (x ≤ y))
  | .Gt => some (decide (y < x))
  | .GtE => some (decide (y ≤ x))
  | .Eq => some (decide (x = y))
  | .NotEq => some (!decide (x = y))
  | _ => none
noncomputable def cmpQ (op : CmpOp) (e : Bool) : Option Bool := match op with
  | .Eq => some e
  | .NotEq => some (!e)
  | _ => none
noncomputable def cmpZ (op : CmpOp) (e : Bool) : Option Bool := match op with
  | .Is => some e
  | .IsNot => some (!e)
  | _ => none
noncomputable def cmpV (op : CmpOp) : MV → MV → Option Bool
  | .int x, .int y => cmpN op x y
  | .str x, .str y => cmpQ op (decide (x = y))
  | .bool x, .bool y => cmpQ op (x == y)
  | .none, .none => cmpZ op true
  | .ref _, .none => cmpZ op false
  | _, _ => none
noncomputable def Cmp (op : CmpOp) (a b : MV) (r : Bool) : Prop := match cmpV op a b with
  | some s => r = s
  | none => False
section
variable {c : Cx} {m : ML} {H : MH} {G : Gx} {d : Nat}
theorem cq_of {op : CmpOp} {a b : MV} {r : Bool} (h : Cmp op a b r) : Cq c op H a b r := by
  intro mr ρ s Q E va vb S ha hb k
  have k' := k s.heap s.toks S
  cases a with
  | int x =>
    cases b with
    | int y =>
      obtain ⟨t, rfl⟩ := ha
      obtain ⟨u, rfl⟩ := hb
      cases op with
      | Lt => have e : r = _ := h; subst e; exact lt_int k'
      | LtE => have e : r = _ := h; subst e; exact le_int k'
      | Gt => have e : r = _ := h; subst e; exact gt_int k'
      | GtE => have e : r = _ := h; subst e; exact ge_int k'
      | Eq => have e : r = _ := h; subst e; exact PyProof.Rows.eq_int (by rw [show (x == y) = decide (x = y) from rfl]; exact k')
      | NotEq => have e : r = _ := h; subst e; exact PyProof.Rows.ne_int (by rw [show (x != y) = !decide (x = y) from rfl]; exact k')
      | _ => exact False.elim h
    | _ => exact False.elim h
  | str x =>
    cases b with
    | str y =>
      obtain ⟨t, rfl⟩ := ha
      obtain ⟨u, rfl⟩ := hb
      cases op with
      | Eq => have e : r = _ := h; subst e; exact PyProof.Rows.eq_str (by rw [show (x == y) = decide (x = y) from rfl]; exact k')
      | NotEq => have e : r = _ := h; subst e; exact PyProof.Rows.ne_str (by rw [show (x != y) = !decide (x = y) from rfl]; exact k')
      | _ => exact False.elim h
    | _ => exact False.elim h
  | bool x =>
    cases b with
    | bool y =>
      cases ha
      cases hb
      cases op with
      | Eq => have e : r = _ := h; subst e; exact PyProof.Rows.eq_bool k'
      | NotEq => have e : r = _ := h; subst e; exact PyProof.Rows.ne_bool k'
      | _ => exact False.elim h
    | _ => exact False.elim h
  | none =>
    cases b with
    | none =>
      cases ha
      cases hb
      cases op with
      | Is => have e : r = _ := h; subst e; exact is_none_none k'
      | IsNot => have e : r = _ := h; subst e; exact isnot_none_none k'
      | _ => exact False.elim h
    | _ => exact False.elim h
  | ref i =>
    cases b with
    | none =>
      obtain ⟨x, _, rfl⟩ := ha
      cases hb
      cases op with
      | Is => have e : r = _ := h; subst e; exact is_none_ne (by intro q; cases q) k'
      | IsNot => have e : r = _ := h; subst e; exact isnot_none_ne (by intro q; cases q) k'
      | _ => exact False.elim h
    | _ => exact False.elim h
  | glob i => exact False.elim h
theorem re_marks {a : CE} {nm : List Str} {sc : Scope} {e : PySem.Expr} {op : CmpOp} (h : wfE a nm sc e = true) : behindInMarks op (reE a nm e) = false := by
  cases a with
  | tst t =>
    have h1 : (nonPlain t && wfT t nm sc e) = true := h
    have h2 := (and2 h1).1
    cases t <;> first | rfl | cases h2
  | _ => rfl
theorem TT.cq {op : CmpOp} {a b : CE} {post : Bool → MH → Prop} (h : TE c m a H (fun x H1 => TE c m b H1 (fun y H2 => ∃ r, Cq c op H2 x y r ∧ post r H2))) : TT c m (.cmp op a b) H post := by
  intro e he
  obtain ⟨h2, h3⟩ := and2 he
  intro wh mr ρ s Q E _ S l k kx
  refine wpAny_isTrue_Compare1 ?_ (re_marks h3)
  refine h _ h2 mr ρ s _ E S l ?_ kx
  intro t x xr H1 hp1 tk1 hr hx S1
  refine hr _ h3 mr (ρ ++ t) _ _ E S1 l.mono ?_ kx.mono
  rintro t' y yr H2 hp2 tk2 ⟨r, hq, hp⟩ hy S2
  refine hq mr _ _ _ E _ _ S2 hx.mono hy ?_
  intro h' tk S3
  refine wpAny_truthy_bool ?_
  rw [List.append_assoc] at S3
  exact k (t ++ t') r H2 h' tk hp S3
theorem TT.cmp {op : CmpOp} {a b : CE} {post : Bool → MH → Prop} (h : TE c m a H (fun x H1 => TE c m b H1 (fun y H2 => ∃ r, Cmp op x y r ∧ post r H2))) : TT c m (.cmp op a b) H post :=
  TT.cq (h.mono fun x H1 h1 => h1.mono fun y H2 ⟨r, hr, hp⟩ => ⟨r, cq_of hr, hp⟩)
theorem TV.cq {op : CmpOp} {a b : CE} {post : MV → MH → Prop} (h : TE c m a H (fun x H1 => TE c m b H1 (fun y H2 => ∃ r, Cq c op H2 x y r ∧ post (.bool r) H2))) : TV c m (.cmp op a b) H post := by
  intro e _ he
  obtain ⟨h2, h3⟩ := and2 he
  intro mr ρ s Q E S l k kx
  refine wpAny_Compare1 ?_ (re_marks h3)
  refine h _ h2 mr ρ s _ E S l ?_ kx
  intro t x xr H1 hp1 tk1 hr hx S1
  refine hr _ h3 mr (ρ ++ t) _ _ E S1 l.mono ?_ kx.mono
  rintro t' y yr H2 hp2 tk2 ⟨r, hq, hp⟩ hy S2
  refine hq mr _ _ _ E _ _ S2 hx.mono hy ?_
  intro h' tk S3
  rw [List.append_assoc] at S3
  exact k (t ++ t') (.bool r) _ H2 h' tk hp rfl S3
theorem TV.cmp {op : CmpOp} {a b : CE} {post : MV → MH → Prop} (h : TE c m a H (fun x H1 => TE c m b H1 (fun y H2 => ∃ r, Cmp op x y r ∧ post (.bool r) H2))) : TV c m (.cmp op a b) H post :=
  TV.cq (h.mono fun x H1 h1 => h1.mono fun y H2 ⟨r, hr, hp⟩ => ⟨r, cq_of hr, hp⟩)
theorem TE.tst {t : CT} {post : MV → MH → Prop} (h : TV c m t H post) : TE c m (.tst t) H post := by
  intro e he
  exact h e (and2 he).1 (and2 he).2
theorem marks2 {a : CE} {nm : List Str} {sc : Scope} {e r₁ : PySem.Expr} {o₁ o₂ : CmpOp} (h : wfE a nm sc e = true) : lastMarks [o₁, o₂] [r₁, reE a nm e] = false := by
  have := re_marks (op := o₂) h
  simpa [lastMarks] using this
theorem TV.cmp2 {o1 o2 : CmpOp} {a b e3 : CE} {post : MV → MH → Prop} (h : TE c m a H (fun x H1 => TE c m b H1 (fun y H2 => ∃ r, Cmp o1 x y r ∧ (r = false → post (.bool false) H2) ∧
      (r = true → TE c m e3 H2 (fun z H3 => ∃ r2, Cmp o2 y z r2 ∧ post (.bool r2) H3))))) : TV c m (.cmp2 a o1 b o2 e3) H post := by
  intro e _ he
  obtain ⟨h3, h4, h5⟩ := and3 he
  intro mr ρ s Q E S l k kx
  refine Compare_chain ?_ (marks2 h5)
  refine h _ h3 mr ρ s _ E S l ?_ kx
  intro t x xr H1 hp1 tk1 hr hx S1
  refine chain_link ?_
  refine hr _ h4 mr (ρ ++ t) _ _ E S1 l.mono ?_ kx.mono
  rintro t' y yr H2 hp2 tk2 ⟨r, hq, hf, ht⟩ hy S2
  refine cq_of hq mr _ _ _ E _ _ S2 hx.mono hy ?_
  intro h' tk S3
  refine wpAny_truthy_bool ?_
  cases r with
  | false =>
    rw [List.append_assoc] at S3
    exact k (t ++ t') (.bool false) _ H2 h' tk (hf rfl) rfl S3
  | true =>
    refine chain_last ?_
    refine ht rfl _ h5 mr _ _ _ E S3 l.mono.mono ?_ kx.mono.mono
    rintro t'' z zr H3 hp3 tk3 ⟨r2, hq2, hp⟩ hz S4
    refine cq_of hq2 mr _ _ _ E _ _ S4 hy.mono hz ?_
    intro h'' tk'' S5
    have e1 : ρ ++ t ++ t' ++ t'' = ρ ++ (t ++ (t' ++ t'')) := by simp only [List.append_assoc]
    rw [e1] at S5
    exact k _ (.bool r2) _ H3 h'' tk'' hp rfl S5
theorem TT.not {t : CT} {post : Bool → MH → Prop} (h : TT c m t H (fun b H1 => post (!b) H1)) : TT c m (.not t) H post := by
  intro e he
  intro wh mr ρ s Q E _ S l k kx
  refine isTrue_not ?_
  refine h _ he _ mr ρ s _ E (fun _ => rfl) S l ?_ kx
  intro t b H1 h1 tk1 hp S1
  exact k t (!b) H1 h1 tk1 hp S1
theorem TTs.andNil {post : Bool → MH → Prop} (h : post true H) : TTs c m .And .nil H post := by
  intro es he
  intro mr ρ s Q E S l k kx
  refine wpAny_pure ?_
  exact k [] true H s.heap s.toks h (nil_of S)
theorem TTs.orNil {post : Bool → MH → Prop} (h : post false H) : TTs c m .Or .nil H post := by
  intro es he
  intro mr ρ s Q E S l k kx
  refine wpAny_pure ?_
  exact k [] false H s.heap s.toks h (nil_of S)
theorem TTs.and {t : CT} {r : CTs} {post : Bool → MH → Prop} (h : TT c m t H (fun b H1 => (b = false → post false H1) ∧ (b = true → TTs c m .And r H1 post))) : TTs c m .And (.cons t r) H post := by
  intro es he
  have he := and2 he
  intro mr ρ s Q E S l k kx
  refine isTrue_and (whole := Sem.pure .none) (pos := ⟨0, 0, 0, 0⟩) ?_
  refine h _ he.1 _ mr ρ s _ E (fun _ => rfl) S l ?_ kx
  intro t b H1 h1 tk1 hp S1
  cases b with
  | false => exact k t false H1 h1 tk1 (hp.1 rfl) S1
  | true =>
    refine hp.2 rfl _ he.2 mr (ρ ++ t) _ _ E S1 l.mono ?_ kx.mono
    intro t' b H2 h2 tk2 hp2 S2
    rw [List.append_assoc] at S2
    exact k (t ++ t') b H2 h2 tk2 hp2 S2
theorem TTs.or {t : CT} {r : CTs} {post : Bool → MH → Prop} (h : TT c m t H (fun b H1 => (b = true → post true H1) ∧ (b = false → TTs c m .Or r H1 post))) : TTs c m .Or (.cons t r) H post := by
  intro es he
  have he := and2 he
  intro mr ρ s Q E S l k kx
  refine isTrue_or (whole := Sem.pure .none) (pos := ⟨0, 0, 0, 0⟩) ?_
  refine h _ he.1 _ mr ρ s _ E (fun _ => rfl) S l ?_ kx
  intro t b H1 h1 tk1 hp S1
  cases b with
  | true => exact k t true H1 h1 tk1 (hp.1 rfl) S1
  | false =>
    refine hp.2 rfl _ he.2 mr (ρ ++ t) _ _ E S1 l.mono ?_ kx.mono
    intro t' b H2 h2 tk2 hp2 S2
    rw [List.append_assoc] at S2
    exact k (t ++ t') b H2 h2 tk2 hp2 S2
theorem TT.and {ts : CTs} {post : Bool → MH → Prop} (h : TTs c m .And ts H post) : TT c m (.and ts) H post := by
  intro e he
  intro wh mr ρ s Q E _ S l k kx
  exact h _ he mr ρ s Q E S l k kx
theorem TT.or {ts : CTs} {post : Bool → MH → Prop} (h : TTs c m .Or ts H post) : TT c m (.or ts) H post := by
  intro e he
  intro wh mr ρ s Q E _ S l k kx
  exact h _ he mr ρ s Q E S l k kx
noncomputable def Tru (H : MH) : MV → Bool → Prop
  | .bool b, r => r = b
  | .int i, r => r = !decide (i = 0)
  | .none, r => r = false
  | _, _ => False
theorem isTrue_of {e : PySem.Expr} {env : Env} {wh : Sem Value} (h : plainX e = true) : isTrue e env wh = (do let v ← wh; standAt e.pos; holding [v] (truthy v)) := by
  cases e with
  | UnaryOp op x pos => cases op <;> first | rfl | cases h
  | BoolOp _ _ _ => cases h
  | IfExp _ _ _ _ => cases h
  | Compare _ _ _ _ => cases h
  | _ => rfl
theorem TT.plain {a : CE} {post : Bool → MH → Prop} (h : TE c m a H (fun v H1 => ∃ r, Tru H1 v r ∧ post r H1)) : TT c m (.plain a) H post := by
  intro e he
  have he := and2 he
  have hpl : plainX (reE a c.nm e) = true := by
    have h0 := he.1
    cases a <;> first | rfl | cases h0
  intro wh mr ρ s Q E hw S l k kx
  rw [hw hpl]
  refine isTrue_plain ?_ (isTrue_of hpl)
  refine h _ he.2 mr ρ s _ E S l ?_ kx
  rintro t v vr H1 h1 tk1 ⟨r, hr, hp⟩ hv S1
  cases v with
  | bool b =>
    have e1 : vr = .bool b := hv
    have e2 : r = b := hr
    subst e1 e2
    exact wpAny_truthy_bool (k t r H1 h1 tk1 hp S1)
  | int i =>
    obtain ⟨u, rfl⟩ := hv
    have e2 : r = !decide (i = 0) := hr
    subst e2
    exact truthy_int (k t _ H1 h1 tk1 hp S1)
  | none =>
    have e1 : vr = .none := hv
    have e2 : r = false := hr
    subst e1 e2
    exact truthy_none (k t _ H1 h1 tk1 hp S1)
  | _ => exact hr.elim
theorem TE.ite {t : CT} {a b : CE} {post : MV → MH → Prop} (h : TT c m t H (fun r H1 => (r = true → TE c m a H1 post) ∧ (r = false → TE c m b H1 post))) : TE c m (.ite t a b) H post := by
  intro e he
  have he := and3 he
  intro mr ρ s Q E S l k kx
  refine wpAny_IfExp ?_
  refine h _ he.1 _ mr ρ s _ E (fun _ => rfl) S l ?_ kx
  intro t b' H1 h1 tk1 hp S1
  have fin : ∀ e, EV c m e H1 post → wpAny (model c.prog c.w) c.A (eval e c.env) Q E { s with heap := h1, toks := tk1 } := by
    intro e he
    refine he mr (ρ ++ t) _ _ E S1 l.mono ?_ kx.mono
    intro t' v vr H2 h2 tk2 hp2 hv S2
    rw [List.append_assoc] at hv S2
    exact k (t ++ t') v vr H2 h2 tk2 hp2 hv S2
  cases b' with
  | true => exact fin _ (hp.1 rfl _ he.2.1)
  | false => exact fin _ (hp.2 rfl _ he.2.2)
end
section
variable {c : Cx} {m : ML} {H : MH} {G : Gx} {d : Nat}
theorem star_cons {e : PySem.Expr} {es : List PySem.Expr} {env : Env} (h : notStar e = true) : starEach (e :: es) env = (false, eval e env) :: starEach es env := by
  cases e with
  | Starred _ _ => cases h
  | _ => rfl
theorem tst_of {t : CT} {nm : List Str} {sc : Scope} {e : PySem.Expr} (h : wfE (.tst t) nm sc e = true) : nonPlain t = true := by
  have h1 : (nonPlain t && wfT t nm sc e) = true := h
  exact (and2 h1).1
theorem star_re {a : CE} {nm : List Str} {sc : Scope} {e : PySem.Expr} (h : wfE a nm sc e = true) : notStar (reE a nm e) = true := by
  cases a with
  | tst t => have h2 := tst_of h; cases t <;> first | rfl | cases h2
  | _ => rfl
theorem slice_re {a : CE} {nm : List Str} {sc : Scope} {e : PySem.Expr} (h : wfE a nm sc e = true) : notSlice (reE a nm e) = true := by
  cases a with
  | tst t => have h2 := tst_of h; cases t <;> first | rfl | cases h2
  | _ => rfl
theorem comp_re {a : CE} {nm : List Str} {sc : Scope} {e : PySem.Expr} (h : wfE a nm sc e = true) (hn : isComp a = false) : notComp (reE a nm e) = true := by
  cases a with
  | tst t => have h2 := tst_of h; cases t <;> first | rfl | cases h2
  | comp _ _ _ _ => cases hn
  | _ => rfl
theorem star_plain {nm : List Str} {sc : Scope} {pos : Pos} {env : Env} : ∀ {as : CEs} {es : List PySem.Expr}, wfEs as nm sc es = true → (backTo pos (starEach (reEs as nm es) env)).any (·.1) = false
  | .nil, es, h => rfl
  | .cons a r, es, h => by
    have h := and2 h
    have := star_plain (pos := pos) (env := env) h.2
    show (backTo pos (starEach (reE a nm (nth 0 es) :: reEs r nm es.tail) env)).any (·.1) = false
    rw [star_cons (star_re h.1)]
    unfold backTo at this ⊢
    simp only [List.map_cons, List.any_cons, Bool.false_or]
    exact this
theorem TEs.nil {post : List MV → MH → Prop} (h : post [] H) : TEs c m .nil H post := by
  intro es pos he
  intro mr ρ s Q E S l k kx
  refine args_nil ?_
  exact k [] [] [] H s.heap s.toks h rfl (nil_of S)
theorem TEs.cons {a : CE} {r : CEs} {post : List MV → MH → Prop} (h : TE c m a H (fun v H1 => TEs c m r H1 (fun vs H2 => post (v :: vs) H2))) : TEs c m (.cons a r) H post := by
  intro es pos he
  obtain ⟨h2, h3⟩ := and2 he
  intro mr ρ s Q E S l k kx
  refine args_cons ?_ (star_cons (star_re h2))
  refine h _ h2 mr ρ s _ E S l ?_ kx
  intro t v vr H1 hp1 tk1 hr hv S1
  refine hr _ pos h3 mr (ρ ++ t) _ _ E S1 l.mono ?_ kx.mono
  intro t' vs vrs H2 hp2 tk2 hp hvs S2
  have hv' := hv.mono (t := t')
  rw [List.append_assoc] at hvs S2 hv'
  exact k (t ++ t') (v :: vs) (vr :: vrs) H2 hp2 tk2 hp ⟨vr, vrs, rfl, hv', hvs⟩ S2
theorem TE.list {as : CEs} {post : MV → MH → Prop} (h : TEs c m as H (fun vs H1 => vs.length ≤ 1000 ∧ post (.ref H1.length) (H1 ++ [.list vs]))) : TE c m (.list as) H post := by
  intro e he
  intro mr ρ s Q E S lr k kx
  refine List_ ?_
  refine h _ _ he mr ρ s _ E S lr ?_ kx
  rintro t vs vrs H1 h1 tk1 ⟨hsz, hp⟩ hvs S1
  refine S1.op fun ml xs os F a1 a2 a3 N a5 back => ?_
  refine newList_K F N ?_ (by rw [hvs.length]; exact Nat.le_trans hsz (by decide))
  intro l h' F' N' hl
  have := k (t ++ [l]) (.ref H1.length) (.ref l) _ h' tk1 hp
  rw [← List.append_assoc] at this
  exact this ⟨l, last_get a2, rfl⟩ (back _ _ _ (Led.alloc a1 a2 a3 a5 F' N' (fun p hp => Nat.ne_of_lt (hl p hp)) ⟨vrs, 0, hvs.mono, rfl⟩))
theorem TE.tup {as : CEs} {post : MV → MH → Prop} (h : TEs c m as H (fun vs H1 => vs.length ≤ 1000 ∧ post (.ref H1.length) (H1 ++ [.tup vs]))) : TE c m (.tup as) H post := by
  intro e he
  intro mr ρ s Q E S lr k kx
  refine Tuple_ ?_
  refine h _ _ he mr ρ s _ E S lr ?_ kx
  rintro t vs vrs H1 h1 tk1 ⟨hsz, hp⟩ hvs S1
  refine S1.op fun ml xs os F a1 a2 a3 N a5 back => ?_
  refine newTuple_N F N ?_ (by rw [hvs.length]; exact Nat.le_trans hsz (by decide))
  intro h' F' N'
  have := k (t ++ [h1.objs.size]) (.ref H1.length) (.ref h1.objs.size) _ h' tk1 hp
  rw [← List.append_assoc] at this
  exact this ⟨_, last_get a2, rfl⟩ (back _ _ _ (Led.alloc a1 a2 a3 a5 F' N' (fun p hp => Nat.ne_of_lt (Heap.lt_size (N p hp).1)) ⟨vrs, 0, hvs.mono, rfl⟩))
theorem isList_of {h₀ h : Heap} {L a : Addr} {vs : List Value} {n : Nat} (N : News h₀ L h [(a, listOf vs.toArray n)]) : h.IsList a vs.toArray := ⟨_, (N _ (.head _)).1, rfl, n, rfl⟩
theorem St.list {mr : Str → Option Value} {ρ : List Addr} {h : Heap} (S : St c mr ρ H h) {i : Nat} {xs : List MV} (hi : H[i]? = some (.list xs)) {x : Addr} (hx : ρ[i]? = some x) :
    ∃ vs n, VRs ρ xs vs ∧ News c.h₀ c.L h [(x, listOf vs.toArray n)] := by
  obtain ⟨y, o, hy, ⟨vs, n, hvs, rfl⟩, No⟩ := S.get hi
  rw [hx] at hy
  cases hy
  exact ⟨vs, n, hvs, No⟩
theorem St.tup {mr : Str → Option Value} {ρ : List Addr} {h : Heap} (S : St c mr ρ H h) {i : Nat} {xs : List MV} (hi : H[i]? = some (.tup xs)) {x : Addr} (hx : ρ[i]? = some x) :
    ∃ vs, VRs ρ xs vs ∧ IsTup h x vs.toArray := by
  obtain ⟨y, o, hy, ⟨vs, n, hvs, rfl⟩, No⟩ := S.get hi
  rw [hx] at hy
  cases hy
  exact ⟨vs, hvs, _, (No _ (.head _)).1, rfl, n, rfl⟩
noncomputable def At (xs : List MV) (n : Int) (v : MV) : Prop := xs.length ≤ 1000000 ∧ ((0 ≤ n ∧ xs[n.toNat]? = some v) ∨ (n < 0 ∧ -(xs.length : Int) ≤ n ∧ xs[(n + xs.length).toNat]? = some v))
theorem subscripted_of {nm : List Str} {sc : Scope} {i : PySem.Expr} (h : notSlice i = true) (a : Value) (k : Value) : subscripted i false a k = operate [a, k] (getItem a k) := by
  cases i with
  | Slice _ _ _ _ => cases h
  | _ => rfl
noncomputable def Sq (c : Cx) (H : MH) (o i v : MV) : Prop :=
  ∀ (mr : Str → Option Value) (ρ : List Addr) (s : Shared) (Q : Value → Shared → Prop) (E : Value → Shared → Prop) (vo vi : Value) (base sl : PySem.Expr), notSlice sl = true → St c mr ρ H s.heap → VR ρ o vo → VR ρ i vi →
    (∀ vr tk, VR ρ v vr → Q vr { s with toks := tk }) → wpAny (model c.prog c.w) c.A (subscriptTail base sl vo vi) Q E s
theorem TE.sq {o i : CE} {post : MV → MH → Prop} (h : TE c m o H (fun x H1 => TE c m i H1 (fun y H2 => ∃ v, Sq c H2 x y v ∧ post v H2))) : TE c m (.sub o i) H post := by
  intro e he
  obtain ⟨h2, h3⟩ := and2 he
  have h1 := slice_re h3
  intro mr ρ s Q E S lr k kx
  refine Subscript_ ?_
  refine h _ h2 mr ρ s _ E S lr ?_ kx
  intro t x xr H1 hp1 tk1 hr hx S1
  refine hr _ h3 mr (ρ ++ t) _ _ E S1 lr.mono ?_ kx.mono
  rintro t' y yr H2 hp2 tk2 ⟨v, hq, hp⟩ hy S2
  refine hq mr _ _ _ E _ _ _ _ h1 S2 hx.mono hy ?_
  intro vr tk hv
  rw [List.append_assoc] at hv S2
  exact k (t ++ t') v vr H2 hp2 tk hp hv S2
theorem Sq.list {a : Nat} {xs : List MV} {n : Int} {v : MV} (ha : H[a]? = some (.list xs)) (hn : At xs n v) : Sq c H (.ref a) (.int n) v := by
  rintro mr ρ s Q E _ _ base sl hsl S ⟨x, hx, rfl⟩ ⟨u, rfl⟩ k
  obtain ⟨vs, ep, hvs, No⟩ := S.list ha hx
  have L := isList_of No
  obtain ⟨hsz, hn⟩ := hn
  rcases hn with ⟨h0, hv⟩ | ⟨h0, h3, hv⟩
  · obtain ⟨vr, e1, e2⟩ := hvs.get hv
    have hlt := (List.getElem?_eq_some_iff.mp hv).1
    exact tail_any L.typeIs slot_list_getitem.lookup (wpAny_getItem_list L h0 (by lia) (by simpa using e1) (k vr _ e2)) (subscripted_of (nm := []) (sc := c.sc) hsl _ _)
  · obtain ⟨vr, e1, e2⟩ := hvs.get hv
    have hlen : vs.toArray.size = xs.length := by rw [List.size_toArray, hvs.length]
    exact tail_any L.typeIs slot_list_getitem.lookup (wpAny_getItem_list_neg L h0 (by rw [hlen]; exact h3) (by lia) (by rw [hlen]; simpa using e1) (k vr _ e2)) (subscripted_of (nm := []) (sc := c.sc) hsl _ _)
theorem Sq.glob {a : Addr} {vs : List Value} {n : Int} {i : Int} {t : Tok} (ha : c.h₀.IsList a vs.toArray) (h0 : 0 ≤ n) (hsz : vs.length ≤ 1000000) (hv : vs[n.toNat]? = some (.int i t)) : Sq c H (.glob a) (.int n) (.int i) := by
  rintro mr ρ s Q E _ _ base sl hsl S rfl ⟨u, rfl⟩ k
  have L : s.heap.IsList a vs.toArray := ha.at fun o e => S.keep _ o e
  have hlt := (List.getElem?_eq_some_iff.mp hv).1
  exact tail_any L.typeIs slot_list_getitem.lookup (wpAny_getItem_list L h0 (by lia) (by simpa using hv) (k _ _ ⟨t, rfl⟩)) (subscripted_of (nm := []) (sc := c.sc) hsl _ _)
theorem TB.nil {post : Fl → ML → MH → Prop} (h : post .next m H) : TB c m .nil H post := by
  intro ss hs
  intro mr ρ s Q E S l k kx
  refine wpAny_execs_nil ?_
  exact k [] .next .next m mr H s.heap s.toks h rfl (nil_of S) (by rw [List.append_nil]; exact l)
theorem TB.cons {a : CS} {r : CSs} {post : Fl → ML → MH → Prop} (h : TS c m a H (fun f m1 H1 => match f with | .next => TB c m1 r H1 post | f => post f m1 H1)) : TB c m (.cons a r) H post := by
  intro ss hs
  have hs := and2 hs
  intro mr ρ s Q E S l k kx
  refine wpAny_execs_cons ?_
  refine h _ hs.1 mr ρ s _ E S l ?_ kx
  intro t f fr m1 mr1 H1 h1 tk1 hp hf S1 l1
  cases f with
  | next =>
    subst hf
    refine hp _ hs.2 mr1 (ρ ++ t) _ _ E S1 l1 ?_ kx.mono
    intro t' f fr m2 mr2 H2 h2 tk2 hp2 hf2 S2 l2
    rw [List.append_assoc] at hf2 S2 l2
    exact k (t ++ t') f fr m2 mr2 H2 h2 tk2 hp2 hf2 S2 l2
  | brk => subst hf; exact k t .brk .brk m1 mr1 H1 h1 tk1 hp rfl S1 l1
  | cont => subst hf; exact k t .cont .cont m1 mr1 H1 h1 tk1 hp rfl S1 l1
  | ret v =>
    obtain ⟨vr, rfl, hv⟩ := hf
    exact k t (.ret v) (.ret vr) m1 mr1 H1 h1 tk1 hp ⟨vr, rfl, hv⟩ S1 l1
theorem TS.ret {a : CE} {post : Fl → ML → MH → Prop} (h : TE c m a H (fun v H1 => post (.ret v) m H1)) : TS c m (.ret a) H post := by
  intro st hs
  intro mr ρ s Q E S l k kx
  refine wpAny_Return_some ?_
  refine h _ hs mr ρ s _ E S l ?_ kx
  intro t v vr H1 h1 tk1 hp hv S1
  exact k t (.ret v) (.ret vr) m mr H1 h1 tk1 hp ⟨vr, rfl, hv⟩ S1 l.mono
theorem swaps_not {v : PySem.Expr} {t : Option PySem.Expr} {n : Nat} {env : Env} (h : notComp v = true) : swapsWith v t n env = pure false := by
  cases v <;> first | rfl | cases h
theorem TS.assign (ok : Ok G c d) (hfm : c.fm = none) {i : Nat} {a : CE} {post : Fl → ML → MH → Prop} (hn : isComp a = false) (h : TE c m a H (fun v H1 => post .next (m.set i (some v)) H1)) : TS c m (.assign i a) H post := by
  intro st hs
  obtain ⟨h1, h2, h3⟩ := and3 hs
  have h1 := beq_iff_eq.mp h1
  intro mr ρ s Q E S l k kx
  refine wpAny_Assign_Name ?_ (swaps_not (comp_re h3 hn))
  refine h _ h3 mr ρ s _ E S l ?_ kx
  intro t v vr H1 hp1 tk1 hp hv S1
  refine store ok S1 hfm h2 ?_
  intro h' tk S2
  exact k t .next .next _ _ H1 h' tk hp rfl S2 (l.mono.set h1 hv)
theorem TS.ite {t : CT} {a b : CSs} {post : Fl → ML → MH → Prop} (h : TT c m t H (fun r H1 => (r = true → TB c m a H1 post) ∧ (r = false → TB c m b H1 post))) : TS c m (.ite t a b) H post := by
  intro st hs
  have hs := and3 hs
  intro mr ρ s Q E S l k kx
  refine wpAny_If ?_
  refine h _ hs.1 _ mr ρ s _ E (fun _ => rfl) S l ?_ kx
  intro t b H1 h1 tk1 hp S1
  have fin : ∀ ss, EX c m ss H1 post → wpAny (model c.prog c.w) c.A (execs ss c.env) Q E { s with heap := h1, toks := tk1 } := by
    intro ss hss
    refine hss mr (ρ ++ t) _ _ E S1 l.mono ?_ kx.mono
    intro t' f fr m2 mr2 H2 h2 tk2 hp2 hf2 S2 l2
    rw [List.append_assoc] at hf2 S2 l2
    exact k (t ++ t') f fr m2 mr2 H2 h2 tk2 hp2 hf2 S2 l2
  cases b with
  | true => exact fin _ (hp.1 rfl _ hs.2.1)
  | false => exact fin _ (hp.2 rfl _ hs.2.2)
theorem TS.expr (hi : interactive c.env = false) {a : CE} {post : Fl → ML → MH → Prop} (h : TE c m a H (fun _ H1 => post .next m H1)) : TS c m (.expr a) H post := by
  intro st hs
  have hs := and2 hs
  intro mr ρ s Q E S l k kx
  refine wpAny_Expr_any ?_ hi (swaps_not (comp_re hs.2 (by simpa using hs.1)))
  refine h _ hs.2 mr ρ s _ E S l ?_ kx
  intro t v vr H1 h1 tk1 hp hv S1
  exact k t .next .next m mr H1 h1 tk1 hp rfl S1 l.mono
theorem swaps_at {v o i : PySem.Expr} {p : Pos} {n : Nat} {env : Env} : swapsWith v (some (.Subscript o i p)) n env = pure false := by
  cases v <;> rfl
theorem swaps_attr {v o : PySem.Expr} {x : Str} {p : Pos} {n : Nat} {env : Env} : swapsWith v (some (.Attribute o x p)) n env = pure false := by
  cases v <;> rfl
noncomputable def Uq (c : Cx) (H : MH) (o i v : MV) (H' : MH) : Prop :=
  ∀ (mr : Str → Option Value) (ρ : List Addr) (s : Shared) (Q : Unit → Shared → Prop) (E : Value → Shared → Prop) (vo vi vv : Value), St c mr ρ H s.heap → VR ρ o vo → VR ρ i vi → VR ρ v vv →
    (∀ t h' tk, St c mr (ρ ++ t) H' h' → Q () { s with heap := h', toks := tk }) → wpAny (model c.prog c.w) c.A (setItem vo vi vv) Q E s
theorem TS.setItem {o i a : CE} {post : Fl → ML → MH → Prop} (h : TE c m a H (fun v H1 => TE c m o H1 (fun x H2 => TE c m i H2 (fun y H3 => ∃ H4, Uq c H3 x y v H4 ∧ post .next m H4)))) : TS c m (.setItem o i a) H post := by
  intro st hs
  obtain ⟨h2, h3, h4⟩ := and3 hs
  intro mr ρ s Q E S l k kx
  refine wpAny_Assign_Subscript ?_ swaps_at
  refine h _ h4 mr ρ s _ E S l ?_ kx
  intro t v vr H1 hp1 tk1 h12 hv S1
  refine h12 _ h2 mr _ _ _ E S1 l.mono ?_ kx.mono
  intro t' x xr H2 hp2 tk2 h23 hx S2
  refine h23 _ h3 mr _ _ _ E S2 l.mono.mono ?_ kx.mono.mono
  rintro t'' y yr H3 hp3 tk3 ⟨H4, hq, hp⟩ hy S3
  refine hq mr _ _ _ E _ _ _ S3 hx.mono hy (hv.mono).mono ?_
  intro t3 h' tk S4
  have e1 : ρ ++ t ++ t' ++ t'' ++ t3 = ρ ++ (t ++ (t' ++ (t'' ++ t3))) := by simp only [List.append_assoc]
  rw [e1] at S4
  exact k _ .next .next m mr H4 h' tk hp rfl S4 l.mono
theorem Uq.list {a : Nat} {xs : List MV} {n : Int} {v : MV} (ha : H[a]? = some (.list xs)) (hsz : xs.length ≤ 1000000) (h0 : 0 ≤ n) (hlt : n < xs.length) : Uq c H (.ref a) (.int n) v (H.set a (.list (xs.set n.toNat v))) := by
  rintro mr ρ s Q E _ _ vv S ⟨x, hx, rfl⟩ ⟨u, rfl⟩ hv k
  obtain ⟨vs, ep, hvs, No⟩ := S.list ha hx
  have hlen : vs.toArray.size = xs.length := by rw [List.size_toArray, hvs.length]
  have ho := (No _ (.head _)).1
  refine ki_setAt ho h0 (by lia) (by rw [hlen]; exact hlt) ?_
  have hS := S.upd (h' := s.heap.update x (Obj.mapSeq (·.setIfInBounds n.toNat vv))) (o' := .list (xs.set n.toNat v)) ha hx (Heap.SameBut.update ..)
    (x' := listOf (vs.set n.toNat vv).toArray ep) ?_ ⟨vs.set n.toNat vv, ep, hvs.set hv, rfl⟩
  · exact k [] _ _ (nil_of hS)
  · have e : Obj.mapSeq (·.setIfInBounds n.toNat vv) (listOf vs.toArray ep) = listOf (vs.set n.toNat vv).toArray ep := by
      have e1 : vs.toArray.setIfInBounds n.toNat vv = (vs.set n.toNat vv).toArray := by
        apply Array.toList_inj.mp
        simp
      simp [Obj.mapSeq, e1]
    rw [Heap.get?_update_self _ ho (by rw [e]; rfl), e]
end
noncomputable def Cx.wx (c : Cx) (xt : List (Addr × Obj)) : Cx := { c with xt := xt }
theorem Ok.wx {G : Gx} {c : Cx} {d : Nat} (ok : Ok G c d) (xt : List (Addr × Obj)) : Ok G (c.wx xt) d :=
  ⟨ok.frames, ok.kin, ok.top, ok.hh, ok.dep, ok.uni, ok.fn, ok.gl, ok.bi, ok.ap, ok.kd, ok.fs, ok.ex⟩
section
variable {c : Cx} {m : ML} {H : MH} {G : Gx} {d : Nat}
theorem TS.while (ok : Ok G c d) (hfm : c.fm = none) {t : CT} {b : CSs} {post : Fl → ML → MH → Prop} (I : Nat → ML → MH → Prop) (n : Nat) (h0 : I n m H)
    (turn : ∀ k m1 H1, I k m1 H1 → TT c m1 t H1 (fun r H2 => (r = true → TB c m1 b H2 (fun f m3 H3 => match f with
        | .next => ∃ j, j < k ∧ I j m3 H3
        | .cont => ∃ j, j < k ∧ I j m3 H3
        | .brk => post .next m3 H3
        | .ret v => post (.ret v) m3 H3)) ∧ (r = false → post .next m1 H2))) : TS c m (.while t b) H post := by
  intro st hs
  have hs := and2 hs
  intro mr ρ s Q E S lr k kx
  refine wpAny_While ?_
  let J : Nat → Shared → Prop := fun j s' => ∃ t m1 mr1 H1 h' tk, s' = { s with heap := h', toks := tk } ∧ I j m1 H1 ∧ St c mr1 (ρ ++ t) H1 h' ∧ LR mr1 c.nm (ρ ++ t) m1
  refine codeAny_whileLoop J ?_ n ⟨[], m, mr, H, s.heap, s.toks, rfl, h0, nil_of S, by rw [List.append_nil]; exact lr⟩
  rintro j _ ⟨t, m1, mr1, H1, h1, tk1, rfl, hI, S1, l1⟩
  have kx1 := (kx.mono (t := t) (h := h1) (tk := tk1)).pass (M := model c.prog c.w) (A := c.A) (A' := c.A) ok hfm rfl
  refine turn j m1 H1 hI _ hs.1 _ mr1 (ρ ++ t) _ _ _ (fun _ => rfl) S1 l1 ?_ kx1
  intro t' b H2 h2 tk2 hb S2
  have l2 := l1.mono (t := t')
  cases b with
  | false =>
    refine wpAny_execs_nil ?_
    have := k (t ++ t') .next .next m1 mr1 H2 h2 tk2 (hb.2 rfl) rfl
    rw [← List.append_assoc] at this
    exact this S2 l2
  | true =>
    refine hb.1 rfl _ hs.2 mr1 (ρ ++ t ++ t') _ _ _ S2 l2 ?_ kx1.mono
    intro t'' f fr m3 mr3 H3 h3 tk3 hp hf S3 l3
    have e : ρ ++ t ++ t' ++ t'' = ρ ++ (t ++ (t' ++ t'')) := by simp only [List.append_assoc]
    rw [e] at S3 l3 hf
    cases f with
    | next =>
      subst hf
      obtain ⟨i, hi, hI'⟩ := hp
      exact ⟨i, hi, _, m3, mr3, H3, h3, tk3, rfl, hI', S3, l3⟩
    | cont =>
      subst hf
      obtain ⟨i, hi, hI'⟩ := hp
      exact ⟨i, hi, _, m3, mr3, H3, h3, tk3, rfl, hI', S3, l3⟩
    | brk =>
      subst hf
      exact k _ .next .next m3 mr3 H3 h3 tk3 hp rfl S3 l3
    | ret v =>
      obtain ⟨vr, rfl, hv⟩ := hf
      exact k _ (.ret v) (.ret vr) m3 mr3 H3 h3 tk3 hp ⟨vr, rfl, hv⟩ S3 l3
theorem Led.addX {h₀ h : Heap} {L : Addr} {prog : Program} {w : World} {ml : Str → Option Value} {fr xt ex : List (Addr × Obj)} {ρ : List Addr} {o : Obj} (S : Led h₀ L prog w ml (fr ++ (xt ++ ex)) ρ H h) (ho : o.isFreed = false) :
    Led h₀ L prog w ml (fr ++ (((h.objs.size, o) :: xt) ++ ex)) ρ H (h.push o) := by
  refine S.oq fun os F a1 a2 a3 N a5 => ?_
  have hn : h.objs.size ∉ (fr ++ (xt ++ ex)).map (·.1) ++ ρ := fun q => by
    obtain ⟨p, hp, e⟩ := led_addr (os := os) a1 a2 q
    have := Heap.lt_size (N p hp).1
    rw [e] at this
    exact Nat.lt_irrefl _ this
  refine ⟨F.push o, os, a1, a2, a3, fun p hp => N.push F o ho p ?_, ?_⟩
  · simp only [List.cons_append, List.mem_append, List.mem_cons] at hp ⊢
    rcases hp with (hp | hp | hp | hp) | hp <;> simp [hp]
  · have hp : ((fr ++ (((h.objs.size, o) :: xt) ++ ex)).map (·.1) ++ ρ).Perm (h.objs.size :: ((fr ++ (xt ++ ex)).map (·.1) ++ ρ)) := by
      simp only [List.map_append, List.map_cons, List.cons_append, List.append_assoc]
      exact List.perm_middle
    rw [hp.nodup_iff]
    exact List.nodup_cons.mpr ⟨hn, a5⟩
theorem St.addX {mr : Str → Option Value} {ρ : List Addr} {h : Heap} {o : Obj} (S : St c mr ρ H h) (ho : o.isFreed = false) : St (c.wx ((h.objs.size, o) :: c.xt)) mr ρ H (h.push o) := by
  obtain ⟨ml, fr, ex, own, u, l⟩ := S
  exact ⟨ml, fr, ex, own, u, l.addX ho⟩
theorem St.dropX {mr : Str → Option Value} {ρ : List Addr} {h : Heap} {p : Addr × Obj} (S : St (c.wx (p :: c.xt)) mr ρ H h) : St c mr ρ H h := by
  refine S.oq fun ml fr ex os own u F a1 a2 a3 N a5 => ?_
  refine ⟨ml, fr, ex, ?_, u, F, os, a1, a2, a3, fun q hq => N q ?_, ?_⟩
  · exact own
  · show q ∈ (fr ++ ((p :: c.xt) ++ ex)) ++ ρ.zip os
    simp only [List.cons_append, List.mem_append, List.mem_cons] at hq ⊢
    rcases hq with (hp | hp | hp) | hp <;> simp [hp]
  · replace a5 : ((fr ++ ((p :: c.xt) ++ ex)).map (·.1) ++ ρ).Nodup := a5
    refine List.Nodup.sublist ?_ a5
    simp only [List.map_append, List.map_cons, List.cons_append, List.append_assoc]
    exact List.Sublist.append (List.Sublist.refl _) (List.sublist_cons_self _ _)
theorem St.itr {mr : Str → Option Value} {ρ : List Addr} {h : Heap} {p : Addr × Obj} (S : St (c.wx (p :: c.xt)) mr ρ H h) : h.get? p.1 = some p.2 ∧ p.1 ≠ c.L ∧ c.h₀.get? p.1 = none := by
  refine S.oq fun ml fr ex os own u F a1 a2 a3 N a5 => ?_
  exact N p (List.mem_append_left _ (List.mem_append_right _ (List.mem_append_left _ (.head _))))
theorem St.turnX {mr : Str → Option Value} {ρ : List Addr} {h h' : Heap} {I : Addr} {o o' : Obj} (S : St (c.wx ((I, o) :: c.xt)) mr ρ H h) (hI : h'.get? I = some o')
    (hk : ∀ b x, b ≠ I → h.get? b = some x → h'.get? b = some x) : St (c.wx ((I, o') :: c.xt)) mr ρ H h' := by
  have nI := S.itr
  refine S.oq fun ml fr ex os own u F a1 a2 a3 N a5 => ?_
  replace N : News c.h₀ c.L h ((fr ++ (((I, o) :: c.xt) ++ ex)) ++ ρ.zip os) := N
  replace a5 : ((fr ++ (((I, o) :: c.xt) ++ ex)).map (·.1) ++ ρ).Nodup := a5
  have hne : ∀ b x, c.h₀.get? b = some x → b ≠ I := fun b x e q => by
    have := nI.2.2
    rw [q] at e
    have e' : c.h₀.get? I = none := this
    rw [e'] at e
    cases e
  refine ⟨ml, fr, ex, ?_, u, ⟨F.ns.at' fun x e => hk _ x (fun q => nI.2.1 q.symm) e, fun b x e => hk b x (hne b x e) (F.keep b x e), F.above⟩, os, a1, a2, a3, ?_, (by show ((fr ++ (((I, o') :: c.xt) ++ ex)).map (·.1) ++ ρ).Nodup; simpa [List.map_append] using a5)⟩
  · exact own
  · show News c.h₀ c.L h' ((fr ++ (((I, o') :: c.xt) ++ ex)) ++ ρ.zip os)
    have hp : ((fr ++ (((I, o) :: c.xt) ++ ex)).map (·.1) ++ ρ).Perm (I :: ((fr ++ (c.xt ++ ex)).map (·.1) ++ ρ)) := by
      simp only [List.map_append, List.map_cons, List.cons_append, List.append_assoc]
      exact List.perm_middle
    have hnd := List.nodup_cons.mp (hp.nodup_iff.mp a5)
    intro p hp
    have hsplit : p = (I, o') ∨ p ∈ (fr ++ (c.xt ++ ex)) ++ ρ.zip os := by
      simp only [List.cons_append, List.mem_append, List.mem_cons] at hp ⊢
      rcases hp with (hp | hp | hp | hp) | hp <;> simp [hp]
    rcases hsplit with rfl | hq
    · exact ⟨hI, nI.2⟩
    · have P := N p (by
        simp only [List.cons_append, List.mem_append, List.mem_cons] at hq ⊢
        rcases hq with (hp | hp | hp) | hp <;> simp [hp])
      refine ⟨hk _ _ (fun e => ?_) P.1, P.2⟩
      refine hnd.1 ?_
      rw [← e]
      rcases List.mem_append.mp hq with hq | hq
      · exact List.mem_append_left _ (List.mem_map_of_mem hq)
      · exact List.mem_append_right _ (List.of_mem_zip (show (p.1, p.2) ∈ _ from hq)).1
theorem St.endX {mr : Str → Option Value} {ρ : List Addr} {h h' : Heap} {I : Addr} {o : Obj} (S : St (c.wx ((I, o) :: c.xt)) mr ρ H h)
    (hk : ∀ b x, b ≠ I → h.get? b = some x → h'.get? b = some x) : St c mr ρ H h' := by
  have nI := S.itr
  refine S.oq fun ml fr ex os own u F a1 a2 a3 N a5 => ?_
  replace N : News c.h₀ c.L h ((fr ++ (((I, o) :: c.xt) ++ ex)) ++ ρ.zip os) := N
  replace a5 : ((fr ++ (((I, o) :: c.xt) ++ ex)).map (·.1) ++ ρ).Nodup := a5
  have hne : ∀ b x, c.h₀.get? b = some x → b ≠ I := fun b x e q => by
    have := nI.2.2
    rw [q] at e
    have e' : c.h₀.get? I = none := this
    rw [e'] at e
    cases e
  have hp : ((fr ++ (((I, o) :: c.xt) ++ ex)).map (·.1) ++ ρ).Perm (I :: ((fr ++ (c.xt ++ ex)).map (·.1) ++ ρ)) := by
    simp only [List.map_append, List.map_cons, List.cons_append, List.append_assoc]
    exact List.perm_middle
  have hnd := List.nodup_cons.mp (hp.nodup_iff.mp a5)
  refine ⟨ml, fr, ex, ?_, u, ⟨F.ns.at' fun x e => hk _ x (fun q => nI.2.1 q.symm) e, fun b x e => hk b x (hne b x e) (F.keep b x e), F.above⟩, os, a1, a2, a3, ?_, hnd.2⟩
  · exact own
  · intro p hq
    have P := N p (by
      simp only [List.cons_append, List.mem_append, List.mem_cons] at hq ⊢
      rcases hq with (hp | hp | hp) | hp <;> simp [hp])
    refine ⟨hk _ _ (fun e => ?_) P.1, P.2⟩
    refine hnd.1 ?_
    rw [← e]
    rcases List.mem_append.mp hq with hq | hq
    · exact List.mem_append_left _ (List.mem_map_of_mem hq)
    · exact List.mem_append_right _ (List.of_mem_zip (show (p.1, p.2) ∈ _ from hq)).1
theorem Fly.dropX {mr : Str → Option Value} {ρ : List Addr} {h : Heap} {p : Addr × Obj} {C : Addr} {as : List MV} {e : Addr} (f : Fly (c.wx (p :: c.xt)) mr ρ H C as e h) : Fly c mr ρ H C as e h := by
  obtain ⟨hB, t, vs, b, x⟩ := f.split
  exact FlyB.fly (c := c) ⟨b.st.dropX, b.vr, b.en, b.tn, b.tup, b.up, b.stay⟩ x
theorem Kx.addX {ρ : List Addr} {s : Shared} {E : Value → Shared → Prop} {p : Addr × Obj} (k : Kx c ρ s E) : Kx (c.wx (p :: c.xt)) ρ s E :=
  fun t C as e m' mr' H' h' tk hX hF hL => k t C as e m' mr' H' h' tk hX (hF.dropX) hL
end
noncomputable def setAll : List Nat → List MV → ML → ML
  | i :: is, v :: vs, m => setAll is vs (m.set i (some v))
  | _, _, m => m
noncomputable def Parts (H : MH) : List Nat → MV → List MV → Prop
  | [_], v, vs => vs = [v]
  | is, v, vs => 1 < is.length ∧ vs.length = is.length ∧ ∃ a, v = .ref a ∧ H[a]? = some (.tup vs)
noncomputable def okT (nm : List Str) (sc : Scope) (is : List Nat) : Bool := is.all (fun i => okSlot nm i && stb sc (nm.getD i ""))
section
variable {c : Cx} {m : ML} {H : MH} {G : Gx} {d : Nat}
theorem each_length {nm : List Str} {env : Env} : ∀ (is : List Nat) (es : List PySem.Expr), (assignEach (reNames (atNm nm is) es) env).length = is.length ∧ (assignEach (reNames (atNm nm is) es) env).findIdx? (·.1) = none
  | [], _ => ⟨rfl, rfl⟩
  | i :: is, es => by
    obtain ⟨h1, h2⟩ := each_length (nm := nm) (env := env) is es.tail
    refine ⟨?_, ?_⟩
    · show ((false, _) :: assignEach (reNames (atNm nm is) es.tail) env).length = _
      simp [h1]
    · show ((false, _) :: assignEach (reNames (atNm nm is) es.tail) env).findIdx? (·.1) = none
      rw [List.findIdx?_cons]
      simp [h2]
theorem assignIn (ok : Ok G c d) (hfm : c.fm = none) {Q : Unit → Shared → Prop} {E : Value → Shared → Prop} {ρ : List Addr} : ∀ {is : List Nat} {ts : List PySem.Expr} {vs : List MV} {vrs : List Value} {m : ML} {mr : Str → Option Value} {s : Shared},
    okT c.nm c.sc is = true → VRs ρ vs vrs → vs.length = is.length → St c mr ρ H s.heap → LR mr c.nm ρ m →
    (∀ mr' h' tk, St c mr' ρ H h' → LR mr' c.nm ρ (setAll is vs m) → Q () { s with heap := h', toks := tk }) →
    wpAny (model c.prog c.w) c.A (assignInOrder ((assignEach (reNames (atNm c.nm is) ts) c.env).map (·.2)) vrs) Q E s
  | [], ts, vs, vrs, m, mr, s, _, hv, hl, S, l, k => by
    cases vs with
    | nil =>
      have e : vrs = [] := hv
      subst e
      exact wpAny_pure (k mr s.heap s.toks S l)
    | cons _ _ => simp at hl
  | i :: is, ts, vs, vrs, m, mr, s, h, hv, hl, S, l, k => by
    have h1 : (okSlot c.nm i && stb c.sc (c.nm.getD i "") && okT c.nm c.sc is) = true := h
    obtain ⟨h1, h2, h3⟩ := and3 h1
    cases vs with
    | nil => simp at hl
    | cons v vs =>
      obtain ⟨vr, r, rfl, hv1, hv2⟩ := hv
      show wpAny _ _ (do holding r (assign (.Name (c.nm.getD i "") (nth 0 ts).pos) c.env vr); assignInOrder ((assignEach (reNames (atNm c.nm is) ts.tail) c.env).map (·.2)) r) Q E s
      refine wpAny_bind (wpAny_holding (wpAny_assign_Name ?_))
      refine store ok S hfm h2 ?_
      intro h' tk S2
      refine assignIn ok hfm (s := { s with heap := h', toks := tk }) h3 hv2 (by simpa using hl) S2 (l.set (beq_iff_eq.mp h1) hv1) ?_
      intro mr' h'' tk' S3 l3
      exact k mr' h'' tk' S3 l3
theorem ext_grow {h h' : Heap} (he : Heap.ExtBut h.objs.size h h') : ∀ b o, h.get? b = some o → h'.get? b = some o := fun b o e => he b o (Nat.ne_of_lt (Heap.lt_size e)) e
theorem assignTup (ok : Ok G c d) (hfm : c.fm = none) {Q : Unit → Shared → Prop} {E : Value → Shared → Prop} {ρ : List Addr} {is : List Nat} {ts : List PySem.Expr} {n : Nat} {p : Pos} {v : MV} {vr : Value} {vs : List MV} {mr : Str → Option Value} {s : Shared}
    (ht : okT c.nm c.sc is = true) (h1 : 1 < is.length) (hv : VR ρ v vr) (hp : Parts H is v vs) (S : St c mr ρ H s.heap) (l : LR mr c.nm ρ m)
    (k : ∀ mr' h' tk, St c mr' ρ H h' → LR mr' c.nm ρ (setAll is vs m) → Q () { s with heap := h', toks := tk }) : wpAny (model c.prog c.w) c.A (assign (.Tuple (reNames (atNm c.nm is) ts) n p) c.env vr) Q E s := by
  have hp' : 1 < is.length ∧ vs.length = is.length ∧ ∃ a, v = .ref a ∧ H[a]? = some (.tup vs) := by
    cases is with
    | nil => simp at h1
    | cons i r =>
      cases r with
      | nil => simp at h1
      | cons _ _ => exact hp
  obtain ⟨_, hl, a, rfl, ha⟩ := hp'
  obtain ⟨x, hx, rfl⟩ := hv
  obtain ⟨ws, hws, T⟩ := S.tup ha hx
  obtain ⟨q1, q2⟩ := each_length (nm := c.nm) (env := c.env) is ts
  refine assign_Tuple_tuple ok.hh T (by rw [q1, List.size_toArray, hws.length, hl]) q2 ?_
  intro h' he
  refine assignIn ok hfm (s := { s with heap := h' }) ht (by simpa using hws) hl (S.grow (ext_grow he)) l ?_
  intro mr' h'' tk' S3 l3
  exact k mr' h'' tk' S3 l3
theorem assignTg (ok : Ok G c d) (hfm : c.fm = none) {Q : Unit → Shared → Prop} {E : Value → Shared → Prop} {ρ : List Addr} {is : List Nat} {e : PySem.Expr} {v : MV} {vr : Value} {vs : List MV} {mr : Str → Option Value} {s : Shared}
    (h0 : is.isEmpty = false) (ht : okT c.nm c.sc is = true) (hv : VR ρ v vr) (hp : Parts H is v vs) (S : St c mr ρ H s.heap) (l : LR mr c.nm ρ m)
    (k : ∀ mr' h' tk, St c mr' ρ H h' → LR mr' c.nm ρ (setAll is vs m) → Q () { s with heap := h', toks := tk }) : wpAny (model c.prog c.w) c.A (assign (reTg (atNm c.nm is) e) c.env vr) Q E s := by
  cases is with
  | nil => cases h0
  | cons i r =>
    cases r with
    | nil =>
      have h1 : (okSlot c.nm i && stb c.sc (c.nm.getD i "") && true) = true := ht
      obtain ⟨h1, h2, _⟩ := and3 h1
      have e : vs = [v] := hp
      subst e
      refine wpAny_assign_Name (store ok S hfm h2 ?_)
      intro h' tk S2
      exact k _ h' tk S2 (l.set (beq_iff_eq.mp h1) hv)
    | cons j r =>
      have q : reTg (atNm c.nm (i :: j :: r)) e = .Tuple (reNames (atNm c.nm (i :: j :: r)) (kids e)) (numOf e) e.pos := rfl
      rw [q]
      exact assignTup ok hfm ht (by simp) hv hp S l k
noncomputable def NX (c : Cx) (I : Addr) (T : Nat → Obj → Prop) (good : MH → Prop) (item : Nat → MH → Option MV) (ρ₀ : List Addr) : Prop :=
  ∀ (i : Nat) (oI : Obj) (mr : Str → Option Value) (t : List Addr) (H : MH) (s : Shared) (Q : Option Value → Shared → Prop) (E : Value → Shared → Prop), T i oI → good H → St (c.wx ((I, oI) :: c.xt)) mr (ρ₀ ++ t) H s.heap →
    (∀ mv vr oI' h' tk, item i H = some mv → VR (ρ₀ ++ t) mv vr → T (i + 1) oI' → h'.get? I = some oI' → (∀ b o, b ≠ I → s.heap.get? b = some o → h'.get? b = some o) → Q (some vr) { s with heap := h', toks := tk }) →
    (∀ h' tk, item i H = none → (∀ b o, b ≠ I → s.heap.get? b = some o → h'.get? b = some o) → Q none { s with heap := h', toks := tk }) →
    wpAny (model c.prog c.w) c.A (pyNext (.ref I)) Q E s
noncomputable def GoOk (T : Nat → Obj → Prop) : Prop := ∀ i o, T i o → ∃ n vs, o.cls = .type n ∧ o.data = .fields vs ∧ ["enumerate", "zip", "dict_itemiterator", "dict_reverseitemiterator", "odict_iterator", "itertools.zip_longest", "itertools.pairwise"].contains n = false
theorem letOwned {T : Nat → Obj → Prop} (g : GoOk T) {i : Nat} {o : Obj} (hT : T i o) {I : Addr} {target : PySem.Expr} {v : Value} {s : Shared} {Q : Unit → Shared → Prop} {E : Value → Shared → Prop} {M : Model} {A : Around} (hI : s.heap.get? I = some o) (h : Q () s) :
    wpAny M A (letOwnedTupleGo target (.ref I) v) Q E s := by
  obtain ⟨n, vs, h1, h2, h3⟩ := g i o hT
  have key : wpAny M A (do
    let (.ref r, .ref a) := (Value.ref I, v) | return
    let o ← load r
    match o.cls, o.data with
    | .type n, .fields vs =>
      if ["enumerate", "zip", "dict_itemiterator", "dict_reverseitemiterator", "odict_iterator", "itertools.zip_longest", "itertools.pairwise"].contains n && vs[0]? == some (rawInt a) then
        rule "for.unpacks-the-owned-tuple"
        updateField r 0 .none
    | _, _ => pure ()) Q E s := by
    cases v with
    | ref a =>
      refine wpAny_bind (wpAny_load hI ?_)
      simp only [h1, h2, h3, Bool.false_and, Bool.false_eq_true, if_false]
      exact wpAny_pure h
    | _ => exact wpAny_pure h
  cases target with
  | Tuple _ _ _ => exact key
  | List _ _ => exact key
  | _ => exact wpAny_pure h
theorem forCore (ok : Ok G c d) (hfm : c.fm = none) {is : List Nat} {e : PySem.Expr} {b : CSs} {body : List Stmt} {post : Fl → ML → MH → Prop} (he : is.isEmpty = false) (ht : okT c.nm c.sc is = true) (hb : wfSs b c.nm c.sc body = true)
    {I : Addr} {T : Nat → Obj → Prop} {good : MH → Prop} {item : Nat → MH → Option MV} {ρ : List Addr} (nx : NX c I T good item ρ) (go : GoOk T)
    (J : Nat → ML → MH → Prop) (B : Nat) (h0 : J 0 m H) (hB : ∀ i m H, J i m H → i ≤ B ∧ good H)
    (turn : ∀ i m1 H1 v xt, J i m1 H1 → item i H1 = some v → ∃ vs, Parts H1 is v vs ∧ TB (c.wx xt) (setAll is vs m1) b H1 (fun f m2 H2 => match f with
      | .next => J (i + 1) m2 H2
      | .cont => J (i + 1) m2 H2
      | .brk => post .next m2 H2
      | .ret v => post (.ret v) m2 H2))
    (done : ∀ i m1 H1, J i m1 H1 → item i H1 = none → post .next m1 H1)
    {mr : Str → Option Value} {s : Shared} {Q : Flow → Shared → Prop} {E : Value → Shared → Prop} {oI : Obj} (hT : T 0 oI) (S : St (c.wx ((I, oI) :: c.xt)) mr ρ H s.heap) (lr : LR mr c.nm ρ m)
    (k : ∀ t f fr m' mr' H' h' tk, post f m' H' → FlR (ρ ++ t) f fr → St c mr' (ρ ++ t) H' h' → LR mr' c.nm (ρ ++ t) m' → Q fr { s with heap := h', toks := tk }) (kx : Kx c ρ s E) :
    codeAny (model c.prog c.w) c.A (.forLoop (reTg (atNm c.nm is) e) (.ref I) (reSs b c.nm body) [] c.env) (fun r s' => match r with | .ok f => Q f s' | .error e => cameBackBy (model c.prog c.w) c.A c.env E e s') s := by
  let L : Nat → Shared → Prop := fun n s' => ∃ i t m1 mr1 H1 h' tk o, s' = { s with heap := h', toks := tk } ∧ n = B + 1 - i ∧ J i m1 H1 ∧ T i o ∧ St (c.wx ((I, o) :: c.xt)) mr1 (ρ ++ t) H1 h' ∧ LR mr1 c.nm (ρ ++ t) m1
  refine codeAny_forLoop_any L ?_ (B + 1) ⟨0, [], m, mr, H, s.heap, s.toks, oI, rfl, rfl, h0, hT, nil_of S, by rw [List.append_nil]; exact lr⟩
  rintro n _ ⟨i, t, m1, mr1, H1, h1, tk1, o, rfl, rfl, hJ, hTi, S1, l1⟩
  have kx1 := (kx.mono (t := t) (h := h1) (tk := tk1)).pass (M := model c.prog c.w) (A := c.A) (A' := c.A) ok hfm rfl
  refine nx i o mr1 t H1 _ _ _ hTi (hB i m1 H1 hJ).2 S1 ?_ ?_
  · intro mv vr oI' h2 tk2 hi hv hT' hI hkeep
    have S2 := S1.turnX hI hkeep
    refine letOwned go hT' hI ?_
    obtain ⟨vs, hp, hturn⟩ := turn i m1 H1 mv ((I, oI') :: c.xt) hJ hi
    refine assignTg (c := c.wx ((I, oI') :: c.xt)) (s := { s with heap := h2, toks := tk2 }) (ok.wx _) hfm he ht hv hp S2 l1 ?_
    intro mr3 h3 tk3 S3 l3
    refine hturn _ hb mr3 (ρ ++ t) { s with heap := h3, toks := tk3 } _ _ S3 l3 ?_ ?_
    · intro t' f fr m4 mr4 H4 h4 tk4 hp4 hf S4 l4
      rw [List.append_assoc] at hf S4 l4
      cases f with
      | next =>
        subst hf
        have := (hB _ _ _ hp4).1
        exact ⟨B + 1 - (i + 1), by lia, i + 1, t ++ t', m4, mr4, H4, h4, tk4, oI', rfl, rfl, hp4, hT', S4, l4⟩
      | cont =>
        subst hf
        have := (hB _ _ _ hp4).1
        exact ⟨B + 1 - (i + 1), by lia, i + 1, t ++ t', m4, mr4, H4, h4, tk4, oI', rfl, rfl, hp4, hT', S4, l4⟩
      | brk =>
        subst hf
        exact k (t ++ t') .next .next m4 mr4 H4 h4 tk4 hp4 rfl (S4.dropX) l4
      | ret v =>
        obtain ⟨vr', rfl, hv'⟩ := hf
        exact k (t ++ t') (.ret v) (.ret vr') m4 mr4 H4 h4 tk4 hp4 ⟨vr', rfl, hv'⟩ (S4.dropX) l4
    · exact Kx.addX (c := c) (p := (I, oI')) fun t' C as e m' mr' H' h' tk hX hF hL => kx1 t' C as e m' mr' H' h' tk hX hF hL
  · intro h2 tk2 hi hkeep
    refine wpAny_execs_nil ?_
    have S2 : St c mr1 (ρ ++ t) H1 h2 := S1.endX hkeep
    exact k t .next .next m1 mr1 H1 h2 tk2 (done i m1 H1 hJ hi) rfl S2 l1
end
section
variable {c : Cx} {m : ML} {H : MH} {G : Gx} {d : Nat}
noncomputable def itemL (a : Nat) (i : Nat) (H : MH) : Option MV := match H[a]? with
  | some (.list xs) => xs[i]?
  | _ => none
theorem NX.list {I l : Addr} {a : Nat} {ρ : List Addr} (hh : c.A.handled = none) (hl : ρ[a]? = some l) :
    NX c I (fun i o => o.cls = .type "list_iterator" ∧ o.data = .fields #[.ref l, .int i 0]) (fun H => ∃ xs, H[a]? = some (.list xs)) (itemL a) ρ := by
  rintro i oI mr t H s Q E ⟨hc, hd⟩ ⟨xs, ha⟩ S k1 k2
  obtain ⟨vs, ep, hvs, No⟩ := S.list ha (get_mono hl)
  have hit : s.heap.IsListIter I l i := ⟨oI, S.itr.1, hc, hd⟩
  have L := isList_of No
  have hitem : itemL a i H = xs[i]? := by unfold itemL; rw [ha]
  cases hx : xs[i]? with
  | some mv =>
    obtain ⟨vr, e1, e2⟩ := hvs.get hx
    refine wpAny_pyNext_list_item hit L (x := vr) (by simpa using e1) fun h' hit' hs' => ?_
    obtain ⟨o', ho', hc', hd'⟩ := hit'
    exact k1 mv vr o' h' s.toks (hitem.trans hx) e2 ⟨hc', hd'⟩ ho' fun b o hb e => (hs'.2 b hb).trans e
  | none =>
    have hn : vs.toArray[i]? = none := by
      have : xs.length ≤ i := List.getElem?_eq_none_iff.mp hx
      simp only [List.getElem?_toArray]
      exact List.getElem?_eq_none_iff.mpr (by rw [hvs.length]; exact this)
    exact wpAny_pyNext_list_end hh hit L hn fun h' he' => k2 h' s.toks (hitem.trans hx) fun b o hb e => he' b o hb e
theorem and4 {a b c d : Bool} (h : (a && b && c && d) = true) : a = true ∧ b = true ∧ c = true ∧ d = true := ⟨(and3 (and2 h).1).1, (and3 (and2 h).1).2.1, (and3 (and2 h).1).2.2, (and2 h).2⟩
theorem ne_of {is : List Nat} (h : (!is.isEmpty) = true) : is.isEmpty = false := by simpa using h
theorem folded_of {nm : List Str} {sc : Scope} {a : CE} {e : PySem.Expr} {env : Env} (h : wfE a nm sc e = true) (v : Value) : foldedSetIterable (reE a nm e) env v = pure v := by
  cases a with
  | tst t => have h2 := tst_of h; cases t <;> first | rfl | cases h2
  | _ => rfl
theorem TS.forL (ok : Ok G c d) (hfm : c.fm = none) {is : List Nat} {it : CE} {b : CSs} {post : Fl → ML → MH → Prop}
    (h : TE c m it H (fun l H1 => ∃ a, l = .ref a ∧ ∃ (J : Nat → ML → MH → Prop) (B : Nat), J 0 m H1 ∧ (∀ i m2 H2, J i m2 H2 → i ≤ B ∧ ∃ xs, H2[a]? = some (.list xs)) ∧
      (∀ i m1 H2 v xt, J i m1 H2 → itemL a i H2 = some v → ∃ vs, Parts H2 is v vs ∧ TB (c.wx xt) (setAll is vs m1) b H2 (fun f m2 H3 => match f with
        | .next => J (i + 1) m2 H3
        | .cont => J (i + 1) m2 H3
        | .brk => post .next m2 H3
        | .ret v => post (.ret v) m2 H3)) ∧
      (∀ i m1 H2, J i m1 H2 → itemL a i H2 = none → post .next m1 H2))) : TS c m (.for is it b) H post := by
  intro st hs
  obtain ⟨h0, h1, h2, h3⟩ := and4 hs
  have h0 := ne_of h0
  intro mr ρ s Q E S lr k kx
  refine wpAny_For ?_ (folded_of h2)
  refine h _ h2 mr ρ s _ E S lr ?_ kx
  rintro t l lv H1 hp1 tk1 ⟨a, rfl, J, B, hJ0, hJ, turn, done⟩ hl S1
  obtain ⟨y, hy, rfl⟩ := hl
  obtain ⟨xs, ha⟩ := (hJ 0 m H1 hJ0).2
  obtain ⟨vs, ep, hvs, No⟩ := S1.list ha hy
  refine wpAny_pyIter_list (isList_of No) ?_
  refine forCore ok hfm h0 h1 h3 (NX.list ok.hh hy) (fun i o hT => ⟨_, _, hT.1, hT.2, rfl⟩) J B hJ0 hJ turn done (mr := mr) ⟨rfl, rfl⟩ (S1.addX rfl) lr.mono ?_ kx.mono
  intro t' f fr m' mr' H' h' tk hp hf S' l'
  rw [List.append_assoc] at hf S' l'
  exact k (t ++ t') f fr m' mr' H' h' tk hp hf S' l'
theorem TS.forL' (ok : Ok G c d) (hfm : c.fm = none) {is : List Nat} {it : CE} {b : CSs} {post : Fl → ML → MH → Prop}
    (h : TE c m it H (fun l H1 => ∃ a xs, l = .ref a ∧ H1[a]? = some (.list xs) ∧ ∃ (J : Nat → ML → MH → Prop), J 0 m H1 ∧ (∀ i m2 H2, J i m2 H2 → H2[a]? = some (.list xs)) ∧
      (∀ i m1 H2 v xt, J i m1 H2 → xs[i]? = some v → ∃ vs, Parts H2 is v vs ∧ TB (c.wx xt) (setAll is vs m1) b H2 (fun f m2 H3 => match f with
        | .next => J (i + 1) m2 H3
        | .cont => J (i + 1) m2 H3
        | .brk => post .next m2 H3
        | .ret v => post (.ret v) m2 H3)) ∧
      (∀ m1 H2, J xs.length m1 H2 → post .next m1 H2))) : TS c m (.for is it b) H post := by
  refine TS.forL ok hfm (h.mono fun l H1 h1 => ?_)
  obtain ⟨a, xs, rfl, ha, J, h0, hJ, turn, done⟩ := h1
  refine ⟨a, rfl, fun i m2 H2 => i ≤ xs.length ∧ J i m2 H2, xs.length, ⟨Nat.zero_le _, h0⟩, fun i m2 H2 q => ⟨q.1, xs, hJ i m2 H2 q.2⟩, ?_, ?_⟩
  · intro i m1 H2 v xt q hi
    have hx : xs[i]? = some v := by unfold itemL at hi; rw [hJ i m1 H2 q.2] at hi; exact hi
    have hlt := (List.getElem?_eq_some_iff.mp hx).1
    obtain ⟨vs, hp, ht⟩ := turn i m1 H2 v xt q.2 hx
    refine ⟨vs, hp, ht.mono fun f m2 H3 hf => ?_⟩
    cases f with
    | next => exact ⟨hlt, hf⟩
    | cont => exact ⟨hlt, hf⟩
    | brk => exact hf
    | ret v => exact hf
  · intro i m1 H2 q hi
    have hx : xs[i]? = none := by unfold itemL at hi; rw [hJ i m1 H2 q.2] at hi; exact hi
    have : i = xs.length := Nat.le_antisymm q.1 (List.getElem?_eq_none_iff.mp hx)
    exact done m1 H2 (this ▸ q.2)
noncomputable def itemR (a b : Int) (i : Nat) (_ : MH) : Option MV := if a + i < b then some (.int (a + i)) else none
theorem NX.range {I : Addr} {a b : Int} {ρ : List Addr} (hh : c.A.handled = none) :
    NX c I (fun i o => o = { cls := .type "range_iterator", data := .fields #[rawInt (a + i), rawInt (((b - a).toNat : Int) - i), rawInt 1] }) (fun _ => True) (itemR a b) ρ := by
  rintro i oI mr t H s Q E rfl _ S k1 k2
  have hI : IsRangeIter s.heap I (a + i) (((b - a).toNat : Int) - i) 1 := S.itr.1
  by_cases hlt : a + i < b
  · refine wpAny_pyNext_range_item hI (by lia) fun h' hit' hs' => ?_
    refine k1 (.int (a + i)) (.int (a + i) s.toks) _ h' _ (by unfold itemR; rw [if_pos hlt]) ⟨_, rfl⟩ ?_ hit' fun b o hb e => (hs'.2 b hb).trans e
    have e1 : a + (i : Int) + 1 = a + ((i + 1 : Nat) : Int) := by lia
    have e2 : ((b - a).toNat : Int) - (i : Int) - 1 = ((b - a).toNat : Int) - ((i + 1 : Nat) : Int) := by lia
    rw [e1, e2]
  · exact wpAny_pyNext_range_end hh hI (by lia) fun h' he' => k2 h' s.toks (by unfold itemR; rw [if_neg hlt]) fun b o hb e => he' b o hb e
noncomputable def Rng (vs : List MV) (a b : Int) : Prop := ((vs = [.int b] ∧ a = 0) ∨ vs = [.int a, .int b]) ∧ -(2 ^ 62) ≤ a ∧ a < 2 ^ 62 ∧ -(2 ^ 62) ≤ b ∧ b < 2 ^ 62
theorem call_range {mr : Str → Option Value} {ρ : List Addr} {s : Shared} {vs : List MV} {vrs : List Value} {a b : Int} {Q E} (S : St c mr ρ H s.heap) (hr : Rng vs a b) (hv : VRs ρ vs vrs)
    (k : ∀ h' tk t₁ u₁ v₁, IsRange h' s.heap.objs.size a b 1 t₁ u₁ v₁ → St c mr ρ H h' → s.heap.objs.size < h'.objs.size → Q (.ref s.heap.objs.size) { s with heap := h', toks := tk }) :
    wpAny (model c.prog c.w) c.A (call (.type "range") vrs) Q E s := by
  refine S.op fun ml xs os F a1 a2 a3 N a5 back => ?_
  obtain ⟨hvs, _⟩ := hr
  have hlt : ∀ h' t₁ u₁ v₁, IsRange h' s.heap.objs.size a b 1 t₁ u₁ v₁ → s.heap.objs.size < h'.objs.size := fun h' t₁ u₁ v₁ hr => by
    unfold IsRange at hr
    exact Heap.lt_size hr
  rcases hvs with ⟨rfl, rfl⟩ | rfl
  · obtain ⟨v, r, rfl, ⟨tt, rfl⟩, hr⟩ := hv
    have hr' : r = [] := hr
    subst hr'
    exact range1_rows F N fun h' tk t₁ u₁ v₁ hr _ _ hkeep => k h' tk t₁ u₁ v₁ hr (S.grow hkeep) (hlt _ _ _ _ hr)
  · obtain ⟨v, r, rfl, ⟨tt, rfl⟩, v2, r2, rfl, ⟨uu, rfl⟩, hr⟩ := hv
    have hr' : r2 = [] := hr
    subst hr'
    exact range2_rows F N fun h' tk t₁ u₁ v₁ hr _ _ hkeep => k h' tk t₁ u₁ v₁ hr (S.grow hkeep) (hlt _ _ _ _ hr)
theorem callType (ok : Ok G c d) {g : Str} {T : String} {as : CEs} {e : PySem.Expr} (hg : nsIn G.K mainGlobals g = some Option.none) (hb : bootBuiltins g = some (.type T)) (hn : g ≠ "__name__")
    (he : wfE (.call g as) c.nm c.sc e = true) (hne : as ≠ .nil) {mr : Str → Option Value} {ρ : List Addr} {s : Shared} {Q : Value → Shared → Prop} {E : Value → Shared → Prop} {p : List MV → MH → Prop} (S : St c mr ρ H s.heap) (l : LR mr c.nm ρ m) (kx : Kx c ρ s E)
    (h : TEs c m as H p) (k : ∀ t vs vrs H' h' tk, p vs H' → VRs (ρ ++ t) vs vrs → St c mr (ρ ++ t) H' h' → wpAny (model c.prog c.w) c.A (call (.type T) vrs) Q E { s with heap := h', toks := tk }) :
    wpAny (model c.prog c.w) c.A (eval (reE (.call g as) c.nm e) c.env) Q E s := by
  obtain ⟨h2, h3⟩ := and2 he
  refine Call_ ?_ rfl
  refine nameB ok S h2 hg hb hn ?_
  cases as with
  | nil => exact absurd rfl hne
  | cons a r =>
    have h4 := and2 h3
    refine PyProof.Rows.callWith_type1 ?_ (star_cons (star_re h4.1)) (star_plain h4.2)
    refine h _ _ h3 mr ρ s _ E S l ?_ kx
    intro t vs vrs H' h' tk hp hv S'
    exact k t vs vrs H' h' tk hp hv S'
theorem callBuiltin (ok : Ok G c d) {g : Str} {T : String} {as : CEs} {e : PySem.Expr} (hg : nsIn G.K mainGlobals g = some Option.none) (hb : bootBuiltins g = some (.builtin T)) (hn : g ≠ "__name__")
    (he : wfE (.call g as) c.nm c.sc e = true) (hne : as ≠ .nil) {mr : Str → Option Value} {ρ : List Addr} {s : Shared} {Q : Value → Shared → Prop} {E : Value → Shared → Prop} {p : List MV → MH → Prop} (S : St c mr ρ H s.heap) (l : LR mr c.nm ρ m) (kx : Kx c ρ s E)
    (h : TEs c m as H p) (k : ∀ t vs vrs H' h' tk, p vs H' → VRs (ρ ++ t) vs vrs → St c mr (ρ ++ t) H' h' → wpAny (model c.prog c.w) c.A (call (.builtin T) vrs) Q E { s with heap := h', toks := tk }) :
    wpAny (model c.prog c.w) c.A (eval (reE (.call g as) c.nm e) c.env) Q E s := by
  obtain ⟨h2, h3⟩ := and2 he
  refine Call_ ?_ rfl
  refine nameB ok S h2 hg hb hn ?_
  cases as with
  | nil => exact absurd rfl hne
  | cons a r =>
    have h4 := and2 h3
    refine PyProof.Rows.callWith_builtin1 ?_ (star_cons (star_re h4.1)) (star_plain h4.2)
    refine h _ _ h3 mr ρ s _ E S l ?_ kx
    intro t vs vrs H' h' tk hp hv S'
    exact k t vs vrs H' h' tk hp hv S'
theorem TS.forR (ok : Ok G c d) (hfm : c.fm = none) (hg : nsIn G.K mainGlobals "range" = some none) {is : List Nat} {as : CEs} {b : CSs} {post : Fl → ML → MH → Prop} (hne : as ≠ .nil)
    (h : TEs c m as H (fun vs H1 => ∃ a b', Rng vs a b' ∧ ∃ (J : Nat → ML → MH → Prop), J 0 m H1 ∧
      (∀ i m1 H2 xt, J i m1 H2 → a + i < b' → TB (c.wx xt) (setAll is [.int (a + i)] m1) b H2 (fun f m2 H3 => match f with
        | .next => J (i + 1) m2 H3
        | .cont => J (i + 1) m2 H3
        | .brk => post .next m2 H3
        | .ret v => post (.ret v) m2 H3)) ∧
      (∀ m1 H2, J (b' - a).toNat m1 H2 → post .next m1 H2))) (h1i : ∃ i, is = [i]) : TS c m (.for is (.call "range" as) b) H post := by
  obtain ⟨i0, rfl⟩ := h1i
  intro st hs
  obtain ⟨h0, h1, h2, h3⟩ := and4 hs
  have h0 := ne_of h0
  intro mr ρ s Q E S lr k kx
  refine wpAny_For ?_ (folded_of h2)
  refine callType ok (T := "range") hg boot_range (by decide) h2 hne S lr kx h ?_
  rintro t vs vrs H1 hp1 tk1 ⟨a, b', hr, J, hJ0, turn, done⟩ hv S1
  refine call_range S1 hr hv ?_
  intro h' tk t₁ u₁ v₁ hR S2 _
  refine wpAny_pyIter_range hR (small_one hr.2.1 hr.2.2.1 hr.2.2.2.1 hr.2.2.2.2) ?_
  refine forCore (post := post) ok hfm h0 h1 h3 (NX.range (a := a) (b := b') ok.hh) (fun i o hT => by subst hT; exact ⟨_, _, rfl, rfl, rfl⟩) (fun i m2 H2 => i ≤ (b' - a).toNat ∧ J i m2 H2) (b' - a).toNat ⟨Nat.zero_le _, hJ0⟩ (fun i m2 H2 q => ⟨q.1, trivial⟩) ?_ ?_ (mr := mr) ?_ (S2.addX rfl) lr.mono ?_ kx.mono
  · intro i m1 H2 v xt q hi
    unfold itemR at hi
    split at hi
    · rename_i hlt
      cases hi
      refine ⟨_, rfl, (turn i m1 H2 xt q.2 hlt).mono fun f m2 H3 hf => ?_⟩
      cases f with
      | next => exact ⟨by lia, hf⟩
      | cont => exact ⟨by lia, hf⟩
      | brk => exact hf
      | ret v => exact hf
    · cases hi
  · intro i m1 H2 q hi
    unfold itemR at hi
    split at hi
    · cases hi
    · rename_i hge
      have : i = (b' - a).toNat := by have := q.1; lia
      exact done m1 H2 (this ▸ q.2)
  · rw [rangeSize_nat]
    simp
  · intro t' f fr m' mr' H' h'' tk' hp hf S' l'
    rw [List.append_assoc] at hf S' l'
    exact k (t ++ t') f fr m' mr' H' h'' tk' hp hf S' l'
theorem TEs.one {a : CE} {p : MV → MH → Prop} (h : TE c m a H p) : TEs c m (.cons a .nil) H (fun vs H1 => ∃ v, vs = [v] ∧ p v H1) := TEs.cons (h.mono fun v H1 h1 => TEs.nil ⟨v, rfl, h1⟩)
theorem NX.rev {I l : Addr} {a : Nat} {xs : List MV} {ρ : List Addr} (hh : c.A.handled = none) (hl : ρ[a]? = some l) :
    NX c I (fun i o => o.cls = .type "list_reverseiterator" ∧ o.data = .fields #[.ref l, rawInt ((xs.length : Int) - 1 - i)] ∧ i ≤ xs.length) (fun H => H[a]? = some (.list xs)) (fun i _ => xs.reverse[i]?) ρ := by
  rintro i oI mr t H s Q E ⟨hc, hd, hle⟩ ha S k1 k2
  obtain ⟨vs, ep, hvs, No⟩ := S.list ha (get_mono hl)
  have hI := S.itr.1
  have L := isList_of No
  by_cases hlt : i < xs.length
  · have hx : xs.reverse[i]? = some (xs[xs.length - 1 - i]'(by lia)) := by
      rw [List.getElem?_reverse hlt]
      exact List.getElem?_eq_getElem (by lia)
    have hx' : xs[xs.length - 1 - i]? = some (xs[xs.length - 1 - i]'(by lia)) := List.getElem?_eq_getElem (by lia)
    obtain ⟨vr, e1, e2⟩ := hvs.get hx'
    have e0 : (xs.length : Int) - 1 - i = ((xs.length - 1 - i : Nat) : Int) := by lia
    have hit : s.heap.IsRevIter I l ((xs.length - 1 - i : Nat) : Int) := ⟨oI, hI, hc, by rw [hd, e0]⟩
    refine wpAny_pyNext_rev_item hit L (x := vr) (by simpa using e1) fun h' hit' hs' => ?_
    obtain ⟨o', ho', hc', hd'⟩ := hit'
    refine k1 _ vr o' h' s.toks hx e2 ⟨hc', ?_, hlt⟩ ho' fun b o hb e => (hs'.2 b hb).trans e
    rw [hd']
    have e3 : ((xs.length - 1 - i : Nat) : Int) - 1 = (xs.length : Int) - 1 - ((i + 1 : Nat) : Int) := by lia
    rw [e3]
  · have e0 : (xs.length : Int) - 1 - i = -1 := by lia
    have hit : s.heap.IsRevIter I l (-1) := ⟨oI, hI, hc, by rw [hd, e0]⟩
    refine wpAny_pyNext_rev_end hh hit fun h' he' => k2 h' s.toks ?_ fun b o hb e => he' b o hb e
    exact List.getElem?_eq_none_iff.mpr (by rw [List.length_reverse]; lia)
theorem TS.forRev (ok : Ok G c d) (hfm : c.fm = none) (hg : nsIn G.K mainGlobals "reversed" = some none) {is : List Nat} {x : CE} {b : CSs} {post : Fl → ML → MH → Prop}
    (h : TE c m x H (fun v H1 => ∃ a xs, v = .ref a ∧ H1[a]? = some (.list xs) ∧ ∃ (J : Nat → ML → MH → Prop), J 0 m H1 ∧ (∀ i m2 H2, J i m2 H2 → H2[a]? = some (.list xs)) ∧
      (∀ i m1 H2 v xt, J i m1 H2 → xs.reverse[i]? = some v → ∃ vs, Parts H2 is v vs ∧ TB (c.wx xt) (setAll is vs m1) b H2 (fun f m2 H3 => match f with
        | .next => J (i + 1) m2 H3
        | .cont => J (i + 1) m2 H3
        | .brk => post .next m2 H3
        | .ret v => post (.ret v) m2 H3)) ∧
      (∀ m1 H2, J xs.length m1 H2 → post .next m1 H2))) : TS c m (.for is (.call "reversed" (.cons x .nil)) b) H post := by
  intro st hs
  obtain ⟨h0, h1, h2, h3⟩ := and4 hs
  have h0 := ne_of h0
  intro mr ρ s Q E S lr k kx
  refine wpAny_For ?_ (folded_of h2)
  refine callType ok (T := "reversed") hg boot_reversed (by decide) h2 (by intro q; cases q) S lr kx (TEs.one h) ?_
  rintro t vs vrs H1 hp1 tk1 ⟨v, rfl, a, xs, rfl, ha, J, hJ0, hJ, turn, done⟩ ⟨vr, r, rfl, ⟨y, hy, rfl⟩, hr⟩ S1
  have hr' : r = [] := hr
  subst hr'
  obtain ⟨ws, ep, hws, No⟩ := S1.list ha hy
  have hlen : ws.toArray.size = xs.length := by rw [List.size_toArray, hws.length]
  refine call_reversed_list (isList_of No) ?_
  have S2 := S1.addX (o := revObj y ((ws.toArray.size : Int) - 1)) rfl
  refine wpAny_pyIter_revIter ⟨_, Heap.get?_push_size _ rfl, rfl, rfl⟩ ?_
  refine forCore (post := post) ok hfm h0 h1 h3 (NX.rev (xs := xs) ok.hh hy) (fun i o hT => ⟨_, _, hT.1, hT.2.1, rfl⟩) (fun i m2 H2 => i ≤ xs.length ∧ J i m2 H2) xs.length ⟨Nat.zero_le _, hJ0⟩ (fun i m2 H2 q => ⟨q.1, hJ i m2 H2 q.2⟩) ?_ ?_ (mr := mr) ⟨rfl, ?_, Nat.zero_le _⟩ S2 lr.mono ?_ kx.mono
  · intro i m1 H2 v xt q hi
    have hlt := (List.getElem?_eq_some_iff.mp hi).1
    rw [List.length_reverse] at hlt
    obtain ⟨vs, hp, ht⟩ := turn i m1 H2 v xt q.2 hi
    refine ⟨vs, hp, ht.mono fun f m2 H3 hf => ?_⟩
    cases f with
    | next => exact ⟨hlt, hf⟩
    | cont => exact ⟨hlt, hf⟩
    | brk => exact hf
    | ret v => exact hf
  · intro i m1 H2 q hi
    have h5 := List.getElem?_eq_none_iff.mp hi
    rw [List.length_reverse] at h5
    have : i = xs.length := Nat.le_antisymm q.1 h5
    exact done m1 H2 (this ▸ q.2)
  · show Data.fields #[.ref y, rawInt ((ws.toArray.size : Int) - 1)] = _
    rw [hlen]
    simp
  · intro t' f fr m' mr' H' h'' tk' hp hf S' l'
    rw [List.append_assoc] at hf S' l'
    exact k (t ++ t') f fr m' mr' H' h'' tk' hp hf S' l'
end
theorem Ok.le {G : Gx} {c : Cx} {d d' : Nat} (h : d ≤ d') (ok : Ok G c d') : Ok G c d :=
  ⟨ok.frames, ok.kin, ok.top, ok.hh, by have := ok.dep; lia, by have := ok.uni; lia, ok.fn, ok.gl, ok.bi, ok.ap, ok.kd, ok.fs, ok.ex⟩
theorem CL.le {G : Gx} {prog : Program} {w : World} {d d' : Nat} {f : Addr} {args : List MV} {H : MH} {p : MV → MH → Prop} {xp : Addr → List MV → MH → Prop} (h : d ≤ d') (q : CL G prog w d f args H p xp) : CL G prog w d' f args H p xp :=
  fun c mr ρ s Q E vs e1 e2 ok S l k kx => q c mr ρ s Q E vs e1 e2 (ok.le h) S l k kx
structure GFn (G : Gx) (g : Str) (f : Addr) : Prop where
  ns : nsIn G.K mainGlobals g = some (some (.ref f))
  keep : keepIn G.K (.ref f) = true
structure GCls (G : Gx) (g : Str) (C fI : Addr) : Prop extends GFn G g C where
  makes : makesIn G.K C = true
  init : findIn G.K (.ref C) "__init__" = some (some (.ref fI))
  fn : isFn G.K (.ref fI) = true
structure GAtt (G : Gx) (C : Addr) (name : Str) : Prop where
  plain : plainGet G.K C name = true
  dict : hasDictIn G.K C = true
  find : findIn G.K (.ref C) name = some none
structure GSto (G : Gx) (C : Addr) (name : Str) : Prop where
  set : findIn G.K (.ref C) "__setattr__" = some (some (.builtin "object.__setattr__"))
  over : plainOver G.K C = true
  taker : takerIn G.K C name = some none
  dict : hasDictIn G.K C = true
structure GMth (G : Gx) (C : Addr) (name : Str) (f : Addr) : Prop where
  plain : plainGet G.K C name = true
  find : findIn G.K (.ref C) name = some (some (.ref f))
  fn : isFn G.K (.ref f) = true
  keep : keepIn G.K (.ref f) = true
noncomputable def GDef (G : Gx) (f : Addr) (names nm : List Str) (b : CSs) (dm : List MV) : Prop :=
  ∃ (name qual : Str) (params : Arguments) (body : List Stmt) (scope : Scope) (dV kV doc pm cdv ct oc : Value) (an od : Option Addr) (osl : Array (Option Value)) (dv : List Value),
    G.K.lookup f = some ⟨oc, od, .func (fnOf name qual params body scope dV kV doc pm an cdv ct), osl⟩ ∧ codeIn G.K cdv qual = true ∧
    (∀ (s : Shared) (vs : List Value), G.K.In s.heap → vs.length + dm.length = names.length → BindsTo s (fnOf name qual params body scope dV kV doc pm an cdv ct) ⟨vs, []⟩ (names.zip (vs ++ dv))) ∧
    VRs [] dm dv ∧ fnb scope names nm = true ∧ wfSs b nm scope body = true ∧ reSs b nm body = body
theorem GDef.cl {G : Gx} {prog : Program} {w : World} {d : Nat} {f : Addr} {names nm : List Str} {b : CSs} {dm args : List MV} {H : MH} {post : MV → MH → Prop} {xp : Addr → List MV → MH → Prop}
    (D : GDef G f names nm b dm) (hl : args.length + dm.length = names.length)
    (h : ∀ c : Cx, c.prog = prog → c.w = w → Ok G c d → c.fm = none → interactive c.env = false → c.nm = nm → c.X = (fun C as _ H => xp C as H) → TB c (start nm (args ++ dm)) b H (fun fl _ H' => post (retv fl) H')) :
    CL G prog w (d + 1) f args H post xp := by
  obtain ⟨name, qual, params, body, scope, dV, kV, doc, pm, cdv, ct, oc, an, od, osl, dv, h1, h2, h3, h4, h5, h6, h7⟩ := D
  refine CL.body (names := names) (nm := nm) h1 h2 (fun s vs X hv => h3 s vs X (by rw [hv]; exact hl)) h4 (by rw [List.length_append]; exact hl) h5 ?_
  intro c e1 e2 ok e3 e4 e5 e6
  have hb := h c e1 e2 ok e3 ?_ e4 e6 body (by rw [e4, e5]; exact h6)
  · rw [e4, h7] at hb
    exact hb
  have := ok.fn
  unfold interactive
  rw [this]
  rfl
section
variable {c : Cx} {m : ML} {H : MH} {G : Gx} {d : Nat}
theorem runCL {f : Addr} {vs : List MV} {vrs : List Value} {mr : Str → Option Value} {ρ t : List Addr} {s : Shared} {Q : Value → Shared → Prop} {E : Value → Shared → Prop} {H1 : MH} {h1 : Heap} {tk1 : Nat} {post : MV → MH → Prop} (ok : Ok G c d)
    (hcl : CL G c.prog c.w d f vs H1 post (fun C as H' => c.X C as m H')) (S1 : St c mr (ρ ++ t) H1 h1) (hvs : VRs (ρ ++ t) vs vrs) (l : LR mr c.nm ρ m)
    (k : ∀ t v vr H' h' tk, post v H' → VR (ρ ++ t) v vr → St c mr (ρ ++ t) H' h' → Q vr { s with heap := h', toks := tk }) (kx : Kx c ρ s E) :
    wpAny (model c.prog c.w) c.A (call (.ref f) vrs) Q E { s with heap := h1, toks := tk1 } := by
  refine wpAny_call ?_
  refine hcl c mr (ρ ++ t) _ _ E vrs rfl rfl ok S1 hvs ?_ ?_
  · intro t' v vr H2 h2 tk2 hp hv S2
    rw [List.append_assoc] at hv S2
    exact k (t ++ t') v vr H2 h2 tk2 hp hv S2
  · intro t' C as e H2 h2 tk2 hx hF
    rw [List.append_assoc] at hF
    exact kx (t ++ t') C as e m mr H2 h2 tk2 hx hF l.mono
theorem TE.call (ok : Ok G c d) {g : Str} {f : Addr} {a : CE} {r : CEs} {post : MV → MH → Prop} (hg : GFn G g f) (h : TEs c m (.cons a r) H (fun vs H1 => CL G c.prog c.w d f vs H1 post (fun C as H' => c.X C as m H'))) : TE c m (.call g (.cons a r)) H post := by
  intro e he
  obtain ⟨h2, h3⟩ := and2 he
  intro mr ρ s Q E S l k kx
  refine Call_ ?_ rfl
  refine nameG ok S h2 hg.ns ?_
  have h4 := and2 h3
  refine callWith_K ok.kin hg.keep ?_ (star_cons (star_re h4.1)) (star_plain h4.2)
  refine h _ _ h3 mr ρ s _ E S l ?_ kx
  intro t vs vrs H1 h1 tk1 hcl hvs S1
  exact ⟨ok.kin.keeps S1.keep, runCL ok hcl S1 hvs l k kx⟩
theorem NR.find {P : Params} {ρ : List Addr} {x : Str} {mv : MV} : ∀ {fs : List (Str × MV)} {es : List DictEntry}, NR P ρ fs es → fs.lookup x = some mv →
    ∃ e : DictEntry, es.find? (·.key.isStr x) = some e ∧ VR ρ mv e.val
  | [], _, _, h => by simp at h
  | (y, m) :: fs, _, ⟨t, v, r, e, h1, h2⟩, h => by
    subst e
    by_cases hx : x = y
    · subst hx
      simp only [List.lookup, beq_self_eq_true] at h
      cases h
      exact ⟨⟨PyData.keyHash P x, .str x t, v⟩, by simp [List.find?, Value.isStr], h1⟩
    · have hb : (x == y) = false := by simpa using hx
      have hb' : (y == x) = false := by simpa using fun e => hx e.symm
      simp only [List.lookup, hb] at h
      obtain ⟨e, h3, h4⟩ := h2.find h
      exact ⟨e, by simp only [List.find?, Value.isStr, hb']; exact h3, h4⟩
theorem NR.get {P : Params} {ρ : List Addr} {x : Str} {mv : MV} {fs : List (Str × MV)} {es : List DictEntry} (h : NR P ρ fs es) (hx : fs.lookup x = some mv) :
    ∃ v, getL x es = some (some v) ∧ VR ρ mv v := by
  obtain ⟨e, h1, h2⟩ := h.find hx
  exact ⟨e.val, by unfold getL; rw [h1], h2⟩
theorem NR.miss {P : Params} {ρ : List Addr} {x : Str} : ∀ {fs : List (Str × MV)} {es : List DictEntry}, NR P ρ fs es → fs.lookup x = none → es.find? (·.key.isStr x) = none ∧ es.any (·.refKey) = false
  | [], _, h, _ => by rw [h]; exact ⟨rfl, rfl⟩
  | (y, m) :: fs, _, ⟨t, v, r, e, h1, h2⟩, h => by
    subst e
    by_cases hx : x = y
    · subst hx
      simp only [List.lookup, beq_self_eq_true] at h
      cases h
    · have hb : (x == y) = false := by simpa using hx
      have hb' : (y == x) = false := by simpa using fun e => hx e.symm
      simp only [List.lookup, hb] at h
      obtain ⟨h3, h4⟩ := h2.miss h
      refine ⟨by simp only [List.find?, Value.isStr, hb']; exact h3, ?_⟩
      rw [List.any_cons, h4, Bool.or_false]
      rfl
theorem NR.none' {P : Params} {ρ : List Addr} {x : Str} {fs : List (Str × MV)} {es : List DictEntry} (h : NR P ρ fs es) (hx : fs.lookup x = none) : getL x es = some none := by
  obtain ⟨h1, h2⟩ := h.miss hx
  unfold getL
  rw [h1]
  simp only [h2]
  rfl
theorem NR.length {P : Params} {ρ : List Addr} : ∀ {fs : List (Str × MV)} {es : List DictEntry}, NR P ρ fs es → es.length = fs.length
  | [], _, h => by rw [h]; rfl
  | (_, _) :: _, _, ⟨_, _, _, e, _, h2⟩ => by rw [e, List.length_cons, List.length_cons, h2.length]
noncomputable def putF (x : Str) (v : MV) : List (Str × MV) → List (Str × MV)
  | [] => [(x, v)]
  | p :: r => if p.1 = x then (x, v) :: r else p :: putF x v r
theorem NR.put {P : Params} {ρ : List Addr} {x : Str} {mv : MV} {v : Value} {t : Tok} (hv : VR ρ mv v) : ∀ {fs : List (Str × MV)} {es : List DictEntry}, NR P ρ fs es →
    NR P ρ (putF x mv fs) (putL x (PyData.keyHash P x) (.str x t) v es)
  | [], _, h => by
    rw [h]
    exact ⟨t, v, [], rfl, hv, rfl⟩
  | (y, m) :: fs, _, ⟨u, w, r, e, h1, h2⟩ => by
    subst e
    unfold putF putL
    by_cases hy : y = x
    · subst hy
      have hb : Value.isStr (.str y u) y = true := by simp [Value.isStr]
      simp only [hb, if_true]
      exact ⟨u, v, r, rfl, hv, h2⟩
    · have hb : Value.isStr (.str y u) x = false := by simpa [Value.isStr] using hy
      simp only [if_neg hy, hb, Bool.false_eq_true, if_false]
      exact ⟨u, w, _, rfl, h1, h2.put hv⟩
theorem NR.some {P : Params} {ρ : List Addr} {x : Str} {fs : List (Str × MV)} {es : List DictEntry} (h : NR P ρ fs es) : (getL x es).isSome = true := by
  cases hx : fs.lookup x with
  | none => rw [h.none' hx]; rfl
  | some v => obtain ⟨u, e, _⟩ := h.get hx; rw [e]; rfl
theorem putF_length (x : Str) (v : MV) : ∀ m : List (Str × MV), (putF x v m).length ≤ m.length + 1
  | [] => Nat.le_refl _
  | p :: r => by
    unfold putF
    split
    · simp
    · have := putF_length x v r
      simp only [List.length_cons]
      lia
theorem VR.handed {ρ : List Addr} {m : MV} {v : Value} (h : VR ρ m v) : handedIn v = true := by
  cases m with
  | none => rw [show v = .none from h]; rfl
  | bool b => rw [show v = .bool b from h]; rfl
  | int i => obtain ⟨t, rfl⟩ := h; rfl
  | str x => obtain ⟨t, rfl⟩ := h; rfl
  | ref a => obtain ⟨x, _, rfl⟩ := h; rfl
  | glob a => rw [show v = .ref a from h]; rfl
noncomputable def Ins (H : MH) (i : Nat) (C : Addr) (k : Nat) (fs : List (Str × MV)) : Prop := H[i]? = some (.inst C k) ∧ H[k]? = some (.ns fs)
theorem St.inst {mr : Str → Option Value} {ρ : List Addr} {h : Heap} (S : St c mr ρ H h) {i k : Nat} {C : Addr} {fs : List (Str × MV)} (hi : Ins H i C k fs) :
    ∃ x dx es n, ρ[i]? = some x ∧ ρ[k]? = some dx ∧ NR c.w.params ρ fs es ∧ InstAt h x (instObj C dx) C (some (dictOf es n)) ∧ h.get? dx = some (dictOf es n) := by
  obtain ⟨x, o, hx, ⟨dx, hdx, rfl⟩, Nx⟩ := S.get hi.1
  obtain ⟨dx', o', hdx', ⟨es, n, hes, rfl⟩, Nd⟩ := S.get hi.2
  rw [hdx] at hdx'
  cases hdx'
  exact ⟨x, dx, es, n, hx, hdx, hes, ⟨(Nx _ (.head _)).1, rfl, rfl, (Nd _ (.head _)).1⟩, (Nd _ (.head _)).1⟩
theorem base_of {o : PySem.Expr} {name : Str} {env : Env} {wh : Sem Value} (h : notSup o = true) : attributeBase o name env wh = wh := by
  unfold attributeBase
  split
  · rename_i id p pos
    cases h
  · rfl
theorem sup_re {a : CE} {nm : List Str} {sc : Scope} {e : PySem.Expr} (h : wfE a nm sc e = true) (hs : nsup a = true) : notSup (reE a nm e) = true := by
  cases a with
  | tst t => have h2 := tst_of h; cases t <;> first | rfl | cases h2
  | call g as => cases as <;> first | rfl | cases hs
  | _ => rfl
theorem TE.attr (ok : Ok G c d) {o : CE} {name : Str} {post : MV → MH → Prop}
    (h : TE c m o H (fun l H1 => ∃ a C k fs v, l = .ref a ∧ Ins H1 a C k fs ∧ fs.lookup name = some v ∧ GAtt G C name ∧ post v H1)) : TE c m (.attr o name) H post := by
  intro e he
  obtain ⟨h2', h3⟩ := and2 he
  have h2 := sup_re (nm := c.nm) (e := kid 0 e) h3 h2'
  let ob := reE o c.nm (kid 0 e)
  let pos := e.pos
  intro mr ρ s Q E S l k kx
  have hev : eval (.Attribute ob name pos) c.env = (do
    let o ← eval ob c.env
    standAt pos.atName
    let r ← holding [o] (getAttr o name true)
    letTemporaryGo ob o r
    pure r) := by
    show (do
      let o ← attributeBase ob name c.env (eval ob c.env)
      standAt pos.atName
      let r ← holding [o] (getAttr o name true)
      letTemporaryGo ob o r
      pure r) = _
    rw [base_of h2]
  refine Attribute_any_ ?_ hev
  refine h _ h3 mr ρ s _ E S l ?_ kx
  rintro t lv lr H1 h1 tk1 ⟨a, C, kk, fs, v, rfl, hi, hv, ga, hp⟩ ⟨x, hx, rfl⟩ S1
  obtain ⟨x', dx, es, n, hx', hdx, hes, I, _⟩ := S1.inst hi
  rw [hx] at hx'
  cases hx'
  obtain ⟨vr, hg, hvr⟩ := hes.get hv
  obtain ⟨ml, xs, led, _⟩ := S1.open
  exact get_own led.1 ok.kin I ga.plain ga.dict ga.find rfl hg hvr.handed (k t v vr H1 h1 _ hp hvr S1)
theorem star_all {nm : List Str} {sc : Scope} {pos : Pos} {env : Env} : ∀ {as : CEs} {es : List PySem.Expr}, wfEs as nm sc es = true → (backTo pos (starEach (reEs as nm es) env)).all (!·.1) = true
  | .nil, es, h => rfl
  | .cons a r, es, h => by
    have h := and2 h
    have := star_all (pos := pos) (env := env) h.2
    show (backTo pos (starEach (reE a nm (nth 0 es) :: reEs r nm es.tail) env)).all (!·.1) = true
    rw [star_cons (star_re h.1)]
    unfold backTo at this ⊢
    simp only [List.map_cons, List.all_cons, Bool.not_false, Bool.true_and]
    exact this
theorem len_re {nm : List Str} : ∀ (as : CEs) (es : List PySem.Expr), (reEs as nm es).length = lenEs as
  | .nil, _ => rfl
  | .cons a r, es => by
    show (reE a nm (nth 0 es) :: reEs r nm es.tail).length = lenEs r + 1
    rw [List.length_cons, len_re r]
theorem meth_eval {ob : PySem.Expr} {name : Str} {apos pos : Pos} {args : List PySem.Expr} {as : CEs} {es : List PySem.Expr} (ha : args = reEs as c.nm es) (h1 : notSup ob = true) (h2 : (apos.endLine == pos.line) = true) (h3 : args.length < 30) (h4 : wfEs as c.nm c.sc es = true) :
    eval (.Call (.Attribute ob name apos) args [] pos) c.env = (do
      let ov ← eval ob c.env
      standAt apos.atName
      let (f, first) ← holding [ov] (getMethod ov name (do return (← importBound ob c.env).getD true))
      callWith pos f first (backTo pos (starEach args c.env)) []) := by
  show (do
    let ov ← attributeBase ob name c.env (eval ob c.env)
    standAt apos.atName
    methodCall ob name apos pos c.env ov (args.length + 0) (backTo pos (starEach args c.env)) []) = _
  rw [base_of h1]
  have hf : methodCallForm (args.length + 0) (backTo pos (starEach args c.env)) [] = true := by
    unfold methodCallForm
    rw [ha, star_all h4, ← ha]
    simpa using h3
  unfold methodCall methodCallPos calleeOf
  simp only [hf, h2, Bool.not_true, Bool.false_or, if_true]
  rfl
end
section
variable {c : Cx} {m : ML} {H : MH} {G : Gx} {d : Nat}
noncomputable def MCall (c : Cx) (m : ML) (H : MH) (l : MV) (name : Str) (as : CEs) (post : MV → MH → Prop) : Prop :=
  ∀ (mr : Str → Option Value) (ρ : List Addr) (s : Shared) (Q : Value → Shared → Prop) (E : Value → Shared → Prop) (vr : Value) (pl : Sem Bool) (pos : Pos) (args : List PySem.Expr), St c mr ρ H s.heap → LR mr c.nm ρ m → VR ρ l vr →
    wfEs as c.nm c.sc args = true →
    (∀ t v vr H' h' tk, post v H' → VR (ρ ++ t) v vr → St c mr (ρ ++ t) H' h' → Q vr { s with heap := h', toks := tk }) → Kx c ρ s E →
    wpAny (model c.prog c.w) c.A (getMethod vr name pl) (fun fx s₂ => wpAny (model c.prog c.w) c.A (callWith pos fx.1 fx.2 (backTo pos (starEach (reEs as c.nm args) c.env)) []) Q E s₂) E s
theorem TE.mcall {o : CE} {name : Str} {as : CEs} {post : MV → MH → Prop} (h : TE c m o H (fun l H1 => MCall c m H1 l name as post)) : TE c m (.meth o name as) H post := by
  intro e he
  obtain ⟨he, h6⟩ := and2 he
  obtain ⟨h2, h3, h4, h5⟩ := and4 he
  intro mr ρ s Q E S l k kx
  refine MethodCall_ ?_ (meth_eval rfl (sup_re h5 h2) h3 (by rw [len_re]; exact of_decide_eq_true h4) h6)
  refine h _ h5 mr ρ s _ E S l ?_ kx
  intro t lv lr H1 hp1 tk1 hm hl S1
  refine hm mr (ρ ++ t) { s with heap := hp1, toks := tk1 } Q E lr _ e.pos (kids e).tail S1 l.mono hl h6 ?_ kx.mono
  intro t' v vr H2 h2 tk2 hp hv S2
  rw [List.append_assoc] at hv S2
  exact k (t ++ t') v vr H2 h2 tk2 hp hv S2
theorem MCall.own (ok : Ok G c d) {a : Nat} {C : Addr} {kk : Nat} {fs : List (Str × MV)} {name : Str} {f : Addr} {x : CE} {r : CEs} {post : MV → MH → Prop} (hi : Ins H a C kk fs) (hno : fs.lookup name = none) (gm : GMth G C name f)
    (h : TEs c m (.cons x r) H (fun vs H1 => CL G c.prog c.w d f (.ref a :: vs) H1 post (fun C as H' => c.X C as m H'))) : MCall c m H (.ref a) name (.cons x r) post := by
  rintro mr ρ s Q E _ pl pos args S l ⟨y, hy, rfl⟩ hes k kx
  obtain ⟨x', dx, ens, n, hx', hdx, hen, I, _⟩ := S.inst hi
  rw [hy] at hx'
  cases hx'
  obtain ⟨ml, xs, led, _⟩ := S.open
  refine method_inst led.1 ok.kin I gm.plain gm.find gm.fn (hen.none' hno) ?_
  have h4 := and2 hes
  refine callWith_K ok.kin gm.keep ?_ (star_cons (star_re h4.1)) (star_plain h4.2)
  refine h _ _ hes mr ρ s _ E S l ?_ kx
  intro t vs vrs H1 h1 tk1 hcl hvs S1
  refine ⟨ok.kin.keeps S1.keep, ?_⟩
  exact runCL ok hcl S1 ⟨_, _, rfl, VR.mono ⟨y, hy, rfl⟩, hvs⟩ l k kx
theorem MCall.own0 (ok : Ok G c d) {a : Nat} {C : Addr} {kk : Nat} {fs : List (Str × MV)} {name : Str} {f : Addr} {post : MV → MH → Prop} (hi : Ins H a C kk fs) (hno : fs.lookup name = none) (gm : GMth G C name f)
    (h : CL G c.prog c.w d f [.ref a] H post (fun C as H' => c.X C as m H')) : MCall c m H (.ref a) name .nil post := by
  rintro mr ρ s Q E _ pl pos args S l ⟨y, hy, rfl⟩ hes k kx
  obtain ⟨x', dx, ens, n, hx', hdx, hen, I, _⟩ := S.inst hi
  rw [hy] at hx'
  cases hx'
  obtain ⟨ml, xs, led, _⟩ := S.open
  refine method_inst led.1 ok.kin I gm.plain gm.find gm.fn (hen.none' hno) ?_
  · refine callWith_K0 (ok.kin.keeps S.keep) gm.keep ?_
    exact runCL (t := []) (tk1 := s.toks) (h1 := s.heap) ok h (nil_of S) ⟨_, _, rfl, VR.mono ⟨y, hy, rfl⟩, rfl⟩ l k kx
theorem TE.meth (ok : Ok G c d) {o : CE} {name : Str} {x : CE} {r : CEs} {post : MV → MH → Prop} (h : TE c m o H (fun l H1 => ∃ a C kk fs f, l = .ref a ∧ Ins H1 a C kk fs ∧ fs.lookup name = Option.none ∧ GMth G C name f ∧
      TEs c m (.cons x r) H1 (fun vs H2 => CL G c.prog c.w d f (.ref a :: vs) H2 post (fun C as H' => c.X C as m H')))) : TE c m (.meth o name (.cons x r)) H post :=
  TE.mcall (h.mono fun l H1 ⟨a, C, kk, fs, f, e, hi, hno, gm, hA⟩ => e ▸ MCall.own ok hi hno gm hA)
theorem TE.meth0 (ok : Ok G c d) {o : CE} {name : Str} {post : MV → MH → Prop} (h : TE c m o H (fun l H1 => ∃ a C kk fs f, l = .ref a ∧ Ins H1 a C kk fs ∧ fs.lookup name = Option.none ∧ GMth G C name f ∧
      CL G c.prog c.w d f [.ref a] H1 post (fun C as H' => c.X C as m H'))) : TE c m (.meth o name .nil) H post :=
  TE.mcall (h.mono fun l H1 ⟨a, C, kk, fs, f, e, hi, hno, gm, hA⟩ => e ▸ MCall.own0 ok hi hno gm hA)
theorem TE.append {o x : CE} {post : MV → MH → Prop} (h : TE c m o H (fun l H1 => ∃ a xs, l = .ref a ∧ H1[a]? = some (.list xs) ∧
      TE c m x H1 (fun v H2 => ∃ ys, H2[a]? = some (.list ys) ∧ ys.length ≤ 1000000 ∧ post .none (H2.set a (.list (ys ++ [v])))))) : TE c m (.meth o "append" (.cons x .nil)) H post := by
  refine TE.mcall (h.mono ?_)
  rintro l H1 ⟨a, xs, rfl, ha, hx⟩ mr ρ s Q E _ pl pos args S lr ⟨y, hy, rfl⟩ hes k kx
  obtain ⟨vs, ep, hvs, No⟩ := S.list ha hy
  refine PySem.Calls.getMethod_list_append (No _ (.head _)).1 rfl rfl ?_
  have h4 := and2 hes
  refine callWith_method1 ?_ (star_cons (star_re h4.1)) (star_plain h4.2)
  refine (TEs.one hx) _ _ hes mr ρ s _ E S lr ?_ kx
  rintro t vs vrs H2 h2 tk2 ⟨v, rfl, ys, hy2, hsz, hp⟩ ⟨vr, r, rfl, hv, hr⟩ S2
  have hr' : r = [] := hr
  subst hr'
  obtain ⟨ws, ep2, hws, No2⟩ := S2.list hy2 (get_mono hy)
  refine append_at (No2 _ (.head _)).1 (fun h' hs' hg => ?_) (by rw [List.size_toArray, hws.length]; exact Nat.le_trans hsz (by decide))
  have S3 := S2.upd (o' := .list (ys ++ [v])) hy2 (get_mono hy) hs' hg ⟨ws ++ [vr], ep2 + 1, hws.append ⟨vr, [], rfl, hv, rfl⟩, by simp⟩
  exact k t .none .none _ h' tk2 hp rfl S3
theorem TE.pop {o : CE} {post : MV → MH → Prop} (h : TE c m o H (fun l H1 => ∃ a ys v, l = .ref a ∧ H1[a]? = some (.list (ys ++ [v])) ∧ ys.length ≤ 1000000 ∧ post v (H1.set a (.list ys)))) : TE c m (.meth o "pop" .nil) H post := by
  refine TE.mcall (h.mono ?_)
  rintro l H1 ⟨a, ys, v, rfl, ha, hsz, hp⟩ mr ρ s Q E _ pl pos args S lr ⟨y, hy, rfl⟩ hes k kx
  obtain ⟨vs, ep, hvs, No⟩ := S.list ha hy
  obtain ⟨ws, vr, rfl, hws, hvr⟩ := hvs.concat
  have ho := (No _ (.head _)).1
  refine getMethod_list_of PySem.F.slot_list_pop PySem.F.type_list_pop (isList_of No) ⟨_, ho, rfl⟩ ?_
  · refine callWith_method0 ?_
    have hz' : (ws ++ [vr]).toArray.size ≤ sizeLine := by
      rw [List.size_toArray, List.length_append, hws.length]
      exact Nat.le_trans (Nat.add_le_add_right hsz 1) (by decide)
    have hk : (ws ++ [vr]).toArray.size - 1 = ws.length := by rw [List.size_toArray, List.length_append]; rfl
    have hy' : (ws ++ [vr]).toArray[(ws ++ [vr]).toArray.size - 1]? = some vr := by rw [hk]; simp
    refine call_meets PySem.F.slot_list_pop ⟨_, ho, rfl⟩ PySem.F.entry_list_pop (PySem.F.args_list_pop_1 _) (PySem.MeetsSeq.list_pop_last y _ ep vr hy' hz') ⟨ho, ?_⟩
    have e : Obj.mapSeq (·.eraseIdxIfInBounds ((ws ++ [vr]).toArray.size - 1)) (listOf (ws ++ [vr]).toArray ep) = listOf ws.toArray (ep + 1) := by
      have e1 : (ws ++ [vr]).toArray.eraseIdxIfInBounds ((ws ++ [vr]).toArray.size - 1) = ws.toArray := by rw [hk, kl_erase, List.append_nil]
      simp only [Obj.mapSeq, e1]
      simp
    have S3 := S.upd (o' := .list ys) ha hy (Heap.SameBut.update ..) (h' := s.heap.update y (Obj.mapSeq (·.eraseIdxIfInBounds ((ws ++ [vr]).toArray.size - 1)))) (x' := listOf ws.toArray (ep + 1))
      (by rw [Heap.get?_update_self _ ho (by rw [e]; rfl)]; exact congrArg some e) ⟨ws, ep + 1, hws, rfl⟩
    exact k [] v vr _ _ _ hp (by rw [List.append_nil]; exact hvr) (nil_of S3)
theorem upd_mk {d : Addr} {o o' : Obj} {post : List (Addr × Obj)} (h2 : ∀ p ∈ post, p.1 ≠ d) : ∀ {pre : List (Addr × Obj)}, (∀ p ∈ pre, p.1 ≠ d) → Upd d o o' (pre ++ (d, o) :: post) (pre ++ (d, o') :: post)
  | [], _ => .head h2
  | p :: _, h => .tail (h p (.head _)) (upd_mk h2 fun q hq => h q (.tail _ hq))
theorem upd_zip {xt : List (Addr × Obj)} {ρ : List Addr} {os : List Obj} {i : Nat} {a : Addr} {x x' : Obj} (hn : (xt.map (·.1) ++ ρ).Nodup) (ha : ρ[i]? = some a) (hx : os[i]? = some x) :
    Upd a x x' (xt ++ ρ.zip os) (xt ++ ρ.zip (os.set i x')) := by
  rw [List.nodup_append] at hn
  obtain ⟨_, hn2, hn3⟩ := hn
  have key : ∀ (ρ : List Addr) (os : List Obj) (i : Nat), ρ.Nodup → ρ[i]? = some a → os[i]? = some x →
      ∃ pre post, ρ.zip os = pre ++ (a, x) :: post ∧ ρ.zip (os.set i x') = pre ++ (a, x') :: post ∧ (∀ p ∈ pre, p.1 ≠ a) ∧ ∀ p ∈ post, p.1 ≠ a := by
    intro ρ
    induction ρ with
    | nil => intro os i _ h; simp at h
    | cons b ρ ih =>
      intro os i hnd h1 h2
      cases os with
      | nil => simp at h2
      | cons y os =>
        cases i with
        | zero =>
          simp at h1 h2
          subst h1 h2
          refine ⟨[], ρ.zip os, rfl, rfl, ?_, ?_⟩
          · intro p hp
            cases hp
          · intro p hp e
            exact (List.nodup_cons.mp hnd).1 (e ▸ (List.of_mem_zip (show (p.1, p.2) ∈ _ from hp)).1)
        | succ i =>
          simp at h1 h2
          obtain ⟨pre, post, e1, e2, e3, e4⟩ := ih os i (List.nodup_cons.mp hnd).2 h1 h2
          refine ⟨(b, y) :: pre, post, by simp [e1], by simp [e2], ?_, e4⟩
          intro p hp
          rcases List.mem_cons.mp hp with rfl | hp
          · intro e
            exact (List.nodup_cons.mp hnd).1 (by rw [show b = a from e]; exact List.mem_of_getElem? h1)
          · exact e3 p hp
  obtain ⟨pre, post, e1, e2, e3, e4⟩ := key ρ os i hn2 ha hx
  rw [e1, e2, ← List.append_assoc, ← List.append_assoc]
  refine upd_mk e4 ?_
  intro p hp
  rcases List.mem_append.mp hp with hp | hp
  · exact fun e => hn3 p.1 (List.mem_map_of_mem hp) a (List.mem_of_getElem? ha) e
  · exact e3 p hp
theorem TS.setAttr (ok : Ok G c d) {o a : CE} {name : Str} {post : Fl → ML → MH → Prop} (h : TE c m a H (fun v H1 => TE c m o H1 (fun l H2 => ∃ x C kk fs, l = .ref x ∧ Ins H2 x C kk fs ∧ fs.length ≤ 900 ∧ GSto G C name ∧
      post .next m (H2.set kk (.ns (putF name v fs)))))) : TS c m (.setAttr o name a) H post := by
  intro st hs
  obtain ⟨h2, h3⟩ := and2 hs
  intro mr ρ s Q E S lr k kx
  refine plainObj_wpAny_Assign_Attribute ?_ swaps_attr
  refine h _ h3 mr ρ s _ E S lr ?_ kx
  intro t v vr H1 h1 tk1 h12 hv S1
  refine h12 _ h2 mr _ _ _ E S1 lr.mono ?_ kx.mono
  rintro t' l lv H2 h2 tk2 ⟨a, C, dd, fs, rfl, hi, hsz, gs, hp⟩ ⟨x, hx, rfl⟩ S2
  obtain ⟨x', dx, es, n, hx', hdx, hes, I, hdo⟩ := S2.inst hi
  rw [hx] at hx'
  cases hx'
  refine S2.op fun ml xs os F a1 a2 a3 N a5 back => ?_
  have hv' := hv.mono (t := t')
  obtain ⟨ob, hob, hor⟩ := a3 dd _ hi.2
  have hobe : ob = dictOf es n := by
    have h1 := (N _ (List.mem_append_right _ (mem_zip_of hdx hob))).1
    rw [hdo] at h1
    exact (Option.some.inj h1).symm
  subst hobe
  have hlen : (putL name (PyData.keyHash c.w.params name) (.str name (tk2 + 1)) vr es).length ≤ 1000 := by
    rw [(hes.put (x := name) (t := tk2 + 1) hv').length]
    have := putF_length name v fs
    lia
  refine set_dict F ok.kin N I rfl gs.set gs.over gs.taker gs.dict hes.some (e := rfl) (upd_zip a5 hdx hob) hlen ?_
  intro h' F' N'
  have hlt : dd < H2.length := (List.getElem?_eq_some_iff.mp hi.2).1
  have S3 : St c mr (ρ ++ t ++ t') (H2.set dd (.ns (putF name v fs))) h' := by
    refine back _ _ _ ⟨F', os.set dd _, by rw [List.length_set, List.length_set]; exact a1, by rw [List.length_set]; exact a2, ?_, N', a5⟩
    intro j o1 hj
    by_cases ej : dd = j
    · subst ej
      rw [List.getElem?_set_self hlt] at hj
      cases hj
      exact ⟨_, List.getElem?_set_self (by rw [a1]; exact hlt), _, _, hes.put hv', rfl⟩
    · rw [List.getElem?_set_ne ej] at hj
      obtain ⟨y, hy, hr⟩ := a3 j o1 hj
      exact ⟨y, by rw [List.getElem?_set_ne ej]; exact hy, hr⟩
  rw [List.append_assoc] at S3
  exact k (t ++ t') .next .next m mr _ h' (tk2 + 2) hp rfl S3 lr.mono
theorem TE.new (ok : Ok G c (d + 1)) {g : Str} {C fI : Addr} {a : CE} {r : CEs} {post : MV → MH → Prop} (hg : GCls G g C fI)
    (h : TEs c m (.cons a r) H (fun vs H1 => CL G c.prog c.w d fI (.ref (H1.length + 1) :: vs) (H1 ++ [.ns []] ++ [.inst C H1.length]) (fun v H2 => v = .none ∧ post (.ref (H1.length + 1)) H2) (fun C as H' => c.X C as m H'))) :
    TE c m (.call g (.cons a r)) H post := by
  intro e he
  obtain ⟨h2, h3⟩ := and2 he
  intro mr ρ s Q E S l k kx
  refine Call_ ?_ rfl
  refine nameG ok S h2 hg.ns ?_
  have h4 := and2 h3
  · skip
    refine callWith_K ok.kin hg.keep ?_ (star_cons (star_re h4.1)) (star_plain h4.2)
    refine h _ _ h3 mr ρ s _ E S l ?_ kx
    intro t vs vrs H1 h1 tk1 hcl hvs S1
    refine ⟨ok.kin.keeps S1.keep, ?_⟩
    refine S1.op fun ml xs os F a1 a2 a3 N a5 back => ?_
    refine call_cls F ok.kin N hg.makes hg.init hg.fn ?_
    intro x dx h' F' N' hlt hdx
    have N1 : News c.h₀ c.L h' ((dx, dictOf [] 0) :: (xs ++ (ρ ++ t).zip os)) := fun p hp => N' p (.tail _ hp)
    have SA : Led c.h₀ c.L c.prog c.w ml xs (ρ ++ t ++ [dx]) (H1 ++ [.ns []]) h' := Led.alloc a1 a2 a3 a5 F' N1 (fun p hp => Nat.ne_of_lt (hlt p hp)) ⟨[], 0, rfl, rfl⟩
    obtain ⟨_, os2, b1, b2, b3, NB, b5⟩ := id SA
    have NB' : News c.h₀ c.L h' ((x, instObj C dx) :: (xs ++ (ρ ++ t ++ [dx]).zip os2)) := fun p hp => by
      rcases List.mem_cons.mp hp with rfl | hp
      · exact N' _ (.head _)
      · exact NB p hp
    have hltx : ∀ p ∈ xs ++ (ρ ++ t ++ [dx]).zip os2, p.1 ≠ x := by
      intro p hp
      refine Nat.ne_of_lt ?_
      rcases List.mem_append.mp hp with hp | hp
      · exact Nat.lt_trans (hlt p (List.mem_append_left _ hp)) hdx
      · have hm := (List.of_mem_zip (show (p.1, p.2) ∈ _ from hp)).1
        rcases List.mem_append.mp hm with hm | hm
        · obtain ⟨i, hi, e⟩ := List.getElem_of_mem hm
          have hi' : i < os.length := by rw [a1, ← a2]; exact hi
          have := hlt ((ρ ++ t)[i], os[i]) (List.mem_append_right _ (mem_zip_of (List.getElem?_eq_getElem hi) (List.getElem?_eq_getElem hi')))
          rw [← e]
          exact Nat.lt_trans this hdx
        · rw [List.mem_singleton.mp hm]; exact hdx
    have SB := back _ _ _ (Led.alloc b1 b2 b3 b5 F' NB' hltx (o := .inst C H1.length) ⟨dx, get_mono (last_get a2), rfl⟩)
    have hself : (ρ ++ t ++ [dx] ++ [x])[H1.length + 1]? = some x := by
      have hl : (ρ ++ t ++ [dx]).length = H1.length + 1 := by rw [List.length_append, a2]; rfl
      rw [List.getElem?_append_right (by rw [hl]; exact Nat.le_refl _), hl, Nat.sub_self]; rfl
    let c' : Cx := { c with A := c.A.under (.builtin "type.__call__" ⟨.ref C :: vrs, []⟩) }
    have ok' : Ok G c' d := by
      refine ⟨ok.frames, ok.kin, ok.top, ok.hh, ?_, ?_, ok.fn, ok.gl, ok.bi, ok.ap, ok.kd, ok.fs, ok.ex⟩
      · have := ok.dep
        show c.A.depth + 1 + d < recursionLimit
        lia
      · have h9 := ok.uni
        have hu : (c.A.under (.builtin "type.__call__" ⟨.ref C :: vrs, []⟩)).units ≤ c.A.units + 8 := by
          show c.A.units + Code.cUnits _ ≤ c.A.units + 8
          exact Nat.add_le_add_left (Nat.le_of_ble_eq_true rfl) _
        show (c.A.under (.builtin "type.__call__" ⟨.ref C :: vrs, []⟩)).units + 8 * d + 64 < cLine
        lia
    have e0 : ∀ t', ρ ++ t ++ [dx] ++ [x] ++ t' = ρ ++ (t ++ ([dx] ++ ([x] ++ t'))) := fun t' => by simp only [List.append_assoc]
    refine codeAny_mono (hcl c' mr _ _ (fun v s' => v = .none ∧ Q (.ref x) s') E (.ref x :: vrs) rfl rfl ok' SB ⟨_, _, rfl, ⟨x, hself, rfl⟩, (hvs.mono).mono⟩ ?_ ?_) ?_
    · rintro t' v vr H2 h2 tk2 ⟨rfl, hp⟩ hv S2
      refine ⟨hv, ?_⟩
      have S2' : St c mr (ρ ++ t ++ [dx] ++ [x] ++ t') H2 h2 := S2
      rw [e0] at S2'
      refine k _ (.ref (H1.length + 1)) (.ref x) H2 h2 tk2 hp ⟨x, ?_, rfl⟩ S2'
      rw [← e0]
      exact get_mono hself
    · intro t' C' as e H2 h2 tk2 hx hF
      have hF' : Fly c mr (ρ ++ t ++ [dx] ++ [x] ++ t') H2 C' as e h2 := hF
      rw [e0] at hF'
      exact kx _ C' as e m mr H2 h2 tk2 hx hF' l.mono
    · intro r s' hr
      cases r with
      | error e => exact hr
      | ok f =>
        cases f with
        | ret v => exact hr
        | _ => exact hr
end
section
variable {c : Cx} {m : ML} {H : MH} {G : Gx} {d : Nat}
noncomputable def BC (c : Cx) (f : Value) (args : List MV) (H : MH) (post : MV → MH → Prop) : Prop :=
  ∀ (mr : Str → Option Value) (ρ : List Addr) (s : Shared) (Q : Value → Shared → Prop) (E : Value → Shared → Prop) (vs : List Value), St c mr ρ H s.heap → VRs ρ args vs →
    (∀ t v vr H' h' tk, post v H' → VR (ρ ++ t) v vr → St c mr (ρ ++ t) H' h' → Q vr { s with heap := h', toks := tk }) →
    wpAny (model c.prog c.w) c.A (PySem.call f vs) Q E s
theorem TE.bc (ok : Ok G c d) {g : Str} {T : String} {a : CE} {r : CEs} {post : MV → MH → Prop} (hg : nsIn G.K mainGlobals g = some Option.none) (hb : bootBuiltins g = some (.builtin T)) (hn : g ≠ "__name__")
    (h : TEs c m (.cons a r) H (fun vs H1 => BC c (.builtin T) vs H1 post)) : TE c m (.call g (.cons a r)) H post := by
  intro e he mr ρ s Q E S l k kx
  refine callBuiltin ok hg hb hn he (by intro q; cases q) S l kx h ?_
  intro t vs vrs H1 h1 tk1 hbc hv S1
  refine hbc mr (ρ ++ t) _ Q E vrs S1 hv ?_
  intro t' v vr H2 h2 tk2 hp hv S2
  rw [List.append_assoc] at hv S2
  exact k (t ++ t') v vr H2 h2 tk2 hp hv S2
theorem TE.tc (ok : Ok G c d) {g : Str} {T : String} {a : CE} {r : CEs} {post : MV → MH → Prop} (hg : nsIn G.K mainGlobals g = some Option.none) (hb : bootBuiltins g = some (.type T)) (hn : g ≠ "__name__")
    (h : TEs c m (.cons a r) H (fun vs H1 => BC c (.type T) vs H1 post)) : TE c m (.call g (.cons a r)) H post := by
  intro e he mr ρ s Q E S l k kx
  refine callType ok hg hb hn he (by intro q; cases q) S l kx h ?_
  intro t vs vrs H1 h1 tk1 hbc hv S1
  refine hbc mr (ρ ++ t) _ Q E vrs S1 hv ?_
  intro t' v vr H2 h2 tk2 hp hv S2
  rw [List.append_assoc] at hv S2
  exact k (t ++ t') v vr H2 h2 tk2 hp hv S2
theorem one_of {ρ : List Addr} {a : MV} {vs : List Value} (h : VRs ρ [a] vs) : ∃ v, vs = [v] ∧ VR ρ a v := by
  obtain ⟨v, r, rfl, h1, h2⟩ := h
  have : r = [] := h2
  subst this
  exact ⟨v, rfl, h1⟩
theorem two_of {ρ : List Addr} {a b : MV} {vs : List Value} (h : VRs ρ [a, b] vs) : ∃ v u, vs = [v, u] ∧ VR ρ a v ∧ VR ρ b u := by
  obtain ⟨v, r, rfl, h1, h2⟩ := h
  obtain ⟨u, rfl, h3⟩ := one_of h2
  exact ⟨v, u, rfl, h1, h3⟩
theorem BC.len {a : Nat} {xs : List MV} {post : MV → MH → Prop} (ha : H[a]? = some (.list xs)) (hsz : xs.length ≤ 1000000) (h : post (.int xs.length) H) : BC c (.builtin "len") [.ref a] H post := by
  intro mr ρ s Q E vs S hv k
  obtain ⟨v, rfl, x, hx, rfl⟩ := one_of hv
  obtain ⟨ws, ep, hws, No⟩ := S.list ha hx
  have hlen : ws.toArray.size = xs.length := by rw [List.size_toArray, hws.length]
  refine len_list (isList_of No) (by rw [hlen]; lia) ?_
  rw [hlen]
  exact k [] (.int xs.length) (.int xs.length (s.toks + 1)) H s.heap (s.toks + 1 + 1) h ⟨_, rfl⟩ (nil_of S)
theorem BC.lenS {x : Str} {post : MV → MH → Prop} (hsz : x.length ≤ 1000000) (h : post (.int x.length) H) : BC c (.builtin "len") [.str x] H post := by
  intro mr ρ s Q E vs S hv k
  obtain ⟨v, rfl, t, rfl⟩ := one_of hv
  refine PyProof.Rows.len_str (by lia) ?_
  exact k [] (.int x.length) (.int x.length (s.toks + 1)) H s.heap (s.toks + 1 + 1) h ⟨_, rfl⟩ (nil_of S)
theorem BC.lenG {a : Addr} {vs : List Value} {post : MV → MH → Prop} (hl : c.h₀.IsList a vs.toArray) (hsz : vs.length ≤ 1000000) (h : post (.int vs.length) H) : BC c (.builtin "len") [.glob a] H post := by
  intro mr ρ s Q E ws S hv k
  obtain ⟨v, rfl, e⟩ := one_of hv
  have e' : v = .ref a := e
  subst e'
  have hlen : vs.toArray.size = vs.length := List.size_toArray ..
  refine len_list (hl.at fun o e => S.keep _ o e) (by rw [hlen]; lia) ?_
  rw [hlen]
  exact k [] (.int vs.length) (.int vs.length (s.toks + 1)) H s.heap (s.toks + 1 + 1) h ⟨_, rfl⟩ (nil_of S)
theorem BC.max (hh : c.A.handled = none) {a b : Int} {post : MV → MH → Prop} (h : post (.int (max a b)) H) : BC c (.builtin "max") [.int a, .int b] H post := by
  intro mr ρ s Q E vs S hv k
  obtain ⟨v, u, rfl, ⟨t1, rfl⟩, ⟨t2, rfl⟩⟩ := two_of hv
  refine max_two_ints hh fun h' tk hk => ?_
  by_cases hq : b > a
  · rw [if_pos hq]
    exact k [] (.int (Max.max a b)) _ H h' tk h ⟨t2, by rw [Int.max_eq_right (by lia)]⟩ (nil_of (S.grow hk))
  · rw [if_neg hq]
    exact k [] (.int (Max.max a b)) _ H h' tk h ⟨t1, by rw [Int.max_eq_left (by lia)]⟩ (nil_of (S.grow hk))
theorem BC.min (hh : c.A.handled = none) {a b : Int} {post : MV → MH → Prop} (h : post (.int (min a b)) H) : BC c (.builtin "min") [.int a, .int b] H post := by
  intro mr ρ s Q E vs S hv k
  obtain ⟨v, u, rfl, ⟨t1, rfl⟩, ⟨t2, rfl⟩⟩ := two_of hv
  refine min_two_ints hh fun h' tk hk => ?_
  by_cases hq : b < a
  · rw [if_pos hq]
    exact k [] (.int (Min.min a b)) _ H h' tk h ⟨t2, by rw [Int.min_eq_right (by lia)]⟩ (nil_of (S.grow hk))
  · rw [if_neg hq]
    exact k [] (.int (Min.min a b)) _ H h' tk h ⟨t1, by rw [Int.min_eq_left (by lia)]⟩ (nil_of (S.grow hk))
abbrev intL (ns : List Int) : List MV := ns.map MV.int
theorem intL_are {ρ : List Addr} : ∀ {ns : List Int} {vs : List Value}, VRs ρ (intL ns) vs → IntsAre vs ns
  | [], _, h => by rw [show _ = [] from h]; exact .nil
  | n :: ns, _, ⟨v, r, e, ⟨t, h1⟩, h2⟩ => by
    subst e h1
    exact .cons _ _ (intL_are h2)
theorem BC.sum (hh : c.A.handled = none) {a : Nat} {ns : List Int} {post : MV → MH → Prop} (ha : H[a]? = some (.list (intL ns))) (h : post (.int ns.sum) H) : BC c (.builtin "sum") [.ref a] H post := by
  intro mr ρ s Q E vs S hv k
  obtain ⟨v, rfl, x, hx, rfl⟩ := one_of hv
  obtain ⟨ws, ep, hws, No⟩ := S.list ha hx
  have hi := intL_are hws
  obtain ⟨xs, hxs⟩ := hi.allInts.items
  have hl := isList_of No
  rw [hxs] at hl
  refine sum_intListG hh hl fun h' tk t' hk => ?_
  have e : preSum (numAt xs) xs.size = ns.sum := by
    have h1 : numsOf (ws.toArray.toList) = ns := by rw [show ws.toArray.toList = ws from rfl, hi.numsOf]
    rw [hxs, nums_intItems] at h1
    rw [preSum_eq, List.take_of_length_le (by simp), h1]
  rw [e]
  exact k [] (.int ns.sum) _ H h' tk h ⟨_, rfl⟩ (nil_of (S.grow hk))
theorem BC.list {a : Nat} {xs : List MV} {post : MV → MH → Prop} (ha : H[a]? = some (.list xs)) (hsz : xs.length ≤ 1000000) (h : post (.ref H.length) (H ++ [.list xs])) : BC c (.type "list") [.ref a] H post := by
  intro mr ρ s Q E vs S hv k
  obtain ⟨v, rfl, x, hx, rfl⟩ := one_of hv
  obtain ⟨ws, ep, hws, No⟩ := S.list ha hx
  refine S.op fun ml xt os F a1 a2 a3 N a5 back => ?_
  refine list_copyK F N (isList_of No) ?_ (by rw [List.size_toArray, hws.length]; exact Nat.le_trans hsz (by decide))
  intro D n h' F' N' hlt
  exact k [D] (.ref H.length) (.ref D) _ h' s.toks h ⟨D, last_get a2, rfl⟩ (back _ _ _ (Led.alloc a1 a2 a3 a5 F' N' (fun p hp => Nat.ne_of_lt (hlt p hp)) ⟨ws, n, hws.mono, rfl⟩))
theorem TE.binH {op : Operator} {a b : CE} {post : MV → MH → Prop} (h : TE c m a H (fun x H1 => TE c m b H1 (fun y H2 => ∀ (mr : Str → Option Value) (ρ : List Addr) (s : Shared) (Q : Value → Shared → Prop) (E : Value → Shared → Prop) (vx vy : Value),
      St c mr ρ H2 s.heap → VR ρ x vx → VR ρ y vy → (∀ t v vr H' h' tk, post v H' → VR (ρ ++ t) v vr → St c mr (ρ ++ t) H' h' → Q vr { s with heap := h', toks := tk }) → wpAny (model c.prog c.w) c.A (binaryOp op vx vy) Q E s))) : TE c m (.bin op a b) H post := by
  intro e he
  obtain ⟨h2, h3⟩ := and2 he
  intro mr ρ s Q E S l k kx
  refine wpAny_BinOp ?_
  refine h _ h2 mr ρ s _ E S l ?_ kx
  intro t x xr H1 hp1 tk1 hr hx S1
  refine hr _ h3 mr (ρ ++ t) _ _ E S1 l.mono ?_ kx.mono
  intro t' y yr H2 hp2 tk2 hq hy S2
  refine hq mr _ _ _ E _ _ S2 hx.mono hy ?_
  intro t'' v vr H' h' tk hp hv S3
  have e1 : ρ ++ t ++ t' ++ t'' = ρ ++ (t ++ (t' ++ t'')) := by simp only [List.append_assoc]
  rw [e1] at hv S3
  exact k _ v vr H' h' tk hp hv S3
theorem TE.addL {a b : CE} {post : MV → MH → Prop} (h : TE c m a H (fun x H1 => TE c m b H1 (fun y H2 => ∃ i j xs ys, x = .ref i ∧ y = .ref j ∧ H2[i]? = some (.list xs) ∧ H2[j]? = some (.list ys) ∧ xs.length + ys.length ≤ 1000000 ∧
      post (.ref H2.length) (H2 ++ [.list (xs ++ ys)])))) : TE c m (.bin .Add a b) H post := by
  refine TE.binH (h.mono fun x H1 h1 => h1.mono ?_)
  rintro y H2 ⟨i, j, xs, ys, rfl, rfl, hi, hj, hsz, hp⟩ mr ρ s Q E _ _ S ⟨p, hp1, rfl⟩ ⟨q, hq1, rfl⟩ k
  obtain ⟨vs, n1, hvs, N1⟩ := S.list hi hp1
  obtain ⟨ws, n2, hws, N2⟩ := S.list hj hq1
  refine S.op fun ml xt os F a1 a2 a3 N a5 back => ?_
  refine add_lists F N (isList_of N1) (isList_of N2) (fun h' F' N' => ?_) (by rw [hvs.length, hws.length]; exact Nat.le_trans hsz (by decide))
  exact k [s.heap.objs.size] (.ref H2.length) _ _ h' s.toks hp ⟨_, last_get a2, rfl⟩ (back _ _ _ (Led.alloc a1 a2 a3 a5 F' N' (fun p hp => Nat.ne_of_lt (Heap.lt_size (N p hp).1)) ⟨vs ++ ws, 0, hvs.mono.append hws.mono, rfl⟩))
theorem VRs.rep {ρ : List Addr} {v : MV} {vr : Value} (h : VR ρ v vr) : ∀ n : Nat, VRs ρ (List.replicate n v) (List.replicate n vr)
  | 0 => rfl
  | n + 1 => ⟨vr, List.replicate n vr, rfl, h, VRs.rep h n⟩
theorem rep_one (v : Value) : ∀ n : Nat, List.foldl (fun x1 x2 => x1 ++ x2) (#[] : Array Value) (List.replicate n #[v]) = (List.replicate n v).toArray := by
  have key : ∀ (n : Nat) (acc : List Value), List.foldl (fun x1 x2 => x1 ++ x2) acc.toArray (List.replicate n #[v]) = (acc ++ List.replicate n v).toArray := by
    intro n
    induction n with
    | zero => intro acc; simp
    | succ n ih =>
      intro acc
      rw [List.replicate_succ, List.foldl_cons]
      have : acc.toArray ++ #[v] = (acc ++ [v]).toArray := by simp
      rw [this, ih]
      simp [List.replicate_succ]
  intro n
  have := key n []
  simpa using this
theorem TE.mulL {a b : CE} {post : MV → MH → Prop} (h : TE c m a H (fun x H1 => TE c m b H1 (fun y H2 => ∃ i v n, x = .ref i ∧ y = .int n ∧ H2[i]? = some (.list [v]) ∧ -1000000 ≤ n ∧ n ≤ 1000000 ∧
      post (.ref H2.length) (H2 ++ [.list (List.replicate n.toNat v)])))) : TE c m (.bin .Mult a b) H post := by
  refine TE.binH (h.mono fun x H1 h1 => h1.mono ?_)
  rintro y H2 ⟨i, v, n, rfl, rfl, hi, hlo, hhi, hp⟩ mr ρ s Q E _ _ S ⟨p, hp1, rfl⟩ ⟨u, rfl⟩ k
  obtain ⟨vs, n1, hvs, N1⟩ := S.list hi hp1
  obtain ⟨vr, rfl, hvr⟩ := one_of hvs
  refine S.op fun ml xt os F a1 a2 a3 N a5 back => ?_
  refine mul_list F N (N1 _ (.head _)).1 (by lia) (by lia) (by simp; lia) ?_
  intro h' F' N'
  have e : (List.foldl (fun x1 x2 => x1 ++ x2) (#[] : Array Value) (List.replicate (if ([vr].toArray).isEmpty = true then 0 else n.toNat) [vr].toArray)) = (List.replicate n.toNat vr).toArray := rep_one vr n.toNat
  rw [e] at N'
  exact k [s.heap.objs.size] (.ref H2.length) _ _ h' s.toks hp ⟨_, last_get a2, rfl⟩ (back _ _ _ (Led.alloc a1 a2 a3 a5 F' N' (fun p hp => Nat.ne_of_lt (Heap.lt_size (N p hp).1)) ⟨List.replicate n.toNat vr, 0, VRs.rep hvr.mono _, rfl⟩))
noncomputable def tyOf : MV → Option String
  | .int _ => some "int"
  | .str _ => some "str"
  | .bool _ => some "bool"
  | _ => none
theorem tyIs {v : MV} {T : String} {ρ : List Addr} {vr : Value} {s : Shared} (h : tyOf v = some T) (hv : VR ρ v vr) : s.TypeIs vr T := by
  cases v <;> simp only [tyOf] at h <;> cases h
  · rw [show vr = _ from hv]; exact PySem.typeIs_bool ..
  · obtain ⟨t, rfl⟩ := hv; exact typeIs_int ..
  · obtain ⟨t, rfl⟩ := hv; exact typeIs_str ..
theorem TT.tyAny (ok : Ok G c d) (hg : nsIn G.K mainGlobals "type" = some Option.none) {op : CmpOp} {neg : Bool} (hop : (op = .Is ∧ neg = false) ∨ (op = .IsNot ∧ neg = true)) {a : CE} {N : Str} {T' : String} (hgN : nsIn G.K mainGlobals N = some Option.none) (hbN : bootBuiltins N = some (.type T')) (hnN : N ≠ "__name__") {post : Bool → MH → Prop}
    (h : TE c m a H (fun v H1 => ∃ T, tyOf v = some T ∧ post (if neg then !decide (T = T') else decide (T = T')) H1)) : TT c m (.cmp op (.call "type" (.cons a .nil)) (.glob N)) H post := by
  intro e he
  obtain ⟨h2, h3⟩ := and2 he
  intro wh mr ρ s Q E _ S lr k kx
  refine wpAny_isTrue_Compare1 ?_ (re_marks h3)
  refine callType ok (T := "type") hg PyProof.Rows.boot_type (by decide) h2 (by intro q; cases q) S lr kx (TEs.one h) ?_
  rintro t vs vrs H1 hp1 tk1 ⟨v, rfl, T, hT, hp⟩ hv S1
  obtain ⟨vr, rfl, hvr⟩ := one_of hv
  refine call_type_of (tyIs hT hvr) ?_ ?_
  · cases v <;> simp only [tyOf] at hT <;> cases hT <;> decide
  · refine nameB (s := { s with heap := hp1, toks := tk1 }) ok S1 h3 hgN hbN hnN ?_
    have hbe : ∀ T T' : String, (Value.type T == Value.type T') = decide (T = T') := fun T T' => by
      by_cases q : T = T'
      · subst q; simp
      · have : (Value.type T == Value.type T') = false := by simpa using q
        rw [this, decide_eq_false q]
    rcases hop with ⟨rfl, rfl⟩ | ⟨rfl, rfl⟩
    · refine wpAny_pure (a := Value.bool (Value.type T == Value.type T')) ?_
      refine wpAny_truthy_bool ?_
      rw [hbe]
      exact k t _ H1 hp1 tk1 hp S1
    · refine isnot_type ?_
      refine wpAny_truthy_bool ?_
      rw [hbe]
      exact k t _ H1 hp1 tk1 hp S1
end
noncomputable def isTgN (scope : Scope) : List Str → List PySem.Expr → Bool
  | [], [] => true
  | x :: xs, .Name y _ :: es => x == y && tgk scope x && !xs.contains x && isTgN scope xs es
  | _, _ => false
noncomputable def isTg (scope : Scope) (tg : List Str) : PySem.Expr → Bool
  | .Name y p => isTgN scope tg [.Name y p]
  | .Tuple ts _ _ => isTgN scope tg ts && decide (1 < tg.length)
  | _ => false
theorem tgN_re {scope : Scope} : ∀ (tg : List Str) (es : List PySem.Expr), okNames (tgk scope) tg = true → isTgN scope tg (reNames tg es) = true
  | [], _, _ => rfl
  | x :: r, es, h => by
    have h1 : (tgk scope x && !r.contains x && okNames (tgk scope) r) = true := h
    obtain ⟨a, b, e⟩ := and3 h1
    show (x == x && tgk scope x && !r.contains x && isTgN scope r (reNames r es.tail)) = true
    rw [a, b, tgN_re r es.tail e]
    simp
theorem tg_re {scope : Scope} {tg : List Str} {e : PySem.Expr} (h0 : (!tg.isEmpty) = true) (h : okNames (tgk scope) tg = true) : isTg scope tg (reTg tg e) = true := by
  cases tg with
  | nil => cases h0
  | cons x r =>
    cases r with
    | nil => exact tgN_re [x] [e] h
    | cons y r =>
      show (isTgN scope (x :: y :: r) (reNames (x :: y :: r) (kids e)) && decide (1 < (x :: y :: r).length)) = true
      rw [tgN_re _ _ h]
      simp
noncomputable def clF (env : Env) : List (Str × NameKind) → List (Str × Addr) → List (Str × Addr)
  | [], acc => acc
  | (n, k) :: r, acc => if k == .free then clF env r ((n, (env.cells.lookup n).getD 0) :: acc) else clF env r acc
theorem closure_of {env : Env} : ∀ (names : List (Str × NameKind)) (acc : List (Str × Addr)), (∀ p ∈ names, p.2 = .free → (env.cells.lookup p.1).isSome = true) →
    (forIn names acc fun (x : Str × NameKind) cs => if x.2 == .free then do let a ← cellOf env x.1; pure (ForInStep.yield ((x.1, a) :: cs)) else pure (ForInStep.yield cs) : Sem (List (Str × Addr))) = pure (clF env names acc)
  | [], acc, _ => rfl
  | (n, k) :: r, acc, h => by
    rw [List.forIn_cons]
    by_cases hk : (k == .free) = true
    · have hk' : k = .free := by simpa using hk
      obtain ⟨a, ha⟩ := Option.isSome_iff_exists.mp (h _ (.head _) hk')
      have hc : cellOf env n = pure a := by unfold cellOf; rw [ha]
      simp only [hk, if_true, hc]
      unfold clF
      rw [if_pos hk, ha]
      exact closure_of r _ fun p hp => h p (.tail _ hp)
    · unfold clF
      rw [if_neg hk]
      simp only [hk]
      exact closure_of r _ fun p hp => h p (.tail _ hp)
theorem closureFor_of {scope : Scope} {env : Env} (h : ∀ p ∈ scope.names, p.2 = .free → (env.cells.lookup p.1).isSome = true) : closureFor scope env = pure (clF env scope.names []) := by
  have := closure_of (env := env) scope.names [] h
  show (forIn scope.names ([] : List (Str × Addr)) (fun (x : Str × NameKind) cs => if x.2 == .free then do let a ← cellOf env x.1; pure (ForInStep.yield ((x.1, a) :: cs)) else pure (ForInStep.yield cs)) >>= fun cs => (pure cs : Sem (List (Str × Addr)))) = _
  rw [this]
  rfl
theorem clF_at {env : Env} {x : Str} : ∀ {names : List (Str × NameKind)} {acc : List (Str × Addr)}, (∀ p ∈ acc, env.cells.lookup p.1 = some p.2) → (∀ p ∈ names, p.2 = .free → (env.cells.lookup p.1).isSome = true) →
    ((x, NameKind.free) ∈ names ∨ (acc.lookup x).isSome = true) → (clF env names acc).lookup x = env.cells.lookup x
  | [], acc, ha, _, h => by
    rcases h with h | h
    · cases h
    · obtain ⟨a, ea⟩ := Option.isSome_iff_exists.mp h
      show acc.lookup x = _
      rw [ea, ha _ (mem_of_lookup ea)]
  | (n, k) :: r, acc, ha, hn, h => by
    unfold clF
    by_cases hk : (k == .free) = true
    · have hk' : k = .free := by simpa using hk
      rw [if_pos hk]
      obtain ⟨a, ea⟩ := Option.isSome_iff_exists.mp (hn _ (.head _) hk')
      refine clF_at ?_ (fun p hp => hn p (.tail _ hp)) ?_
      · intro p hp
        rcases List.mem_cons.mp hp with rfl | hp
        · rw [ea]; rfl
        · exact ha p hp
      · rcases h with h | h
        · rcases List.mem_cons.mp h with e | h
          · cases e
            exact .inr (by rw [List.lookup_cons]; simp)
          · exact .inl h
        · by_cases q : x = n
          · subst q
            exact .inr (by rw [List.lookup_cons]; simp)
          · have hb : (x == n) = false := by simpa using q
            exact .inr (by rw [List.lookup_cons, hb]; exact h)
    · rw [if_neg hk]
      refine clF_at ha (fun p hp => hn p (.tail _ hp)) ?_
      rcases h with h | h
      · rcases List.mem_cons.mp h with e | h
        · cases e
          exact absurd rfl hk
        · exact .inl h
      · exact .inr h
theorem clF_mem {env : Env} {p : Str × Addr} : ∀ {names : List (Str × NameKind)} {acc : List (Str × Addr)}, (∀ q ∈ names, q.2 = .free → (env.cells.lookup q.1).isSome = true) → p ∈ clF env names acc → p ∈ acc ∨ ((p.1, NameKind.free) ∈ names ∧ env.cells.lookup p.1 = some p.2)
  | [], acc, _, h => .inl h
  | (n, k) :: r, acc, hn, h => by
    unfold clF at h
    by_cases hk : (k == .free) = true
    · have hk' : k = .free := by simpa using hk
      rw [if_pos hk] at h
      obtain ⟨a, ea⟩ := Option.isSome_iff_exists.mp (hn _ (.head _) hk')
      rcases clF_mem (fun q hq => hn q (.tail _ hq)) h with h | h
      · rcases List.mem_cons.mp h with rfl | h
        · refine .inr ⟨by rw [hk']; exact .head _, ?_⟩
          have ea : env.cells.lookup n = some a := ea
          show env.cells.lookup n = some _
          rw [ea]
          rfl
        · exact .inl h
      · exact .inr ⟨.tail _ h.1, h.2⟩
    · rw [if_neg hk] at h
      rcases clF_mem (fun q hq => hn q (.tail _ hq)) h with h | h
      · exact .inl h
      · exact .inr ⟨.tail _ h.1, h.2⟩
theorem kcl_relabel {scope : Scope} {env : Env} (x : Str) : kcl ((relabel scope env).names.lookup x) = kcl (scope.names.lookup x) := by
  unfold relabel
  show kcl (List.lookup x (scope.names.map fun (n, k) => if (k == .free && env.scope.kind == .function && env.kindOf n == some .cell) then (n, .cell) else (n, k))) = _
  generalize scope.names = l
  induction l with
  | nil => rfl
  | cons p r ih =>
    obtain ⟨n, k⟩ := p
    rw [List.map_cons]
    by_cases hc : (k == NameKind.free && env.scope.kind == .function && env.kindOf n == some .cell) = true
    · have hk : k = .free := by
        simp only [Bool.and_eq_true, beq_iff_eq] at hc
        exact hc.1.1
      simp only [hc, if_true, List.lookup_cons]
      cases x == n with
      | true => rw [hk]; rfl
      | false => exact ih
    · have e : (match (n, k) with | (n, k) => if (k == NameKind.free && env.scope.kind == .function && env.kindOf n == some .cell) = true then (n, NameKind.cell) else (n, k)) = (n, k) := if_neg hc
      rw [e, List.lookup_cons, List.lookup_cons]
      cases x == n with
      | true => rfl
      | false => exact ih
structure Sub (G : Gx) (c c' : Cx) (d : Nat) : Prop where
  ok : Ok G c' d
  prog : c'.prog = c.prog
  w : c'.w = c.w
  h₀ : c'.h₀ = c.h₀
section
variable {c : Cx} {m : ML} {H : MH} {G : Gx} {d : Nat}
noncomputable def Cx.comp (c : Cx) (scope : Scope) (tg : List Str) (cl : List (Str × Addr)) (C : Addr) (ml : Str → Option Value) (ox fr xt : List (Addr × Obj)) : Cx :=
  { c with env := compEnvC scope cl C c.env, fm := some (ml, ox), fr := fr, xt := xt, X := fun _ _ _ _ => False, nm := c.nm ++ tg, sc := scope }
theorem comp_ok (ok : Ok G c d) {scope : Scope} {tg : List Str} {cl : List (Str × Addr)} {C : Addr} {ml : Str → Option Value} {ox fr xt : List (Addr × Obj)} (hk : scope.kind = .function) (hfr : TI.SameUp c.fr fr) : Ok G (c.comp scope tg cl C ml ox fr xt) d := by
  obtain ⟨env₀, outer, h1, h2, h3, h4, h5⟩ := ok.frames
  refine ⟨⟨env₀, outer, h1, h2, h3, h4.up hfr, fun q => (by cases q)⟩, ok.kin, ok.top, ok.hh, ok.dep, ok.uni, hk, ok.gl, ok.bi, fun q => (by cases q), fun x => kcl_relabel x, fun q => (by cases q), ok.ex⟩
theorem storeC {mr : Str → Option Value} {ρ : List Addr} {s : Shared} {x : Str} {v : Value} {f : Str → Option Value} {ox : List (Addr × Obj)} {Q E} (hfm : c.fm = some (f, ox)) (hk : c.env.scope.kind = .function) (S : St c mr ρ H s.heap) (hx : c.env.kindOf x = some .local)
    (h : ∀ h' tk, St c (fun y => if y = x then some v else mr y) ρ H h' → Q () { s with heap := h', toks := tk }) :
    wpAny (model c.prog c.w) c.A (storeName c.env x v) Q E s := by
  refine S.oq fun ml fr ex os o u F a1 a2 a3 N a5 => ?_
  unfold Own at o
  rw [hfm] at o
  obtain ⟨e0, oC, mC, cs, q1, q2, q3, o2, o3, o4⟩ := o
  obtain ⟨oy, hoy⟩ : ∃ oy, oy = cs ++ ox := ⟨_, rfl⟩
  rw [← hoy] at q1 o2
  subst q1
  have hC := N (c.env.locals, oC) (List.mem_append_left _ (List.mem_append_right _ (List.mem_append_right _ (.head _))))
  refine wpAny_storeName_local hx (q2.ns hC.1) (fun h' hn hs => ?_) (by rw [hk]; rfl)
  obtain ⟨oC', hC', hoC'⟩ := LCg.ns_obj hn
  refine h h' _ ⟨ml, fr, (c.env.locals, oC') :: oy, ?_, u, F.change hs hC.2.1 hC.2.2, os, a1, a2, a3, ?_, (by simpa [List.map_append] using a5)⟩
  · unfold Own
    rw [hfm]
    refine ⟨e0, oC', _, cs, by rw [hoy], hoC', fun y hy => ?_, fun y hy => ?_, o3, o4⟩
    · by_cases e : y = x
      · simp [e]
      · simp [e, q3 y hy]
    · have hne : y ≠ x := by
        rintro rfl
        rw [hx] at hy
        rcases hy with hy | hy <;> cases hy
      simp only [if_neg hne, ← hoy]
      exact o2 y hy
  · have hp : ((fr ++ (c.xt ++ (c.env.locals, oC) :: oy)).map (·.1) ++ ρ).Perm (c.env.locals :: ((fr ++ (c.xt ++ oy)).map (·.1) ++ ρ)) := by
      simp only [List.map_append, List.map_cons, List.append_assoc]
      have h1 := List.perm_middle (a := c.env.locals) (l₁ := fr.map (·.1) ++ c.xt.map (·.1)) (l₂ := oy.map (·.1) ++ ρ)
      simpa [List.append_assoc] using h1
    have hnd := List.nodup_cons.mp (hp.nodup_iff.mp a5)
    intro p hp
    have hsplit : p = (c.env.locals, oC') ∨ p ∈ (fr ++ (c.xt ++ oy)) ++ ρ.zip os := by
      simp only [List.mem_append, List.mem_cons] at hp ⊢
      rcases hp with (hp | hp | hp | hp) | hp <;> simp [hp]
    rcases hsplit with rfl | hq
    · exact ⟨hC', hC.2⟩
    · have P := N p (by
        simp only [List.mem_append, List.mem_cons] at hq ⊢
        rcases hq with (hp | hp | hp) | hp <;> simp [hp])
      refine ⟨(hs.2 _ fun e => ?_).trans P.1, P.2⟩
      refine hnd.1 ?_
      rw [← e]
      rcases List.mem_append.mp hq with hq | hq
      · exact List.mem_append_left _ (List.mem_map_of_mem hq)
      · exact List.mem_append_right _ (List.of_mem_zip (show (p.1, p.2) ∈ _ from hq)).1
theorem storeK {mr : Str → Option Value} {ρ : List Addr} {s : Shared} {x : Str} {v : Value} {f : Str → Option Value} {ox : List (Addr × Obj)} {Q E} (hfm : c.fm = some (f, ox)) (hk : c.env.scope.kind = .function) (S : St c mr ρ H s.heap) (hx : c.sc.names.lookup x = some .cell)
    (h : ∀ h' tk, St c (fun y => if y = x then some v else mr y) ρ H h' → Q () { s with heap := h', toks := tk }) :
    wpAny (model c.prog c.w) c.A (storeName c.env x v) Q E s := by
  refine S.oq fun ml fr ex os o u F a1 a2 a3 N a5 => ?_
  unfold Own at o
  rw [hfm] at o
  obtain ⟨e0, oC, mC, cs, q1, q2, q3, o2, o3, o4⟩ := o
  obtain ⟨hkx, a, oa, ea, hm⟩ := o3 x hx
  obtain ⟨a', ob, ea', hm', hd⟩ := o2 x (.inl hkx)
  rw [ea] at ea'
  cases ea'
  have inn : ∀ p ∈ cs ++ ox, p ∈ fr ++ (c.xt ++ ex) ++ ρ.zip os := fun p hp => List.mem_append_left _ (List.mem_append_right _ (List.mem_append_right _ (by rw [q1]; exact .tail _ hp)))
  have Na := N _ (inn _ (List.mem_append_left _ hm))
  have Nb := N _ (inn _ hm')
  have eo : oa = ob := Option.some.inj (Na.1.symm.trans Nb.1)
  subst eo
  refine wpAny_storeName_cell hk hkx ea ⟨oa, Na.1, hd⟩ fun h' hc hs => ?_
  obtain ⟨oN, hN, hdN⟩ := hc
  obtain ⟨l1, l2, hcs⟩ := List.append_of_mem hm
  subst hcs
  have hp : ∀ o' : Obj, ((fr ++ (c.xt ++ ((c.env.locals, oC) :: ((l1 ++ (a, o') :: l2) ++ ox)))).map (·.1) ++ ρ).Perm (a :: ((fr ++ (c.xt ++ ((c.env.locals, oC) :: ((l1 ++ l2) ++ ox)))).map (·.1) ++ ρ)) := fun o' => by
    simp only [List.map_append, List.map_cons, List.append_assoc, List.cons_append]
    have h1 := List.perm_middle (a := a) (l₁ := fr.map (·.1) ++ (c.xt.map (·.1) ++ c.env.locals :: l1.map (·.1))) (l₂ := l2.map (·.1) ++ (ox.map (·.1) ++ ρ))
    simpa [List.append_assoc] using h1
  have a5' := a5
  rw [q1] at a5'
  have hnd := List.nodup_cons.mp ((hp oa).nodup_iff.mp a5')
  have mem' : ∀ b o, (b, o) ∈ l1 ++ (a, oN) :: l2 → (b = a ∧ o = oN) ∨ (b, o) ∈ l1 ++ (a, oa) :: l2 := fun b o hb => by
    simp only [List.mem_append, List.mem_cons, Prod.mk.injEq] at hb ⊢
    rcases hb with hb | hb | hb
    · exact .inr (.inl hb)
    · exact .inl hb
    · exact .inr (.inr (.inr hb))
  have mem2 : ∀ b o, b ≠ a → (b, o) ∈ l1 ++ (a, oa) :: l2 → (b, o) ∈ l1 ++ (a, oN) :: l2 := fun b o hb hm => by
    simp only [List.mem_append, List.mem_cons, Prod.mk.injEq] at hm ⊢
    rcases hm with hm | hm | hm
    · exact .inl hm
    · exact absurd hm.1 hb
    · exact .inr (.inr hm)
  refine h h' _ ⟨ml, fr, (c.env.locals, oC) :: ((l1 ++ (a, oN) :: l2) ++ ox), ?_, u, F.change hs Na.2.1 Na.2.2, os, a1, a2, a3, ?_, (hp oN).nodup_iff.mpr (List.nodup_cons.mpr hnd)⟩
  · unfold Own
    rw [hfm]
    refine ⟨e0, oC, mC, l1 ++ (a, oN) :: l2, rfl, q2, fun y hy => ?_, fun y hy => ?_, fun y hy => ?_, fun y z b o h1 h2 h3 => ?_⟩
    · have hne : y ≠ x := by
        rintro rfl
        rw [hkx] at hy
        cases hy
      simp only [if_neg hne]
      exact q3 y hy
    · obtain ⟨b, o, g1, g2, g3⟩ := o2 y hy
      by_cases e : y = x
      · subst e
        rw [ea] at g1
        cases g1
        exact ⟨a, oN, ea, List.mem_append_left _ (by simp), by simp only [if_true]; exact hdN⟩
      · have hb : b ≠ a := by
          rintro rfl
          exact e (o4 y x b oa g1 ea hm)
        refine ⟨b, o, g1, ?_, by simp only [if_neg e]; exact g3⟩
        rcases List.mem_append.mp g2 with g2 | g2
        · exact List.mem_append_left _ (mem2 b o hb g2)
        · exact List.mem_append_right _ g2
    · obtain ⟨g1, b, o, g2, g3⟩ := o3 y hy
      by_cases hb : b = a
      · subst hb
        exact ⟨g1, b, oN, g2, by simp⟩
      · exact ⟨g1, b, o, g2, mem2 b o hb g3⟩
    · rcases mem' b o h3 with ⟨rfl, _⟩ | h3
      · exact o4 y z b oa h1 h2 hm
      · exact o4 y z b o h1 h2 h3
  · intro p hp'
    by_cases e : p.1 = a
    · have : p = (a, oN) := by
        obtain ⟨p1, p2⟩ := p
        have e : p1 = a := e
        subst e
        simp only [List.mem_append, List.mem_cons, Prod.mk.injEq] at hp'
        have no : ∀ o, (p1, o) ∈ (fr ++ (c.xt ++ ((c.env.locals, oC) :: ((l1 ++ l2) ++ ox)))) ++ ρ.zip os → False := fun o hq => by
          refine hnd.1 ?_
          rcases List.mem_append.mp hq with hq | hq
          · exact List.mem_append_left _ (List.mem_map.mpr ⟨_, hq, rfl⟩)
          · exact List.mem_append_right _ (List.of_mem_zip hq).1
        simp only [List.mem_append, List.mem_cons, Prod.mk.injEq] at no
        rcases hp' with (hq | hq | hq | (hq | hq | hq) | hq) | hq
        · exact (no _ (.inl (.inl hq))).elim
        · exact (no _ (.inl (.inr (.inl hq)))).elim
        · exact (no _ (.inl (.inr (.inr (.inl hq))))).elim
        · exact (no _ (.inl (.inr (.inr (.inr (.inl (.inl hq))))))).elim
        · rw [hq.2]
        · exact (no _ (.inl (.inr (.inr (.inr (.inl (.inr hq))))))).elim
        · exact (no _ (.inl (.inr (.inr (.inr (.inr hq)))))).elim
        · exact (no _ (.inr hq)).elim
      rw [this]
      exact ⟨hN, Na.2⟩
    · have P := N p (by
        rw [q1]
        obtain ⟨p1, p2⟩ := p
        simp only [List.mem_append, List.mem_cons, Prod.mk.injEq] at hp' ⊢
        rcases hp' with (hq | hq | hq | (hq | hq | hq) | hq) | hq
        · exact .inl (.inl hq)
        · exact .inl (.inr (.inl hq))
        · exact .inl (.inr (.inr (.inl hq)))
        · exact .inl (.inr (.inr (.inr (.inl (.inl hq)))))
        · exact absurd hq.1 e
        · exact .inl (.inr (.inr (.inr (.inl (.inr (.inr hq))))))
        · exact .inl (.inr (.inr (.inr (.inr hq))))
        · exact .inr hq)
      exact ⟨(hs.2 _ e).trans P.1, P.2⟩
theorem storeT {mr : Str → Option Value} {ρ : List Addr} {s : Shared} {x : Str} {v : Value} {f : Str → Option Value} {ox : List (Addr × Obj)} {Q E} (hfm : c.fm = some (f, ox)) (hk : c.env.scope.kind = .function) (hkd : ∀ x, kcl (c.env.kindOf x) = kcl (c.sc.names.lookup x)) (S : St c mr ρ H s.heap) (hx : tgk c.sc x = true)
    (h : ∀ h' tk, St c (fun y => if y = x then some v else mr y) ρ H h' → Q () { s with heap := h', toks := tk }) :
    wpAny (model c.prog c.w) c.A (storeName c.env x v) Q E s := by
  unfold tgk at hx
  rcases Bool.or_eq_true_iff.mp hx with hx | hx
  · exact storeC hfm hk S (kcl1 ((hkd x).trans (by rw [beq_iff_eq.mp hx]; rfl))) h
  · exact storeK hfm hk S (beq_iff_eq.mp hx) h
noncomputable def upd (mr : Str → Option Value) : List Str → List Value → Str → Option Value
  | x :: xs, v :: vs => upd (fun y => if y = x then some v else mr y) xs vs
  | _, _ => mr
theorem eachC_length {scope : Scope} {env : Env} : ∀ {tg : List Str} {ts : List PySem.Expr}, isTgN scope tg ts = true → (assignEach ts env).length = tg.length ∧ (assignEach ts env).findIdx? (·.1) = none
  | [], [], _ => ⟨rfl, rfl⟩
  | [], _ :: _, h => by simp [isTgN] at h
  | _ :: _, [], h => by simp [isTgN] at h
  | i :: is, t :: ts, h => by
    cases t <;> simp only [isTgN, Bool.false_eq_true] at h
    simp only [Bool.and_eq_true] at h
    obtain ⟨h1, h2⟩ := eachC_length (env := env) h.2
    refine ⟨?_, ?_⟩
    · show ((false, _) :: assignEach ts env).length = _
      simp [h1]
    · show ((false, _) :: assignEach ts env).findIdx? (·.1) = none
      rw [List.findIdx?_cons]
      simp [h2]
theorem assignInC {f : Str → Option Value} {ox : List (Addr × Obj)} (hfm : c.fm = some (f, ox)) (hk : c.env.scope.kind = .function) (hkd : ∀ x, kcl (c.env.kindOf x) = kcl (c.sc.names.lookup x)) {Q : Unit → Shared → Prop} {E : Value → Shared → Prop} {ρ : List Addr} :
    ∀ {tg : List Str} {ts : List PySem.Expr} {vrs : List Value} {mr : Str → Option Value} {s : Shared},
    isTgN c.sc tg ts = true → vrs.length = tg.length → St c mr ρ H s.heap →
    (∀ h' tk, St c (upd mr tg vrs) ρ H h' → Q () { s with heap := h', toks := tk }) →
    wpAny (model c.prog c.w) c.A (assignInOrder ((assignEach ts c.env).map (·.2)) vrs) Q E s
  | [], [], vrs, mr, s, _, hl, S, k => by
    cases vrs with
    | nil => exact wpAny_pure (k s.heap s.toks S)
    | cons _ _ => simp at hl
  | [], _ :: _, _, _, _, h, _, _, _ => by simp [isTgN] at h
  | _ :: _, [], _, _, _, h, _, _, _ => by simp [isTgN] at h
  | x :: xs, t :: ts, vrs, mr, s, h, hl, S, k => by
    cases t <;> simp only [isTgN, Bool.false_eq_true] at h
    rename_i y px
    simp only [Bool.and_eq_true, beq_iff_eq] at h
    obtain ⟨⟨⟨rfl, h2⟩, h3⟩, h4⟩ := h
    cases vrs with
    | nil => simp at hl
    | cons v vs =>
      show wpAny _ _ (do holding vs (assign (.Name x px) c.env v); assignInOrder ((assignEach ts c.env).map (·.2)) vs) Q E s
      refine wpAny_bind (wpAny_holding (wpAny_assign_Name ?_))
      refine storeT hfm hk hkd S h2 ?_
      intro h' tk S2
      refine assignInC hfm hk hkd (s := { s with heap := h', toks := tk }) h4 (by simpa using hl) S2 ?_
      intro h'' tk' S3
      exact k h'' tk' S3
noncomputable def PartsN (H : MH) : List Str → MV → List MV → Prop
  | [_], v, vs => vs = [v]
  | is, v, vs => 1 < is.length ∧ vs.length = is.length ∧ ∃ a, v = .ref a ∧ H[a]? = some (.tup vs)
theorem assignTgC (hh : c.A.handled = none) {f : Str → Option Value} {ox : List (Addr × Obj)} (hfm : c.fm = some (f, ox)) (hk : c.env.scope.kind = .function) (hkd : ∀ x, kcl (c.env.kindOf x) = kcl (c.sc.names.lookup x)) {Q : Unit → Shared → Prop} {E : Value → Shared → Prop} {ρ : List Addr} {tg : List Str} {target : PySem.Expr} {v : MV} {vr : Value} {vs : List MV} {mr : Str → Option Value} {s : Shared}
    (ht : isTg c.sc tg target = true) (hv : VR ρ v vr) (hp : PartsN H tg v vs) (S : St c mr ρ H s.heap)
    (k : ∀ vrs h' tk, VRs ρ vs vrs → vrs.length = tg.length → St c (upd mr tg vrs) ρ H h' → Q () { s with heap := h', toks := tk }) : wpAny (model c.prog c.w) c.A (assign target c.env vr) Q E s := by
  unfold isTg at ht
  split at ht
  · rename_i y p
    cases tg with
    | nil => simp [isTgN] at ht
    | cons x xs =>
      cases xs with
      | cons _ _ => simp [isTgN] at ht
      | nil =>
        simp only [isTgN, Bool.and_eq_true, beq_iff_eq] at ht
        obtain ⟨⟨⟨rfl, h2⟩, _⟩, _⟩ := ht
        have e : vs = [v] := hp
        subst e
        refine wpAny_assign_Name (storeT hfm hk hkd S h2 ?_)
        intro h' tk S2
        exact k [vr] h' tk ⟨vr, [], rfl, hv, rfl⟩ rfl S2
  · rename_i ts k' px
    simp only [Bool.and_eq_true, decide_eq_true_eq] at ht
    have hp' : 1 < tg.length ∧ vs.length = tg.length ∧ ∃ a, v = .ref a ∧ H[a]? = some (.tup vs) := by
      cases tg with
      | nil => simp at ht
      | cons i r =>
        cases r with
        | nil => simp at ht
        | cons _ _ => exact hp
    obtain ⟨_, hl, a, rfl, ha⟩ := hp'
    obtain ⟨x, hx, rfl⟩ := hv
    obtain ⟨ws, hws, T⟩ := S.tup ha hx
    obtain ⟨q1, q2⟩ := eachC_length (env := c.env) ht.1
    have hlen : ws.length = tg.length := by rw [hws.length, hl]
    refine assign_Tuple_tuple hh T (by rw [q1, List.size_toArray, hlen]) q2 ?_
    intro h' he
    refine assignInC hfm hk hkd (s := { s with heap := h' }) ht.1 (by simpa using hlen) (S.grow (ext_grow he)) ?_
    intro h'' tk' S3
    exact k ws h'' tk' hws hlen S3
  · cases ht
end
theorem slot_app_off {x : Str} : ∀ {nm tg : List Str}, x ∉ tg → slot (nm ++ tg) x = slot nm x
  | [], [], _ => rfl
  | [], y :: r, h => by
    have h1 : x ∉ r := fun q => h (.tail _ q)
    have h2 : (y == x) = false := by simpa using fun e : y = x => h (e ▸ .head _)
    show slot (y :: r) x = none
    unfold slot
    have := slot_app_off (nm := []) (tg := r) h1
    rw [List.nil_append] at this
    rw [this]
    unfold slot
    simp [h2]
  | z :: nm, tg, h => by
    show slot (z :: (nm ++ tg)) x = slot (z :: nm) x
    unfold slot
    rw [slot_app_off h]
theorem slot_app_in {x : Str} : ∀ {nm tg : List Str}, x ∈ tg → ∃ j, slot tg x = some j ∧ slot (nm ++ tg) x = some (nm.length + j)
  | [], tg, h => by
    have key : ∀ {tg : List Str}, x ∈ tg → ∃ j, slot tg x = some j := by
      intro tg
      induction tg with
      | nil => intro h; cases h
      | cons y r ih =>
        intro h
        unfold slot
        cases e : slot r x with
        | some j => exact ⟨j + 1, rfl⟩
        | none =>
          rcases List.mem_cons.mp h with rfl | h
          · exact ⟨0, by simp⟩
          · obtain ⟨j, hj⟩ := ih h
            rw [hj] at e; cases e
    obtain ⟨j, hj⟩ := key h
    exact ⟨j, hj, by simpa using hj⟩
  | z :: nm, tg, h => by
    obtain ⟨j, h1, h2⟩ := slot_app_in (nm := nm) h
    refine ⟨j, h1, ?_⟩
    show slot (z :: (nm ++ tg)) x = _
    unfold slot
    rw [h2]
    simp only [List.length_cons]
    congr 1
    lia
theorem upd_off {x : Str} : ∀ {tg : List Str} {vrs : List Value} {mr : Str → Option Value}, x ∉ tg → upd mr tg vrs x = mr x
  | [], _, _, _ => by unfold upd; rfl
  | _ :: _, [], _, _ => by unfold upd; rfl
  | y :: r, v :: vs, mr, h => by
    unfold upd
    rw [upd_off fun q => h (.tail _ q)]
    have : x ≠ y := fun e => h (e ▸ .head _)
    simp [this]
theorem upd_at {x : Str} {v : Value} {sc : Scope} : ∀ {tg : List Str} {ts : List PySem.Expr} {vrs : List Value} {mr : Str → Option Value} {j : Nat}, isTgN sc tg ts = true → tg[j]? = some x → vrs[j]? = some v → upd mr tg vrs x = some v
  | [], _, _, _, _, _, h, _ => by simp at h
  | _ :: _, _, [], _, _, _, _, h => by simp at h
  | y :: r, ts, u :: us, mr, j, ht, h1, h2 => by
    cases ts with
    | nil => simp [isTgN] at ht
    | cons t ts =>
      cases t <;> simp only [isTgN, Bool.false_eq_true] at ht
      simp only [Bool.and_eq_true, beq_iff_eq, Bool.not_eq_true'] at ht
      obtain ⟨⟨⟨_, _⟩, hc⟩, hr⟩ := ht
      have hc' : y ∉ r := by simpa using hc
      unfold upd
      cases j with
      | zero =>
        simp at h1 h2
        subst h1 h2
        rw [upd_off hc']
        simp
      | succ j => exact upd_at hr (by simpa using h1) (by simpa using h2)
theorem tgN_of {scope : Scope} {tg : List Str} {target : PySem.Expr} (h : isTg scope tg target = true) : ∃ ts, isTgN scope tg ts = true := by
  unfold isTg at h
  split at h
  · exact ⟨_, h⟩
  · simp only [Bool.and_eq_true] at h
    exact ⟨_, h.1⟩
  · cases h
section
variable {c : Cx} {m : ML} {H : MH} {G : Gx} {d : Nat}
theorem forIn_false {env : Env} {M : Model} {A : Around} {Q : Bool → Shared → Prop} {E : Value → Shared → Prop} {s : Shared} : ∀ {ifs : List PySem.Expr}, Q false s →
    wpAny M A (forIn ifs false fun c r => if r = true then do let ok ← isTrue c env (eval c env); pure (ForInStep.yield ok) else pure (ForInStep.yield r)) Q E s
  | [], h => wpAny_pure h
  | _ :: _, h => by
    rw [List.forIn_cons]
    simp only [Bool.false_eq_true, if_false]
    exact forIn_false h
noncomputable def TC (c : Cx) (m : ML) : CTs → MH → (Bool → MH → Prop) → Prop
  | .nil, H, post => post true H
  | .cons t r, H, post => TT c m t H (fun b H1 => (b = false → post false H1) ∧ (b = true → TC c m r H1 post))
theorem tests_of {post : Bool → MH → Prop} {mr : Str → Option Value} {Q : Bool → Shared → Prop} {E : Value → Shared → Prop} : ∀ {cs : CTs} {ifs : List PySem.Expr} {H : MH} {ρ : List Addr} {s : Shared}, TC c m cs H post → wfTs cs c.nm c.sc ifs = true → St c mr ρ H s.heap → LR mr c.nm ρ m →
    (∀ t b H' h' tk, post b H' → St c mr (ρ ++ t) H' h' → Q b { s with heap := h', toks := tk }) → Kx c ρ s E →
    wpAny (model c.prog c.w) c.A (forIn (reTs cs c.nm ifs) true fun x r => if r = true then do let ok ← isTrue x c.env (eval x c.env); pure (ForInStep.yield ok) else pure (ForInStep.yield r)) Q E s
  | .nil, ifs, H, ρ, s, h, hi, S, l, k, kx => by
    exact wpAny_pure (k [] true H s.heap s.toks h (nil_of S))
  | .cons t r, ifs, H, ρ, s, h, hi, S, l, k, kx => by
    have hi := and2 hi
    show wpAny _ _ (forIn (reT t c.nm (nth 0 ifs) :: reTs r c.nm ifs.tail) true _) _ _ _
    rw [List.forIn_cons]
    simp only [if_true]
    refine wpAny_bind (wpAny_bind ?_)
    refine h _ hi.1 _ mr ρ s _ E (fun _ => rfl) S l ?_ kx
    intro t' b H1 h1 tk1 hp S1
    refine wpAny_pure ?_
    cases b with
    | false => exact forIn_false (k t' false H1 h1 tk1 (hp.1 rfl) S1)
    | true =>
      refine tests_of (ρ := ρ ++ t') (s := { s with heap := h1, toks := tk1 }) (hp.2 rfl) hi.2 S1 l.mono ?_ kx.mono
      intro t'' b H2 h2 tk2 hp2 S2
      rw [List.append_assoc] at S2
      exact k (t' ++ t'') b H2 h2 tk2 hp2 S2
theorem comp_scope {sc scope : Scope} {tg : List Str} (h : compb sc scope tg = true) : scope.kind = .function ∧ (∀ y ∈ scope.names, y.2 = .cell → scope.names.lookup y.1 = some .cell ∧ y.1 ∈ tg) ∧ (∀ y ∈ scope.names, y.2 = .local → scope.names.lookup y.1 = some .local ∧ (y.1 = (".0" : Str) ∨ y.1 ∈ tg)) ∧
    (∀ y ∈ scope.names, y.2 = .free → kcl (sc.names.lookup y.1) = 2 ∧ y.1 ∉ tg) := by
  unfold compb at h
  simp only [Bool.and_eq_true, beq_iff_eq, List.all_eq_true] at h
  refine ⟨h.1, ?_, ?_, ?_⟩
  · intro y hy e
    have := h.2 y hy
    rw [e] at this
    simp only [Bool.and_eq_true, beq_iff_eq] at this
    exact ⟨this.2, by simpa using this.1⟩
  · intro y hy e
    have := h.2 y hy
    rw [e] at this
    simp only [Bool.and_eq_true, Bool.or_eq_true, beq_iff_eq] at this
    exact ⟨this.2, this.1.imp id fun q => by simpa using q⟩
  · intro y hy e
    have := h.2 y hy
    rw [e] at this
    simp only [Bool.and_eq_true, beq_iff_eq, Bool.not_eq_true'] at this
    exact ⟨this.1, by simpa using this.2⟩
theorem local_mem {x : Str} : ∀ {l : List (Str × NameKind)}, l.lookup x = some .local → (x, NameKind.local) ∈ l
  | [], h => by cases h
  | (n, k) :: r, h => by
    rw [List.lookup_cons] at h
    by_cases q : x = n
    · subst q
      simp at h
      rw [h]; exact .head _
    · have hb : (x == n) = false := by simpa using q
      rw [hb] at h
      exact .tail _ (local_mem h)
noncomputable def cellO : Obj := { cls := .type "cell", data := .cell none }
noncomputable def csFrom (n : Nat) : List (Str × NameKind) → List (Addr × Obj)
  | [] => []
  | (_, k) :: r => if k == .cell then (n, cellO) :: csFrom (n + 1) r else csFrom n r
theorem csFrom_get : ∀ {names : List (Str × NameKind)} {h : Heap} {p : Addr × Obj}, p ∈ csFrom h.objs.size names → (pushCells h names).get? p.1 = some p.2 ∧ h.objs.size ≤ p.1 ∧ p.2 = cellO
  | [], h, p, hp => by
    unfold csFrom at hp
    exact absurd hp (List.not_mem_nil)
  | (x, k) :: r, h, p, hp => by
    unfold csFrom at hp
    unfold pushCells
    split at hp
    · rename_i e
      rw [if_pos e]
      rcases List.mem_cons.mp hp with rfl | hp
      · exact ⟨pushCells_keeps _ _ _ _ (Heap.get?_push_size _ rfl), Nat.le_refl _, rfl⟩
      · have := csFrom_get (h := h.push { cls := .type "cell", data := .cell none }) (names := r) (by rw [Heap.size_push]; exact hp)
        rw [Heap.size_push] at this
        exact ⟨this.1, Nat.le_of_succ_le this.2.1, this.2.2⟩
    · rename_i e
      rw [if_neg e]
      exact csFrom_get hp
theorem csFrom_nodup : ∀ {names : List (Str × NameKind)} {n : Nat}, ((csFrom n names).map (·.1)).Nodup ∧ ∀ p ∈ csFrom n names, n ≤ p.1
  | [], n => ⟨List.nodup_nil, fun p hp => by cases hp⟩
  | (x, k) :: r, n => by
    unfold csFrom
    split
    · obtain ⟨h1, h2⟩ := csFrom_nodup (names := r) (n := n + 1)
      refine ⟨?_, fun p hp => ?_⟩
      · rw [List.map_cons, List.nodup_cons]
        refine ⟨fun q => ?_, h1⟩
        obtain ⟨p, hp, e⟩ := List.mem_map.mp q
        have := h2 p hp
        have e : p.1 = n := e
        rw [e] at this
        exact Nat.lt_irrefl _ this
      · rcases List.mem_cons.mp hp with rfl | hp
        · exact Nat.le_refl _
        · exact Nat.le_of_succ_le (h2 p hp)
    · exact csFrom_nodup
theorem cells_own {x : Str} : ∀ {names : List (Str × NameKind)} {n : Nat} {acc : List (Str × Addr)}, ((x, NameKind.cell) ∈ names → ∃ a, (cellsFrom n names acc).lookup x = some a ∧ (a, cellO) ∈ csFrom n names) ∧ ((x, NameKind.cell) ∉ names → (cellsFrom n names acc).lookup x = acc.lookup x)
  | [], n, acc => ⟨fun q => (by cases q), fun _ => rfl⟩
  | (y, k) :: r, n, acc => by
    unfold cellsFrom csFrom
    by_cases hk : (k == NameKind.cell) = true
    · rw [if_pos hk, if_pos hk]
      have hk' : k = .cell := beq_iff_eq.mp hk
      subst hk'
      by_cases hr : (x, NameKind.cell) ∈ r
      · refine ⟨fun _ => ?_, fun q => absurd (.tail _ hr) q⟩
        obtain ⟨a, g1, g2⟩ := (cells_own (x := x) (names := r) (n := n + 1) (acc := (y, n) :: acc)).1 hr
        exact ⟨a, g1, .tail _ g2⟩
      · have g := (cells_own (x := x) (names := r) (n := n + 1) (acc := (y, n) :: acc)).2 hr
        rw [g, List.lookup_cons]
        by_cases q : x = y
        · subst q
          refine ⟨fun _ => ⟨n, by simp, .head _⟩, fun q => absurd (.head _) q⟩
        · have hb : (x == y) = false := by simpa using q
          refine ⟨fun q' => ?_, fun _ => by rw [hb]⟩
          rcases List.mem_cons.mp q' with e | e
          · cases e; exact absurd rfl q
          · exact absurd e hr
    · rw [if_neg hk, if_neg hk]
      have ne : ∀ z, (z, NameKind.cell) ∈ (y, k) :: r ↔ (z, NameKind.cell) ∈ r := fun z => by
        constructor
        · intro q
          rcases List.mem_cons.mp q with e | e
          · cases e; exact absurd rfl hk
          · exact e
        · exact fun q => .tail _ q
      rw [ne]
      exact cells_own
theorem cells_inj {n0 : Nat} : ∀ {names : List (Str × NameKind)} {n : Nat} {acc : List (Str × Addr)}, n0 ≤ n → (∀ p ∈ acc, p.2 < n) → (∀ p ∈ acc, ∀ q ∈ acc, n0 ≤ p.2 → p.2 = q.2 → p.1 = q.1) → ∀ p ∈ cellsFrom n names acc, ∀ q ∈ cellsFrom n names acc, n0 ≤ p.2 → p.2 = q.2 → p.1 = q.1
  | [], n, acc, _, _, h => h
  | (y, k) :: r, n, acc, h0, h1, h => by
    unfold cellsFrom
    split
    · refine cells_inj (Nat.le_succ_of_le h0) (fun p hp => ?_) (fun p hp q hq hn e => ?_)
      · rcases List.mem_cons.mp hp with rfl | hp
        · exact Nat.lt_succ_self _
        · exact Nat.lt_succ_of_lt (h1 p hp)
      · rcases List.mem_cons.mp hp with rfl | hp <;> rcases List.mem_cons.mp hq with rfl | hq
        · rfl
        · have := h1 q hq
          have e : n = q.2 := e
          rw [← e] at this
          exact absurd this (Nat.lt_irrefl _)
        · have := h1 p hp
          have e : p.2 = n := e
          rw [e] at this
          exact absurd this (Nat.lt_irrefl _)
        · exact h p hp q hq hn e
    · exact cells_inj h0 h1 h
theorem relabel_cell {scope : Scope} {env : Env} {x : Str} (h : scope.names.lookup x = some .cell) : (relabel scope env).names.lookup x = some .cell := by
  unfold relabel
  show List.lookup x (scope.names.map fun (n, k) => if (k == .free && env.scope.kind == .function && env.kindOf n == some .cell) then (n, .cell) else (n, k)) = _
  revert h
  generalize scope.names = l
  intro h
  induction l with
  | nil => cases h
  | cons p r ih =>
    obtain ⟨n, k⟩ := p
    rw [List.map_cons]
    rw [List.lookup_cons] at h
    by_cases q : x = n
    · subst q
      simp at h
      subst h
      have e : (match (x, NameKind.cell) with | (n, k) => if (k == NameKind.free && env.scope.kind == .function && env.kindOf n == some .cell) = true then (n, NameKind.cell) else (n, k)) = (x, NameKind.cell) := if_neg (by simp)
      rw [e, List.lookup_cons]
      simp
    · have hb : (x == n) = false := by simpa using q
      rw [hb] at h
      have e : ∀ k', List.lookup x ((n, k') :: List.map (fun (p : Str × NameKind) => match p with | (n, k) => if (k == NameKind.free && env.scope.kind == .function && env.kindOf n == some .cell) = true then (n, NameKind.cell) else (n, k)) r) = List.lookup x (List.map (fun (p : Str × NameKind) => match p with | (n, k) => if (k == NameKind.free && env.scope.kind == .function && env.kindOf n == some .cell) = true then (n, NameKind.cell) else (n, k)) r) := fun k' => by rw [List.lookup_cons, hb]
      by_cases hc : (k == NameKind.free && env.scope.kind == .function && env.kindOf n == some .cell) = true
      · simp only [hc, if_true]
        exact (e _).trans (ih h)
      · have e2 : (match (n, k) with | (n, k) => if (k == NameKind.free && env.scope.kind == .function && env.kindOf n == some .cell) = true then (n, NameKind.cell) else (n, k)) = (n, k) := if_neg hc
        rw [e2]
        exact (e _).trans (ih h)
theorem newEnv_comp {M : Model} {A : Around} {E : Value → Shared → Prop} {s : Shared} {scope : Scope} {globals : Addr} {closure : List (Str × Addr)} {qual : Str} {env : Env} {Q : Env → Shared → Prop}
    (h : Q { scope := scope, locals := s.heap.objs.size, globals := globals, cells := cellsFrom (s.heap.objs.size + 1) scope.names closure, qual := qual, func := none, code := env.code, frame := env.frame, builtins := env.builtins } { s with heap := pushCells (s.heap.push { cls := .type "dict", data := .dict #[] }) scope.names }) :
    wpAny M A (newFunctionEnv scope globals closure [] qual none .none (some env)) Q E s := by
  simp only [newFunctionEnv, Option.isSome_some, if_true]
  refine wpAny_bind (wpAny_alloc ?_)
  refine wpAny_bind (wpAny_layCells _ (fun name kind cells => by cases hkc : kind == NameKind.cell <;> simp [hkc]) _ _ _ _ ?_)
  rw [show ({ s with heap := s.heap.push { cls := .type "dict", data := .dict #[] } } : Shared).heap.objs.size = s.heap.objs.size + 1 from Heap.size_push ..]
  exact wpAny_bind (wpAny_pure (wpAny_pure h))
noncomputable abbrev Cx.at (c : Cx) (scope : Scope) (tg : List Str) (cl : List (Str × Addr)) (C : Addr) (ml : Str → Option Value) (ex fr : List (Addr × Obj)) (D : Addr) (yrs : List Value) : Cx := c.comp scope tg cl C ml ex fr ((D, LCg.lst yrs) :: c.xt)
theorem lr_comp {scope : Scope} {tg : List Str} {ts : List PySem.Expr} {mr mr' : Str → Option Value} {ρ : List Addr} {vs : List MV} {vrs : List Value} (hcb : compb c.sc scope tg = true) (h0 : c.nm.contains (".0" : Str) = false) (ht : isTgN scope tg ts = true) (l : LR mr c.nm ρ m)
    (hm : ∀ x, x ∉ tg → scope.names.lookup x ≠ some .local → mr' x = mr x) (hv : VRs ρ vs vrs) (hl : vrs.length = tg.length) : LR (upd mr' tg vrs) (c.nm ++ tg) ρ (m ++ vs.map some) := by
  obtain ⟨_, _, hloc, _⟩ := comp_scope hcb
  refine ⟨by rw [List.length_append, List.length_append, List.length_map, l.1, ← hv.length, hl], fun i x v e1 e2 => ?_⟩
  by_cases hx : x ∈ tg
  · obtain ⟨j, h1, h2⟩ := slot_app_in (nm := c.nm) hx
    rw [h2] at e1
    cases e1
    rw [List.getElem?_append_right (by rw [l.1]; lia), l.1, Nat.add_sub_cancel_left, List.getElem?_map] at e2
    cases q : vs[j]? with
    | none => rw [q] at e2; cases e2
    | some u =>
      rw [q] at e2
      cases e2
      obtain ⟨vr, g1, g2⟩ := hv.get q
      exact ⟨vr, g2, upd_at ht (slot_get h1) g1⟩
  · rw [slot_app_off hx] at e1
    have hi : i < m.length := by rw [l.1]; exact (List.getElem?_eq_some_iff.mp (slot_get e1)).1
    rw [List.getElem?_append_left hi] at e2
    obtain ⟨vr, g1, g2⟩ := l.2 i x v e1 e2
    refine ⟨vr, g1, ?_⟩
    rw [upd_off hx, hm x hx ?_, g2]
    intro q
    rcases (hloc _ (local_mem q) rfl).2 with q | q
    · have hm0 := List.mem_of_getElem? (slot_get e1)
      have : c.nm.contains (".0" : Str) = true := by
        rw [show x = (".0" : Str) from q] at hm0
        simpa using hm0
      rw [h0] at this
      cases this
    · exact hx q
end
theorem loopC {prog : Program} {w : World} {A : Around} {R : Result → Shared → Prop} {s : Shared} {elt target iter : PySem.Expr} {ifs : List PySem.Expr} {scope : Scope} {pos : Pos} {it acc : Value} {env : Env} (I : Nat → Shared → Prop)
    (turn : ∀ n s, I n s → ∀ E' : Value → Shared → Prop, wpAny (model prog w) A (pyNext it) (fun r s₁ => match r with
      | none => R (.ok .next) s₁
      | some v => wpAny (model prog w) A (letOwnedTupleGo target it v) (fun _ s₁' => wpAny (model prog w) A (assign target env v) (fun _ s₂ =>
          wpAny (model prog w) A (forIn ifs true fun c r => if r = true then do let ok ← isTrue c env (eval c env); pure (ForInStep.yield ok) else pure (ForInStep.yield r)) (fun ok s₃ =>
            if ok = true then wpAny (model prog w) A (eval elt env) (fun x s₄ =>
              wpAny (model prog w) A (call (.builtin "list.append") [acc, x]) (fun _ s₅ => ∃ m, m < n ∧ I m s₅) E' s₄) E' s₃
            else ∃ m, m < n ∧ I m s₃) E' s₂) E' s₁') E' s₁) E' s)
    (n : Nat) (h : I n s) : codeAny (model prog w) A (.compLoop (.ListComp elt [⟨target, iter, ifs, 0⟩] scope pos) 0 it acc env) R s := by
  refine codeAny_loop rfl I (fun n s hI => ?_) n h
  show wpAny _ A ((compTurn (.ListComp elt [⟨target, iter, ifs, 0⟩] scope pos) 0 it acc env).onRaise (fun x => do noteFrame x env; theTreesLotGoes x)) _ _ s
  refine wpAny_noted ?_
  rw [compTurn_list]
  refine wpAny_bind (wpAny_standAt (wpAny_bind (wpAny_mono (turn n s hI _) (fun r s₁ h₁ => ?_) fun _ _ h' => h')))
  cases r with
  | none => exact wpAny_pure h₁
  | some v =>
    refine wpAny_bind (wpAny_mono h₁ (fun _ s₁' h₁' => ?_) fun _ _ h' => h')
    refine wpAny_bind (wpAny_mono h₁' (fun _ s₂ h₂ => wpAny_bind (wpAny_mono h₂ (fun ok s₃ h₃ => ?_) fun _ _ h' => h')) fun _ _ h' => h')
    cases ok with
    | false => exact wpAny_pure ⟨rfl, h₃⟩
    | true =>
      exact wpAny_bind (wpAny_bind (wpAny_mono h₃ (fun x s₄ h₄ => wpAny_bind (wpAny_mono h₄ (fun _ s₅ h₅ => wpAny_pure (wpAny_pure ⟨rfl, h₅⟩)) fun _ _ h' => h')) fun _ _ h' => h'))
section
variable {c : Cx} {m : ML} {H : MH} {G : Gx} {d : Nat}
theorem St.fact {mr : Str → Option Value} {ρ : List Addr} {h : Heap} (S : St c mr ρ H h) {p : Addr × Obj} (hp : p ∈ c.xt) : h.get? p.1 = some p.2 ∧ p.1 ≠ c.L ∧ c.h₀.get? p.1 = none := by
  refine S.oq fun ml fr ex os own u F a1 a2 a3 N a5 => ?_
  exact N p (List.mem_append_left _ (List.mem_append_right _ (List.mem_append_left _ hp)))
theorem St.growD {mr : Str → Option Value} {ρ : List Addr} {h h' : Heap} {D : Addr} {o o' : Obj} {p : Addr × Obj} {xt : List (Addr × Obj)} (S : St (c.wx (p :: (D, o) :: xt)) mr ρ H h) (hs : Heap.SameBut D h h') (hD : h'.get? D = some o') :
    St (c.wx (p :: (D, o') :: xt)) mr ρ H h' := by
  refine S.oq fun ml fr ex os own u F a1 a2 a3 N a5 => ?_
  replace N : News c.h₀ c.L h ((fr ++ ((p :: (D, o) :: xt) ++ ex)) ++ ρ.zip os) := N
  replace a5 : ((fr ++ ((p :: (D, o) :: xt) ++ ex)).map (·.1) ++ ρ).Nodup := a5
  have nD := N (D, o) (by simp)
  have hp : ((fr ++ ((p :: (D, o) :: xt) ++ ex)).map (·.1) ++ ρ).Perm (D :: ((fr ++ ((p :: xt) ++ ex)).map (·.1) ++ ρ)) := by
    simp only [List.map_append, List.map_cons, List.cons_append, List.append_assoc]
    have h1 := List.perm_middle (a := D) (l₁ := fr.map (·.1) ++ [p.1]) (l₂ := xt.map (·.1) ++ (ex.map (·.1) ++ ρ))
    simpa [List.append_assoc] using h1
  have hnd := List.nodup_cons.mp (hp.nodup_iff.mp a5)
  refine ⟨ml, fr, ex, own, u, F.change hs nD.2.1 nD.2.2, os, a1, a2, a3, ?_, (by show ((fr ++ ((p :: (D, o') :: xt) ++ ex)).map (·.1) ++ ρ).Nodup; simpa [List.map_append] using a5)⟩
  show News c.h₀ c.L h' ((fr ++ ((p :: (D, o') :: xt) ++ ex)) ++ ρ.zip os)
  intro q hq
  have hsplit : q = (D, o') ∨ q ∈ (fr ++ ((p :: xt) ++ ex)) ++ ρ.zip os := by
    simp only [List.cons_append, List.mem_append, List.mem_cons] at hq ⊢
    rcases hq with (hp | hp | hp | hp | hp) | hp <;> simp [hp]
  rcases hsplit with rfl | hq
  · exact ⟨hD, nD.2⟩
  · have P := N q (by
      simp only [List.cons_append, List.mem_append, List.mem_cons] at hq ⊢
      rcases hq with (hp | hp | hp | hp) | hp <;> simp [hp])
    refine ⟨(hs.2 _ fun e => ?_).trans P.1, P.2⟩
    refine hnd.1 ?_
    rw [← e]
    rcases List.mem_append.mp hq with hq | hq
    · exact List.mem_append_left _ (List.mem_map_of_mem hq)
    · exact List.mem_append_right _ (List.of_mem_zip (show (q.1, q.2) ∈ _ from hq)).1
theorem comp_end {scope : Scope} {tg : List Str} {cl : List (Str × Addr)} {C D : Addr} {ml mr mr' : Str → Option Value} {ex fr : List (Addr × Obj)} {yrs : List Value} {ys : List MV} {ρ : List Addr} {h : Heap} (own : Own c mr ml ex) (hfr : TI.SameUp c.fr fr)
    (S : St (c.at scope tg cl C ml ex fr D yrs) mr' ρ H h) (hy : VRs ρ ys yrs) : ∃ oC mC, LCg.NsObj oC mC ∧ St (c.wx ((C, oC) :: c.xt)) mr (ρ ++ [D]) (H ++ [.list ys]) h ∧ (ρ ++ [D])[H.length]? = some D := by
  obtain ⟨ml', fr', ex', own', u, F, os, a1, a2, a3, N, a5⟩ := S
  obtain ⟨e0, oC, mC, cs, q1, q2, _⟩ := own'
  have e0' : ml' = ml := e0
  subst e0' q1
  replace N : News c.h₀ c.L h ((fr' ++ (((D, LCg.lst yrs) :: c.xt) ++ ((C, oC) :: (cs ++ ex)))) ++ ρ.zip os) := N
  replace a5 : ((fr' ++ (((D, LCg.lst yrs) :: c.xt) ++ ((C, oC) :: (cs ++ ex)))).map (·.1) ++ ρ).Nodup := a5
  have sb : (fr' ++ (((D, LCg.lst yrs) :: c.xt) ++ ((C, oC) :: ex))).Sublist (fr' ++ (((D, LCg.lst yrs) :: c.xt) ++ ((C, oC) :: (cs ++ ex)))) := (List.Sublist.refl _).append ((List.Sublist.refl _).append ((List.sublist_append_right cs ex).cons₂ _))
  replace N : News c.h₀ c.L h ((fr' ++ (((D, LCg.lst yrs) :: c.xt) ++ ((C, oC) :: ex))) ++ ρ.zip os) := fun q hq => N q (by
    rcases List.mem_append.mp hq with hq | hq
    · exact List.mem_append_left _ (sb.subset hq)
    · exact List.mem_append_right _ hq)
  replace a5 : ((fr' ++ (((D, LCg.lst yrs) :: c.xt) ++ ((C, oC) :: ex))).map (·.1) ++ ρ).Nodup := a5.sublist ((sb.map (·.1)).append (List.Sublist.refl ρ))
  refine ⟨oC, mC, q2, ?_, last_get a2⟩
  have hp : ((fr' ++ (((D, LCg.lst yrs) :: c.xt) ++ ((C, oC) :: ex))).map (·.1) ++ ρ).Perm (D :: ((fr' ++ (((C, oC) :: c.xt) ++ ex)).map (·.1) ++ ρ)) := by
    simp only [List.map_append, List.map_cons, List.cons_append, List.append_assoc]
    have h1 := List.perm_middle (a := C) (l₁ := fr'.map (·.1) ++ D :: c.xt.map (·.1)) (l₂ := ex.map (·.1) ++ ρ)
    have h2 := List.perm_middle (a := D) (l₁ := fr'.map (·.1)) (l₂ := c.xt.map (·.1) ++ (ex.map (·.1) ++ ρ))
    have h3 : (fr'.map (·.1) ++ D :: (c.xt.map (·.1) ++ C :: (ex.map (·.1) ++ ρ))).Perm (C :: (fr'.map (·.1) ++ D :: (c.xt.map (·.1) ++ (ex.map (·.1) ++ ρ)))) := by simpa [List.append_assoc] using h1
    have h4 := List.perm_middle (a := C) (l₁ := fr'.map (·.1)) (l₂ := c.xt.map (·.1) ++ (ex.map (·.1) ++ ρ))
    exact (h3.trans ((List.Perm.cons _ h2).trans (List.Perm.swap _ _ _))).trans (List.Perm.cons _ h4.symm)
  have hnd := List.nodup_cons.mp (hp.nodup_iff.mp a5)
  have hN : News c.h₀ c.L h ((D, LCg.lst yrs) :: ((fr' ++ (((C, oC) :: c.xt) ++ ex)) ++ ρ.zip os)) := fun q hq => N q (by
    simp only [List.cons_append, List.mem_append, List.mem_cons] at hq ⊢
    rcases hq with hp | (hp | hp | hp | hp) | hp <;> simp [hp])
  refine ⟨ml', fr', ex, own, hfr.trans u, Led.alloc (l := D) (x := LCg.lst yrs) (o := .list ys) a1 a2 a3 hnd.2 F hN ?_ ⟨yrs, yrs.length, hy.mono, rfl⟩⟩
  intro q hq e
  refine hnd.1 ?_
  rw [← e]
  rcases List.mem_append.mp hq with hq | hq
  · exact List.mem_append_left _ (List.mem_map_of_mem hq)
  · exact List.mem_append_right _ (List.of_mem_zip (show (q.1, q.2) ∈ _ from hq)).1
structure ItOk (c : Cx) (I : Addr) (T : Nat → Obj → Prop) (good : MH → Prop) (item : Nat → MH → Option MV) (ρ : List Addr) : Prop where
  nx : ∀ c₁ : Cx, c₁.A = c.A → NX c₁ I T good item ρ
  go : GoOk T
  slf : ∀ (s : Shared) (Q : Value → Shared → Prop) (E : Value → Shared → Prop) (i : Nat) (o : Obj), T i o → s.heap.get? I = some o → Q (.ref I) s → wpAny (model c.prog c.w) c.A (pyIter (.ref I)) Q E s
theorem compCore (ok : Ok G c d) {tg : List Str} {elt : CE} {cs : CTs} {target iter el : PySem.Expr} {ifs : List PySem.Expr} {scope : Scope} {pos : Pos} {post : MV → MH → Prop}
    (h0 : c.nm.contains (".0" : Str) = false) (ht : isTg scope tg target = true) (hcb : compb c.sc scope tg = true) (hcs : wfTs cs (c.nm ++ tg) scope ifs = true) (hel : wfE elt (c.nm ++ tg) scope el = true)
    {I : Addr} {T : Nat → Obj → Prop} {good : MH → Prop} {item : Nat → MH → Option MV} {ρ : List Addr} (it : ItOk c I T good item ρ)
    (J : Nat → List MV → MH → Prop) (B : Nat) (hB : B ≤ 1000000) (hJ0 : J 0 [] H) (hJ : ∀ i ys H1, J i ys H1 → i ≤ B ∧ ys.length ≤ i ∧ good H1)
    (turn : ∀ i ys H1 v, J i ys H1 → item i H1 = some v → ∃ vs, PartsN H1 tg v vs ∧ ∀ c', Sub G c c' d → c'.nm = c.nm ++ tg →
      TC c' (m ++ vs.map some) cs H1 (fun r H2 => (r = false → J (i + 1) ys H2) ∧ (r = true → TE c' (m ++ vs.map some) elt H2 (fun y H3 => J (i + 1) (ys ++ [y]) H3))))
    (done : ∀ i ys H1, J i ys H1 → item i H1 = none → post (.ref H1.length) (H1 ++ [.list ys]))
    {mr : Str → Option Value} {s : Shared} {RR : Value → Addr → Result → Shared → Prop} {E : Value → Shared → Prop} {oI : Obj} (hT : T 0 oI) (S : St (c.wx ((I, oI) :: c.xt)) mr ρ H s.heap) (lr : LR mr c.nm ρ m)
    (k : ∀ C D t v H' h tk oC mC, post v H' → LCg.NsObj oC mC → St (c.wx ((C, oC) :: c.xt)) mr (ρ ++ t) H' h → VR (ρ ++ t) v (.ref D) → RR (.ref D) C (.ok .next) { s with heap := h, toks := tk }) :
    wpAny (model c.prog c.w) c.A (newList []) (fun acc s₃ => wpAny (model c.prog c.w) c.A (newFunctionEnv scope c.env.globals (clF c.env scope.names []) [] c.env.qual none .none (some c.env)) (fun cenv s₄ =>
      codeAny (model c.prog c.w) c.A (.compStart (.ListComp (reE elt (c.nm ++ tg) el) [⟨target, iter, reTs cs (c.nm ++ tg) ifs, 0⟩] scope pos) 0 (.ref I) acc { cenv with scope := relabel scope c.env }) (RR acc cenv.locals) s₄) E s₃) E s := by
  refine hideG fun P hP => ?_
  obtain ⟨hkind, hcell, hloc, hfree⟩ := comp_scope hcb
  obtain ⟨ts, htn⟩ := tgN_of ht
  refine S.oq fun ml fr ex os own u F a1 a2 a3 N a5 => ?_
  replace N : News c.h₀ c.L s.heap ((fr ++ (((I, oI) :: c.xt) ++ ex)) ++ ρ.zip os) := N
  replace a5 : ((fr ++ (((I, oI) :: c.xt) ++ ex)).map (·.1) ++ ρ).Nodup := a5
  replace own : Own c mr ml ex := own
  have hlt : ∀ a ∈ (fr ++ (((I, oI) :: c.xt) ++ ex)).map (·.1) ++ ρ, a < s.heap.objs.size := fun a ha => by
    obtain ⟨p, hp, e⟩ := led_addr (os := os) a1 a2 ha
    rw [← e]
    exact Heap.lt_size (N p hp).1
  refine hP ?_
  refine wpAny_newObj_type (newEnv_comp ?_)
  dsimp only
  generalize hH2 : s.heap.push { cls := .type "list", dict := none, data := .seq ([] : List Value).toArray } = H2
  have hC : H2.objs.size = s.heap.objs.size + 1 := by rw [← hH2, Heap.size_push]
  have hns₁ : (pushCells (H2.push { cls := .type "dict", data := .dict #[] }) scope.names).Ns H2.objs.size (fun _ => none) := (Heap.Ns.new H2 (.type "dict")).keeps (pushCells_keeps _ _)
  have old' : ∀ b o, H2.get? b = some o → (pushCells (H2.push { cls := .type "dict", data := .dict #[] }) scope.names).get? b = some o := fun b o e => pushCells_keeps _ _ _ _ (Heap.get?_push_of_some _ e)
  have hcsF : ∀ p ∈ csFrom (H2.objs.size + 1) scope.names, (pushCells (H2.push { cls := .type "dict", data := .dict #[] }) scope.names).get? p.1 = some p.2 ∧ H2.objs.size + 1 ≤ p.1 ∧ p.2 = cellO := fun p hp => by
    have := csFrom_get (h := H2.push { cls := .type "dict", data := .dict #[] }) (names := scope.names) (p := p) (by rw [Heap.size_push]; exact hp)
    rw [Heap.size_push] at this
    exact this
  generalize pushCells (H2.push { cls := .type "dict", data := .dict #[] }) scope.names = h₁ at hns₁ old' hcsF ⊢
  have hDC : s.heap.objs.size ≠ H2.objs.size := by rw [hC]; exact Nat.ne_of_lt (Nat.lt_succ_self _)
  have old : ∀ b o, s.heap.get? b = some o → h₁.get? b = some o := fun b o e => old' b o (hH2 ▸ Heap.get?_push_of_some _ e)
  have hacc : h₁.get? s.heap.objs.size = some (LCg.lst []) := old' _ _ (hH2 ▸ Heap.get?_push_size _ rfl)
  have fresh₀ : ∀ a, s.heap.objs.size ≤ a → c.h₀.get? a = none := fun a ha => by
    cases e : c.h₀.get? a with
    | none => rfl
    | some o' => exact absurd (Heap.lt_size (F.keep a o' e)) (Nat.not_lt.mpr ha)
  have hLlt : c.L < s.heap.objs.size := F.ns.lt
  obtain ⟨oC, hCo, hoC⟩ := LCg.ns_obj hns₁
  let cl : List (Str × Addr) := cellsFrom (H2.objs.size + 1) scope.names (clF c.env scope.names [])
  let cs₀ : List (Addr × Obj) := csFrom (H2.objs.size + 1) scope.names
  let cc : List Value → Cx := fun yrs => c.at scope tg cl H2.objs.size ml ex fr s.heap.objs.size yrs
  let mr₀ : Str → Option Value := fun y => if scope.names.lookup y = some .local ∨ scope.names.lookup y = some .cell then none else mr y
  have hkl : ∀ y, (relabel scope c.env).names.lookup y = some .local ↔ scope.names.lookup y = some .local := fun y => by
    constructor
    · intro q
      exact kcl1 (by rw [← kcl_relabel (env := c.env), q]; rfl)
    · intro q
      exact kcl1 (by rw [kcl_relabel, q]; rfl)
  have hown : ∀ x, kcl (c.sc.names.lookup x) = 2 → ∃ a o, c.env.cells.lookup x = some a ∧ (a, o) ∈ ex ∧ o.data = .cell (mr x) := fun x h2 => by
    rw [← ok.kd] at h2
    unfold Own at own
    split at own
    · obtain ⟨_, _, o2⟩ := own
      exact o2 _ (kcl2 h2)
    · obtain ⟨_, oC', mC', cs', q1, _, _, o2, _⟩ := own
      obtain ⟨a, o, e1, e2, e3⟩ := o2 _ (kcl2 h2)
      exact ⟨a, o, e1, by rw [q1]; exact .tail _ e2, e3⟩
  have hcells : ∀ p ∈ scope.names, p.2 = .free → (c.env.cells.lookup p.1).isSome = true := fun p hp e => by
    obtain ⟨a, o, e1, _⟩ := hown _ (hfree p hp e).1
    rw [e1]; rfl
  have hncell : ∀ x, scope.names.lookup x ≠ some .cell → (x, NameKind.cell) ∉ scope.names := fun x hx q => hx (hcell _ q rfl).1
  have hcelld : ∀ x, scope.names.lookup x = some .free → ∃ a o, cl.lookup x = some a ∧ (a, o) ∈ ex ∧ o.data = .cell (mr x) := fun x hx => by
    have hm : (x, NameKind.free) ∈ scope.names := mem_of_lookup hx
    have e : cl.lookup x = c.env.cells.lookup x := ((cells_own (x := x)).2 (hncell x (by rw [hx]; nofun))).trans (clF_at (fun p hp => (by cases hp)) hcells (.inl hm))
    rw [e]
    exact hown _ (hfree _ hm rfl).1
  have hclF : ∀ p ∈ clF c.env scope.names [], p.2 < H2.objs.size + 1 := fun p hp => by
    rcases clF_mem hcells hp with q | ⟨q1, q2⟩
    · cases q
    · obtain ⟨a, o, e1, e2, _⟩ := hown _ (hfree _ q1 rfl).1
      rw [q2] at e1
      cases e1
      have := hlt p.2 (List.mem_append_left _ (List.mem_map.mpr ⟨(p.2, o), List.mem_append_right _ (List.mem_append_right _ e2), rfl⟩))
      rw [hC]
      exact Nat.lt_succ_of_lt (Nat.lt_succ_of_lt this)
  have S1 : St ((cc []).wx ((I, oI) :: (cc []).xt)) mr₀ ρ H h₁ := by
    refine ⟨ml, fr, (H2.objs.size, oC) :: (cs₀ ++ ex), ?_, TI.SameUp.refl _, F.keeps old, os, a1, a2, a3, ?_, ?_⟩
    · refine ⟨rfl, oC, _, cs₀, rfl, hoC, fun x hx => ?_, fun x hx => ?_, fun x hx => ?_, fun x y a o h1 h2 h3 => ?_⟩
      · have hx' : scope.names.lookup x = some .local := (hkl x).mp hx
        show _ = if scope.names.lookup x = some .local ∨ scope.names.lookup x = some .cell then none else mr x
        rw [if_pos (.inl hx')]
      · have hx2 : kcl (scope.names.lookup x) = 2 := by
          rw [← kcl_relabel (env := c.env)]
          rcases hx with hx | hx
          · rw [show (relabel scope c.env).names.lookup x = some .cell from hx]; rfl
          · rw [show (relabel scope c.env).names.lookup x = some .free from hx]; rfl
        rcases kcl2 hx2 with q | q
        · obtain ⟨a, e1, e2⟩ := (cells_own (x := x) (n := H2.objs.size + 1) (acc := clF c.env scope.names [])).1 (mem_of_lookup q)
          refine ⟨a, cellO, e1, List.mem_append_left _ e2, ?_⟩
          show _ = Data.cell (if scope.names.lookup x = some .local ∨ scope.names.lookup x = some .cell then none else mr x)
          rw [if_pos (.inr q)]
          rfl
        · obtain ⟨a, o, e1, e2, e3⟩ := hcelld x q
          refine ⟨a, o, e1, List.mem_append_right _ e2, ?_⟩
          show _ = Data.cell (if scope.names.lookup x = some .local ∨ scope.names.lookup x = some .cell then none else mr x)
          rw [if_neg (by rw [q]; rintro (h | h) <;> cases h)]
          exact e3
      · obtain ⟨a, e1, e2⟩ := (cells_own (x := x) (n := H2.objs.size + 1) (acc := clF c.env scope.names [])).1 (mem_of_lookup (show scope.names.lookup x = some .cell from hx))
        exact ⟨relabel_cell hx, a, cellO, e1, e2⟩
      · exact cells_inj (n0 := H2.objs.size + 1) (Nat.le_refl _) hclF (fun p hp q hq hn _ => absurd (hclF p hp) (Nat.not_lt.mpr hn)) (x, a) (mem_of_lookup h1) (y, a) (mem_of_lookup h2) (hcsF _ h3).2.1 rfl
    · show News c.h₀ c.L h₁ ((fr ++ (((I, oI) :: (s.heap.objs.size, LCg.lst []) :: c.xt) ++ ((H2.objs.size, oC) :: (cs₀ ++ ex)))) ++ ρ.zip os)
      intro p hp
      have hsplit : p = (s.heap.objs.size, LCg.lst []) ∨ p = (H2.objs.size, oC) ∨ p ∈ cs₀ ∨ p ∈ (fr ++ (((I, oI) :: c.xt) ++ ex)) ++ ρ.zip os := by
        simp only [List.cons_append, List.mem_append, List.mem_cons] at hp ⊢
        rcases hp with (hp | hp | hp | hp | hp | hp | hp) | hp <;> simp [hp]
      rcases hsplit with rfl | rfl | hq | hq
      · exact ⟨hacc, Nat.ne_of_gt hLlt, fresh₀ _ (Nat.le_refl _)⟩
      · exact ⟨hCo, by show H2.objs.size ≠ c.L; rw [hC]; exact Nat.ne_of_gt (Nat.lt_succ_of_lt hLlt), fresh₀ _ (by show s.heap.objs.size ≤ H2.objs.size; rw [hC]; exact Nat.le_succ _)⟩
      · obtain ⟨g1, g2, _⟩ := hcsF p hq
        rw [hC] at g2
        have g3 : s.heap.objs.size < p.1 := Nat.lt_of_lt_of_le (Nat.lt_succ_of_lt (Nat.lt_succ_self _)) g2
        exact ⟨g1, Nat.ne_of_gt (Nat.lt_trans hLlt g3), fresh₀ _ (Nat.le_of_lt g3)⟩
      · exact ⟨old _ _ (N p hq).1, (N p hq).2⟩
    · show ((fr ++ (((I, oI) :: (s.heap.objs.size, LCg.lst []) :: c.xt) ++ ((H2.objs.size, oC) :: (cs₀ ++ ex)))).map (·.1) ++ ρ).Nodup
      have hp : ((fr ++ (((I, oI) :: (s.heap.objs.size, LCg.lst []) :: c.xt) ++ ((H2.objs.size, oC) :: (cs₀ ++ ex)))).map (·.1) ++ ρ).Perm (cs₀.map (·.1) ++ (H2.objs.size :: s.heap.objs.size :: ((fr ++ (((I, oI) :: c.xt) ++ ex)).map (·.1) ++ ρ))) := by
        simp only [List.map_append, List.map_cons, List.cons_append, List.append_assoc]
        have h0 : (fr.map (·.1) ++ I :: s.heap.objs.size :: (c.xt.map (·.1) ++ H2.objs.size :: (cs₀.map (·.1) ++ (ex.map (·.1) ++ ρ)))).Perm (cs₀.map (·.1) ++ (fr.map (·.1) ++ I :: s.heap.objs.size :: (c.xt.map (·.1) ++ H2.objs.size :: (ex.map (·.1) ++ ρ)))) := by
          have := List.perm_append_comm_assoc (fr.map (·.1) ++ I :: s.heap.objs.size :: (c.xt.map (·.1) ++ [H2.objs.size])) (cs₀.map (·.1)) (ex.map (·.1) ++ ρ)
          simpa [List.append_assoc] using this
        refine h0.trans (List.Perm.append_left _ ?_)
        have h1 := List.perm_middle (a := H2.objs.size) (l₁ := fr.map (·.1) ++ I :: s.heap.objs.size :: c.xt.map (·.1)) (l₂ := ex.map (·.1) ++ ρ)
        have h2 := List.perm_middle (a := s.heap.objs.size) (l₁ := fr.map (·.1) ++ [I]) (l₂ := c.xt.map (·.1) ++ (ex.map (·.1) ++ ρ))
        have h3 : (fr.map (·.1) ++ I :: s.heap.objs.size :: (c.xt.map (·.1) ++ H2.objs.size :: (ex.map (·.1) ++ ρ))).Perm (H2.objs.size :: (fr.map (·.1) ++ I :: s.heap.objs.size :: (c.xt.map (·.1) ++ (ex.map (·.1) ++ ρ)))) := by simpa [List.append_assoc] using h1
        have h4 : (fr.map (·.1) ++ I :: s.heap.objs.size :: (c.xt.map (·.1) ++ (ex.map (·.1) ++ ρ))).Perm (s.heap.objs.size :: (fr.map (·.1) ++ I :: (c.xt.map (·.1) ++ (ex.map (·.1) ++ ρ)))) := by simpa [List.append_assoc] using h2
        exact h3.trans (List.Perm.cons _ h4)
      rw [hp.nodup_iff, List.nodup_append]
      have inn : ∀ a ∈ H2.objs.size :: s.heap.objs.size :: ((fr ++ (((I, oI) :: c.xt) ++ ex)).map (·.1) ++ ρ), a < H2.objs.size + 1 := fun a ha => by
        rcases List.mem_cons.mp ha with rfl | ha
        · exact Nat.lt_succ_self _
        · rw [hC]
          rcases List.mem_cons.mp ha with rfl | ha
          · exact Nat.lt_succ_of_lt (Nat.lt_succ_self _)
          · exact Nat.lt_succ_of_lt (Nat.lt_succ_of_lt (hlt a ha))
      refine ⟨csFrom_nodup.1, ?_, fun a ha b hb e => ?_⟩
      · rw [List.nodup_cons, List.nodup_cons]
        refine ⟨?_, ?_, a5⟩
        · intro q
          rcases List.mem_cons.mp q with q | q
          · exact hDC q.symm
          · have h9 := hlt _ q
            rw [hC] at h9
            exact Nat.lt_irrefl _ (Nat.lt_of_succ_lt h9)
        · intro q
          exact Nat.lt_irrefl _ (hlt _ q)
      · obtain ⟨p, hp', rfl⟩ := List.mem_map.mp ha
        have g := csFrom_nodup.2 p hp'
        have g2 := inn b hb
        rw [← e] at g2
        exact Nat.lt_irrefl _ (Nat.lt_of_lt_of_le g2 g)
  have okc : ∀ yrs xt, Ok G ((cc yrs).wx xt) d := fun yrs xt => (comp_ok ok hkind u).wx xt
  have hm0 : ∀ x, x ∉ tg → scope.names.lookup x ≠ some .local → mr₀ x = mr x := fun x hxt hx => by
    show (if scope.names.lookup x = some .local ∨ scope.names.lookup x = some .cell then none else mr x) = _
    rw [if_neg]
    rintro (q | q)
    · exact hx q
    · exact hxt (hcell _ (mem_of_lookup q) rfl).2
  have loop : ∀ s₃ : Shared, (∃ tk, s₃ = { s with heap := h₁, toks := tk }) →
      codeAny (model c.prog c.w) c.A (.compLoop (.ListComp (reE elt (c.nm ++ tg) el) [⟨target, iter, reTs cs (c.nm ++ tg) ifs, 0⟩] scope pos) 0 (.ref I) (.ref s.heap.objs.size) (compEnvC scope cl H2.objs.size c.env)) (RR (.ref s.heap.objs.size) H2.objs.size) s₃ := by
    rintro s₃ ⟨tk₃, rfl⟩
    let K : Nat → Shared → Prop := fun n s' => ∃ i ys yrs t mr' H1 h' tk o, s' = { s with heap := h', toks := tk } ∧ n = B + 1 - i ∧ J i ys H1 ∧ T i o ∧ VRs (ρ ++ t) ys yrs ∧ (∀ x, x ∉ tg → scope.names.lookup x ≠ some .local → mr' x = mr x) ∧ St ((cc yrs).wx ((I, o) :: (cc yrs).xt)) mr' (ρ ++ t) H1 h'
    refine loopC K ?_ (B + 1) ⟨0, [], [], [], mr₀, H, h₁, tk₃, oI, rfl, rfl, hJ0, hT, rfl, hm0, nil_of S1⟩
    rintro n _ ⟨i, ys, yrs, t, mr', H1, h', tk, o, rfl, rfl, hJi, hTi, hy, hmr, S2⟩ E'
    obtain ⟨b1, b2, b3⟩ := hJ i ys H1 hJi
    refine it.nx (cc yrs) rfl i o mr' t H1 { s with heap := h', toks := tk } _ E' hTi b3 S2 ?_ ?_
    · intro mv vr oI' h2 tk2 hi hv hT' hI hkeep
      have S3 := S2.turnX hI hkeep
      refine letOwned it.go hT' hI ?_
      obtain ⟨vs, hp, hturn⟩ := turn i ys H1 mv hJi hi
      refine assignTgC (c := (cc yrs).wx ((I, oI') :: (cc yrs).xt)) (s := { s with heap := h2, toks := tk2 }) ok.hh rfl hkind (okc yrs _).kd ht hv hp S3 ?_
      intro vrs h3 tk3 hvr hvl S4
      have l4 : LR (upd mr' tg vrs) (c.nm ++ tg) (ρ ++ t) (m ++ vs.map some) := lr_comp hcb h0 htn lr.mono hmr hvr hvl
      have kxF : ∀ (ρ' : List Addr) (s' : Shared), Kx ((cc yrs).wx ((I, oI') :: (cc yrs).xt)) ρ' s' E' := fun ρ' s' t C as e m' mr' H' h' tk hX => hX.elim
      have sub : Sub G c ((cc yrs).wx ((I, oI') :: (cc yrs).xt)) d := ⟨okc yrs _, rfl, rfl, rfl⟩
      have hnext : ∀ x, x ∉ tg → scope.names.lookup x ≠ some .local → upd mr' tg vrs x = mr x := fun x hx hl => by rw [upd_off hx]; exact hmr x hx hl
      refine tests_of (c := (cc yrs).wx ((I, oI') :: (cc yrs).xt)) (s := { s with heap := h3, toks := tk3 }) (hturn _ sub rfl) hcs S4 l4 ?_ (kxF _ _)
      intro t5 b H5 h5 tk5 hb S5
      rw [List.append_assoc] at S5
      cases b with
      | false =>
        simp only [Bool.false_eq_true, if_false]
        have hJ' := hb.1 rfl
        have := (hJ _ _ _ hJ').1
        refine ⟨B + 1 - (i + 1), by lia, i + 1, ys, yrs, t ++ t5, _, H5, h5, tk5, oI', rfl, rfl, hJ', hT', ?_, hnext, S5⟩
        rw [← List.append_assoc]
        exact hy.mono
      | true =>
        simp only [if_true]
        refine hb.2 rfl _ hel (upd mr' tg vrs) _ { s with heap := h5, toks := tk5 } _ E' S5 (by rw [← List.append_assoc]; exact l4.mono) ?_ (kxF _ _)
        intro t6 y yr H6 h6 tk6 hJ' hyr S6
        simp only [List.append_assoc] at hyr S6
        have nD := S6.fact (p := (s.heap.objs.size, LCg.lst yrs)) (.tail _ (.head _))
        have hlen := (hJ i ys H1 hJi).2.1
        refine append_at nD.1 (fun h7 hs7 hD7 => ?_) (by show yrs.toArray.size ≤ sizeLine; rw [List.size_toArray, hy.length]; exact Nat.le_trans (Nat.le_trans (Nat.le_trans hlen b1) hB) (by decide))
        have S7 := S6.growD (c := cc yrs) hs7 (hD7.trans (congrArg some (LCg.lst_snoc yrs yr)))
        have := (hJ _ _ _ hJ').1
        refine ⟨B + 1 - (i + 1), by lia, i + 1, ys ++ [y], yrs ++ [yr], t ++ (t5 ++ t6), _, H6, h7, tk6, oI', rfl, rfl, hJ', hT', ?_, hnext, S7⟩
        have e1 : ρ ++ (t ++ (t5 ++ t6)) = ρ ++ t ++ (t5 ++ t6) := by simp only [List.append_assoc]
        refine VRs.append ?_ ⟨yr, [], rfl, hyr, rfl⟩
        rw [e1]
        exact hy.mono
    · intro h2 tk2 hi hkeep
      have S3 := St.endX (c := cc yrs) S2 hkeep
      obtain ⟨oC', mC, hn, g1, g2⟩ := comp_end own u S3 hy
      rw [List.append_assoc] at g1 g2
      exact k H2.objs.size s.heap.objs.size (t ++ [s.heap.objs.size]) (.ref H1.length) _ h2 tk2 oC' mC (done i ys H1 hJi hi) hn g1 ⟨_, g2, rfl⟩
  exact codeAny_compStart_list (loop _ ⟨_, rfl⟩) (it.slf _ _ _ 0 oI hT (old _ _ (N (I, oI) (by simp)).1) (loop _ ⟨_, rfl⟩))
end
section
variable {c : Cx} {m : ML} {H : MH} {G : Gx} {d : Nat}
noncomputable def Turns (G : Gx) (d : Nat) (c : Cx) (m : ML) (tg : List Str) (elt : CE) (cs : CTs) (item : Nat → MH → Option MV) (good : MH → Prop) (B : Nat) (H : MH) (post : MV → MH → Prop) : Prop :=
  B ≤ 1000000 ∧ ∃ J : Nat → List MV → MH → Prop, J 0 [] H ∧ (∀ i ys H1, J i ys H1 → i ≤ B ∧ ys.length ≤ i ∧ good H1) ∧
    (∀ i ys H1 v, J i ys H1 → item i H1 = some v → ∃ vs, PartsN H1 tg v vs ∧ ∀ c', Sub G c c' d → c'.nm = c.nm ++ tg →
      TC c' (m ++ vs.map some) cs H1 (fun r H2 => (r = false → J (i + 1) ys H2) ∧ (r = true → TE c' (m ++ vs.map some) elt H2 (fun y H3 => J (i + 1) (ys ++ [y]) H3)))) ∧
    (∀ i ys H1, J i ys H1 → item i H1 = none → post (.ref H1.length) (H1 ++ [.list ys]))
noncomputable def Src (G : Gx) (d : Nat) (c : Cx) (m : ML) (tg : List Str) (elt : CE) (cs : CTs) (it : CE) (H : MH) (post : MV → MH → Prop) : Prop :=
  ∀ (e : PySem.Expr) (mr : Str → Option Value) (ρ : List Addr) (s : Shared) (Q : Value → Shared → Prop) (E : Value → Shared → Prop), wfE it c.nm c.sc e = true → St c mr ρ H s.heap → LR mr c.nm ρ m → Kx c ρ s E →
    (∀ t H' h' tk I T good item B oI, ItOk c I T good item (ρ ++ t) → Turns G d c m tg elt cs item good B H' post → T 0 oI → St (c.wx ((I, oI) :: c.xt)) mr (ρ ++ t) H' h' → Q (.ref I) { s with heap := h', toks := tk }) →
    wpAny (model c.prog c.w) c.A (eval (reE it c.nm e) c.env) (fun x s₁ => wpAny (model c.prog c.w) c.A (pyIter x) Q E s₁) E s
theorem cells_some (ok : Ok G c d) {scope : Scope} {tg : List Str} (hcb : compb c.sc scope tg = true) {mr : Str → Option Value} {ρ : List Addr} {h : Heap} (S : St c mr ρ H h) : ∀ p ∈ scope.names, p.2 = .free → (c.env.cells.lookup p.1).isSome = true := fun p hp e => by
  obtain ⟨_, _, _, hfree⟩ := comp_scope hcb
  obtain ⟨ml, fr, ex, own, _⟩ := S
  have h2 := (hfree p hp e).1
  rw [← ok.kd] at h2
  unfold Own at own
  split at own
  · obtain ⟨_, _, o2⟩ := own
    obtain ⟨a, o, e1, _⟩ := o2 _ (kcl2 h2)
    rw [e1]; rfl
  · obtain ⟨_, _, _, _, _, _, _, o2, _⟩ := own
    obtain ⟨a, o, e1, _⟩ := o2 _ (kcl2 h2)
    rw [e1]; rfl
theorem St.same {mr : Str → Option Value} {ρ : List Addr} {h h' : Heap} {C : Addr} {o : Obj} (S : St (c.wx ((C, o) :: c.xt)) mr ρ H h) (hs : Heap.SameBut C h h') : St c mr ρ H h' := S.endX fun b x hb e => (hs.2 b hb).trans e
theorem comp_wf {elt : CE} {tg : List Str} {it : CE} {cs : CTs} {nm : List Str} {sc : Scope} {e : PySem.Expr} (he : wfE (.comp elt tg it cs) nm sc e = true) :
    nm.contains (".0" : Str) = false ∧ isTg (scOf e) tg (reTg tg (kid 1 e)) = true ∧ compb sc (scOf e) tg = true ∧ wfE it nm sc (kid 2 e) = true ∧ wfTs cs (nm ++ tg) (scOf e) ((kids e).drop 3) = true ∧ wfE elt (nm ++ tg) (scOf e) (kid 0 e) = true := by
  obtain ⟨he, h5⟩ := and2 he
  obtain ⟨he, h4⟩ := and2 he
  obtain ⟨he, h3⟩ := and2 he
  obtain ⟨he, h2⟩ := and2 he
  obtain ⟨h0, h1, h1'⟩ := and3 he
  exact ⟨by simpa using h0, tg_re h1 h1', h2, h3, h4, h5⟩
theorem TE.comp (ok : Ok G c d) {elt : CE} {tg : List Str} {it : CE} {cs : CTs} {post : MV → MH → Prop} (h : Src G d c m tg elt cs it H post) : TE c m (.comp elt tg it cs) H post := by
  intro e he
  obtain ⟨h0, h1, h2, h3, h4, h5⟩ := comp_wf he
  obtain ⟨hkind, hcell, hloc, hfree⟩ := comp_scope h2
  intro mr ρ s Q E S l k kx
  show wpAny _ _ (eval (.ListComp (reE elt (c.nm ++ tg) (kid 0 e)) [⟨reTg tg (kid 1 e), reE it c.nm (kid 2 e), reTs cs (c.nm ++ tg) ((kids e).drop 3), 0⟩] (scOf e) e.pos) c.env) _ _ _
  rw [eval_ListComp]
  refine wpAny_comprehension_free (e := .ListComp (reE elt (c.nm ++ tg) (kid 0 e)) [⟨reTg tg (kid 1 e), reE it c.nm (kid 2 e), reTs cs (c.nm ++ tg) ((kids e).drop 3), 0⟩] (scOf e) e.pos) (g := ⟨reTg tg (kid 1 e), reE it c.nm (kid 2 e), reTs cs (c.nm ++ tg) ((kids e).drop 3), 0⟩) (gs := []) (use := Option.none) rfl (fun x => folded_of h3 x) (closureFor_of (cells_some ok h2 S)) hkind (fun x hx e => (hloc x hx e).1) ?_
  refine h _ mr ρ s _ E h3 S l kx ?_
  rintro t H' h' tk I T good item B oI hit ⟨hB, J, j0, j1, j2, j3⟩ hT S1
  refine compCore (s := { s with heap := h', toks := tk }) ok h0 h1 h2 h4 h5 hit J B hB j0 j1 j2 j3 hT S1 l.mono ?_
  intro C D t' v H2 h2 tk2 oC mC hp hn S2 hv
  refine ⟨mC, hn.ns S2.itr.1, fun h3 hs => ?_⟩
  have S3 := S2.same hs
  rw [List.append_assoc] at S3 hv
  exact k (t ++ t') v _ H2 h3 tk2 hp hv S3
theorem TS.assignC (ok : Ok G c d) (hfm : c.fm = none) {i : Nat} {elt : CE} {tg : List Str} {it : CE} {cs : CTs} {post : Fl → ML → MH → Prop} (h : Src G d c m tg elt cs it H (fun v H1 => post .next (m.set i (some v)) H1)) : TS c m (.assign i (.comp elt tg it cs)) H post := by
  intro st hs
  obtain ⟨hs1, hs2, he⟩ := and3 hs
  have hs1 := beq_iff_eq.mp hs1
  have hE := TE.comp ok h _ he
  obtain ⟨h0, h1, h2, h3, h4, h5⟩ := comp_wf he
  obtain ⟨hkind, hcell, hloc, hfree⟩ := comp_scope h2
  generalize hx : c.nm.getD i "" = x at hs1 hs2
  intro mr ρ s Q E S l k kx
  show wpAny _ _ (exec (.Assign [.Name (c.nm.getD i "") (ex 1 st).pos] (.ListComp (reE elt (c.nm ++ tg) (kid 0 (ex 0 st))) [⟨reTg tg (kid 1 (ex 0 st)), reE it c.nm (kid 2 (ex 0 st)), reTs cs (c.nm ++ tg) ((kids (ex 0 st)).drop 3), 0⟩] (scOf (ex 0 st)) (ex 0 st).pos) st.pos) c.env) _ _ _
  rw [hx]
  by_cases hsw : swapsWith (.ListComp (reE elt (c.nm ++ tg) (kid 0 (ex 0 st))) [⟨reTg tg (kid 1 (ex 0 st)), reE it c.nm (kid 2 (ex 0 st)), reTs cs (c.nm ++ tg) ((kids (ex 0 st)).drop 3), 0⟩] (scOf (ex 0 st)) (ex 0 st).pos) (some (.Name x (ex 1 st).pos)) st.pos.line c.env = pure true
  · rw [exec_Assign_Name_used _ _ _ _ hsw]
    refine wpAny_bind (wpAny_standAt (wpAny_bind ?_))
    show wpAny _ c.A (do let _ ← comprehension (.ListComp (reE elt (c.nm ++ tg) (kid 0 (ex 0 st))) [⟨reTg tg (kid 1 (ex 0 st)), reE it c.nm (kid 2 (ex 0 st)), reTs cs (c.nm ++ tg) ((kids (ex 0 st)).drop 3), 0⟩] (scOf (ex 0 st)) (ex 0 st).pos) (scOf (ex 0 st)) c.env _ (newList []) false (eval (reE it c.nm (kid 2 (ex 0 st))) c.env) (some (PySem.assign (.Name x (ex 1 st).pos) c.env))) _ _ s
    refine wpAny_bind (wpAny_mono (wpAny_comprehension_free (e := .ListComp (reE elt (c.nm ++ tg) (kid 0 (ex 0 st))) [⟨reTg tg (kid 1 (ex 0 st)), reE it c.nm (kid 2 (ex 0 st)), reTs cs (c.nm ++ tg) ((kids (ex 0 st)).drop 3), 0⟩] (scOf (ex 0 st)) (ex 0 st).pos) (g := ⟨reTg tg (kid 1 (ex 0 st)), reE it c.nm (kid 2 (ex 0 st)), reTs cs (c.nm ++ tg) ((kids (ex 0 st)).drop 3), 0⟩) (gs := []) (use := some (PySem.assign (.Name x (ex 1 st).pos) c.env)) (Q := fun _ s' => Q .next s') rfl (fun x => folded_of h3 x) (closureFor_of (cells_some ok h2 S)) hkind (fun x hx e => (hloc x hx e).1) ?_) (fun _ s' hq => wpAny_pure (wpAny_pure hq)) fun _ _ e => e)
    refine h _ mr ρ s _ E h3 S l kx ?_
    rintro t H' h' tk I T good item B oI hit ⟨hB, J, j0, j1, j2, j3⟩ hT S1
    refine compCore (post := fun v H1 => post .next (m.set i (some v)) H1) (s := { s with heap := h', toks := tk }) ok h0 h1 h2 h4 h5 hit J B hB j0 j1 j2 j3 hT S1 l.mono ?_
    intro C D t' v H2 hp2 tk2 oC mC hp hn S2 hv
    show wpAny _ _ (PySem.assign (.Name x (ex 1 st).pos) c.env (.ref D)) _ _ _
    refine wpAny_assign_Name ?_
    refine store (c := c.wx ((C, oC) :: c.xt)) (s := { s with heap := hp2, toks := tk2 }) (ok.wx _) S2 hfm hs2 ?_
    intro h3 tk3 S3
    refine ⟨mC, hn.ns S3.itr.1, fun h4 hs4 => ?_⟩
    have S4 := S3.same hs4
    rw [List.append_assoc] at S4 hv
    exact k (t ++ t') .next .next _ _ H2 h4 tk3 hp rfl S4 (l.mono.set hs1 hv)
  · have hsw' : swapsWith (.ListComp (reE elt (c.nm ++ tg) (kid 0 (ex 0 st))) [⟨reTg tg (kid 1 (ex 0 st)), reE it c.nm (kid 2 (ex 0 st)), reTs cs (c.nm ++ tg) ((kids (ex 0 st)).drop 3), 0⟩] (scOf (ex 0 st)) (ex 0 st).pos) (some (.Name x (ex 1 st).pos)) st.pos.line c.env = pure false := by
      unfold swapsWith at hsw ⊢
      simp only at hsw ⊢
      generalize (c.env.blockKind == .function && c.env.kindOf x == some .local && (ex 1 st).pos.line == _ && _) = b at hsw ⊢
      cases b with
      | false => rfl
      | true => exact absurd rfl hsw
    refine wpAny_Assign_Name ?_ hsw'
    refine hE mr ρ s _ E S l ?_ kx
    intro t v vr H1 hp1 tk1 hp hv S1
    refine store ok S1 hfm hs2 ?_
    intro h' tk S2
    exact k t .next .next _ _ H1 h' tk hp rfl S2 (l.mono.set hs1 hv)
end
section
variable {c : Cx} {m : ML} {H : MH} {G : Gx} {d : Nat}
theorem Src.list (ok : Ok G c d) {tg : List Str} {elt : CE} {cs : CTs} {it : CE} {post : MV → MH → Prop}
    (h : TE c m it H (fun l H1 => ∃ a xs B, l = .ref a ∧ H1[a]? = some (.list xs) ∧ Turns G d c m tg elt cs (itemL a) (fun H => ∃ xs, H[a]? = some (.list xs)) B H1 post)) : Src G d c m tg elt cs it H post := by
  intro e mr ρ s Q E he S l kx k
  refine h _ he mr ρ s _ E S l ?_ kx
  rintro t lv lr H1 h1 tk1 ⟨a, xs, B, rfl, ha, ht⟩ ⟨y, hy, rfl⟩ S1
  obtain ⟨vs, ep, hvs, No⟩ := S1.list ha hy
  refine wpAny_pyIter_list (isList_of No) ?_
  refine k t H1 _ tk1 _ (fun i o => o.cls = .type "list_iterator" ∧ o.data = .fields #[.ref y, .int i 0]) _ _ B _ ⟨fun c₁ e => NX.list (by rw [e]; exact ok.hh) hy, fun i o hT => ⟨_, _, hT.1, hT.2, rfl⟩, fun s' Q E i o hT hI hq => ?_⟩ ht ⟨rfl, rfl⟩ (S1.addX rfl)
  exact wpAny_pyIter_listiter ⟨o, hI, hT.1, hT.2⟩ hq
theorem Src.range (ok : Ok G c d) (hg : nsIn G.K mainGlobals "range" = some none) {tg : List Str} {elt : CE} {cs : CTs} {a : CE} {r : CEs} {post : MV → MH → Prop}
    (h : TEs c m (.cons a r) H (fun vs H1 => ∃ lo hi, Rng vs lo hi ∧ Turns G d c m tg elt cs (itemR lo hi) (fun _ => True) (hi - lo).toNat H1 post)) : Src G d c m tg elt cs (.call "range" (.cons a r)) H post := by
  intro e mr ρ s Q E he S l kx k
  refine callType ok (T := "range") hg boot_range (by decide) he (by intro q; cases q) S l kx h ?_
  rintro t vs vrs H1 hp1 tk1 ⟨lo, hi, hr, ht⟩ hv S1
  refine call_range S1 hr hv ?_
  intro h' tk t₁ u₁ v₁ hR S2 _
  refine wpAny_pyIter_range hR (small_one hr.2.1 hr.2.2.1 hr.2.2.2.1 hr.2.2.2.2) ?_
  refine k t H1 _ tk _ (fun i o => o = { cls := .type "range_iterator", data := .fields #[rawInt (lo + i), rawInt (((hi - lo).toNat : Int) - i), rawInt 1] }) _ _ _ _ ⟨fun c₁ e => NX.range (a := lo) (b := hi) (by rw [e]; exact ok.hh), fun i o hT => (by subst hT; exact ⟨_, _, rfl, rfl, rfl⟩), fun s' Q E i o hT hI hq => ?_⟩ ht ?_ (S2.addX rfl)
  · subst hT
    exact wpAny_pyIter_rangeiter (show IsRangeIter s'.heap _ _ _ _ from hI) hq
  · rw [rangeSize_nat]
    simp
theorem TC.mono {c : Cx} {m : ML} : ∀ {cs : CTs} {H : MH} {p q : Bool → MH → Prop}, TC c m cs H p → (∀ r H2, p r H2 → q r H2) → TC c m cs H q
  | .nil, _, _, _, h, hpq => hpq _ _ h
  | .cons t r, _, _, _, h, hpq => TT.mono h fun b H1 hb => ⟨fun e => hpq _ _ (hb.1 e), fun e => TC.mono (hb.2 e) hpq⟩
theorem Turns.range {tg : List Str} {x : Str} {elt : CE} {cs : CTs} {lo hi : Int} {post : MV → MH → Prop} (htg : tg = [x]) (hB : (hi - lo).toNat ≤ 1000000) (J : Nat → List MV → MH → Prop) (j0 : J 0 [] H) (jl : ∀ i ys H1, J i ys H1 → ys.length ≤ i)
    (turn : ∀ i ys H1, J i ys H1 → lo + i < hi → ∀ c', Sub G c c' d → c'.nm = c.nm ++ tg →
      TC c' (m ++ [some (.int (lo + i))]) cs H1 (fun r H2 => (r = false → J (i + 1) ys H2) ∧ (r = true → TE c' (m ++ [some (.int (lo + i))]) elt H2 (fun y H3 => J (i + 1) (ys ++ [y]) H3))))
    (done : ∀ ys H1, J (hi - lo).toNat ys H1 → post (.ref H1.length) (H1 ++ [.list ys])) : Turns G d c m tg elt cs (itemR lo hi) (fun _ => True) (hi - lo).toNat H post := by
  subst htg
  refine ⟨hB, fun i ys H1 => i ≤ (hi - lo).toNat ∧ J i ys H1, ⟨Nat.zero_le _, j0⟩, fun i ys H1 q => ⟨q.1, jl i ys H1 q.2, trivial⟩, ?_, ?_⟩
  · intro i ys H1 v q hi'
    unfold itemR at hi'
    split at hi'
    · rename_i hlt
      cases hi'
      refine ⟨[.int (lo + i)], rfl, fun c' sub hn => ?_⟩
      have h1 := turn i ys H1 q.2 hlt c' sub hn
      refine h1.mono ?_
      intro r H2 hr
      exact ⟨fun e => ⟨by lia, hr.1 e⟩, fun e => (hr.2 e).mono fun y H3 hy => ⟨by lia, hy⟩⟩
    · cases hi'
  · intro i ys H1 q hi'
    unfold itemR at hi'
    split at hi'
    · cases hi'
    · have : i = (hi - lo).toNat := by have := q.1; lia
      exact done ys H1 (this ▸ q.2)
theorem Turns.list {tg : List Str} {elt : CE} {cs : CTs} {a : Nat} {xs : List MV} {post : MV → MH → Prop} (hB : xs.length ≤ 1000000) (J : Nat → List MV → MH → Prop) (j0 : J 0 [] H) (jl : ∀ i ys H1, J i ys H1 → ys.length ≤ i ∧ H1[a]? = some (.list xs))
    (turn : ∀ i ys H1 v, J i ys H1 → xs[i]? = some v → ∃ vs, PartsN H1 tg v vs ∧ ∀ c', Sub G c c' d → c'.nm = c.nm ++ tg →
      TC c' (m ++ vs.map some) cs H1 (fun r H2 => (r = false → J (i + 1) ys H2) ∧ (r = true → TE c' (m ++ vs.map some) elt H2 (fun y H3 => J (i + 1) (ys ++ [y]) H3))))
    (done : ∀ ys H1, J xs.length ys H1 → post (.ref H1.length) (H1 ++ [.list ys])) : Turns G d c m tg elt cs (itemL a) (fun H => ∃ xs, H[a]? = some (.list xs)) xs.length H post := by
  refine ⟨hB, fun i ys H1 => i ≤ xs.length ∧ J i ys H1, ⟨Nat.zero_le _, j0⟩, fun i ys H1 q => ⟨q.1, (jl i ys H1 q.2).1, xs, (jl i ys H1 q.2).2⟩, ?_, ?_⟩
  · intro i ys H1 v q hi'
    have hx : xs[i]? = some v := by unfold itemL at hi'; rw [(jl i ys H1 q.2).2] at hi'; exact hi'
    have hlt := (List.getElem?_eq_some_iff.mp hx).1
    obtain ⟨vs, hp, ht⟩ := turn i ys H1 v q.2 hx
    refine ⟨vs, hp, fun c' sub hn => (ht c' sub hn).mono fun r H2 hr => ?_⟩
    exact ⟨fun e => ⟨hlt, hr.1 e⟩, fun e => (hr.2 e).mono fun y H3 hy => ⟨hlt, hy⟩⟩
  · intro i ys H1 q hi'
    have hx : xs[i]? = none := by unfold itemL at hi'; rw [(jl i ys H1 q.2).2] at hi'; exact hi'
    have : i = xs.length := Nat.le_antisymm q.1 (List.getElem?_eq_none_iff.mp hx)
    exact done ys H1 (this ▸ q.2)
end
noncomputable def GExc (G : Gx) (g : Str) (C : Addr) (bm : List Value) : Prop :=
  nsIn G.K mainGlobals g = some (some (.ref C)) ∧ ∃ (Bn newId inN : String) (bmN : List Value) (B nid initId : String), ExcBaseFacts Bn newId inN bmN ∧ bm.contains (.type Bn) = true ∧ ExcBaseFacts B nid initId bm ∧ excIn G.K C bm newId = true
section
variable {c : Cx} {m : ML} {H : MH} {G : Gx} {d : Nat}
theorem fly_new {mr : Str → Option Value} {ρ : List Addr} {h h' : Heap} {C e : Addr} {as : List MV} {vs : List Value} (S : St c mr ρ H h) (hv : VRs ρ as vs) (hx : Heap.MadeExcOf h h' e (.ref C) vs) : Fly c mr ρ H C as e h' := by
  obtain ⟨t, h1, h2, h3⟩ := hx.there
  exact ⟨h, t, vs, S, hv, hx.new, h2, ⟨_, _, h3, rfl, rfl⟩, Heap.UpToSlots.of_keeps hx.keeps, fun b o q => hx.keeps b o (TI.gone_some q).2, .inl ⟨_, _, h1, rfl, rfl, rfl, rfl⟩⟩
theorem TS.raise (ok : Ok G c d) {g : Str} {C : Addr} {bm : List Value} {a : CE} {r : CEs} {post : Fl → ML → MH → Prop} (hg : GExc G g C bm) (h : TEs c m (.cons a r) H (fun vs H1 => vs.length ≤ 1000 ∧ c.X C vs m H1)) : TS c m (.raise g (.cons a r)) H post := by
  intro st hs
  obtain ⟨h2, h3⟩ := and2 hs
  intro mr ρ s Q E S l k kx
  obtain ⟨hns, Bn, newId, inN, bmN, B, nid, initId, Fn, hBn, FB, hexc⟩ := hg
  have O := own_of_in ok.kin (topRead_of ok.top) hns hexc
  obtain ⟨tl, N, nm, q, bs, hdct, sn, sub, ab, col, dd, k0, k1, k2, k3, k5, mN, hC, hN, hni, T⟩ := O.obj
  have h4 := and2 h3
  have hst : starEach (reEs (.cons a r) c.nm (kids (ex 0 st)).tail) c.env = (false, eval (reE a c.nm (nth 0 (kids (ex 0 st)).tail)) c.env) :: starEach (reEs r c.nm (kids (ex 0 st)).tail.tail) c.env := star_cons (star_re h4.1)
  refine wpAny_Raise_call_subU (C := C) (nm := nm) (q := q) (N := N) (bs := bs) (bm := tl) (hdct := hdct) (sn := sn) (sub := sub) (ab := ab) (col := col) (dd := dd) (k0 := k0) (k1 := k1) (k2 := k2) (k3 := k3) (k5 := k5)
    Fn hBn FB (mN := mN) (T.hasType FB.hasBase) ok.hh (star_plain h3) hni ?_
  refine nameG ok S h2 hns ⟨rfl, ?_⟩
  rw [hst]
  refine Calls.evalArgs_plain ?_
  have hA := h _ (ex 0 st).pos h3 mr ρ s (fun vs s₂ => vs.length ≤ sizeLine ∧ (∀ b o, c.h₀.get? b = some o → s₂.heap.get? b = some o) ∧ ∀ h' e, Heap.MadeExcOf s₂.heap h' e (.ref C) vs → E (.ref e) { s₂ with heap := h' }) E S l ?_ kx
  · rw [hst] at hA
    exact wpAny_mono hA (fun vs s₂ h₂ => ⟨rfl, h₂.1, h₂.2.1 _ _ hC, hN.keeps h₂.2.1, T.keeps h₂.2.1, h₂.2.2⟩) fun _ _ y => y
  · rintro t vs vrs H1 h1 tk1 ⟨hl, hX⟩ hv S1
    refine ⟨by rw [hv.length]; exact Nat.le_trans hl (by decide), S1.keep, fun h' e hx => ?_⟩
    exact kx t C vs e m mr H1 h' tk1 hX (fly_new S1 hv hx) l.mono
noncomputable def Cx.wX (c : Cx) (X : Addr → List MV → ML → MH → Prop) : Cx := { c with X := X }
theorem Ok.wX {G : Gx} {c : Cx} {d : Nat} (ok : Ok G c d) (X : Addr → List MV → ML → MH → Prop) : Ok G (c.wX X) d :=
  ⟨ok.frames, ok.kin, ok.top, ok.hh, ok.dep, ok.uni, ok.fn, ok.gl, ok.bi, ok.ap, ok.kd, ok.fs, ok.ex⟩
noncomputable def Takes (G : Gx) (g : Str) (C : Addr) : Prop := ∃ (y : Str) (bm : List Value), GExc G y C bm ∧
  ((∃ T' : String, nsIn G.K mainGlobals g = some none ∧ bootBuiltins g = some (.type T') ∧ g ≠ "__name__" ∧ isSubtype (.type T') (.type "BaseException") = pure true ∧
      isSubtype (.type ((Manifest.find? T').elim "type" fun y => y.metatype)) (.type "tuple") = pure false ∧ bm.contains (.type T') = true) ∨
   (g = y ∧ bm.contains (.type "BaseException") = true))
theorem FlyH.st (ok : Ok G c d) {mr : Str → Option Value} {ρ : List Addr} {C : Addr} {as : List MV} {e : Addr} {h : Heap} (f : FlyH c mr ρ H C as e .none h) : St c mr ρ H h := (f.fly (.inl rfl)).st ok
theorem takes_test (ok : Ok G c d) {g : Str} {np : Pos} {mr : Str → Option Value} {ρ : List Addr} {C : Addr} {as : List MV} {e : Addr} {s : Shared} {A : Around} {Q : Bool → Shared → Prop} {E : Value → Shared → Prop} (hT : Takes G g C) (hx : glb c.sc g = true) (hA : A.handled = c.A.handled ∨ True)
    (f : FlyH c mr ρ H C as e .none s.heap) (k : Q true s) : wpAny (model c.prog c.w) A (eval (.Name g np) c.env) (fun cv s₁ => wpAny (model c.prog c.w) A (excMatches (.ref e) cv) Q E s₁) E s := by
  have S := f.st ok
  let c' : Cx := { c with A := A }
  have T := topRead_of ok.top
  unfold glb at hx
  simp only [Bool.and_eq_true, beq_iff_eq, bne_iff_ne, ne_eq] at hx
  have hd' : (g == ("__debug__" : Str)) = false := by simpa using hx.1
  have hk := kcl3 ((ok.kd g).trans hx.2)
  obtain ⟨hB, t, vs, b, x⟩ := f
  obtain ⟨oe, ws, T', oT, ts, q1, q2, q3, q4, q5, q6, q7, q8, q9⟩ := x
  obtain ⟨y, bm, ⟨hns, Bn, newId, inN, bmN, B, nid, initId, Fn, hBn, FB, hexc⟩, hcase⟩ := hT
  have O := (own_of_in ok.kin T hns hexc).keeps S.keep
  obtain ⟨tl, N, nm, q, bs, hdct, sn, sub, ab, col, dd, k0, k1, k2, k3, k5, mN, hC, hN, hni, TL⟩ := O.obj
  obtain ⟨hp, gs, dr, tk, os⟩ := s
  rcases hcase with ⟨T'', e1, e2, e3, e4, e5, e6⟩ | ⟨rfl, e2⟩
  · refine Name_function_global ok.fn hk (loadGlobal_builtin (env := c.env) (by rw [ok.gl]; exact T.g.keeps S.keep) (mg_none_of ok.kin T.g e1) (by rw [ok.bi]; exact T.b.keeps S.keep) ((T.builtins g e3).trans e2) ?_) hd'
    refine wpAny_excMatches_sub_type hC q1 q2.1 e4 e5 ?_
    rw [TL.hasType e6]
    exact k
  · refine Name_function_global ok.fn hk (loadGlobal_global (env := c.env) (by rw [ok.gl]; exact T.g.keeps S.keep) (mg_of ok.kin T.g hns) ?_) hd'
    exact wpAny_excMatches_sub_self hC q1 q2.1 (TL.hasType e2) k
theorem TS.tryA (ok : Ok G c d) (hfm : c.fm = none) {b : CSs} {g : Str} {i : Nat} {x : Str} {post : Fl → ML → MH → Prop}
    (h : TB (c.wX fun C as m1 H1 => Takes G g C ∧ post .next (m1.set i (some (.str x))) H1) m b H post) : TS c m (.try b (.cons g none (.cons (.assign i (.str x)) .nil) .nil)) H post := by
  intro st hs
  obtain ⟨h1, h2⟩ := and2 hs
  obtain ⟨h2, h8⟩ := and2 h2
  obtain ⟨h4, h5, h6, h7⟩ := and4 h2
  intro mr ρ s Q E S l k kx
  show wpAny _ _ (exec (.Try (reSs b c.nm (bl0 st)) [.ExceptHandler (some (.Name g (hTy (nthH (hsOf st))))) none [reS (.assign i (.str x)) c.nm (nthS (hBody (nthH (hsOf st))))] (hPos (nthH (hsOf st)))] [] [] st.pos) c.env) _ _ _
  rw [arm_exec_Try]
  refine wpAny_bind (wpAny_standAt (wpAny_tryStmt_except ?_))
  refine h _ h1 mr ρ s _ _ S l ?_ ?_
  · intro t fl fr m' mr' H' h' tk hp hf S' l'
    cases fl with
    | next => subst hf; exact wpAny_execs_nil (k t .next .next m' mr' H' h' tk hp rfl S' l')
    | brk => subst hf; exact k t .brk .brk m' mr' H' h' tk hp rfl S' l'
    | cont => subst hf; exact k t .cont .cont m' mr' H' h' tk hp rfl S' l'
    | ret v => obtain ⟨vr, rfl, hv⟩ := hf; exact k t (.ret v) (.ret vr) m' mr' H' h' tk hp ⟨vr, rfl, hv⟩ S' l'
  · rintro t C as e m' mr' H' h' tk ⟨hT, hp⟩ hF hL
    have hF' : Fly c mr' (ρ ++ t) H' C as e h' := hF
    refine Fly.note (s := { s with heap := h', toks := tk }) ok hfm rfl hF' fun h2 f2 => ?_
    refine FlyH.flight (s := { s with heap := h2, toks := tk }) none f2 fun h3 f3 => ?_
    refine wpAny_handleBy_cons (codeAny_handlers_test ?_) (by intro q; cases q)
    refine takes_test (s := { s with heap := h3, toks := tk }) ok hT h4 (.inr trivial) f3 ?_
    refine codeAny_handlers_suite ?_
    refine FlyH.flight (s := { s with heap := h3, toks := tk }) none f3 fun h5' f5 => ?_
    have S5 := f5.st ok
    let c' : Cx := { c with A := c.A.mark (some (.ref e)) }
    have hTB : TB c' m' (.cons (.assign i (.str x)) .nil) H' (fun fl m2 H2 => fl = .next ∧ m2 = m'.set i (some (.str x)) ∧ H2 = H') := by
      refine TB.cons ?_
      intro st hst
      obtain ⟨g1, g2, g3⟩ := and3 hst
      have g1 := beq_iff_eq.mp g1
      intro mr ρ s Q E S l k kx
      refine wpAny_Assign_Name ?_ (swaps_not (comp_re g3 rfl))
      refine (TE.str (c := c') (m := m') (post := fun v H1 => v = .str x ∧ H1 = H') ⟨rfl, rfl⟩) _ g3 mr ρ s _ E S l ?_ kx
      rintro t v vr H1 hp1 tk1 ⟨rfl, rfl⟩ hv S1
      refine store' (c := c') ok.ap ok.fn ok.fs S1 hfm g2 ?_
      intro h' tk S2
      exact k t .next .next _ _ H1 h' tk (TB.nil ⟨rfl, rfl, rfl⟩) rfl S2 (l.mono.set g1 hv)
    refine hTB _ h7 mr' (ρ ++ t) { s with heap := h5', toks := tk } _ _ S5 hL ?_ ?_
    · rintro t' fl fr m2 mr2 H2 h6' tk2 ⟨rfl, rfl, rfl⟩ hf S6 l6
      subst hf
      rw [List.append_assoc] at S6 l6
      exact k (t ++ t') .next .next _ mr2 H2 h6' tk2 hp rfl S6 l6
    · intro t' C' as' e' m2 mr2 H2 h6' tk2 hX hF2 hL2
      have hX' : c.X C' as' m2 H2 := hX
      rw [List.append_assoc] at hF2 hL2
      exact (Kx.pass (M := model c.prog c.w) (A := c.A.mark (some (.ref e))) (A' := c.A) ok hfm rfl kx) (t ++ t') C' as' e' m2 mr2 H2 h6' tk2 hX' hF2 hL2
end
theorem law_entry {G : Gx} (d : Nat) (hdd : d ≤ 600) {prog : Program} {w : World} {s : Shared} {fa sa : Addr} {o : Obj} {fd : FuncData} {body : List Stmt} {x : Str} {nm : List Str} {k : CSs} {R : Result → Shared → Prop}
    (kin : G.K.In s.heap) (hex : G.ex s.heap) (T : Top G.p G.loose G.mean G.mg G.mb s.heap) (ho : s.heap.get? fa = some o) (hd : o.data = .func fd) (hcd : s.heap.CodeRec fd.code fd.qualname)
    (hbody : fd.body = .stmts body) (hgl : fd.globals = mainGlobals) (hcl : fd.closure = []) (hbi : fd.builtins = builtinsNs)
    (hb : BindsTo s fd ⟨[.ref sa], []⟩ [(x, .ref sa)]) (hfn : fnb fd.scope [x] nm = true) (hwf : wfSs k nm fd.scope body = true) (hre : reSs k nm body = body)
    (h : ∀ c : Cx, c.prog = prog → c.w = w → c.h₀ = s.heap → Ok G c d → c.fm = none → interactive c.env = false → c.nm = nm → c.X = (fun _ _ _ _ => False) → TB c (start nm [.glob sa]) k [] (fun fl _ _ => retv fl = .bool true))
    (hR : ∀ L m h' tk, Fr s.heap L h' m → R (.ok (.ret (.bool true))) { s with heap := h', toks := tk }) :
    codeAny (model prog w) callerA (.call (.ref fa) ⟨[.ref sa], []⟩) R s := by
  unfold fnb at hfn
  simp only [Bool.and_eq_true, beq_iff_eq, decide_eq_true_eq, Bool.not_eq_true', List.all_eq_true] at hfn
  obtain ⟨⟨⟨⟨⟨⟨⟨hn1, hn2⟩, hn3⟩, hco⟩, hgen⟩, hk⟩, hnd⟩, hnf⟩ := hfn
  have hnf' : fd.scope.names.all (fun p => p.2 != .free) = true := List.all_eq_true.mpr hnf
  have hmemn : ∀ y ∈ [(x, Value.ref sa)], fd.scope.names.lookup y.1 = some .local ∨ fd.scope.names.lookup y.1 = some .cell := fun y hy => by
    have := hn3 y.1 (by rw [List.mem_singleton] at hy; subst hy; exact .head _)
    unfold stb at this
    simpa using this
  refine codeAny_call_function (by decide) ho hd hco hgen hbody hcd (hb _ _ _ _ ?_)
  rw [hgl, hcl, hbi]
  refine wpAny_newFunctionEnv_cells hk (fun x hx => (hmemn x hx).imp id fun q => ⟨q, cellsFrom_some _ _ _ (.inl q)⟩) fun env' he s' x' => ?_
  subst he
  refine ⟨T.nolimit.keeps x'.toInCall.keep, codeAny_func ?_⟩
  obtain ⟨h₁, tk, rfl, hk₁⟩ := x'.done
  obtain ⟨cells, NC, Y⟩ := Cl.news (h₀ := s.heap) (Nat.le_refl _) fun n c hm => ⟨x'.cell n c (lookup_of_mem_nodup (cellsFrom_names fd.scope.names 0 (s.heap.objs.size + 1) [] [] rfl ▸ hnd) hm), x'.above n c hm⟩
  let env' : Env := envOfC fd.qualname fd.scope s.heap.objs.size fa fd.code
  let mr' : Str → Option Value := fun y => if env'.kindOf y = some .local then bindL env'.kindOf [(x, .ref sa)] (fun _ => none) y else bindC env'.kindOf [(x, .ref sa)] (fun _ => none) y
  let c' : Cx := { prog := prog, w := w, A := callerA.deeper env', env := env', h₀ := s.heap, L := s.heap.objs.size, fm := none, fr := [], xt := [], X := fun _ _ _ _ => False, nm := nm, sc := fd.scope }
  have ok' : Ok G c' d := by
    refine ⟨⟨env', [], Around.frames_deeper rfl, rfl, hk, trivial, fun _ => rfl⟩, kin, T, rfl, ?_, ?_, hk, rfl, rfl, fun _ => x'.apart, fun _ => rfl, fun _ => rfl, hex⟩
    · show 1 + claimMargin + 1 + d < recursionLimit
      exact Nat.lt_of_le_of_lt (Nat.add_le_add_left hdd _) (by decide)
    · show 4 + 3 + 8 * d + 64 < cLine
      exact Nat.lt_of_le_of_lt (Nat.add_le_add_right (Nat.add_le_add_left (Nat.mul_le_mul_left 8 hdd) _) 64) (by decide)
  have S' : St c' mr' [] [] h₁ := by
    refine ⟨bindL env'.kindOf [(x, .ref sa)] (fun _ => none), [], cells, ?_, trivial, ⟨x'.toInCall.ns, fun b o e => hk₁ b o e, Nat.le_refl _⟩, [], rfl, rfl, ?_, ?_, ?_⟩
    · refine ⟨rfl, fun y hy => ?_, fun y hy => ?_⟩
      · show _ = if env'.kindOf y = some .local then _ else _
        rw [if_pos hy]
      · rcases hy with hy | hy
        · have hs : ((cellsFrom (s.heap.objs.size + 1) fd.scope.names []).lookup y).isSome = true := cellsFrom_some _ _ _ (.inl hy)
          obtain ⟨a, ha⟩ := Option.isSome_iff_exists.mp hs
          obtain ⟨o, h1, h2⟩ := cells_get Y ha
          refine ⟨a, o, ha, h1, h2.trans ?_⟩
          have hnl : ¬ env'.kindOf y = some .local := by
            intro q
            have q' : env'.kindOf y = some .cell := hy
            rw [q] at q'
            cases q'
          show _ = Data.cell (if env'.kindOf y = some .local then _ else _)
          rw [if_neg hnl]
          rfl
        · exact absurd hy (nofree hnf')
    · intro i o e
      simp at e
    · intro p hp
      replace hp : p ∈ (([] : List (Addr × Obj)) ++ ([] ++ cells)) ++ ([] : List Addr).zip [] := hp
      simp only [List.nil_append, List.zip_nil_left, List.append_nil] at hp
      exact NC p hp
    · have hcnd : (cells.map (·.1)).Nodup := by
        rw [cells_addrs Y]
        exact List.pairwise_map.mpr x'.apart
      show ((([] : List (Addr × Obj)) ++ ([] ++ cells)).map (fun p : Addr × Obj => p.1) ++ ([] : List Addr)).Nodup
      simpa using hcnd
  have l' : LR mr' nm [] (start nm [.glob sa]) := by
    have hle : 1 ≤ nm.length := by
      have := congrArg List.length hn1
      simp only [List.length_take, List.length_singleton] at this
      lia
    refine ⟨by unfold start; rw [List.length_append, List.length_map, List.length_replicate, List.length_singleton]; lia, fun i y v e1 e2 => ?_⟩
    unfold start at e2
    by_cases hi : i < 1
    · have h0 : i = 0 := by lia
      subst h0
      simp at e2
      subst e2
      have hy : x = y := by
        have := slot_get e1
        cases nm with
        | nil => simp at this
        | cons z zs =>
          simp at this hn1
          rw [hn1, this]
      subst hy
      refine ⟨.ref sa, rfl, ?_⟩
      show (if env'.kindOf x = some .local then _ else _) = _
      split
      · rename_i q; exact bindL_at (names := [x]) (vals := [.ref sa]) (i := 0) q (by simp) rfl rfl
      · rename_i q; exact bindC_at (names := [x]) (vals := [.ref sa]) (i := 0) q (by simp) rfl rfl
    · rw [List.getElem?_append_right (by rw [List.length_map, List.length_singleton]; lia), List.getElem?_replicate] at e2
      split at e2 <;> cases e2
  have hni : interactive env' = false := by
    unfold interactive
    rw [show env'.scope.kind = .function from hk]
    rfl
  have hb2 : EX c' (start nm [.glob sa]) (reSs k nm body) [] (fun fl _ _ => retv fl = .bool true) := h c' rfl rfl rfl ok' rfl hni rfl rfl body hwf
  rw [hre] at hb2
  refine hb2 mr' [] { s with heap := h₁, toks := tk } _ _ S' l' ?_ ?_
  · intro t fl fr' m' mr'' H' h' tk' hp hfl S2 _
    obtain ⟨ml, xs, led, _⟩ := S2.open
    cases fl with
    | ret v =>
      obtain ⟨vr, rfl, hv⟩ := hfl
      have e : v = .bool true := hp
      subst e
      have e2 : vr = .bool true := hv
      subst e2
      exact hR _ ml h' tk' led.1
    | next => cases hp
    | brk => cases hp
    | cont => cases hp
  · intro t C as e m' mr'' H' h' tk' hX hF hL'
    exact False.elim hX
theorem zip_lookup {x : Str} {v : Value} : ∀ {names : List Str} {vs : List Value}, names.length = vs.length → x ∈ names → ((names.zip vs).lookup x).isSome = true
  | [], _, _, h => by cases h
  | _ :: _, [], h, _ => by cases h
  | y :: ns, u :: us, hl, h => by
    rw [List.zip_cons_cons, List.lookup_cons]
    by_cases e : x = y
    · subst e
      simp
    · have hb : (x == y) = false := by simpa using e
      rw [hb]
      rcases List.mem_cons.mp h with q | q
      · exact absurd q e
      · exact zip_lookup (v := v) (by simpa using hl) q
theorem fm_congr {α β : Type} {f g : α → Option β} : ∀ {l : List α}, (∀ x ∈ l, f x = g x) → l.filterMap f = l.filterMap g
  | [], _ => rfl
  | a :: l, h => by rw [List.filterMap_cons, List.filterMap_cons, h a (.head _), fm_congr fun x hx => h x (.tail _ hx)]
theorem zip_filterMap : ∀ {names : List Str} {vs : List Value}, names.Nodup → names.length = vs.length → (names.filterMap fun n => ((names.zip vs).lookup n).map (n, ·)) = names.zip vs
  | [], _, _, _ => rfl
  | _ :: _, [], _, h => by cases h
  | y :: ns, u :: us, hn, hl => by
    rw [List.nodup_cons] at hn
    rw [List.zip_cons_cons, List.filterMap_cons]
    have h0 : ((y, u) :: ns.zip us).lookup y = some u := by simp [List.lookup]
    rw [h0]
    simp only [Option.map_some]
    congr 1
    have : (ns.filterMap fun n => (((y, u) :: ns.zip us).lookup n).map (n, ·)) = (ns.filterMap fun n => ((ns.zip us).lookup n).map (n, ·)) := by
      refine fm_congr fun n hnm => ?_
      have hb : (n == y) = false := by
        have : n ≠ y := fun e => hn.1 (e ▸ hnm)
        simpa using this
      rw [List.lookup_cons, hb]
    rw [this, zip_filterMap hn.2 (by simpa using hl)]
noncomputable def plainPar (p : Arguments) : Bool := p.posonlyargs.isEmpty && p.vararg.isNone && p.kwonlyargs.isEmpty && p.kwarg.isNone
theorem bind_plain {fd : FuncData} {vs : List Value} (hp : plainPar fd.params = true) (hdf : fd.defaults = .none) (hn : (fd.params.args.map (·.arg)).Nodup) (hl : vs.length = (fd.params.args.map (·.arg)).length) :
    bindArgs fd ⟨vs, []⟩ = pure ((fd.params.args.map (·.arg)).zip vs) := by
  have hmiss : ((fd.params.args.map (·.arg)).filter fun n => (((fd.params.args.map (·.arg)).zip vs).lookup n).isNone) = [] := by
    rw [List.filter_eq_nil_iff]
    intro n hnm
    have := zip_lookup (v := .none) hl.symm hnm
    rw [Option.isSome_iff_ne_none] at this
    simpa [Option.isNone_iff_eq_none] using this
  have hz := zip_filterMap hn hl.symm
  clear hn
  unfold plainPar at hp
  simp only [Bool.and_eq_true, List.isEmpty_iff, Option.isNone_iff_eq_none] at hp
  obtain ⟨⟨⟨h1, h2⟩, h3⟩, h4⟩ := hp
  obtain ⟨nm, qn, ⟨po, as, va, ko, kd, kw, de⟩, bd, sc, gl, cl, dfs, kdf, _, _, _, _, _, _⟩ := fd
  dsimp only at *
  subst h1 h2 h3 h4 hdf
  unfold bindArgs
  dsimp only [List.map_nil, List.nil_append, List.append_nil]
  generalize as.map (·.arg) = N at *
  have hc : ¬ ((decide (vs.length > N.length) && (none : Option Arg).isNone) = true) := by
    rw [decide_eq_false (by rw [hl]; exact Nat.lt_irrefl _)]
    exact Bool.false_ne_true
  rw [List.forIn_nil, pure_bind, show seqItems? Value.none = pure none from rfl, pure_bind]
  dsimp only [List.map_nil, List.nil_append, List.append_nil, Option.getD_none, Array.toList_empty, List.drop_nil, List.length_nil, Nat.sub_zero, List.filter_nil]
  have hm : List.map (fun x : Arg => x.arg) ([] : List Arg) = [] := rfl
  rw [hm, List.nil_append, if_neg hc]
  simp only [List.drop_nil, List.length_nil, Nat.sub_zero, List.take_length, hmiss, List.zip_nil_right, List.forIn_nil, pure_bind, List.append_nil, hz, List.isEmpty_nil, Bool.not_true, Bool.false_eq_true, if_false]
noncomputable def bodyAt (K : Frag) (f : Addr) : List Stmt := match K.lookup f with
  | some ⟨_, _, .func fd, _⟩ => match fd.body with
    | .stmts body => body
    | _ => []
  | _ => []
noncomputable def defb (K : Frag) (f : Addr) (names nm : List Str) (b : CSs) : Bool :=
  match K.lookup f with
  | some ⟨_, _, .func fd, _⟩ =>
    (match fd.body with
    | .stmts body => wfSs b nm fd.scope body
    | _ => false) && fd.globals == mainGlobals && fd.closure.isEmpty && fd.builtins == builtinsNs && (match fd.defaults with | .none => true | _ => false) &&
      plainPar fd.params && (names == fd.params.args.map (·.arg)) && codeIn K fd.code fd.qualname && fnb fd.scope names nm
  | _ => false
theorem GDef.of {G : Gx} {f : Addr} {names nm : List Str} {b : CSs} (h : defb G.K f names nm b = true) (hre : reSs b nm (bodyAt G.K f) = bodyAt G.K f) : GDef G f names nm b [] := by
  unfold defb at h
  unfold bodyAt at hre
  cases hk : G.K.lookup f with
  | none => rw [hk] at h; cases h
  | some ob =>
    obtain ⟨oc, od, dat, osl⟩ := ob
    rw [hk] at h hre
    cases dat with
    | func fd =>
      simp only [Bool.and_eq_true, beq_iff_eq, List.isEmpty_iff] at h hre
      obtain ⟨⟨⟨⟨⟨⟨⟨⟨h1, h2⟩, h3⟩, h4⟩, h5⟩, h6⟩, h7⟩, h8⟩, h9⟩ := h
      obtain ⟨name, qual, params, bd, scope, gl, cl, df, kd, doc, pm, an, cd, ct, bi⟩ := fd
      cases bd with
      | stmts body =>
        simp only at h1 h2 h3 h4 h5 h6 h7 h8 h9 hre
        subst h2 h3 h4
        cases df with
        | none =>
          refine ⟨name, qual, params, body, scope, .none, kd, doc, pm, cd, ct, oc, an, od, osl, [], hk, h8, ?_, rfl, h9, h1, hre⟩
          intro s vs X hl
          refine BindsTo.of_eq ?_
          rw [List.append_nil]
          have hnn : names.Nodup := by
            unfold fnb at h9
            simp only [Bool.and_eq_true, beq_iff_eq, decide_eq_true_eq] at h9
            rw [h9.1.1.1.1.1.1.1]
            exact (List.take_sublist _ _).nodup h9.1.1.1.1.1.1.2
          subst h7
          exact bind_plain (fd := fnOf name qual params body scope .none kd doc pm an cd ct) h6 rfl hnn (by simpa using hl)
        | _ => cases h5
      | _ => cases h1
    | _ => cases h
noncomputable def isSomeRef (f : Addr) : Option (Option Value) → Bool
  | some (some (.ref g)) => g == f
  | _ => false
theorem isSomeRef_eq {f : Addr} {o : Option (Option Value)} (h : isSomeRef f o = true) : o = some (some (.ref f)) := by
  unfold isSomeRef at h
  split at h
  · rw [beq_iff_eq.mp h]
  · cases h
noncomputable def isSomeNone : Option (Option Value) → Bool
  | some none => true
  | _ => false
theorem isSomeNone_eq {o : Option (Option Value)} (h : isSomeNone o = true) : o = some none := by
  unfold isSomeNone at h
  split at h
  · rfl
  · cases h
noncomputable def fnk (K : Frag) (g : Str) (f : Addr) : Bool := isSomeRef f (nsIn K mainGlobals g) && keepIn K (.ref f)
theorem GFn.of {G : Gx} {g : Str} {f : Addr} (h : fnk G.K g f = true) : GFn G g f := by
  unfold fnk at h
  simp only [Bool.and_eq_true] at h
  exact ⟨isSomeRef_eq h.1, h.2⟩
noncomputable def clsk (K : Frag) (g : Str) (C fI : Addr) : Bool := fnk K g C && makesIn K C && isSomeRef fI (findIn K (.ref C) "__init__") && isFn K (.ref fI)
theorem GCls.of {G : Gx} {g : Str} {C fI : Addr} (h : clsk G.K g C fI = true) : GCls G g C fI := by
  unfold clsk at h
  simp only [Bool.and_eq_true] at h
  exact ⟨GFn.of h.1.1.1, h.1.1.2, isSomeRef_eq h.1.2, h.2⟩
noncomputable def attk (K : Frag) (C : Addr) (name : Str) : Bool := plainGet K C name && hasDictIn K C && isSomeNone (findIn K (.ref C) name)
theorem GAtt.of {G : Gx} {C : Addr} {name : Str} (h : attk G.K C name = true) : GAtt G C name := by
  unfold attk at h
  simp only [Bool.and_eq_true] at h
  exact ⟨h.1.1, h.1.2, isSomeNone_eq h.2⟩
noncomputable def stok (K : Frag) (C : Addr) (name : Str) : Bool :=
  (match findIn K (.ref C) "__setattr__" with | some (some (.builtin x)) => x == "object.__setattr__" | _ => false) && plainOver K C && isSomeNone (takerIn K C name) && hasDictIn K C
theorem GSto.of {G : Gx} {C : Addr} {name : Str} (h : stok G.K C name = true) : GSto G C name := by
  unfold stok at h
  simp only [Bool.and_eq_true] at h
  obtain ⟨⟨⟨h1, h2⟩, h3⟩, h4⟩ := h
  split at h1
  · rename_i x hx
    rw [beq_iff_eq] at h1
    subst h1
    exact ⟨hx, h2, isSomeNone_eq h3, h4⟩
  · cases h1
noncomputable def mthk (K : Frag) (C : Addr) (name : Str) (f : Addr) : Bool := plainGet K C name && isSomeRef f (findIn K (.ref C) name) && isFn K (.ref f) && keepIn K (.ref f)
theorem GMth.of {G : Gx} {C : Addr} {name : Str} {f : Addr} (h : mthk G.K C name f = true) : GMth G C name f := by
  unfold mthk at h
  simp only [Bool.and_eq_true] at h
  exact ⟨h.1.1.1, isSomeRef_eq h.1.1.2, h.1.2, h.2⟩
section
variable {c : Cx} {m : ML} {H : MH} {G : Gx} {d : Nat}
theorem swapped_not {v : PySem.Expr} {ts : List PySem.Expr} {n : Nat} {p : Pos} {env : Env} (h : notTuple v = true) : swappedStores [.Tuple ts n p] v env = pure none := by
  cases v <;> first | (cases h; done) | rfl
theorem TS.assignT (ok : Ok G c d) (hfm : c.fm = none) {is : List Nat} {a : CE} {post : Fl → ML → MH → Prop} (h : TE c m a H (fun v H1 => ∃ vs, Parts H1 is v vs ∧ post .next (setAll is vs m) H1)) : TS c m (.assignT is a) H post := by
  intro st hs
  obtain ⟨hs, h5⟩ := and2 hs
  obtain ⟨h1, h2, h3, h4⟩ := and4 hs
  have h2 := of_decide_eq_true h2
  intro mr ρ s Q E S l kk kx
  have ht : notTuple (reE a c.nm (ex 0 st)) = true := by
    cases a with
    | tup _ => cases h3
    | tst t => have h2 := tst_of h5; cases t <;> first | rfl | cases h2
    | _ => rfl
  refine wpAny_Assign_stores ?_ (show swapsWith (reE a c.nm (ex 0 st)) (some (.Tuple (reNames (atNm c.nm is) (kids (ex 1 st))) (numOf (ex 1 st)) (ex 1 st).pos)) st.pos.line c.env = pure false from swaps_not (comp_re h5 (by simpa using h4))) (swapped_not ht)
  refine h _ h5 mr ρ s _ E S l ?_ kx
  rintro t v vr H1 hp1 tk1 ⟨vs, hp, hq⟩ hv S1
  show wpAny _ _ (PySem.assign (.Tuple (reNames (atNm c.nm is) (kids (ex 1 st))) (numOf (ex 1 st)) (ex 1 st).pos) c.env vr) _ _ _
  refine assignTup ok hfm (is := is) (s := { s with heap := hp1, toks := tk1 }) h1 h2 hv hp S1 l.mono ?_
  intro mr' h' tk S2 l2
  exact kk t .next .next _ _ H1 h' tk hq rfl S2 l2
end
noncomputable def Ext (H H' : MH) : Prop := ∀ (i : Nat) (o : MO), H[i]? = some o → H'[i]? = some o
theorem Ext.refl (H : MH) : Ext H H := fun _ _ h => h
theorem Ext.trans {A B C : MH} (h : Ext A B) (g : Ext B C) : Ext A C := fun i o e => g i o (h i o e)
theorem get_app {H t : MH} {i : Nat} {o : MO} (h : H[i]? = some o) : (H ++ t)[i]? = some o := by
  rw [List.getElem?_append_left (List.getElem?_eq_some_iff.mp h).1]; exact h
theorem Ext.app {H H' : MH} (h : Ext H H') (t : MH) : Ext H (H' ++ t) := fun i o e => get_app (h i o e)
theorem Ext.set {H H' : MH} {a : Nat} {o : MO} (h : Ext H H') (ha : H.length ≤ a) : Ext H (H'.set a o) := fun i x e => by
  have := (List.getElem?_eq_some_iff.mp e).1
  rw [List.getElem?_set_ne (by lia)]
  exact h i x e
theorem Ext.len {H H' : MH} (h : Ext H H') : H.length ≤ H'.length := by
  rcases Nat.eq_zero_or_pos H.length with e | e
  · lia
  · have h1 : H[H.length - 1]? = some (H[H.length - 1]'(by lia)) := List.getElem?_eq_getElem (by lia)
    have := (List.getElem?_eq_some_iff.mp (h _ _ h1)).1
    lia
theorem Ext.ins {H H' : MH} (h : Ext H H') {i k : Nat} {C : Addr} {fs : List (Str × MV)} (x : Ins H i C k fs) : Ins H' i C k fs := ⟨h _ _ x.1, h _ _ x.2⟩
theorem get_set {H : MH} {a : Nat} {o x : MO} (h : H[a]? = some x) : (H.set a o)[a]? = some o := by
  rw [List.getElem?_set_self']; rw [h]; rfl
theorem get_end {H : MH} {o : MO} : (H ++ [o])[H.length]? = some o := by simp
theorem mulL {a b : Int} (h1 : -(2 ^ 64) < a) (h2 : a < 2 ^ 64) : IntMulOk a b := IntMulOk.of_left (intBits_le_64 h1 h2)
theorem mulR {a b : Int} (h1 : -(2 ^ 64) < b) (h2 : b < 2 ^ 64) : IntMulOk a b := IntMulOk.of_right (intBits_le_64 h1 h2)
theorem CL.use {G : Gx} {prog : Program} {w : World} {d d' : Nat} {f : Addr} {args : List MV} {H : MH} {p q : MV → MH → Prop} {xp : Addr → List MV → MH → Prop} (h : CL G prog w d f args H p xp) (hd : d ≤ d') (hp : ∀ v H', p v H' → q v H') :
    CL G prog w d' f args H q xp := (h.le hd).mono hp fun _ _ _ x => x
theorem set_end {H : MH} {a b : MO} : (H ++ [a]).set H.length b = H ++ [b] := by simp
noncomputable def isSomeInt (i : Int) : Option (Option Value) → Bool
  | some (some (.int j _)) => i == j
  | _ => false
theorem isSomeInt_eq {i : Int} {o : Option (Option Value)} (h : isSomeInt i o = true) : ∃ t, o = some (some (.int i t)) := by
  unfold isSomeInt at h
  split at h
  · rw [beq_iff_eq.mp h]; exact ⟨_, rfl⟩
  · cases h
theorem bb_len : bootBuiltins "len" = some (.builtin "len") := by kernel_rfl
theorem bb_max : bootBuiltins "max" = some (.builtin "max") := by kernel_rfl
theorem bb_min : bootBuiltins "min" = some (.builtin "min") := by kernel_rfl
theorem bb_sum : bootBuiltins "sum" = some (.builtin "sum") := by kernel_rfl
theorem bb_list : bootBuiltins "list" = some (.type "list") := by kernel_rfl
structure Bs (G : Gx) : Prop where
  len : nsIn G.K mainGlobals "len" = some none
  max : nsIn G.K mainGlobals "max" = some none
  min : nsIn G.K mainGlobals "min" = some none
  sum : nsIn G.K mainGlobals "sum" = some none
  list : nsIn G.K mainGlobals "list" = some none
  range : nsIn G.K mainGlobals "range" = some none
  reversed : nsIn G.K mainGlobals "reversed" = some none
  type : nsIn G.K mainGlobals "type" = some none
  int : nsIn G.K mainGlobals "int" = some none
  str : nsIn G.K mainGlobals "str" = some none
theorem intL_get {ns : List Int} {i : Nat} {v : MV} (h : (intL ns)[i]? = some v) : ∃ a, v = .int a ∧ ns[i]? = some a := by
  unfold intL at h
  rw [List.getElem?_map] at h
  cases e : ns[i]? with
  | none => rw [e] at h; cases h
  | some a => rw [e] at h; cases h; exact ⟨a, rfl, rfl⟩
theorem take_fold {α β : Type} {f : β → α → β} {b : β} {l : List α} {i : Nat} {a : α} (h : l[i]? = some a) : (l.take (i + 1)).foldl f b = f ((l.take i).foldl f b) a := by
  rw [List.take_add_one, h, List.foldl_append]
  rfl
noncomputable def bmV : List Value := [.type "ValueError", .type "Exception", .type "BaseException", .type "object"]
noncomputable def excK (K : Frag) (g : Str) (C : Addr) : Bool := isSomeRef C (nsIn K mainGlobals g) && excIn K C bmV "ValueError.__new__"
theorem GExc.of {G : Gx} {g : Str} {C : Addr} (h : excK G.K g C = true) : GExc G g C bmV := by
  unfold excK at h
  simp only [Bool.and_eq_true] at h
  exact ⟨isSomeRef_eq h.1, "ValueError", "ValueError.__new__", "ValueError.__init__", bmV, "ValueError", "ValueError.__new__", "ValueError.__init__", PySem.F.excBase_ValueError, by decide +kernel, PySem.F.excBase_ValueError, h.2⟩
theorem bb_VE : bootBuiltins "ValueError" = some (.type "ValueError") := by kernel_rfl
theorem st_VE : isSubtype (.type "ValueError") (.type "BaseException") = pure true := by kernel_rfl
theorem st_VT : isSubtype (.type ((Manifest.find? "ValueError").elim "type" fun y => y.metatype)) (.type "tuple") = pure false := by kernel_rfl
theorem takesV {G : Gx} {g : Str} {C : Addr} (h : GExc G g C bmV) (hg : nsIn G.K mainGlobals "ValueError" = some none) : Takes G "ValueError" C :=
  ⟨g, bmV, h, .inl ⟨"ValueError", hg, bb_VE, by decide, st_VE, st_VT, by decide +kernel⟩⟩
noncomputable def Scr (c : Cx) (a : Addr) (ns : List Int) : Prop := ∃ vs : List Value, c.h₀.IsList a vs.toArray ∧ IntsAre vs ns ∧ ns.length ≤ 63
theorem ints_len {vs : List Value} {ns : List Int} (h : IntsAre vs ns) : vs.length = ns.length := by
  induction h with
  | nil => rfl
  | cons _ _ _ ih => simp [ih]
theorem ints_at {vs : List Value} {ns : List Int} (h : IntsAre vs ns) : ∀ n, n < ns.length → ∃ t, vs[n]? = some (.int (ns.getD n 0) t) := by
  induction h with
  | nil => intro n hn; simp at hn
  | cons i t _ ih =>
    intro n hn
    cases n with
    | zero => exact ⟨t, rfl⟩
    | succ n => exact ih n (by simpa using hn)
theorem Scr.len {c : Cx} {H : MH} {a : Addr} {ns : List Int} (S : Scr c a ns) {post : MV → MH → Prop} (h : post (.int ns.length) H) : BC c (.builtin "len") [.glob a] H post := by
  obtain ⟨vs, h1, h2, h3⟩ := S
  have := ints_len h2
  exact BC.lenG h1 (by lia) (by rw [this]; exact h)
theorem Scr.at {c : Cx} {H : MH} {a : Addr} {ns : List Int} (S : Scr c a ns) {n : Int} (h0 : 0 ≤ n) (h : n < ns.length) : Sq c H (.glob a) (.int n) (.int (ns.getD n.toNat 0)) := by
  obtain ⟨vs, h1, h2, h3⟩ := S
  have hl := ints_len h2
  obtain ⟨t, ht⟩ := ints_at h2 n.toNat (by lia)
  exact Sq.glob h1 h0 (by lia) ht
noncomputable def ScrG (G : Gx) (a : Addr) (ns : List Int) : Prop := ∀ h, G.ex h → ∃ vs : List Value, h.IsList a vs.toArray ∧ IntsAre vs ns ∧ ns.length ≤ 63
theorem ScrG.scr {G : Gx} {a : Addr} {ns : List Int} {c : Cx} {d : Nat} (S : ScrG G a ns) (ok : Ok G c d) : Scr c a ns := S _ ok.ex
section
variable {c : Cx} {m : ML} {H : MH} {G : Gx} {d : Nat}
theorem Sq.tup {a : Nat} {xs : List MV} {n : Nat} {v : MV} (ha : H[a]? = some (.tup xs)) (hn : xs.length ≤ 1000000) (hv : xs[n]? = some v) : Sq c H (.ref a) (.int (n : Nat)) v := by
  rintro mr ρ s Q E _ _ base sl hsl S ⟨x, hx, rfl⟩ ⟨u, rfl⟩ k
  obtain ⟨vs, hvs, T⟩ := S.tup ha hx
  obtain ⟨vr, e1, e2⟩ := hvs.get hv
  have hlt := (List.getElem?_eq_some_iff.mp hv).1
  have hlen : vs.toArray.size = xs.length := by rw [List.size_toArray, hvs.length]
  refine tail_any T.typeIs slot_tuple_getitem.lookup (getItem_tuple (j := n) T (by lia) (by lia) (by rw [hlen]; unfold seqIndex?; simp; lia) (by simpa using e1) (k vr _ e2)) (subscripted_of (nm := []) (sc := c.sc) hsl _ _)
theorem BC.lenI {a : Nat} {ns : List Int} {post : MV → MH → Prop} (ha : H[a]? = some (.list (intL ns))) (hsz : ns.length ≤ 1000000) (h : post (.int ns.length) H) : BC c (.builtin "len") [.ref a] H post :=
  BC.len ha (by rw [List.length_map]; exact hsz) (by rw [List.length_map]; exact h)
theorem intL_at {ns : List Int} {n : Nat} (h : n < ns.length) : (intL ns)[n]? = some (.int (ns.getD n 0)) := by
  rw [List.getElem?_map, List.getElem?_eq_getElem h, List.getD_eq_getElem?_getD, List.getElem?_eq_getElem h]
  rfl
theorem Sq.listI {a : Nat} {ns : List Int} {n : Int} (ha : H[a]? = some (.list (intL ns))) (hsz : ns.length ≤ 1000000) (h0 : 0 ≤ n) (h1 : n < ns.length) : Sq c H (.ref a) (.int n) (.int (ns.getD n.toNat 0)) :=
  Sq.list ha ⟨by rw [List.length_map]; exact hsz, .inl ⟨h0, intL_at (by lia)⟩⟩
theorem intL_set {ns : List Int} {n : Nat} {v : Int} : (intL ns).set n (.int v) = intL (ns.set n v) := by
  unfold intL
  rw [List.map_set]
theorem Uq.listI {a : Nat} {ns : List Int} {n v : Int} (ha : H[a]? = some (.list (intL ns))) (hsz : ns.length ≤ 1000000) (h0 : 0 ≤ n) (h1 : n < ns.length) : Uq c H (.ref a) (.int n) (.int v) (H.set a (.list (intL (ns.set n.toNat v)))) := by
  rw [← intL_set]
  exact Uq.list ha (by rw [List.length_map]; exact hsz) h0 (by rw [List.length_map]; exact h1)
theorem TE.len (ok : Ok G c d) (b : Bs G) {a : CE} {post : MV → MH → Prop} (h : TE c m a H (fun v H1 => BC c (.builtin "len") [v] H1 post)) : TE c m (.call "len" (.cons a .nil)) H post :=
  TE.bc ok b.len bb_len (by decide) (TEs.cons (h.mono fun _ _ x => TEs.nil x))
theorem TE.max (ok : Ok G c d) (b : Bs G) {a e : CE} {post : MV → MH → Prop} (h : TE c m a H (fun v H1 => TE c m e H1 fun u H2 => BC c (.builtin "max") [v, u] H2 post)) : TE c m (.call "max" (.cons a (.cons e .nil))) H post :=
  TE.bc ok b.max bb_max (by decide) (TEs.cons (h.mono fun _ _ x => TEs.cons (x.mono fun _ _ y => TEs.nil y)))
theorem TE.min (ok : Ok G c d) (b : Bs G) {a e : CE} {post : MV → MH → Prop} (h : TE c m a H (fun v H1 => TE c m e H1 fun u H2 => BC c (.builtin "min") [v, u] H2 post)) : TE c m (.call "min" (.cons a (.cons e .nil))) H post :=
  TE.bc ok b.min bb_min (by decide) (TEs.cons (h.mono fun _ _ x => TEs.cons (x.mono fun _ _ y => TEs.nil y)))
theorem TE.sum (ok : Ok G c d) (b : Bs G) {a : CE} {post : MV → MH → Prop} (h : TE c m a H (fun v H1 => BC c (.builtin "sum") [v] H1 post)) : TE c m (.call "sum" (.cons a .nil)) H post :=
  TE.bc ok b.sum bb_sum (by decide) (TEs.cons (h.mono fun _ _ x => TEs.nil x))
theorem TE.blist (ok : Ok G c d) (b : Bs G) {a : CE} {post : MV → MH → Prop} (h : TE c m a H (fun v H1 => BC c (.type "list") [v] H1 post)) : TE c m (.call "list" (.cons a .nil)) H post :=
  TE.tc ok b.list bb_list (by decide) (TEs.cons (h.mono fun _ _ x => TEs.nil x))
theorem Cq.neI (ok : Ok G c d) {a b : Nat} {ns ms : List Int} (ha : H[a]? = some (.list (intL ns))) (hb : H[b]? = some (.list (intL ms))) : Cq c .NotEq H (.ref a) (.ref b) (!decide (ns = ms)) := by
  rintro mr ρ s Q E _ _ S ⟨x, hx, rfl⟩ ⟨y, hy, rfl⟩ k
  obtain ⟨vs, n, hv, N⟩ := S.list ha hx
  obtain ⟨us, n2, hu, N2⟩ := S.list hb hy
  exact ke_ne_ints (isList_of N) (isList_of N2) (intL_are hv) (intL_are hu) (by have := ok.uni; lia) (k s.heap s.toks S)
end
theorem bb_str : bootBuiltins "str" = some (.type "str") := by kernel_rfl
theorem CL.use2 {G : Gx} {prog : Program} {w : World} {d d' : Nat} {f : Addr} {args : List MV} {H : MH} {p q : MV → MH → Prop} {xp xq : Addr → List MV → MH → Prop} (h : CL G prog w d f args H p xp) (hd : d ≤ d') (hp : ∀ v H', p v H' → q v H')
    (hx : ∀ C as H', xp C as H' → xq C as H') : CL G prog w d' f args H q xq := (h.le hd).mono hp hx
section
variable {c : Cx} {m : ML} {H : MH} {G : Gx} {d : Nat}
theorem Cq.inI {a : Nat} {ns : List Int} {k : Int} (ha : H[a]? = some (.list (intL ns))) : Cq c .In H (.int k) (.ref a) (ns.any (· == k)) := by
  rintro mr ρ s Q E _ _ S ⟨t, rfl⟩ ⟨x, hx, rfl⟩ kk
  obtain ⟨vs, n, hv, N⟩ := S.list ha hx
  exact in_list_ints (isList_of N) (intL_are hv) (kk s.heap s.toks S)
theorem TT.cqIn {a b : CE} {post : Bool → MH → Prop} (h : TE c m a H (fun x H1 => TE c m b H1 (fun y H2 => ∃ r, Cq c .In H2 x y r ∧ post r H2))) : TT c m (.cmp .In a b) H post := TT.cq h
theorem TT.cqNI {a b : CE} {post : Bool → MH → Prop} (h : TE c m a H (fun x H1 => TE c m b H1 (fun y H2 => ∃ r, Cq c .NotIn H2 x y r ∧ post r H2))) : TT c m (.cmp .NotIn a b) H post := TT.cq h
end
abbrev strL (ys : List Str) : List MV := ys.map MV.str
theorem strL_are {ρ : List Addr} : ∀ {ys : List Str} {vs : List Value}, VRs ρ (strL ys) vs → StrsAre vs ys
  | [], _, h => by rw [show _ = [] from h]; exact .nil
  | n :: ns, _, ⟨v, r, e, ⟨t, h1⟩, h2⟩ => by
    subst e h1
    exact .cons _ _ (strL_are h2)
noncomputable def isSomeStr (x : Str) : Option (Option Value) → Bool
  | some (some (.str y _)) => x == y
  | _ => false
theorem isSomeStr_eq {x : Str} {o : Option (Option Value)} (h : isSomeStr x o = true) : ∃ t, o = some (some (.str x t)) := by
  unfold isSomeStr at h
  split at h
  · rw [beq_iff_eq.mp h]; exact ⟨_, rfl⟩
  · cases h
section
variable {c : Cx} {m : ML} {H : MH} {G : Gx} {d : Nat}
theorem Sq.str {x : Str} {n : Int} {ch : Nat} (h0 : 0 ≤ n) (hl : x.length ≤ 1000000) (hc : x.cps[n.toNat]? = some ch) : Sq c H (.str x) (.int n) (.str ⟨#[ch]⟩) := by
  rintro mr ρ s Q E _ _ base sl hsl S ⟨t, rfl⟩ ⟨u, rfl⟩ k
  have hlt : n.toNat < x.cps.size := (Array.getElem?_eq_some_iff.mp hc).1
  have hx : x.length = x.cps.size := rfl
  refine tail_any (typeIs_str s x t) PyProof.Rows.slot_str_getitem.lookup (PyProof.Rows.getItem_str (c := ch) ?_ ?_ (k _ _ ⟨_, rfl⟩)) (subscripted_of (nm := []) (sc := c.sc) hsl _ _)
  · have h1 : ¬ n < -(2 ^ 63 : Int) := by lia
    have h2 : ¬ n ≥ 2 ^ 63 := by lia
    rw [decide_eq_false h1, decide_eq_false h2]
    rfl
  · unfold seqIndex?
    have h1 : ¬ n < 0 := by lia
    have h2 : (decide (0 ≤ n) && decide (n < (x.length : Int))) = true := by simp; lia
    simp only [if_neg h1, h2, if_true]
    exact hc
theorem Cq.ninS {ch : Nat} {x : Str} : Cq c .NotIn H (.str ⟨#[ch]⟩) (.str x) (!decide (ch ∈ x.cps.toList)) := by
  rintro mr ρ s Q E _ _ S ⟨t, rfl⟩ ⟨u, rfl⟩ k
  refine PyProof.Rows.notIn_str ?_
  rw [empty_one]
  simpa using k s.heap s.toks S
theorem Cq.inLS {a : Nat} {ys : List Str} {x : Str} (ha : H[a]? = some (.list (strL ys))) : Cq c .In H (.str x) (.ref a) (ys.any (· == x)) := by
  rintro mr ρ s Q E _ _ S ⟨t, rfl⟩ ⟨y, hy, rfl⟩ k
  obtain ⟨vs, n, hv, N⟩ := S.list ha hy
  exact in_list_strs (isList_of N) (strL_are hv) (k s.heap s.toks S)
theorem NX.str {I : Addr} {x : Str} {t : Tok} {ρ : List Addr} (hh : c.A.handled = none) :
    NX c I (fun i o => o.cls = .type "str_ascii_iterator" ∧ o.data = .fields #[.str x t, .int i 0]) (fun _ => True) (fun i _ => (x.cps[i]?).map fun ch => .str ⟨#[ch]⟩) ρ := by
  rintro i oI mr t' H s Q E ⟨hc, hd⟩ _ S k1 k2
  have hit : s.heap.IsStrIter I "str_ascii_iterator" x t i := ⟨oI, S.itr.1, hc, hd⟩
  cases hx : x.cps[i]? with
  | some ch =>
    refine wpAny_pyNext_ascii_item hit hx fun h' hit' hs' => ?_
    obtain ⟨o', ho', hc', hd'⟩ := hit'
    exact k1 (.str ⟨#[ch]⟩) _ o' h' _ (by show Option.map _ x.cps[i]? = _; rw [hx]; rfl) ⟨_, rfl⟩ ⟨hc', hd'⟩ ho' fun b o hb e => (hs'.2 b hb).trans e
  | none => exact wpAny_pyNext_ascii_end hh hit hx fun h' he' => k2 h' s.toks (by show Option.map _ x.cps[i]? = _; rw [hx]; rfl) fun b o hb e => he' b o hb e
theorem TS.forS (ok : Ok G c d) (hfm : c.fm = none) {i0 : Nat} {it : CE} {b : CSs} {post : Fl → ML → MH → Prop}
    (h : TE c m it H (fun v H1 => ∃ x : Str, v = .str x ∧ x.cps.all (· < 128) = true ∧ ∃ (J : Nat → ML → MH → Prop), J 0 m H1 ∧
      (∀ i m1 H2 ch xt, J i m1 H2 → x.cps[i]? = some ch → TB (c.wx xt) (setAll [i0] [.str ⟨#[ch]⟩] m1) b H2 (fun f m2 H3 => match f with
        | .next => J (i + 1) m2 H3
        | .cont => J (i + 1) m2 H3
        | .brk => post .next m2 H3
        | .ret v => post (.ret v) m2 H3)) ∧
      (∀ m1 H2, J x.cps.size m1 H2 → post .next m1 H2))) : TS c m (.for [i0] it b) H post := by
  intro st hs
  obtain ⟨h0, h1, h2, h3⟩ := and4 hs
  have h0 := ne_of h0
  intro mr ρ s Q E S lr k kx
  refine wpAny_For ?_ (folded_of h2)
  refine h _ h2 mr ρ s _ E S lr ?_ kx
  rintro t l lv H1 hp1 tk1 ⟨x, rfl, hasc, J, hJ0, turn, done⟩ ⟨u, rfl⟩ S1
  refine wpAny_pyIter_ascii hasc ?_
  refine forCore (post := post) ok hfm h0 h1 h3 (NX.str (x := x) (t := u) ok.hh) (fun i o hT => ⟨_, _, hT.1, hT.2, rfl⟩) (fun i m2 H2 => i ≤ x.cps.size ∧ J i m2 H2) x.cps.size ⟨Nat.zero_le _, hJ0⟩ (fun i m2 H2 q => ⟨q.1, trivial⟩) ?_ ?_ (mr := mr) ⟨rfl, rfl⟩ (S1.addX rfl) lr.mono ?_ kx.mono
  · intro i m1 H2 v xt q hi
    cases hx : x.cps[i]? with
    | none => replace hi : Option.map _ x.cps[i]? = _ := hi; rw [hx] at hi; cases hi
    | some ch =>
      replace hi : Option.map _ x.cps[i]? = _ := hi
      rw [hx] at hi
      cases hi
      have hlt := (Array.getElem?_eq_some_iff.mp hx).1
      refine ⟨[.str ⟨#[ch]⟩], rfl, (turn i m1 H2 ch xt q.2 hx).mono fun f m2 H3 hf => ?_⟩
      cases f with
      | next => exact ⟨hlt, hf⟩
      | cont => exact ⟨hlt, hf⟩
      | brk => exact hf
      | ret v => exact hf
  · intro i m1 H2 q hi
    cases hx : x.cps[i]? with
    | some ch => replace hi : Option.map _ x.cps[i]? = _ := hi; rw [hx] at hi; cases hi
    | none =>
      have : i = x.cps.size := Nat.le_antisymm q.1 (Array.getElem?_eq_none_iff.mp hx)
      exact done m1 H2 (this ▸ q.2)
  · intro t' f fr m' mr' H' h' tk hp hf S' l'
    rw [List.append_assoc] at hf S' l'
    exact k (t ++ t') f fr m' mr' H' h' tk hp hf S' l'
end
section
variable {c : Cx} {m : ML} {H : MH} {G : Gx} {d : Nat}
noncomputable def TO (c : Cx) (m : ML) (a : CO) (H : MH) (post : Option Int → MH → Prop) : Prop := match a with
  | .none => post Option.none H
  | .some e => TE c m e H (fun v H1 => ∃ i, v = .int i ∧ post (some i) H1)
theorem part_of {a : CO} {e : PySem.Expr} {post : Option Int → MH → Prop} {mr : Str → Option Value} {ρ : List Addr} {s : Shared} {Q : Value → Shared → Prop} {E : Value → Shared → Prop} (h : TO c m a H post) (he : wfO a c.nm c.sc e = true) (S : St c mr ρ H s.heap) (l : LR mr c.nm ρ m) (kx : Kx c ρ s E)
    (k : ∀ t o vr H' h' tk, post o H' → IsPart vr o → St c mr (ρ ++ t) H' h' → Q vr { s with heap := h', toks := tk }) : wpAny (model c.prog c.w) c.A (evalPart (reO a c.nm e) c.env) Q E s := by
  cases a with
  | none => exact wpAny_pure (k [] Option.none _ H s.heap s.toks h .none (nil_of S))
  | some a =>
    refine h _ he mr ρ s _ E S l ?_ kx
    rintro t _ _ H1 h1 tk1 ⟨i, rfl, hp⟩ ⟨u, rfl⟩ S1
    exact k t (some i) _ H1 h1 tk1 hp (.int i u) S1
theorem TE.sliceQ {o : CE} {lo hi : CO} {post : MV → MH → Prop} (h : TE c m o H (fun x H1 => TO c m lo H1 (fun l H2 => TO c m hi H2 (fun u H3 =>
      ∀ (mr : Str → Option Value) (ρ : List Addr) (s : Shared) (Q : Value → Shared → Prop) (E : Value → Shared → Prop) (vo vl vu : Value) (base : PySem.Expr) (lw up : Option PySem.Expr) (p : Pos), St c mr ρ H3 s.heap → VR ρ x vo → IsPart vl l → IsPart vu u →
        (∀ t v vr H' h' tk, post v H' → VR (ρ ++ t) v vr → St c mr (ρ ++ t) H' h' → Q vr { s with heap := h', toks := tk }) →
        wpAny (model c.prog c.w) c.A (subscriptTail base (.Slice lw up Option.none p) vo (.ref s.heap.objs.size)) Q E { s with heap := s.heap.push { cls := .type "slice", data := .fields #[vl, vu, .none] } })))) : TE c m (.slice o lo hi) H post := by
  intro e he
  obtain ⟨h1, h2, h3⟩ := and3 he
  intro mr ρ s Q E S l k kx
  refine Subscript_ ?_
  refine h _ h1 mr ρ s _ E S l ?_ kx
  intro t x xr H1 hp1 tk1 h12 hx S1
  refine wpAny_Slice ?_
  refine part_of (s := { s with heap := hp1, toks := tk1 }) h12 h2 S1 l.mono kx.mono ?_
  intro t2 lo' vl H2 hp2 tk2 h23 pl S2
  refine part_of (s := { s with heap := hp2, toks := tk2 }) h23 h3 S2 l.mono.mono kx.mono.mono ?_
  intro t3 hi' vu H3 hp3 tk3 h34 pu S3
  refine wpAny_pure ?_
  refine h34 mr _ { s with heap := hp3, toks := tk3 } _ E _ vl vu _ _ _ _ S3 hx.mono.mono pl pu ?_
  intro t4 v vr H' h' tk hp hv S4
  have e1 : ρ ++ t ++ t2 ++ t3 ++ t4 = ρ ++ (t ++ (t2 ++ (t3 ++ t4))) := by simp only [List.append_assoc]
  rw [e1] at hv S4
  exact k _ v vr H' h' tk hp hv S4
end
theorem VRs.take {ρ : List Addr} : ∀ {ms : List MV} {vs : List Value} (k : Nat), VRs ρ ms vs → VRs ρ (ms.take k) (vs.take k)
  | [], _, k, h => by rw [show _ = [] from h]; cases k <;> rfl
  | _ :: _, _, 0, h => rfl
  | _ :: _, _, k + 1, ⟨v, r, e, h1, h2⟩ => by subst e; exact ⟨v, r.take k, rfl, h1, h2.take k⟩
theorem VRs.drop {ρ : List Addr} : ∀ {ms : List MV} {vs : List Value} (k : Nat), VRs ρ ms vs → VRs ρ (ms.drop k) (vs.drop k)
  | [], _, k, h => by rw [show _ = [] from h]; cases k <;> rfl
  | _ :: _, _, 0, h => h
  | _ :: _, _, k + 1, ⟨v, r, e, h1, h2⟩ => by subst e; exact h2.drop k
section
variable {c : Cx} {m : ML} {H : MH} {G : Gx} {d : Nat}
theorem slice_made {mr : Str → Option Value} {ρ : List Addr} {s : Shared} {Q : Value → Shared → Prop} {E : Value → Shared → Prop} {a : Nat} {xs ys : List MV} {vo vl vu : Value} {lo hi : Option Int} {base : PySem.Expr} {lw up : Option PySem.Expr} {p : Pos} {post : MV → MH → Prop}
    (S : St c mr ρ H s.heap) (ho : VR ρ (.ref a) vo) (ha : H[a]? = some (.list xs)) (hl : xs.length ≤ 1000000) (pl : IsPart vl lo) (pu : IsPart vu hi) (hy : ∀ vs : List Value, VRs ρ xs vs → VRs ρ ys (slicePick vs.toArray lo hi none).toList) (hp : post (.ref H.length) (H ++ [.list ys]))
    (k : ∀ t v vr H' h' tk, post v H' → VR (ρ ++ t) v vr → St c mr (ρ ++ t) H' h' → Q vr { s with heap := h', toks := tk }) :
    wpAny (model c.prog c.w) c.A (subscriptTail base (.Slice lw up Option.none p) vo (.ref s.heap.objs.size)) Q E { s with heap := s.heap.push { cls := .type "slice", data := .fields #[vl, vu, .none] } } := by
  obtain ⟨x, hx, rfl⟩ := ho
  obtain ⟨vs, n, hvs, No⟩ := S.list ha hx
  have L := isList_of No
  have S1 : St c mr ρ H (s.heap.push { cls := .type "slice", data := .fields #[vl, vu, .none] }) := S.grow fun b o q => Heap.get?_push_of_some _ q
  refine S1.op fun ml xt os F a1 a2 a3 N a5 back => ?_
  refine tail_any (Heap.IsList.typeIs (s := { s with heap := s.heap.push { cls := .type "slice", data := .fields #[vl, vu, .none] } }) (L.push _)) slot_list_getitem.lookup (wpAny_getItem_list_slice (L.push _) (Heap.IsSliceOf.new ..) pl pu .none (by simp) ?_ (by rw [List.size_toArray, hvs.length]; exact Nat.le_trans hl (by decide))) rfl
  have N1 := News.push F N { cls := .type "list", data := .seq (slicePick vs.toArray lo hi none) } rfl
  have e1 : (slicePick vs.toArray lo hi none) = (slicePick vs.toArray lo hi none).toList.toArray := by simp
  exact k [_] (.ref H.length) _ _ _ _ hp ⟨_, last_get a2, rfl⟩ (back _ _ _ (Led.alloc a1 a2 a3 a5 (F.push _) N1 (fun p hp => Nat.ne_of_lt (Heap.lt_size (N p hp).1)) ⟨_, 0, (hy vs hvs).mono, by rw [← e1]⟩))
theorem TE.sliceTo {o hi : CE} {post : MV → MH → Prop} (h : TE c m o H (fun x H1 => TE c m hi H1 (fun u H2 => ∃ j : Int, u = .int j ∧ ∃ a xs, x = .ref a ∧ H2[a]? = some (.list xs) ∧ xs.length ≤ 1000000 ∧ 0 ≤ j ∧ post (.ref H2.length) (H2 ++ [.list (xs.take j.toNat)])))) :
    TE c m (.slice o .none (.some hi)) H post := by
  refine TE.sliceQ (h.mono fun x H1 h1 => (show TO c m .none H1 _ from TE.mono (a := hi) h1 fun u H2 ⟨j, e2, h3⟩ => ⟨j, e2, ?_⟩))
  obtain ⟨a, xs, rfl, ha, hl, h0, hp⟩ := h3
  intro mr ρ s Q E vo vl vu base lw up p S ho pl pu k
  refine slice_made S ho ha hl pl pu (ys := xs.take j.toNat) (fun vs hvs => ?_) hp k
  have e2 : slicePick vs.toArray Option.none (Option.some j) Option.none = (vs.toArray.toList.take j.toNat).toArray := by have := slicePick_upto' vs.toArray j.toNat; rwa [Int.toNat_of_nonneg h0] at this
  rw [e2]
  simpa using hvs.take j.toNat
theorem TE.sliceFrom {o lo : CE} {post : MV → MH → Prop} (h : TE c m o H (fun x H1 => TE c m lo H1 (fun u H2 => ∃ j : Int, u = .int j ∧ ∃ a xs, x = .ref a ∧ H2[a]? = some (.list xs) ∧ xs.length ≤ 1000000 ∧ 0 ≤ j ∧ post (.ref H2.length) (H2 ++ [.list (xs.drop j.toNat)])))) :
    TE c m (.slice o (.some lo) .none) H post := by
  refine TE.sliceQ (h.mono fun x H1 h1 => (show TO c m (.some lo) H1 _ from TE.mono (a := lo) h1 fun u H2 ⟨j, e2, h3⟩ => ⟨j, e2, ?_⟩))
  show TO c m .none H2 _
  obtain ⟨a, xs, rfl, ha, hl, h0, hp⟩ := h3
  intro mr ρ s Q E vo vl vu base lw up p S ho pl pu k
  refine slice_made S ho ha hl pl pu (ys := xs.drop j.toNat) (fun vs hvs => ?_) hp k
  have e2 : slicePick vs.toArray (Option.some j) Option.none Option.none = (vs.toArray.toList.drop j.toNat).toArray := by have := slicePick_from' vs.toArray j.toNat; rwa [Int.toNat_of_nonneg h0] at this
  rw [e2]
  simpa using hvs.drop j.toNat
end
noncomputable def k_need_number_nm : List Str := ["value", "least", "most", "what"]
noncomputable def k_need_number : CSs := (.cons (.ite (.or (.cons (.cmp .IsNot (.call "type" (.cons (.loc 0) .nil)) (.glob "int")) (.cons (.cmp .Lt (.loc 0) (.loc 1)) (.cons (.cmp .Gt (.loc 0) (.loc 2)) .nil)))) (.cons (.raise "ShareError" (.cons (.bin .Add (.bin .Add (.bin .Add (.str "no ") (.loc 3)) (.str ": ")) (.call "shown" (.cons (.loc 0) .nil))) .nil))
  .nil) .nil)
  (.cons (.ret (.loc 0))
  .nil))
noncomputable def k_is_prime_nm : List Str := ["n", "k"]
noncomputable def k_is_prime : CSs := (.cons (.ite (.cmp .Lt (.loc 0) (.int 2)) (.cons (.ret (.bool false))
  .nil) .nil)
  (.cons (.assign 1 (.int 2))
  (.cons (.while (.cmp .LtE (.bin .Mult (.loc 1) (.loc 1)) (.loc 0)) (.cons (.ite (.cmp .Eq (.bin .Mod (.loc 0) (.loc 1)) (.int 0)) (.cons (.ret (.bool false))
  .nil) .nil)
  (.cons (.assign 1 (.bin .Add (.loc 1) (.int 1)))
  .nil)))
  (.cons (.ret (.bool true))
  .nil))))
noncomputable def k_Field_init_nm : List Str := ["self", "prime"]
noncomputable def k_Field_init : CSs := (.cons (.expr (.call "need_number" (.cons (.loc 1) (.cons (.int 2) (.cons (.glob "GREATEST") (.cons (.str "prime") .nil))))))
  (.cons (.ite (.not (.plain (.call "is_prime" (.cons (.loc 1) .nil)))) (.cons (.raise "ShareError" (.cons (.bin .Add (.str "no prime: ") (.call "str" (.cons (.loc 1) .nil))) .nil))
  .nil) .nil)
  (.cons (.setAttr (.loc 0) "prime" (.loc 1))
  .nil)))
noncomputable def k_Field_power_nm : List Str := ["self", "a", "n", "out"]
noncomputable def k_Field_power : CSs := (.cons (.assign 3 (.int 1))
  (.cons (.assign 1 (.bin .Mod (.loc 1) (.attr (.loc 0) "prime")))
  (.cons (.while (.cmp .Gt (.loc 2) (.int 0)) (.cons (.ite (.plain (.bin .BitAnd (.loc 2) (.int 1))) (.cons (.assign 3 (.bin .Mod (.bin .Mult (.loc 3) (.loc 1)) (.attr (.loc 0) "prime")))
  .nil) .nil)
  (.cons (.assign 1 (.bin .Mod (.bin .Mult (.loc 1) (.loc 1)) (.attr (.loc 0) "prime")))
  (.cons (.assign 2 (.bin .RShift (.loc 2) (.int 1)))
  .nil))))
  (.cons (.ret (.loc 3))
  .nil))))
noncomputable def k_Field_inverse_nm : List Str := ["self", "a"]
noncomputable def k_Field_inverse : CSs := (.cons (.ite (.cmp .Eq (.bin .Mod (.loc 1) (.attr (.loc 0) "prime")) (.int 0)) (.cons (.raise "ShareError" (.cons (.str "nought has no inverse") .nil))
  .nil) .nil)
  (.cons (.ret (.meth (.loc 0) "power" (.cons (.loc 1) (.cons (.bin .Sub (.attr (.loc 0) "prime") (.int 2)) .nil))))
  .nil))
noncomputable def k_Field_over_nm : List Str := ["self", "a", "b"]
noncomputable def k_Field_over : CSs := (.cons (.ret (.bin .Mod (.bin .Mult (.loc 1) (.meth (.loc 0) "inverse" (.cons (.loc 2) .nil))) (.attr (.loc 0) "prime")))
  .nil)
noncomputable def k_value_nm : List Str := ["field", "row", "x", "out", "a"]
noncomputable def k_value : CSs := (.cons (.assign 3 (.int 0))
  (.cons (.for [4] (.call "reversed" (.cons (.loc 1) .nil)) (.cons (.assign 3 (.bin .Mod (.bin .Add (.bin .Mult (.loc 3) (.loc 2)) (.loc 4)) (.attr (.loc 0) "prime")))
  .nil))
  (.cons (.ret (.loc 3))
  .nil)))
noncomputable def k_trimmed_nm : List Str := ["row", "out"]
noncomputable def k_trimmed : CSs := (.cons (.assign 1 (.call "list" (.cons (.loc 0) .nil)))
  (.cons (.while (.and (.cons (.cmp .Gt (.call "len" (.cons (.loc 1) .nil)) (.int 0)) (.cons (.cmp .Eq (.sub (.loc 1) (.neg (.int 1))) (.int 0)) .nil))) (.cons (.expr (.meth (.loc 1) "pop" .nil))
  .nil))
  (.cons (.ret (.loc 1))
  .nil)))
noncomputable def k_plus_nm : List Str := ["field", "one", "two", "size"]
noncomputable def k_plus : CSs := (.cons (.assign 3 (.call "max" (.cons (.call "len" (.cons (.loc 1) .nil)) (.cons (.call "len" (.cons (.loc 2) .nil)) .nil))))
  (.cons (.ret (.comp (.bin .Mod (.bin .Add (.ite (.cmp .Lt (.loc 4) (.call "len" (.cons (.loc 1) .nil))) (.sub (.loc 1) (.loc 4)) (.int 0)) (.ite (.cmp .Lt (.loc 4) (.call "len" (.cons (.loc 2) .nil))) (.sub (.loc 2) (.loc 4)) (.int 0))) (.attr (.loc 0) "prime")) ["k"] (.call "range" (.cons (.loc 3) .nil)) .nil))
  .nil))
noncomputable def k_product_nm : List Str := ["field", "one", "two", "out", "i", "j"]
noncomputable def k_product : CSs := (.cons (.ite (.or (.cons (.cmp .Eq (.call "len" (.cons (.loc 1) .nil)) (.int 0)) (.cons (.cmp .Eq (.call "len" (.cons (.loc 2) .nil)) (.int 0)) .nil))) (.cons (.ret (.list .nil))
  .nil) .nil)
  (.cons (.assign 3 (.bin .Mult (.list (.cons (.int 0) .nil)) (.bin .Sub (.bin .Add (.call "len" (.cons (.loc 1) .nil)) (.call "len" (.cons (.loc 2) .nil))) (.int 1))))
  (.cons (.for [4] (.call "range" (.cons (.call "len" (.cons (.loc 1) .nil)) .nil)) (.cons (.for [5] (.call "range" (.cons (.call "len" (.cons (.loc 2) .nil)) .nil)) (.cons (.setItem (.loc 3) (.bin .Add (.loc 4) (.loc 5)) (.bin .Mod (.bin .Add (.sub (.loc 3) (.bin .Add (.loc 4) (.loc 5))) (.bin .Mult (.sub (.loc 1) (.loc 4)) (.sub (.loc 2) (.loc 5)))) (.attr (.loc 0) "prime")))
  .nil))
  .nil))
  (.cons (.ret (.loc 3))
  .nil))))
noncomputable def k_through_nm : List Str := ["field", "points", "out", "i", "row", "lower", "j", "factor"]
noncomputable def k_through : CSs := (.cons (.assign 2 (.list .nil))
  (.cons (.for [3] (.call "range" (.cons (.call "len" (.cons (.loc 1) .nil)) .nil)) (.cons (.assign 4 (.list (.cons (.int 1) .nil)))
  (.cons (.assign 5 (.int 1))
  (.cons (.for [6] (.call "range" (.cons (.call "len" (.cons (.loc 1) .nil)) .nil)) (.cons (.ite (.cmp .NotEq (.loc 6) (.loc 3)) (.cons (.assign 4 (.call "product" (.cons (.loc 0) (.cons (.loc 4) (.cons (.list (.cons (.bin .Mod (.neg (.sub (.sub (.loc 1) (.loc 6)) (.int 0))) (.attr (.loc 0) "prime")) (.cons (.int 1) .nil))) .nil)))))
  (.cons (.assign 5 (.bin .Mod (.bin .Mult (.loc 5) (.bin .Sub (.sub (.sub (.loc 1) (.loc 3)) (.int 0)) (.sub (.sub (.loc 1) (.loc 6)) (.int 0)))) (.attr (.loc 0) "prime")))
  .nil)) .nil)
  .nil))
  (.cons (.assign 7 (.meth (.loc 0) "over" (.cons (.sub (.sub (.loc 1) (.loc 3)) (.int 1)) (.cons (.loc 5) .nil))))
  (.cons (.assign 2 (.call "plus" (.cons (.loc 0) (.cons (.loc 2) (.cons (.comp (.bin .Mod (.bin .Mult (.loc 8) (.loc 7)) (.attr (.loc 0) "prime")) ["a"] (.loc 4) .nil) .nil)))))
  .nil))))))
  (.cons (.ret (.call "trimmed" (.cons (.loc 2) .nil)))
  .nil)))
set_option compiler.extract_closed false
/- one step: walk_at "s" -/
set_option hygiene false in
local macro_rules | `(tactic| walk_at "s") => `(tactic| with_reducible first
  | refine TB.cons ?_
  | refine TB.nil ?_
  | refine TS.ret ?_
  | refine TS.assign (by assumption) (by assumption) (by with_unfolding_all rfl) ?_
  | refine TS.expr (by assumption) ?_
  | refine TS.ite ?_
  | refine TS.setAttr (by assumption) ?_
  | refine TS.setItem ?_
  | refine TE.loc (by assumption) (by with_unfolding_all rfl) ?_
  | refine TE.int ?_
  | refine TE.str ?_
  | refine TE.bool ?_
  | refine TE.none ?_
  | refine TE.op (by assumption) ?_
  | refine TE.attr (by assumption) ?_
  | refine TE.pop ?_
  | refine TE.append ?_
  | refine TE.meth (by assumption) ?_
  | refine TE.meth0 (by assumption) ?_
  | refine TE.sq ?_
  | refine TE.len (by assumption) (by assumption) ?_
  | refine TE.max (by assumption) (by assumption) ?_
  | refine TE.min (by assumption) (by assumption) ?_
  | refine TE.sum (by assumption) (by assumption) ?_
  | refine TE.blist (by assumption) (by assumption) ?_
  | refine TE.bstr (by assumption) (by assumption) ?_
  | refine TE.call (by assumption) (by assumption) ?_
  | refine TE.ite ?_
  | refine TE.list ?_
  | refine TE.tup ?_
  | refine TE.tst ?_
  | refine TE.negI ?_
  | refine TEs.nil ?_
  | refine TEs.cons ?_
  | refine TT.not ?_
  | refine TT.and ?_
  | refine TT.or ?_
  | refine TTs.andNil ?_
  | refine TTs.orNil ?_
  | refine TTs.and ?_
  | refine TTs.or ?_
  | refine TT.cqNI ?_
  | refine TT.cqIn ?_
  | refine TT.cmp ?_
  | refine TT.cmp2 ?_
  | refine TV.cmp2 ?_
  | refine TT.plain ?_
  | refine BC.lenI (by assumption) (by lia) ?_
  | refine Scr.len (by assumption) ?_
  | refine ⟨_, NegI.mk, ?_⟩
  | refine ⟨_, BinI.add, ?_⟩
  | refine ⟨_, BinI.sub, ?_⟩
  | refine ⟨_, BinI.band, ?_⟩
  | refine ⟨_, BinI.shr (by decide), ?_⟩
  | refine ⟨_, BinI.modP (by lia), ?_⟩
  | refine ⟨_, BinI.shl (by decide) (by decide) (by decide), ?_⟩
  | refine ⟨_, BinI.pow (by decide) (by decide) (by decide), ?_⟩
  | refine ⟨_, BinI.mul (mulL (by lia) (by lia)), ?_⟩
  | refine ⟨_, BinI.mul (mulR (by lia) (by lia)), ?_⟩
  | refine ⟨_, _, _, _, rfl, by assumption, by with_unfolding_all exact Nat.le_of_ble_eq_true rfl, by assumption, ?_⟩
  | refine ⟨_, _, _, _, _, rfl, by (first | assumption | exact Ext.ins (by assumption) (by assumption)), by with_unfolding_all rfl, by assumption, ?_⟩
  | fail)
set_option hygiene false in
local macro_rules | `(tactic| walk_at "w") => `(tactic| repeat walk_at "s")
noncomputable def isP (n : Int) : Prop := 2 ≤ n ∧ ∀ k : Int, 2 ≤ k → k * k ≤ n → n % k ≠ 0
theorem sub0 (n : Nat) : ((n : Int) - 0).toNat = n := by rw [Int.sub_zero, Int.toNat_natCast]
theorem le0 {n : Nat} (h : n ≤ 1000000) : ((n : Int) - 0).toNat ≤ 1000000 := by rw [sub0]; exact h
theorem addN (a b : Nat) : ((a : Int) + (b : Int)).toNat = a + b := by rw [← Int.natCast_add, Int.toNat_natCast]
theorem TB.gen3 {c : Cx} {m : ML} {a : CSs} {H : MH} {q : Fl → ML → MH → Prop} (h : ∀ p : Fl → ML → MH → Prop, (∀ f m H, q f m H → p f m H) → TB c m a H p) : TB c m a H q := h q (fun _ _ _ h => h)
theorem is_prime_cl {G : Gx} {prog : Program} {w : World} {f : Addr} {n : Int} {H : MH} {xp : Addr → List MV → MH → Prop} (D : GDef G f ["n"] k_is_prime_nm k_is_prime []) (hn : n < 2 ^ 60) :
    CL G prog w 1 f [.int n] H (fun v H' => ∃ b, v = .bool b ∧ (b = true ↔ isP n) ∧ H' = H) xp := by
  refine D.cl rfl ?_
  intro c e1 e2 ok hfm hi hnm hX
  show TB c [some (.int n), none] _ _ _
  unfold k_is_prime
  walk_at "w"
  refine ⟨_, rfl, fun h => ?_, fun h => ?_⟩
  · have h : n < 2 := by simpa using h
    walk_at "w"
    exact ⟨false, rfl, by simp [isP]; lia, rfl⟩
  · have h : 2 ≤ n := by simpa using h
    walk_at "w"
    refine TS.while ok hfm (fun k m1 H1 => ∃ j : Int, 2 ≤ j ∧ j ≤ n ∧ (n - j).toNat = k ∧ m1 = [some (.int n), some (.int j)] ∧ H1 = H ∧ ∀ i : Int, 2 ≤ i → i < j → n % i ≠ 0) (n - 2).toNat ⟨2, by lia, by lia, rfl, rfl, rfl, fun i h1 h2 => by lia⟩ ?_
    rintro k m1 H1 ⟨j, h1, h2, hk, rfl, rfl, hno⟩
    walk_at "w"
    refine ⟨_, rfl, fun h => ?_, fun h => ?_⟩
    · refine TB.gen3 fun PP hPP => ?_
      have h : j * j ≤ n := by simpa using h
      have hjn : j < n := by
        have : j * 2 ≤ j * j := Int.mul_le_mul_of_nonneg_left h1 (by lia)
        lia
      walk_at "w"
      refine ⟨_, rfl, fun h => ?_, fun h => ?_⟩
      · have h0 : n % j = 0 := by simpa using h
        walk_at "w"
        refine hPP _ _ _ ⟨false, rfl, ?_, rfl⟩
        constructor
        · intro e; cases e
        · intro q; exact absurd h0 (q.2 j h1 ‹_›)
      · have h0 : n % j ≠ 0 := by simpa using h
        walk_at "w"
        refine hPP _ _ _ ⟨(n - (j + 1)).toNat, by lia, j + 1, by lia, by lia, rfl, rfl, rfl, fun i q1 q2 => ?_⟩
        by_cases e : i = j
        · subst e; exact h0
        · exact hno i q1 (by lia)
    · have h : n < j * j := by simpa using h
      walk_at "w"
      refine ⟨true, rfl, ⟨fun _ => ⟨by assumption, fun k q1 q2 => ?_⟩, fun _ => rfl⟩, rfl⟩
      by_cases e : k < j
      · exact hno k q1 e
      · exfalso
        have h5 : j * j ≤ k * k := Int.mul_le_mul (by lia) (by lia) (by lia) (by lia)
        lia
theorem pow_mod (a p : Int) : ∀ n : Nat, (a % p) ^ n % p = a ^ n % p
  | 0 => by simp
  | n + 1 => by rw [Int.pow_succ, Int.pow_succ, Int.mul_emod, pow_mod a p n, Int.emod_emod_of_dvd _ (Int.dvd_refl p), ← Int.mul_emod]
theorem pow_odd (x : Int) (q : Nat) : x ^ (2 * q + 1) = x * (x * x) ^ q := by
  rw [Int.pow_succ, Int.pow_mul, Int.mul_comm]
  congr 2
  grind
theorem pow_even (x : Int) (q : Nat) : x ^ (2 * q) = (x * x) ^ q := by
  rw [Int.pow_mul]
  congr 1
  grind
theorem step_odd {p out x k : Int} (hk : 0 < k) (ho : k % 2 ≠ 0) : (out * x % p) * (x * x % p) ^ (k / 2).toNat % p = out * x ^ k.toNat % p := by
  have e : k.toNat = 2 * (k / 2).toNat + 1 := by lia
  rw [e, pow_odd, Int.mul_emod, pow_mod, Int.emod_emod_of_dvd _ (Int.dvd_refl p), ← Int.mul_emod]
  congr 1
  rw [Int.mul_assoc]
theorem step_even {p out x k : Int} (hk : 0 < k) (ho : k % 2 = 0) : out * (x * x % p) ^ (k / 2).toNat % p = out * x ^ k.toNat % p := by
  have e : k.toNat = 2 * (k / 2).toNat := by lia
  rw [e, pow_even, Int.mul_emod, pow_mod, ← Int.mul_emod]
theorem need_number_cl {G : Gx} {prog : Program} {w : World} {f : Addr} {v lo hi : Int} {t : Str} {H : MH} {xp : Addr → List MV → MH → Prop} (D : GDef G f ["value", "least", "most", "what"] k_need_number_nm k_need_number [])
    (bs : Bs G) (h1 : lo ≤ v) (h2 : v ≤ hi) :
    CL G prog w 1 f [.int v, .int lo, .int hi, .str t] H (fun r H' => r = .int v ∧ H' = H) xp := by
  refine D.cl rfl ?_
  intro c e1 e2 ok hfm hint hnm hX
  show TB c [some (.int v), some (.int lo), some (.int _), some (.str t)] _ _ _
  unfold k_need_number
  refine TB.cons (TS.ite (TT.or (TTs.or (TT.tyAny (N := "int") (T' := "int") ok bs.type (.inr ⟨rfl, rfl⟩) bs.int rfl (by decide) ?_))))
  walk_at "w"
  refine ⟨"int", rfl, fun h => (by cases h), fun _ => ?_⟩
  walk_at "w"
  refine ⟨_, rfl, fun h => (by simp at h; lia), fun _ => ?_⟩
  walk_at "w"
  refine ⟨_, rfl, fun h => (by simp at h; lia), fun _ => ?_⟩
  walk_at "w"
  refine ⟨fun h => (by cases h), fun _ => ?_⟩
  walk_at "w"
  exact ⟨rfl, rfl⟩
theorem power_cl {G : Gx} {prog : Program} {w : World} {f C : Addr} {i kk : Nat} {a n p : Int} {H : MH} {xp : Addr → List MV → MH → Prop} (D : GDef G f ["self", "a", "n"] k_Field_power_nm k_Field_power [])
    (ga : GAtt G C "prime") (hF : Ins H i C kk [("prime", .int p)]) (hp : 2 ≤ p) (hp2 : p < 2 ^ 60) (hn : 0 ≤ n) :
    CL G prog w 1 f [.ref i, .int a, .int n] H (fun v H' => v = .int (a ^ n.toNat % p) ∧ H' = H) xp := by
  refine D.cl rfl ?_
  intro c e1 e2 ok hfm hint hnm hX
  show TB c [some (.ref i), some (.int a), some (.int n), none] _ _ _
  unfold k_Field_power
  walk_at "w"
  refine TS.while ok hfm (fun k m1 H1 => ∃ x e out : Int, 0 ≤ x ∧ x < p ∧ 0 ≤ e ∧ 0 ≤ out ∧ out < p ∧ e.toNat = k ∧ m1 = [some (.ref i), some (.int x), some (.int e), some (.int out)] ∧ H1 = H ∧ out * x ^ e.toNat % p = a ^ n.toNat % p) n.toNat
    ⟨a % p, n, 1, Int.emod_nonneg _ (by lia), Int.emod_lt_of_pos _ (by lia), hn, by lia, by lia, rfl, rfl, rfl, ?_⟩ ?_
  · rw [Int.one_mul, pow_mod]
  rintro k m1 H1 ⟨x, e, out, x1, x2, h0, o1, o2, hk, rfl, rfl, hinv⟩
  walk_at "w"
  refine ⟨_, rfl, fun h => ?_, fun h => ?_⟩
  · refine TB.gen3 fun PP hPP => ?_
    have h : 0 < e := by simpa using h
    have hsh : e.fdiv (2 ^ (1 : Int).toNat) = e / 2 := by
      rw [show (2 : Int) ^ (1 : Int).toNat = 2 from rfl, Int.fdiv_eq_ediv_of_nonneg _ (by lia)]
    walk_at "w"
    refine ⟨_, rfl, fun q => ?_, fun q => ?_⟩
    · have q : e % 2 ≠ 0 := by rw [bitAnd_m1] at q; simpa using q
      walk_at "w"
      rw [hsh]
      exact hPP _ _ _ ⟨(e / 2).toNat, by lia, x * x % p, e / 2, out * x % p, Int.emod_nonneg _ (by lia), Int.emod_lt_of_pos _ (by lia), by lia, Int.emod_nonneg _ (by lia), Int.emod_lt_of_pos _ (by lia), rfl, rfl, rfl, (step_odd h q).trans hinv⟩
    · have q : e % 2 = 0 := by rw [bitAnd_m1] at q; simpa using q
      walk_at "w"
      rw [hsh]
      exact hPP _ _ _ ⟨(e / 2).toNat, by lia, x * x % p, e / 2, out, Int.emod_nonneg _ (by lia), Int.emod_lt_of_pos _ (by lia), by lia, o1, o2, rfl, rfl, rfl, (step_even h q).trans hinv⟩
  · have h : e ≤ 0 := by simpa using h
    have he : e = 0 := by lia
    subst he
    walk_at "w"
    refine ⟨?_, rfl⟩
    rw [← hinv]
    simp only [Int.toNat_zero, Int.pow_zero, Int.mul_one]
    rw [Int.emod_eq_of_lt o1 o2]
    rfl
structure FieldK (G : Gx) (C : Addr) : Prop where
  cls : ∃ fI, GCls G "Field" C fI ∧ GDef G fI ["self", "prime"] k_Field_init_nm k_Field_init []
  nn : ∃ f, GFn G "need_number" f ∧ GDef G f ["value", "least", "most", "what"] k_need_number_nm k_need_number []
  ip : ∃ f, GFn G "is_prime" f ∧ GDef G f ["n"] k_is_prime_nm k_is_prime []
  att : GAtt G C "prime"
  sto : GSto G C "prime"
  gr : ∃ t, nsIn G.K mainGlobals "GREATEST" = some (some (.int 1048576 t))
  bs : Bs G
theorem field_init_cl {G : Gx} {prog : Program} {w : World} {f C : Addr} {i kk : Nat} {p : Int} {H : MH} {xp : Addr → List MV → MH → Prop} (F : FieldK G C) (D : GDef G f ["self", "prime"] k_Field_init_nm k_Field_init [])
    (hi : Ins H i C kk []) (hp : isP p) (hp2 : p ≤ 1048576) : CL G prog w 2 f [.ref i, .int p] H (fun v H' => v = .none ∧ H' = H.set kk (.ns [("prime", .int p)])) xp := by
  obtain ⟨fN, gN, dN⟩ := F.nn
  obtain ⟨fP, gP, dP⟩ := F.ip
  obtain ⟨t, gr⟩ := F.gr
  have h2 := hp.1
  refine D.cl rfl ?_
  intro c e1 e2 ok hfm hint hnm hX
  subst e1 e2
  show TB c [some (.ref i), some (.int p)] _ _ _
  unfold k_Field_init
  walk_at "w"
  refine TE.glob ok (v := .int 1048576) gr ⟨t, rfl⟩ ?_
  walk_at "w"
  refine (need_number_cl dN F.bs h2 hp2).use (by decide) ?_
  rintro _ _ ⟨rfl, rfl⟩
  walk_at "w"
  refine (is_prime_cl dP (by lia)).use (by decide) ?_
  rintro _ _ ⟨b, rfl, hb, rfl⟩
  have hb' : b = true := hb.mpr hp
  subst hb'
  refine ⟨true, rfl, fun h => (by cases h), fun _ => ?_⟩
  walk_at "w"
  refine ⟨_, _, _, _, rfl, hi, by decide, F.sto, ?_⟩
  walk_at "w"
  exact ⟨rfl, rfl⟩
theorem TE.field {c : Cx} {m : ML} {H : MH} {G : Gx} {d : Nat} {C : Addr} (ok : Ok G c d) (hd : 3 ≤ d) (F : FieldK G C) {e : CE} {post : MV → MH → Prop}
    (h : TE c m e H (fun v H1 => ∃ p, v = .int p ∧ isP p ∧ p ≤ 1048576 ∧ post (.ref (H1.length + 1)) (H1 ++ [.ns [("prime", .int p)]] ++ [.inst C H1.length]))) : TE c m (.call "Field" (.cons e .nil)) H post := by
  obtain ⟨fI, gI, dI⟩ := F.cls
  refine TE.new (d := 2) (ok.le hd) gI (TEs.cons (h.mono ?_))
  rintro _ H1 ⟨p, rfl, hp, hp2, hpost⟩
  refine TEs.nil ?_
  refine (field_init_cl (kk := H1.length) F dI ⟨?_, ?_⟩ hp hp2).use (Nat.le_refl _) ?_
  · simp
  · simp
  · rintro _ _ ⟨rfl, rfl⟩
    refine ⟨rfl, ?_⟩
    have : (H1 ++ [MO.ns []] ++ [MO.inst C H1.length]).set H1.length (.ns [("prime", .int p)]) = H1 ++ [.ns [("prime", .int p)]] ++ [.inst C H1.length] := by simp
    rw [this]
    exact hpost
theorem inverse_cl {G : Gx} {prog : Program} {w : World} {f fP C : Addr} {i kk : Nat} {a p : Int} {H : MH} {xp : Addr → List MV → MH → Prop} (D : GDef G f ["self", "a"] k_Field_inverse_nm k_Field_inverse [])
    (DP : GDef G fP ["self", "a", "n"] k_Field_power_nm k_Field_power []) (gm : GMth G C "power" fP)
    (ga : GAtt G C "prime") (hF : Ins H i C kk [("prime", .int p)]) (hp : 2 ≤ p) (hp2 : p < 2 ^ 60) (ha : a % p ≠ 0) :
    CL G prog w 2 f [.ref i, .int a] H (fun v H' => v = .int (a ^ (p - 2).toNat % p) ∧ H' = H) xp := by
  refine D.cl rfl ?_
  intro c e1 e2 ok hfm hint hnm hX
  subst e1 e2
  show TB c [some (.ref i), some (.int a)] _ _ _
  unfold k_Field_inverse
  walk_at "w"
  refine ⟨_, rfl, fun h => ?_, fun h => ?_⟩
  · skip
    simp at h
    lia
  · walk_at "w"
    exact (power_cl DP ga hF hp hp2 (by lia)).use (Nat.le_refl _) fun _ _ x => x
theorem over_cl {G : Gx} {prog : Program} {w : World} {f fI fP C : Addr} {i kk : Nat} {a b p : Int} {H : MH} {xp : Addr → List MV → MH → Prop} (D : GDef G f ["self", "a", "b"] k_Field_over_nm k_Field_over [])
    (DI : GDef G fI ["self", "a"] k_Field_inverse_nm k_Field_inverse []) (gi : GMth G C "inverse" fI) (DP : GDef G fP ["self", "a", "n"] k_Field_power_nm k_Field_power []) (gm : GMth G C "power" fP)
    (ga : GAtt G C "prime") (hF : Ins H i C kk [("prime", .int p)]) (hp : 2 ≤ p) (hp2 : p < 2 ^ 60) (hb : b % p ≠ 0) :
    CL G prog w 3 f [.ref i, .int a, .int b] H (fun v H' => v = .int (a * (b ^ (p - 2).toNat % p) % p) ∧ H' = H) xp := by
  refine D.cl rfl ?_
  intro c e1 e2 ok hfm hint hnm hX
  subst e1 e2
  show TB c [some (.ref i), some (.int a), some (.int b)] _ _ _
  unfold k_Field_over
  walk_at "w"
  refine (inverse_cl DI DP gm ga hF hp hp2 hb).use (Nat.le_refl _) ?_
  rintro _ _ ⟨rfl, rfl⟩
  have h1 := Int.emod_nonneg (b ^ (p - 2).toNat) (b := p) (by lia)
  have h2 := Int.emod_lt_of_pos (b ^ (p - 2).toNat) (b := p) (by lia)
  refine ⟨_, BinI.mul (mulR (by lia) (by lia)), ?_⟩
  walk_at "w"
  exact ⟨rfl, rfl⟩
noncomputable def pval (p : Int) (row : List Int) (x : Int) : Int := row.foldr (fun a acc => (acc * x + a) % p) 0
theorem pval_rev (p : Int) (row : List Int) (x : Int) : pval p row x = row.reverse.foldl (fun acc a => (acc * x + a) % p) 0 := by
  unfold pval
  rw [List.foldl_reverse]
theorem value_cl {G : Gx} {prog : Program} {w : World} {f C : Addr} {i kk r : Nat} {x p : Int} {row : List Int} {H : MH} {xp : Addr → List MV → MH → Prop} (D : GDef G f ["field", "row", "x"] k_value_nm k_value [])
    (bs : Bs G) (ga : GAtt G C "prime") (hF : Ins H i C kk [("prime", .int p)]) (hr : H[r]? = some (.list (intL row))) (hp : 2 ≤ p) (hp2 : p < 2 ^ 60) :
    CL G prog w 1 f [.ref i, .ref r, .int x] H (fun v H' => v = .int (pval p row x) ∧ H' = H) xp := by
  refine D.cl rfl ?_
  intro c e1 e2 ok hfm hint hnm hX
  show TB c [some (.ref i), some (.ref r), some (.int x), none, none] _ _ _
  unfold k_value
  walk_at "w"
  refine TS.forRev ok hfm bs.reversed ?_
  walk_at "w"
  refine ⟨r, _, rfl, hr, fun j m1 H2 => ∃ out o4, m1 = [some (.ref i), some (.ref r), some (.int x), some (.int out), o4] ∧ H2 = H ∧ 0 ≤ out ∧ out < p ∧ out = (row.reverse.take j).foldl (fun acc a => (acc * x + a) % p) 0, ⟨0, none, rfl, rfl, by lia, by lia, rfl⟩, ?_, ?_, ?_⟩
  · rintro _ _ _ ⟨_, _, _, rfl, _⟩
    exact hr
  · rintro j m1 H2 v xt ⟨out, o4, rfl, rfl, o1, o2, o3⟩ hv
    rw [← List.map_reverse] at hv
    obtain ⟨a, rfl, ha⟩ := intL_get hv
    refine ⟨[.int a], ?_, ?_⟩
    · exact rfl
    · have okx := ok.wx xt
      have hfx : (c.wx xt).fm = none := hfm
      show TB (c.wx xt) [some (.ref i), some (.ref r), some (.int x), some (.int out), some (.int a)] _ _ _
      refine TB.gen3 fun PP hPP => ?_
      walk_at "w"
      exact hPP _ _ _ ⟨_, _, rfl, rfl, Int.emod_nonneg _ (by lia), Int.emod_lt_of_pos _ (by lia), by rw [take_fold ha, ← o3]⟩
  · rintro m1 H2 ⟨out, o4, rfl, rfl, o1, o2, o3⟩
    walk_at "w"
    refine ⟨?_, rfl⟩
    rw [List.length_map, ← List.length_reverse, List.take_length] at o3
    rw [pval_rev, ← o3]
    rfl
noncomputable def trim (l : List Int) : List Int := (l.reverse.dropWhile (· == 0)).reverse
theorem trim_zero (l : List Int) : trim (l ++ [0]) = trim l := by simp [trim]
theorem trim_last {l : List Int} {a : Int} (h : a ≠ 0) : trim (l ++ [a]) = l ++ [a] := by simp [trim, h]
theorem trimmed_cl {G : Gx} {prog : Program} {w : World} {f : Addr} {r : Nat} {row : List Int} {H : MH} {xp : Addr → List MV → MH → Prop} (D : GDef G f ["row"] k_trimmed_nm k_trimmed [])
    (bs : Bs G) (hr : H[r]? = some (.list (intL row))) (hl : row.length ≤ 1000000) :
    CL G prog w 1 f [.ref r] H (fun v H' => v = .ref H.length ∧ H' = H ++ [.list (intL (trim row))]) xp := by
  refine D.cl rfl ?_
  intro c e1 e2 ok hfm hint hnm hX
  show TB c [some (.ref r), none] _ _ _
  unfold k_trimmed
  walk_at "w"
  refine BC.list hr (by rw [List.length_map]; exact hl) ?_
  walk_at "w"
  refine TS.while ok hfm (fun k m1 H1 => ∃ ys : List Int, ys.length = k ∧ ys.length ≤ 1000000 ∧ m1 = [some (.ref r), some (.ref H.length)] ∧ H1 = H ++ [.list (intL ys)] ∧ trim ys = trim row) row.length ⟨row, rfl, hl, rfl, rfl, rfl⟩ ?_
  rintro k m1 H1 ⟨ys, hk, hy, rfl, rfl, ht⟩
  have hg : (H ++ [MO.list (intL ys)])[H.length]? = some (.list (intL ys)) := get_end
  walk_at "w"
  refine ⟨_, rfl, fun h => ?_, fun h => ?_⟩
  · have h : ys = [] := by
      have : ys.length = 0 := by simpa using h
      exact List.eq_nil_of_length_eq_zero this
    subst h
    refine ⟨fun q => (by cases q), fun _ => ?_⟩
    walk_at "w"
    exact ⟨rfl, by rw [← ht]; rfl⟩
  · rcases List.eq_nil_or_concat ys with rfl | ⟨zs, a, rfl⟩
    · simp at h
    · rw [List.concat_eq_append] at *
      walk_at "w"
      refine ⟨.int a, Sq.list hg ⟨by rw [List.length_map]; exact hy, .inr ⟨by lia, by simp; lia, ?_⟩⟩, ?_⟩
      · have e : ((-1 : Int) + ((intL (zs ++ [a])).length : Nat)).toNat = zs.length := by simp [intL]; lia
        rw [e]
        simp [intL]
      walk_at "w"
      refine ⟨_, rfl, fun h => ?_, fun h => ?_⟩
      · have h : a ≠ 0 := by simpa using h
        refine ⟨fun q => (by cases q), fun _ => ?_⟩
        walk_at "w"
        refine ⟨rfl, ?_⟩
        rw [← ht, trim_last h]
      · have h : a = 0 := by simpa using h
        subst h
        walk_at "w"
        refine ⟨fun _ => ?_, fun q => (by cases q)⟩
        walk_at "w"
        refine ⟨_, intL zs, .int 0, rfl, by rw [hg]; simp [intL], by simp at hy ⊢; lia, ?_⟩
        walk_at "w"
        rw [set_end]
        exact ⟨zs.length, by simp at hk; lia, zs, rfl, by simp at hy; lia, rfl, rfl, by rw [← ht, trim_zero]⟩
noncomputable def padd (p : Int) (a b : List Int) : List Int := (List.range (max a.length b.length)).map fun k => (a.getD k 0 + b.getD k 0) % p
theorem plus_cl {G : Gx} {prog : Program} {w : World} {f C : Addr} {i kk r q : Nat} {p : Int} {a b : List Int} {H : MH} {xp : Addr → List MV → MH → Prop} (D : GDef G f ["field", "one", "two"] k_plus_nm k_plus [])
    (bs : Bs G) (ga : GAtt G C "prime") (hF : Ins H i C kk [("prime", .int p)]) (hp : 2 ≤ p)
    (hr : H[r]? = some (.list (intL a))) (hq : H[q]? = some (.list (intL b))) (hl1 : a.length ≤ 1000) (hl2 : b.length ≤ 1000) :
    CL G prog w 1 f [.ref i, .ref r, .ref q] H (fun v H' => v = .ref H.length ∧ H' = H ++ [.list (intL (padd p a b))]) xp := by
  refine D.cl rfl ?_
  intro c e1 e2 ok hfm hint hnm hX
  show TB c [some (.ref i), some (.ref r), some (.ref q), none] _ _ _
  unfold k_plus
  walk_at "w"
  refine BC.max ok.hh ?_
  have hmax : max (a.length : Int) (b.length : Int) = ((max a.length b.length : Nat) : Int) := by lia
  rw [hmax]
  walk_at "w"
  refine TE.comp ok (Src.range ok bs.range ?_)
  walk_at "w"
  refine ⟨0, _, ⟨.inl ⟨rfl, rfl⟩, by lia, by lia, by lia, by lia⟩, ?_⟩
  refine Turns.range (x := "k") rfl (by lia) (fun n ys H1 => H1 = H ∧ n ≤ max a.length b.length ∧ ys = intL ((List.range n).map fun k => (a.getD k 0 + b.getD k 0) % p)) ⟨rfl, by lia, rfl⟩ ?_ ?_ ?_
  · rintro n ys H1 ⟨_, _, rfl⟩
    simp
  · rintro n ys H1 ⟨rfl, hn, rfl⟩ hlt c' sub hnm'
    have ok' := sub.ok
    refine ⟨fun q => (by cases q), fun _ => ?_⟩
    show TE c' [some (.ref i), some (.ref r), some (.ref q), some (.int _), some (.int (0 + (n : Int)))] _ _ _
    rw [Int.zero_add] at *
    have fin : (H1 = H1 ∧ n + 1 ≤ max a.length b.length ∧ (intL ((List.range n).map fun k => (a.getD k 0 + b.getD k 0) % p) ++ [MV.int ((a.getD n 0 + b.getD n 0) % p)]) = intL ((List.range (n + 1)).map fun k => (a.getD k 0 + b.getD k 0) % p)) := by
      refine ⟨rfl, by lia, ?_⟩
      rw [List.range_succ]
      simp [intL]
    have low : ∀ {l : List Int}, ¬ n < l.length → l.getD n 0 = 0 := fun h => by rw [List.getD_eq_getElem?_getD, List.getElem?_eq_none (by lia)]; rfl
    walk_at "w"
    have two : ∀ z : Int, z = a.getD n 0 → TE c' [some (.ref i), some (.ref r), some (.ref q), some (.int ((max a.length b.length : Nat) : Int)), some (.int (n : Int))] (.ite (.cmp .Lt (.loc 4) (.call "len" (.cons (.loc 2) .nil))) (.sub (.loc 2) (.loc 4)) (.int 0)) H1 (fun y H2 => ∃ v, BinI .Add (.int z) y v ∧ 
       TE c' [some (.ref i), some (.ref r), some (.ref q), some (.int ((max a.length b.length : Nat) : Int)), some (.int (n : Int))] (.attr (.loc 0) "prime") H2 (fun y H2 => ∃ v_1, BinI .Mod v y v_1 ∧ (H2 = H1 ∧ n + 1 ≤ max a.length b.length ∧ (intL ((List.range n).map fun k => (a.getD k 0 + b.getD k 0) % p) ++ [v_1]) = intL ((List.range (n + 1)).map fun k => (a.getD k 0 + b.getD k 0) % p)))) := by
      rintro z rfl
      walk_at "w"
      refine ⟨_, rfl, fun h => ?_, fun h => ?_⟩
      · have h : n < b.length := by simpa using h
        walk_at "w"
        refine ⟨_, Sq.listI hq (by lia) (by lia) (by lia), ?_⟩
        walk_at "w"
        exact fin
      · have h : ¬ n < b.length := by simpa using h
        rw [low h] at fin
        walk_at "w"
        exact fin
    refine ⟨_, rfl, fun h => ?_, fun h => ?_⟩
    · have h : n < a.length := by simpa using h
      walk_at "w"
      refine ⟨_, Sq.listI hr (by lia) (by lia) (by lia), ?_⟩
      exact two _ rfl
    · have h : ¬ n < a.length := by simpa using h
      walk_at "s"
      exact two 0 (low h).symm
  · rintro ys H1 ⟨rfl, _, rfl⟩
    refine ⟨rfl, ?_⟩
    unfold padd
    have : (((max a.length b.length : Nat) : Int) - 0).toNat = max a.length b.length := sub0 _
    rw [this]
noncomputable def pstep (p : Int) (a b : List Int) (i : Nat) (out : List Int) (j : Nat) : List Int := out.set (i + j) ((out.getD (i + j) 0 + a.getD i 0 * b.getD j 0) % p)
noncomputable def prow (p : Int) (a b : List Int) (out : List Int) (i : Nat) : List Int := (List.range b.length).foldl (pstep p a b i) out
noncomputable def pmul (p : Int) (a b : List Int) : List Int := if a.length = 0 ∨ b.length = 0 then [] else (List.range a.length).foldl (prow p a b) (List.replicate (a.length + b.length - 1) 0)
theorem pstep_len {p : Int} {a b out : List Int} {i j : Nat} : (pstep p a b i out j).length = out.length := by simp [pstep]
theorem fold_len {α : Type} {f : List Int → α → List Int} (h : ∀ o x, (f o x).length = o.length) : ∀ (l : List α) (o : List Int), (l.foldl f o).length = o.length
  | [], _ => rfl
  | x :: l, o => by rw [List.foldl_cons, fold_len h l, h]
theorem prow_len {p : Int} {a b out : List Int} {i : Nat} : (prow p a b out i).length = out.length := fold_len (fun _ _ => pstep_len) _ _
theorem product_cl {G : Gx} {prog : Program} {w : World} {f C : Addr} {i kk r q : Nat} {p : Int} {a b : List Int} {H : MH} {xp : Addr → List MV → MH → Prop} (D : GDef G f ["field", "one", "two"] k_product_nm k_product [])
    (bs : Bs G) (ga : GAtt G C "prime") (hF : Ins H i C kk [("prime", .int p)]) (hp : 2 ≤ p)
    (hr : H[r]? = some (.list (intL a))) (hq : H[q]? = some (.list (intL b))) (hl1 : a.length ≤ 1000) (hl2 : b.length ≤ 1000) (hb : ∀ x ∈ a, -(2 ^ 64) < x ∧ x < 2 ^ 64) :
    CL G prog w 1 f [.ref i, .ref r, .ref q] H (fun v H' => ∃ z, v = .ref z ∧ H.length ≤ z ∧ Ext H H' ∧ H'[z]? = some (.list (intL (pmul p a b)))) xp := by
  refine D.cl rfl ?_
  intro c e1 e2 ok hfm hint hnm hX
  show TB c [some (.ref i), some (.ref r), some (.ref q), none, none, none] _ _ _
  unfold k_product
  walk_at "w"
  have empty : ∀ ss : CSs, (a.length = 0 ∨ b.length = 0) → TB c [some (.ref i), some (.ref r), some (.ref q), none, none, none] (.cons (.ret (.list .nil)) .nil) H (fun f m1 H1 => match f with
      | .next => TB c m1 ss H1 (fun fl x H' => ∃ z, retv fl = .ref z ∧ H.length ≤ z ∧ Ext H H' ∧ H'[z]? = some (.list (intL (pmul p a b))))
      | f => ∃ z, retv f = .ref z ∧ H.length ≤ z ∧ Ext H H1 ∧ H1[z]? = some (.list (intL (pmul p a b)))) := by
    intro ss h
    walk_at "w"
    refine ⟨by decide, H.length, rfl, Nat.le_refl _, (Ext.refl H).app _, ?_⟩
    rw [get_end, pmul, if_pos h]
    rfl
  refine ⟨_, rfl, fun h => ⟨fun _ => empty _ (.inl (by simpa using h)), fun q => (by cases q)⟩, fun h => ?_⟩
  have h1 : a.length ≠ 0 := by simpa using h
  walk_at "w"
  refine ⟨_, rfl, fun h => ⟨fun _ => empty _ (.inr (by simpa using h)), fun q => (by cases q)⟩, fun h => ?_⟩
  have h2 : b.length ≠ 0 := by simpa using h
  walk_at "w"
  refine ⟨fun q => (by cases q), fun _ => ?_⟩
  refine TB.nil (TB.cons (TS.assign ok hfm rfl (TE.mulL ?_)))
  walk_at "w"
  refine ⟨by decide, ?_⟩
  have hr1 : (H ++ [MO.list [.int 0]])[r]? = some (.list (intL a)) := get_app hr
  have hq1 : (H ++ [MO.list [.int 0]])[q]? = some (.list (intL b)) := get_app hq
  walk_at "w"
  refine ⟨H.length, .int 0, _, rfl, rfl, get_end, by lia, by lia, ?_⟩
  have hn : ((a.length : Int) + (b.length : Int) - 1).toNat = a.length + b.length - 1 := by lia
  rw [hn]
  clear hn
  obtain ⟨M, hM⟩ : ∃ M, M = a.length + b.length - 1 := ⟨_, rfl⟩
  have hpm : pmul p a b = (List.range a.length).foldl (prow p a b) (List.replicate M 0) := by rw [pmul, if_neg (by lia), hM]
  rw [← hM]
  have hM2 : a.length + b.length = M + 1 := by lia
  clear hM
  have hrep : List.replicate M (MV.int 0) = intL (List.replicate M 0) := by simp [intL]
  rw [hrep]
  have hL : (H ++ [MO.list [.int 0]]).length = H.length + 1 := by simp
  rw [hL]
  have rd : ∀ {x : Nat} {o o' : MO}, H[x]? = some o → (H ++ [MO.list [.int 0]] ++ [o'])[x]? = some o := fun h => get_app (get_app h)
  have top : ∀ {o : MO}, (H ++ [MO.list [.int 0]] ++ [o])[H.length + 1]? = some o := by intro o; simp
  have st : ∀ {o o' : MO}, (H ++ [MO.list [.int 0]] ++ [o]).set (H.length + 1) o' = H ++ [MO.list [.int 0]] ++ [o'] := by intro o o'; simp
  refine TB.cons (TS.forR ok hfm bs.range (by nofun) ?_ ⟨_, rfl⟩)
  have hr2 := rd (o' := .list (intL (List.replicate M 0))) hr
  have hq2 := rd (o' := .list (intL (List.replicate M 0))) hq
  walk_at "w"
  refine ⟨0, _, ⟨.inl ⟨rfl, rfl⟩, by lia, by lia, by lia, by lia⟩, fun n m1 H2 => ∃ o4 o5, m1 = [some (.ref i), some (.ref r), some (.ref q), some (.ref (H.length + 1)), o4, o5] ∧ n ≤ a.length ∧
    H2 = H ++ [.list [.int 0]] ++ [.list (intL ((List.range n).foldl (prow p a b) (List.replicate M 0)))], ⟨none, none, rfl, by lia, rfl⟩, ?_, ?_⟩
  · rintro n m1 H2 xt ⟨o4, o5, rfl, hn, rfl⟩ hlt
    have okx := ok.wx xt
    have hfx : (c.wx xt).fm = none := hfm
    generalize hout : (List.range n).foldl (prow p a b) (List.replicate M 0) = out
    have hol : out.length = M := by rw [← hout, fold_len (fun _ _ => prow_len)]; simp
    rw [Int.zero_add] at *
    show TB (c.wx xt) [some (.ref i), some (.ref r), some (.ref q), some (.ref (H.length + 1)), some (.int (n : Int)), o5] _ _ _
    refine TB.gen3 fun PP hPP => ?_
    refine TB.cons (TS.forR okx hfx bs.range (by nofun) ?_ ⟨_, rfl⟩)
    have hq3 := rd (o' := .list (intL out)) hq
    walk_at "w"
    refine ⟨0, _, ⟨.inl ⟨rfl, rfl⟩, by lia, by lia, by lia, by lia⟩, fun k m1 H2 => ∃ o5, m1 = [some (.ref i), some (.ref r), some (.ref q), some (.ref (H.length + 1)), some (.int (n : Int)), o5] ∧ k ≤ b.length ∧
      H2 = H ++ [.list [.int 0]] ++ [.list (intL ((List.range k).foldl (pstep p a b n) out))], ⟨o5, rfl, by lia, rfl⟩, ?_, ?_⟩
    · rintro k m1 H2 xt2 ⟨o6, rfl, hk, rfl⟩ hltk
      have okx2 := okx.wx xt2
      have hfx2 : ((c.wx xt).wx xt2).fm = none := hfm
      generalize hout2 : (List.range k).foldl (pstep p a b n) out = out2
      have hol2 : out2.length = M := by rw [← hout2, fold_len (fun _ _ => pstep_len), hol]
      rw [Int.zero_add] at *
      show TB ((c.wx xt).wx xt2) [some (.ref i), some (.ref r), some (.ref q), some (.ref (H.length + 1)), some (.int (n : Int)), some (.int (k : Int))] _ _ _
      refine TB.gen3 fun QQ hQQ => ?_
      have hlt : n < a.length := by lia
      have hltk : k < b.length := by lia
      have hr4 := rd (o' := .list (intL out2)) hr
      have hq4 := rd (o' := .list (intL out2)) hq
      have ho4 := top (o := .list (intL out2))
      have hF4 : Ins (H ++ [MO.list [.int 0]] ++ [.list (intL out2)]) i C kk [("prime", .int p)] := ((Ext.refl H).app _ |>.app _).ins hF
      have hba := hb (a.getD (n : Int).toNat 0) (by rw [List.getD_eq_getElem?_getD, List.getElem?_eq_getElem (by lia)]; exact List.getElem_mem _)
      refine TB.cons (TS.setItem ?_)
      walk_at "w"
      refine ⟨_, Sq.listI ho4 (by lia) (by lia) (by lia), ?_⟩
      walk_at "w"
      refine ⟨_, Sq.listI hr4 (by lia) (by lia) (by lia), ?_⟩
      walk_at "w"
      refine ⟨_, Sq.listI hq4 (by lia) (by lia) (by lia), ?_⟩
      refine ⟨_, BinI.mul (mulL hba.1 hba.2), ?_⟩
      walk_at "w"
      refine ⟨_, Uq.listI ho4 (by lia) (by lia) (by lia), ?_⟩
      rw [st]
      walk_at "w"
      refine hQQ _ _ _ ⟨_, rfl, by lia, ?_⟩
      rw [List.range_succ, List.foldl_append, hout2, addN]
      simp [pstep]
    · rintro m1 H2 ⟨o6, rfl, hk, rfl⟩
      walk_at "w"
      refine hPP _ _ _ ⟨_, _, rfl, by lia, ?_⟩
      rw [List.range_succ, List.foldl_append, hout, sub0]
      rfl
  · rintro m1 H2 ⟨o4, o5, rfl, hn, rfl⟩
    walk_at "w"
    refine ⟨H.length + 1, rfl, by lia, ((Ext.refl H).app _).app _, ?_⟩
    rw [top]
    rw [sub0, hpm]
abbrev px (pts : List (Int × Int)) (k : Nat) : Int := (pts.getD k (0, 0)).1
abbrev py (pts : List (Int × Int)) (k : Nat) : Int := (pts.getD k (0, 0)).2
noncomputable def trowS (p : Int) (pts : List (Int × Int)) (i : Nat) (r : List Int) (j : Nat) : List Int := if j = i then r else pmul p r [(-(px pts j)) % p, 1]
noncomputable def trow (p : Int) (pts : List (Int × Int)) (i n : Nat) : List Int := (List.range n).foldl (trowS p pts i) [1]
noncomputable def tlowS (p : Int) (pts : List (Int × Int)) (i : Nat) (l : Int) (j : Nat) : Int := if j = i then l else l * (px pts i - px pts j) % p
noncomputable def tlow (p : Int) (pts : List (Int × Int)) (i n : Nat) : Int := (List.range n).foldl (tlowS p pts i) 1
noncomputable def tfac (p : Int) (pts : List (Int × Int)) (i : Nat) : Int := py pts i * (tlow p pts i pts.length ^ (p - 2).toNat % p) % p
noncomputable def tsumS (p : Int) (pts : List (Int × Int)) (out : List Int) (i : Nat) : List Int := padd p out ((trow p pts i pts.length).map fun a => a * tfac p pts i % p)
noncomputable def tsum (p : Int) (pts : List (Int × Int)) (n : Nat) : List Int := (List.range n).foldl (tsumS p pts) []
noncomputable def thr (p : Int) (pts : List (Int × Int)) : List Int := trim (tsum p pts pts.length)
theorem range_fold {β : Type} {f : β → Nat → β} {b : β} {n : Nat} : (List.range (n + 1)).foldl f b = f ((List.range n).foldl f b) n := by
  rw [List.range_succ, List.foldl_append]; rfl
noncomputable def Bd (p : Int) (l : List Int) : Prop := ∀ x ∈ l, 0 ≤ x ∧ x < p
theorem Bd.set {p : Int} {l : List Int} {i : Nat} {v : Int} (h : Bd p l) (hv : 0 ≤ v ∧ v < p) : Bd p (l.set i v) := fun x hx => by
  rcases List.mem_or_eq_of_mem_set hx with q | q
  · exact h x q
  · exact q ▸ hv
theorem md {a p : Int} (hp : 0 < p) : 0 ≤ a % p ∧ a % p < p := ⟨Int.emod_nonneg _ (by lia), Int.emod_lt_of_pos _ hp⟩
theorem fold_inv {α β : Type} {f : β → α → β} {P : β → Prop} (h : ∀ b a, P b → P (f b a)) : ∀ (l : List α) (b : β), P b → P (l.foldl f b)
  | [], _, hb => hb
  | a :: l, b, hb => by rw [List.foldl_cons]; exact fold_inv h l _ (h b a hb)
theorem pmul_bd {p : Int} {a b : List Int} (hp : 0 < p) : Bd p (pmul p a b) := by
  unfold pmul
  split
  · intro x hx; cases hx
  · refine fold_inv (fun o i ho => fold_inv (fun o j ho => ho.set (md hp)) _ _ ho) _ _ ?_
    intro x hx
    rw [List.eq_of_mem_replicate hx]
    lia
theorem pmul_len {p : Int} {a b : List Int} (ha : a.length ≠ 0) (hb : b.length ≠ 0) : (pmul p a b).length = a.length + b.length - 1 := by
  unfold pmul
  rw [if_neg (by lia), fold_len (fun _ _ => prow_len)]
  simp
theorem trow_bd {p : Int} {pts : List (Int × Int)} {i n : Nat} (hp : 2 ≤ p) : Bd p (trow p pts i n) := by
  refine fold_inv (P := Bd p) (fun r j hr => ?_) _ _ ?_
  · unfold trowS
    split
    · exact hr
    · exact pmul_bd (by lia)
  · intro x hx
    rw [List.mem_singleton] at hx
    subst hx
    lia
theorem trow_len {p : Int} {pts : List (Int × Int)} {i : Nat} : ∀ n : Nat, 1 ≤ (trow p pts i n).length ∧ (trow p pts i n).length ≤ n + 1
  | 0 => by simp [trow]
  | n + 1 => by
    have ih := trow_len (p := p) (pts := pts) (i := i) n
    unfold trow at ih ⊢
    rw [range_fold]
    generalize (List.range n).foldl (trowS p pts i) [1] = r at ih ⊢
    unfold trowS
    split
    · lia
    · rw [pmul_len (by lia) (by simp)]
      simp
      lia
theorem tlow_bd {p : Int} {pts : List (Int × Int)} {i n : Nat} (hp : 2 ≤ p) : 0 ≤ tlow p pts i n ∧ tlow p pts i n < p := by
  refine fold_inv (P := fun l : Int => 0 ≤ l ∧ l < p) (fun l j hl => ?_) _ _ ⟨by lia, by lia⟩
  unfold tlowS
  split
  · exact hl
  · exact md (by lia)
theorem padd_len {p : Int} {a b : List Int} : (padd p a b).length = max a.length b.length := by simp [padd]
theorem tsum_len {p : Int} {pts : List (Int × Int)} : ∀ n : Nat, (tsum p pts n).length ≤ pts.length + 1
  | 0 => by simp [tsum]
  | n + 1 => by
    have ih := tsum_len (p := p) (pts := pts) n
    have h2 := (trow_len (p := p) (pts := pts) (i := n) pts.length).2
    unfold tsum at ih ⊢
    rw [range_fold]
    unfold tsumS
    rw [padd_len, List.length_map]
    unfold tsumS at ih
    lia
noncomputable def PtsAt (H : MH) (r : Nat) (pts : List (Int × Int)) : Prop := ∃ refs, H[r]? = some (.list refs) ∧ refs.length = pts.length ∧ ∀ k, k < pts.length → ∃ t, refs[k]? = some (.ref t) ∧ H[t]? = some (.tup [.int (px pts k), .int (py pts k)])
theorem PtsAt.ext {H H' : MH} {r : Nat} {pts : List (Int × Int)} (h : PtsAt H r pts) (e : Ext H H') : PtsAt H' r pts := by
  obtain ⟨refs, h1, h2, h3⟩ := h
  exact ⟨refs, e _ _ h1, h2, fun k hk => let ⟨t, q1, q2⟩ := h3 k hk; ⟨t, q1, e _ _ q2⟩⟩
theorem PtsAt.at {c : Cx} {H : MH} {r : Nat} {pts : List (Int × Int)} (h : PtsAt H r pts) (hl : pts.length ≤ 1000) {k : Nat} (hk : k < pts.length) :
    ∃ t, Sq c H (.ref r) (.int k) (.ref t) ∧ Sq c H (.ref t) (.int 0) (.int (px pts k)) ∧ Sq c H (.ref t) (.int 1) (.int (py pts k)) := by
  obtain ⟨refs, h1, h2, h3⟩ := h
  obtain ⟨t, q1, q2⟩ := h3 k hk
  exact ⟨t, Sq.list h1 ⟨by lia, .inl ⟨by lia, by simpa using q1⟩⟩, Sq.tup (n := 0) q2 (by simp) rfl, Sq.tup (n := 1) q2 (by simp) rfl⟩
theorem PtsAt.len {c : Cx} {H : MH} {r : Nat} {pts : List (Int × Int)} (h : PtsAt H r pts) (hl : pts.length ≤ 1000) {post : MV → MH → Prop} (k : post (.int pts.length) H) : BC c (.builtin "len") [.ref r] H post := by
  obtain ⟨refs, h1, h2, h3⟩ := h
  exact BC.len h1 (by lia) (by rw [h2]; exact k)
structure ThrK (G : Gx) (C : Addr) : Prop where
  bs : Bs G
  att : GAtt G C "prime"
  pw : ∃ f, GMth G C "power" f ∧ GDef G f ["self", "a", "n"] k_Field_power_nm k_Field_power []
  inv : ∃ f, GMth G C "inverse" f ∧ GDef G f ["self", "a"] k_Field_inverse_nm k_Field_inverse []
  ov : ∃ f, GMth G C "over" f ∧ GDef G f ["self", "a", "b"] k_Field_over_nm k_Field_over []
  pr : ∃ f, GFn G "product" f ∧ GDef G f ["field", "one", "two"] k_product_nm k_product []
  pl : ∃ f, GFn G "plus" f ∧ GDef G f ["field", "one", "two"] k_plus_nm k_plus []
  tr : ∃ f, GFn G "trimmed" f ∧ GDef G f ["row"] k_trimmed_nm k_trimmed []
theorem bd64 {p : Int} {l : List Int} (h : Bd p l) (hp : p < 2 ^ 60) : ∀ x ∈ l, -(2 ^ 64) < x ∧ x < 2 ^ 64 := fun x hx => by
  have := h x hx
  lia
theorem TB.gen {c : Cx} {m : ML} {a : CSs} {H : MH} {q : Fl → ML → MH → Prop} (h : ∀ p : Fl → ML → MH → Prop, (∀ m H, q .next m H → p .next m H) → TB c m a H p) : TB c m a H q := h q (fun _ _ h => h)
theorem through_cl {G : Gx} {prog : Program} {w : World} {f C : Addr} {i kk r : Nat} {p : Int} {pts : List (Int × Int)} {H : MH} {xp : Addr → List MV → MH → Prop} (D : GDef G f ["field", "points"] k_through_nm k_through [])
    (K : ThrK G C) (hF : Ins H i C kk [("prime", .int p)]) (hp : 2 ≤ p) (hp2 : p < 2 ^ 60) (hP : PtsAt H r pts) (hN : pts.length ≤ 500) (hlow : ∀ n, n < pts.length → tlow p pts n pts.length % p ≠ 0) :
    CL G prog w 4 f [.ref i, .ref r] H (fun v H' => ∃ z, v = .ref z ∧ H.length ≤ z ∧ Ext H H' ∧ H'[z]? = some (.list (intL (thr p pts)))) xp := by
  have bs := K.bs
  have ga := K.att
  obtain ⟨fPW, gPW, dPW⟩ := K.pw
  obtain ⟨fIN, gIN, dIN⟩ := K.inv
  obtain ⟨fOV, gOV, dOV⟩ := K.ov
  obtain ⟨fPR, gPR, dPR⟩ := K.pr
  obtain ⟨fPL, gPL, dPL⟩ := K.pl
  obtain ⟨fTR, gTR, dTR⟩ := K.tr
  refine D.cl rfl ?_
  intro c e1 e2 ok hfm hint hnm hX
  subst e1 e2
  show TB c [some (.ref i), some (.ref r), none, none, none, none, none, none] _ _ _
  unfold k_through
  walk_at "w"
  refine ⟨by decide, ?_⟩
  walk_at "s"
  refine TS.forR ok hfm bs.range (by nofun) ?_ ⟨_, rfl⟩
  walk_at "w"
  refine PtsAt.len (hP.ext ((Ext.refl H).app _)) (by lia) ?_
  walk_at "w"
  refine ⟨0, _, ⟨.inl ⟨rfl, rfl⟩, by lia, by lia, by lia, by lia⟩, fun n m1 H2 => ∃ qo o3 o4 o5 o6 o7, m1 = [some (.ref i), some (.ref r), some (.ref qo), o3, o4, o5, o6, o7] ∧ n ≤ pts.length ∧ Ext H H2 ∧
    H2[qo]? = some (.list (intL (tsum p pts n))), ⟨H.length, none, none, none, none, none, rfl, by lia, (Ext.refl H).app _, get_end⟩, ?_, ?_⟩
  · rintro n m1 H2 xt ⟨qo, o3, o4, o5, o6, o7, rfl, hn, E2, hqo⟩ hlt
    rw [Int.zero_add] at *
    have okx := ok.wx xt
    have hfx : (c.wx xt).fm = none := hfm
    show TB (c.wx xt) [some (.ref i), some (.ref r), some (.ref qo), some (.int (n : Int)), o4, o5, o6, o7] _ _ _
    refine TB.gen fun pp hpp => ?_
    walk_at "w"
    refine ⟨by decide, ?_⟩
    walk_at "s"
    walk_at "s"
    walk_at "s"
    walk_at "s"
    refine TS.forR okx hfx bs.range (by nofun) ?_ ⟨_, rfl⟩
    walk_at "w"
    refine PtsAt.len (hP.ext (E2.app _)) (by lia) ?_
    walk_at "w"
    refine ⟨0, _, ⟨.inl ⟨rfl, rfl⟩, by lia, by lia, by lia, by lia⟩, fun k m1 H3 => ∃ qr o6, m1 = [some (.ref i), some (.ref r), some (.ref qo), some (.int (n : Int)), some (.ref qr), some (.int (tlow p pts n k)), o6, o7] ∧ k ≤ pts.length ∧ Ext H2 H3 ∧
      H3[qr]? = some (.list (intL (trow p pts n k))), ⟨H2.length, o6, rfl, by lia, (Ext.refl H2).app _, get_end⟩, ?_, ?_⟩
    · rintro k m1 H3 xt2 ⟨qr, o6, rfl, hk, E3, hqr⟩ hltk
      rw [Int.zero_add] at *
      have okx2 := okx.wx xt2
      have hfx2 : ((c.wx xt).wx xt2).fm = none := hfm
      show TB ((c.wx xt).wx xt2) [some (.ref i), some (.ref r), some (.ref qo), some (.int (n : Int)), some (.ref qr), some (.int (tlow p pts n k)), some (.int (k : Int)), o7] _ _ _
      refine TB.gen fun qq hqq => ?_
      have hF3 := (E2.trans E3).ins hF
      have lb := tlow_bd (pts := pts) (i := n) (n := k) hp
      walk_at "w"
      refine ⟨_, rfl, fun h => ?_, fun h => ?_⟩
      · have h : ¬ k = n := by
          intro e
          subst e
          simp at h
        obtain ⟨t, a1, a2, a3⟩ := (hP.ext (E2.trans E3)).at (c := (c.wx xt).wx xt2) (by lia) (show k < pts.length by lia)
        walk_at "w"
        refine ⟨_, a1, ?_⟩
        walk_at "w"
        refine ⟨_, a2, ?_⟩
        walk_at "w"
        refine ⟨by simp, ?_⟩
        have E4 : Ext H3 (H3 ++ [.list [.int (-px pts k % p), .int 1]]) := (Ext.refl H3).app _
        have hl := (trow_len (p := p) (pts := pts) (i := n) k).2
        walk_at "s"
        refine (product_cl (a := trow p pts n k) (b := [-px pts k % p, 1]) dPR bs ga (E4.ins hF3) hp (E4 _ _ hqr) get_end (by lia) (by simp) (bd64 (trow_bd hp) hp2)).use (d' := 3) (by decide) ?_
        rintro _ H5 ⟨z, rfl, hz, E5, hz5⟩
        have E35 := E4.trans E5
        have hF5 := E35.ins hF3
        obtain ⟨t1, b1, b2, b3⟩ := (hP.ext ((E2.trans E3).trans E35)).at (c := (c.wx xt).wx xt2) (by lia) (show n < pts.length by lia)
        obtain ⟨t2, d1, d2, d3⟩ := (hP.ext ((E2.trans E3).trans E35)).at (c := (c.wx xt).wx xt2) (by lia) (show k < pts.length by lia)
        walk_at "w"
        refine ⟨_, b1, ?_⟩
        walk_at "w"
        refine ⟨_, b2, ?_⟩
        walk_at "w"
        refine ⟨_, d1, ?_⟩
        walk_at "w"
        refine ⟨_, d2, ?_⟩
        walk_at "w"
        refine hqq _ _ ⟨z, some (.int (k : Int)), ?_, by lia, E3.trans E35, ?_⟩
        · unfold tlow
          rw [range_fold, tlowS, if_neg h]
          rfl
        · rw [hz5]
          unfold trow
          rw [range_fold, trowS, if_neg h]
      · have h : k = n := by
          simp at h
          lia
        walk_at "w"
        refine hqq _ _ ⟨qr, some (.int (k : Int)), ?_, by lia, E3, ?_⟩
        · unfold tlow
          rw [range_fold, tlowS, if_pos h]
        · rw [hqr]
          unfold trow
          rw [range_fold, trowS, if_pos h]
    · intro m1 H3 hJ
      have eN : ((pts.length : Int) - 0).toNat = pts.length := sub0 _
      rw [eN] at hJ
      obtain ⟨qr, o6, rfl, hk, E3, hqr⟩ := hJ
      have hF3 := (E2.trans E3).ins hF
      obtain ⟨t1, b1, b2, b3⟩ := (hP.ext (E2.trans E3)).at (c := c.wx xt) (by lia) (show n < pts.length by lia)
      walk_at "w"
      refine ⟨_, b1, ?_⟩
      walk_at "w"
      refine ⟨_, b3, ?_⟩
      walk_at "w"
      refine (over_cl dOV dIN gIN dPW gPW ga hF3 hp hp2 (hlow n (by lia))).use (by decide) ?_
      rintro _ H9 ⟨rfl, rfl⟩
      have fb : 0 ≤ tfac p pts n ∧ tfac p pts n < p := md (by lia)
      have hfac : py pts n * (tlow p pts n pts.length ^ (p - 2).toNat % p) % p = tfac p pts n := rfl
      rw [hfac]
      walk_at "w"
      refine TE.comp okx (Src.list okx ?_)
      walk_at "w"
      have hl := (trow_len (p := p) (pts := pts) (i := n) pts.length).2
      refine ⟨_, _, _, rfl, hqr, Turns.list (xs := intL (trow p pts n pts.length)) (by rw [List.length_map]; lia) (fun k ys H4 => H4 = H9 ∧ k ≤ (trow p pts n pts.length).length ∧ ys = intL (((trow p pts n pts.length).take k).map fun a => a * tfac p pts n % p)) ⟨rfl, by lia, rfl⟩ ?_ ?_ ?_⟩
      · rintro k ys H4 ⟨rfl, hk, rfl⟩
        exact ⟨by simp; lia, hqr⟩
      · rintro k ys H4 v ⟨rfl, hk, rfl⟩ hv
        obtain ⟨a, rfl, ha⟩ := intL_get hv
        refine ⟨[.int a], rfl, ?_⟩
        intro c' sub hnm'
        have ok' := sub.ok
        refine ⟨fun q => (by cases q), fun _ => ?_⟩
        show TE c' [some (.ref i), some (.ref r), some (.ref qo), some (.int (n : Int)), some (.ref qr), some (.int _), o6, some (.int (tfac p pts n)), some (.int a)] _ _ _
        walk_at "w"
        have hkl := (List.getElem?_eq_some_iff.mp ha).1
        refine ⟨rfl, by lia, ?_⟩
        rw [List.take_add_one, ha]
        simp [intL]
      · rintro ys H4 ⟨rfl, hk, rfl⟩
        rw [List.length_map, List.take_length]
        have hl2 := tsum_len (p := p) (pts := pts) n
        walk_at "w"
        refine (plus_cl (a := tsum p pts n) (b := (trow p pts n pts.length).map fun a => a * tfac p pts n % p) dPL bs ga (((Ext.refl H4).app _).ins hF3) hp (get_app (E3 _ _ hqo)) get_end (by lia) (by rw [List.length_map]; lia)).use (by decide) ?_
        rintro _ _ ⟨rfl, rfl⟩
        walk_at "w"
        refine hpp _ _ ⟨_, _, _, _, _, _, rfl, by lia, ((E2.trans E3).app _).app _, ?_⟩
        rw [get_end]
        unfold tsum
        rw [range_fold]
        rfl
  · intro m1 H2 hJ
    have eN : ((pts.length : Int) - 0).toNat = pts.length := sub0 _
    rw [eN] at hJ
    obtain ⟨qo, o3, o4, o5, o6, o7, rfl, hn, E2, hqo⟩ := hJ
    have hl2 := tsum_len (p := p) (pts := pts) pts.length
    walk_at "w"
    refine (trimmed_cl dTR bs hqo (by lia)).use (by decide) ?_
    rintro _ _ ⟨rfl, rfl⟩
    exact ⟨_, rfl, E2.len, E2.app _, get_end⟩
noncomputable def Cg (p a b : Int) : Prop := a % p = b % p
theorem Cg.rfl {p a : Int} : Cg p a a := Eq.refl _
theorem Cg.of {p a b : Int} (h : a = b) : Cg p a b := by rw [h]; exact Cg.rfl
theorem Cg.symm {p a b : Int} (h : Cg p a b) : Cg p b a := Eq.symm h
theorem Cg.trans {p a b c : Int} (h : Cg p a b) (g : Cg p b c) : Cg p a c := Eq.trans h g
theorem Cg.md {p a : Int} : Cg p (a % p) a := Int.emod_emod_of_dvd _ (Int.dvd_refl p)
theorem Cg.add {p a b c d : Int} (h : Cg p a b) (g : Cg p c d) : Cg p (a + c) (b + d) := by
  unfold Cg at *; rw [Int.add_emod, h, g, ← Int.add_emod]
theorem Cg.mul {p a b c d : Int} (h : Cg p a b) (g : Cg p c d) : Cg p (a * c) (b * d) := by
  unfold Cg at *; rw [Int.mul_emod, h, g, ← Int.mul_emod]
theorem Cg.neg {p a b : Int} (h : Cg p a b) : Cg p (-a) (-b) := by
  have := Cg.mul (Cg.rfl (p := p) (a := -1)) h
  simpa using this
theorem Cg.sub {p a b c d : Int} (h : Cg p a b) (g : Cg p c d) : Cg p (a - c) (b - d) := by
  rw [Int.sub_eq_add_neg, Int.sub_eq_add_neg]; exact h.add g.neg
theorem Cg.pow {p a b : Int} (h : Cg p a b) : ∀ n : Nat, Cg p (a ^ n) (b ^ n)
  | 0 => Cg.of (by simp)
  | n + 1 => by rw [Int.pow_succ, Int.pow_succ]; exact (Cg.pow h n).mul h
theorem Cg.small {p a b : Int} (h : Cg p a b) (a1 : 0 ≤ a ∧ a < p) (b1 : 0 ≤ b ∧ b < p) : a = b := by
  unfold Cg at h; rwa [Int.emod_eq_of_lt a1.1 a1.2, Int.emod_eq_of_lt b1.1 b1.2] at h
theorem Cg.zero {p a : Int} : Cg p a 0 ↔ a % p = 0 := by unfold Cg; rw [Int.zero_emod]
noncomputable def pz (row : List Int) (x : Int) : Int := row.foldr (fun a acc => acc * x + a) 0
theorem pz_nil (x : Int) : pz [] x = 0 := rfl
theorem pz_cons (a : Int) (l : List Int) (x : Int) : pz (a :: l) x = pz l x * x + a := rfl
theorem pval_pz (p : Int) : ∀ (row : List Int) (x : Int), Cg p (pval p row x) (pz row x)
  | [], _ => Cg.rfl
  | a :: l, x => Cg.md.trans ((Cg.mul (pval_pz p l x) Cg.rfl).add Cg.rfl)
theorem pval_bd {p : Int} (hp : 0 < p) : ∀ (row : List Int) (x : Int), 0 ≤ pval p row x ∧ pval p row x < p
  | [], _ => ⟨Int.le_refl _, hp⟩
  | a :: l, x => md hp
theorem pz_app (x : Int) : ∀ (l : List Int) (a : Int), pz (l ++ [a]) x = pz l x + a * x ^ l.length
  | [], a => by simp [pz]
  | b :: l, a => by
    rw [List.cons_append, pz_cons, pz_cons, pz_app x l a, List.length_cons, Int.pow_succ]
    grind
theorem pz_take (x : Int) (l : List Int) (n : Nat) : pz (l.take (n + 1)) x = pz (l.take n) x + l.getD n 0 * x ^ n := by
  by_cases h : n < l.length
  · rw [List.take_add_one, List.getElem?_eq_getElem h]
    simp only [Option.toList_some]
    rw [pz_app, List.length_take, Nat.min_eq_left (by lia), List.getD_eq_getElem?_getD, List.getElem?_eq_getElem h]
    rfl
  · rw [List.take_of_length_le (by lia), List.take_of_length_le (by lia), List.getD_eq_getElem?_getD, List.getElem?_eq_none (by lia)]
    simp
theorem pz_set (x : Int) : ∀ (l : List Int) (t : Nat) (v : Int), t < l.length → pz (l.set t v) x = pz l x + (v - l.getD t 0) * x ^ t
  | [], _, _, h => by simp at h
  | a :: l, 0, v, _ => by
    rw [List.set_cons_zero, pz_cons, pz_cons]
    simp
    lia
  | a :: l, t + 1, v, h => by
    rw [List.set_cons_succ, pz_cons, pz_cons, pz_set x l t v (by simpa using h), Int.pow_succ]
    simp only [List.getD_cons_succ]
    grind
theorem pz_range (x : Int) (f : Nat → Int) (n : Nat) : pz ((List.range (n + 1)).map f) x = pz ((List.range n).map f) x + f n * x ^ n := by
  rw [List.range_succ, List.map_append, List.map_singleton, pz_app]
  simp
theorem padd_pz (p x : Int) (a b : List Int) : Cg p (pz (padd p a b) x) (pz a x + pz b x) := by
  have key : ∀ n : Nat, Cg p (pz ((List.range n).map fun k => (a.getD k 0 + b.getD k 0) % p) x) (pz (a.take n) x + pz (b.take n) x) := by
    intro n
    induction n with
    | zero => simp [pz]; exact Cg.rfl
    | succ n ih =>
      rw [pz_range, pz_take, pz_take]
      refine (ih.add (Cg.md.mul Cg.rfl)).trans (Cg.of ?_)
      grind
  have h := key (max a.length b.length)
  rw [List.take_of_length_le (by lia), List.take_of_length_le (by lia)] at h
  exact h
theorem scale_pz (p x f : Int) : ∀ l : List Int, Cg p (pz (l.map fun a => a * f % p) x) (pz l x * f)
  | [] => by simp [pz]; exact Cg.rfl
  | a :: l => by
    rw [List.map_cons, pz_cons, pz_cons]
    refine (((scale_pz p x f l).mul Cg.rfl).add Cg.md).trans (Cg.of ?_)
    grind
theorem prow_pz (p x : Int) (a b out : List Int) (i : Nat) (h : i + b.length ≤ out.length) : Cg p (pz (prow p a b out i) x) (pz out x + a.getD i 0 * x ^ i * pz b x) := by
  have key : ∀ n : Nat, n ≤ b.length → Cg p (pz ((List.range n).foldl (pstep p a b i) out) x) (pz out x + a.getD i 0 * x ^ i * pz (b.take n) x) := by
    intro n
    induction n with
    | zero => intro _; simp [pz]; exact Cg.rfl
    | succ n ih =>
      intro hn
      have hl : ((List.range n).foldl (pstep p a b i) out).length = out.length := fold_len (fun _ _ => pstep_len) _ _
      have ih := ih (by lia)
      rw [range_fold, pz_take]
      generalize (List.range n).foldl (pstep p a b i) out = o at ih hl ⊢
      unfold pstep
      rw [pz_set x o (i + n) _ (by lia)]
      refine (ih.add ((Cg.md.sub Cg.rfl).mul Cg.rfl)).trans (Cg.of ?_)
      rw [Int.pow_add]
      grind
  have h2 := key b.length (Nat.le_refl _)
  rw [List.take_length] at h2
  exact h2
theorem pz_rep (x : Int) : ∀ n : Nat, pz (List.replicate n 0) x = 0
  | 0 => rfl
  | n + 1 => by rw [List.replicate_succ, pz_cons, pz_rep x n]; simp
theorem pmul_pz (p x : Int) (a b : List Int) : Cg p (pz (pmul p a b) x) (pz a x * pz b x) := by
  unfold pmul
  split
  · rename_i h
    rcases h with h | h
    · rw [List.eq_nil_of_length_eq_zero h]; simp [pz]; exact Cg.rfl
    · rw [List.eq_nil_of_length_eq_zero h]; simp [pz]; exact Cg.rfl
  · rename_i h
    have key : ∀ n : Nat, n ≤ a.length → Cg p (pz ((List.range n).foldl (prow p a b) (List.replicate (a.length + b.length - 1) 0)) x) (pz (a.take n) x * pz b x) := by
      intro n
      induction n with
      | zero => intro _; simp [pz_rep, pz_nil]; exact Cg.rfl
      | succ n ih =>
        intro hn
        have hl : ((List.range n).foldl (prow p a b) (List.replicate (a.length + b.length - 1) 0)).length = a.length + b.length - 1 := by rw [fold_len (fun _ _ => prow_len)]; simp
        have ih := ih (by lia)
        rw [range_fold, pz_take]
        generalize (List.range n).foldl (prow p a b) (List.replicate (a.length + b.length - 1) 0) = o at ih hl ⊢
        refine ((prow_pz p x a b o n (by lia)).trans (ih.add Cg.rfl)).trans (Cg.of ?_)
        grind
    have h2 := key a.length (Nat.le_refl _)
    rw [List.take_length] at h2
    exact h2
theorem trim_pz (x : Int) : ∀ (n : Nat) (l : List Int), l.length = n → pz (trim l) x = pz l x
  | 0, l, h => by rw [List.eq_nil_of_length_eq_zero h]; rfl
  | n + 1, l, h => by
    rcases List.eq_nil_or_concat l with rfl | ⟨zs, a, rfl⟩
    · rfl
    · rw [List.concat_eq_append] at *
      by_cases e : a = 0
      · subst e
        rw [trim_zero, pz_app, trim_pz x n zs (by simpa using h)]
        simp
      · rw [trim_last e]
theorem trim_len : ∀ (n : Nat) (l : List Int), l.length = n → (trim l).length ≤ l.length
  | 0, l, h => by rw [List.eq_nil_of_length_eq_zero h]; simp [trim]
  | n + 1, l, h => by
    rcases List.eq_nil_or_concat l with rfl | ⟨zs, a, rfl⟩
    · simp [trim]
    · rw [List.concat_eq_append] at *
      by_cases e : a = 0
      · subst e
        rw [trim_zero]
        have := trim_len n zs (by simpa using h)
        simp
        lia
      · rw [trim_last e]; exact Nat.le_refl _
structure Fer (p : Int) : Prop where
  two : 2 ≤ p
  inv : ∀ a : Int, a % p ≠ 0 → Cg p (a * a ^ (p - 2).toNat) 1
theorem Fer.mul {p a b : Int} (F : Fer p) (ha : a % p ≠ 0) (hb : b % p ≠ 0) : a * b % p ≠ 0 := by
  intro h
  have h1 : Cg p (a * b) 0 := Cg.zero.mpr h
  have h2 := (h1.mul (Cg.rfl (a := b ^ (p - 2).toNat)))
  have h3 : Cg p (a * b * b ^ (p - 2).toNat) a := by
    rw [Int.mul_assoc]
    have := (Cg.rfl (p := p) (a := a)).mul (F.inv b hb)
    rwa [Int.mul_one] at this
  rw [Int.zero_mul] at h2
  exact ha (Cg.zero.mp (h3.symm.trans h2))
theorem Fer.of {p : Int} (h2 : 2 ≤ p) (h : ∀ a : Nat, a < p.toNat → a ≠ 0 → ((a : Int) * (a : Int) ^ (p - 2).toNat) % p = 1) : Fer p := by
  refine ⟨h2, fun a ha => ?_⟩
  have hm := md (a := a) (p := p) (by lia)
  have := h (a % p).toNat (by lia) (by lia)
  have e : (((a % p).toNat : Nat) : Int) = a % p := by lia
  rw [e] at this
  have h3 : Cg p (a % p * (a % p) ^ (p - 2).toNat) 1 := by
    unfold Cg
    rw [this, Int.emod_eq_of_lt (by lia) (by lia)]
  exact ((Cg.md.mul (Cg.md.pow _)).symm).trans h3
noncomputable def tpr (pts : List (Int × Int)) (i : Nat) (x : Int) (n : Nat) : Int := (List.range n).foldl (fun l j => if j = i then l else l * (x - px pts j)) 1
theorem trow_pz (p x : Int) (pts : List (Int × Int)) (i : Nat) : ∀ n : Nat, Cg p (pz (trow p pts i n) x) (tpr pts i x n)
  | 0 => by simp [trow, tpr, pz]; exact Cg.rfl
  | n + 1 => by
    have ih := trow_pz p x pts i n
    unfold trow tpr at ih ⊢
    rw [range_fold, range_fold]
    generalize (List.range n).foldl (trowS p pts i) [1] = r at ih ⊢
    unfold trowS
    split
    · exact ih
    · refine (pmul_pz p x _ _).trans (ih.mul ?_)
      have : pz [-px pts n % p, 1] x = x + -px pts n % p := by simp [pz]
      rw [this, Int.sub_eq_add_neg]
      exact Cg.rfl.add Cg.md
theorem tlow_tpr (p : Int) (pts : List (Int × Int)) (i : Nat) : ∀ n : Nat, Cg p (tlow p pts i n) (tpr pts i (px pts i) n)
  | 0 => by simp [tlow, tpr]; exact Cg.rfl
  | n + 1 => by
    have ih := tlow_tpr p pts i n
    unfold tlow tpr at ih ⊢
    rw [range_fold, range_fold]
    unfold tlowS at ih ⊢
    split
    · exact ih
    · exact Cg.md.trans (ih.mul Cg.rfl)
theorem tpr_zero (pts : List (Int × Int)) (i m : Nat) (hm : m ≠ i) : ∀ n : Nat, m < n → tpr pts i (px pts m) n = 0
  | 0, h => by lia
  | n + 1, h => by
    unfold tpr
    rw [range_fold]
    by_cases e : m = n
    · subst e
      rw [if_neg hm]
      simp
    · have ih := tpr_zero pts i m hm n (by lia)
      unfold tpr at ih
      rw [ih]
      split <;> simp
noncomputable def tsm (p : Int) (pts : List (Int × Int)) (x : Int) (n : Nat) : Int := (List.range n).foldl (fun o i => o + tpr pts i x pts.length * tfac p pts i) 0
theorem tsum_pz (p x : Int) (pts : List (Int × Int)) : ∀ n : Nat, Cg p (pz (tsum p pts n) x) (tsm p pts x n)
  | 0 => by simp [tsum, tsm, pz]; exact Cg.rfl
  | n + 1 => by
    have ih := tsum_pz p x pts n
    unfold tsum tsm at ih ⊢
    rw [range_fold, range_fold]
    unfold tsumS at ih ⊢
    refine (padd_pz p x _ _).trans (ih.add ?_)
    exact (scale_pz p x _ _).trans ((trow_pz p x pts n _).mul Cg.rfl)
theorem tsm_at {p : Int} {pts : List (Int × Int)} {m : Nat} (hm : m < pts.length) : ∀ n : Nat, n ≤ pts.length → tsm p pts (px pts m) n = if m < n then tpr pts m (px pts m) pts.length * tfac p pts m else 0
  | 0, _ => by simp [tsm]
  | n + 1, h => by
    have ih := tsm_at (p := p) hm n (by lia)
    unfold tsm at ih ⊢
    rw [range_fold, ih]
    by_cases e : m = n
    · subst e
      simp
    · rw [tpr_zero pts n m e pts.length hm]
      by_cases q : m < n
      · rw [if_pos q, if_pos (by lia)]; simp
      · rw [if_neg q, if_neg (by lia)]; simp
theorem tlow_ne {p : Int} {pts : List (Int × Int)} (F : Fer p) (hd : ∀ i j, i < pts.length → j < pts.length → i ≠ j → (px pts i - px pts j) % p ≠ 0) {i : Nat} (hi : i < pts.length) : ∀ n : Nat, n ≤ pts.length → tlow p pts i n % p ≠ 0
  | 0, _ => by
    have := F.two
    simp only [tlow, List.range_zero, List.foldl_nil]
    rw [Int.emod_eq_of_lt (by lia) (by lia)]
    lia
  | n + 1, h => by
    have ih := tlow_ne F hd hi n (by lia)
    unfold tlow at ih ⊢
    rw [range_fold]
    unfold tlowS at ih ⊢
    split
    · exact ih
    · rw [Int.emod_emod_of_dvd _ (Int.dvd_refl p)]
      exact F.mul ih (hd i n hi (by lia) (by lia))
theorem thr_val {p : Int} {pts : List (Int × Int)} (F : Fer p) (hd : ∀ i j, i < pts.length → j < pts.length → i ≠ j → (px pts i - px pts j) % p ≠ 0) {m : Nat} (hm : m < pts.length) : pval p (thr p pts) (px pts m) = py pts m % p := by
  have hp := F.two
  refine Cg.small ?_ (pval_bd (by lia) _ _) (md (by lia))
  refine (pval_pz p _ _).trans ?_
  unfold thr
  rw [trim_pz _ _ _ rfl]
  refine (tsum_pz p _ pts _).trans ?_
  rw [tsm_at hm _ (Nat.le_refl _), if_pos hm]
  unfold tfac
  have h1 := (tlow_tpr p pts m pts.length).symm
  have h2 := F.inv _ (tlow_ne F hd hm _ (Nat.le_refl _))
  refine (h1.mul (Cg.md.trans (Cg.rfl.mul Cg.md))).trans ?_
  refine (Cg.of ?_).trans (((Cg.rfl (a := py pts m)).mul h2).trans ?_)
  · grind
  · rw [Int.mul_one]; exact Cg.md.symm
theorem trow_length {p : Int} {pts : List (Int × Int)} {i : Nat} : ∀ n : Nat, (trow p pts i n).length = n + 1 - (if i < n then 1 else 0)
  | 0 => by simp [trow]
  | n + 1 => by
    have ih := trow_length (p := p) (pts := pts) (i := i) n
    have hp := (trow_len (p := p) (pts := pts) (i := i) n).1
    unfold trow at ih hp ⊢
    rw [range_fold]
    generalize (List.range n).foldl (trowS p pts i) [1] = r at ih hp ⊢
    unfold trowS
    split
    · rename_i e
      subst e
      rw [ih]
      simp
    · rename_i e
      rw [pmul_len (by lia) (by simp), ih]
      by_cases q : i < n
      · rw [if_pos q, if_pos (by lia)]; simp
      · rw [if_neg q, if_neg (by lia)]; simp
theorem tsum_length {p : Int} {pts : List (Int × Int)} : ∀ n : Nat, n ≤ pts.length → (tsum p pts n).length ≤ pts.length
  | 0, _ => by simp [tsum]
  | n + 1, h => by
    have ih := tsum_length (p := p) (pts := pts) n (by lia)
    have h2 := trow_length (p := p) (pts := pts) (i := n) pts.length
    rw [if_pos (by lia)] at h2
    unfold tsum at ih ⊢
    rw [range_fold]
    unfold tsumS at ih ⊢
    rw [padd_len, List.length_map]
    lia
theorem thr_length (p : Int) (pts : List (Int × Int)) : (thr p pts).length ≤ pts.length :=
  Nat.le_trans (trim_len _ _ rfl) (tsum_length _ (Nat.le_refl _))
theorem fer101 : Fer 101 := Fer.of (by decide) (by decide +kernel)
theorem isP101 : isP 101 := by
  refine ⟨by decide, fun k h1 h2 => ?_⟩
  have h3 : k ≤ 10 := by
    refine Int.not_lt.mp fun q => ?_
    have : 11 * 11 ≤ k * k := Int.mul_le_mul (by lia) (by lia) (by lia) (by lia)
    lia
  have : k = 2 ∨ k = 3 ∨ k = 4 ∨ k = 5 ∨ k = 6 ∨ k = 7 ∨ k = 8 ∨ k = 9 ∨ k = 10 := by lia
  rcases this with rfl | rfl | rfl | rfl | rfl | rfl | rfl | rfl | rfl <;> decide
abbrev cf (l : List Int) (k : Nat) : Int := l.getD k 0
theorem cf_out {l : List Int} {k : Nat} (h : l.length ≤ k) : cf l k = 0 := by
  unfold cf
  rw [List.getD_eq_getElem?_getD, List.getElem?_eq_none h]; rfl
theorem trim_mem {x : Int} {l : List Int} (h : x ∈ trim l) : x ∈ l := by
  unfold trim at h
  rw [List.mem_reverse] at h
  exact List.mem_reverse.mp ((List.dropWhile_sublist _).mem h)
theorem Bd.trim {p : Int} {l : List Int} (h : Bd p l) : Bd p (trim l) := fun x hx => h x (trim_mem hx)
theorem padd_bd {p : Int} {a b : List Int} (hp : 0 < p) : Bd p (padd p a b) := fun x hx => by
  unfold padd at hx
  obtain ⟨k, _, rfl⟩ := List.mem_map.mp hx
  exact md hp
noncomputable def cell (ns : List Int) (k : Nat) : Int := ns.getD k 0
noncomputable def k_law_cell_nm : List Str := ["script", "k"]
noncomputable def k_law_cell : CSs := (.cons (.ite (.cmp .Lt (.loc 1) (.call "len" (.cons (.loc 0) .nil))) (.cons (.ret (.sub (.loc 0) (.loc 1)))
  .nil) .nil)
  (.cons (.ret (.int 0))
  .nil))
theorem law_cell_cl {G : Gx} {prog : Program} {w : World} {f sa : Addr} {ns : List Int} {k : Int} {H : MH} {xp : Addr → List MV → MH → Prop} (D : GDef G f ["script", "k"] k_law_cell_nm k_law_cell [])
    (bs : Bs G) (S : ScrG G sa ns) (hk : 0 ≤ k) : CL G prog w 1 f [.glob sa, .int k] H (fun v H' => v = .int (cell ns k.toNat) ∧ H' = H) xp := by
  refine D.cl rfl ?_
  intro c e1 e2 ok hfm hint hnm hX
  have Sc := S.scr ok
  show TB c [some (.glob sa), some (.int k)] _ _ _
  unfold k_law_cell
  walk_at "w"
  refine ⟨_, rfl, fun h => ?_, fun h => ?_⟩
  · have h : k < ns.length := by simpa using h
    walk_at "w"
    refine ⟨_, Sc.at hk h, ?_⟩
    exact ⟨rfl, rfl⟩
  · have h : ¬ k < ns.length := by simpa using h
    walk_at "w"
    refine ⟨?_, rfl⟩
    show MV.int 0 = MV.int (cell ns k.toNat)
    congr 1
    exact (cf_out (by lia)).symm
structure LawK (G : Gx) (sa : Addr) (ns : List Int) : Prop where
  bs : Bs G
  scr : ScrG G sa ns
  cell : ∃ f, GFn G "_law_cell" f ∧ GDef G f ["script", "k"] k_law_cell_nm k_law_cell []
inductive CellI : MV → Int → Prop where
  | mk {k : Int} (h : 0 ≤ k) : CellI (.int k) k
theorem TE.cell {c : Cx} {m : ML} {H : MH} {G : Gx} {d : Nat} {sa : Addr} {ns : List Int} (ok : Ok G c d) (hd : 1 ≤ d) (L : LawK G sa ns) {i : Nat} {e : CE} {post : MV → MH → Prop} (hm : m[i]? = some (some (.glob sa)))
    (h : TE c m e H (fun v H1 => ∃ k, CellI v k ∧ post (.int (cell ns k.toNat)) H1)) : TE c m (.call "_law_cell" (.cons (.loc i) (.cons e .nil))) H post := by
  obtain ⟨f, g, D⟩ := L.cell
  refine TE.call ok g (TEs.cons (TE.loc ok hm (TEs.cons (h.mono ?_))))
  rintro _ H1 ⟨k, ⟨hk⟩, hp⟩
  refine TEs.nil ?_
  refine (law_cell_cl D L.bs L.scr hk).use hd ?_
  rintro _ _ ⟨rfl, rfl⟩
  exact hp
noncomputable def k_shown_nm : List Str := ["value"]
noncomputable def k_shown : CSs := (.cons (.ite (.cmp .Is (.call "type" (.cons (.loc 0) .nil)) (.glob "str")) (.cons (.ret (.slice (.loc 0) CO.none (.some (.int 40))))
  .nil) .nil)
  (.cons (.ite (.and (.cons (.cmp .Is (.call "type" (.cons (.loc 0) .nil)) (.glob "int")) (.cons (.cmp2 (.neg (.bin .Pow (.int 10) (.int 9))) .Lt (.loc 0) .Lt (.bin .Pow (.int 10) (.int 9))) .nil))) (.cons (.ret (.call "str" (.cons (.loc 0) .nil)))
  .nil) .nil)
  (.cons (.ret (.str "something else"))
  .nil)))
noncomputable def k_Source_init_nm : List Str := ["self", "seed"]
noncomputable def k_Source_init : CSs := (.cons (.setAttr (.loc 0) "state" (.bin .Mod (.call "need_number" (.cons (.loc 1) (.cons (.int 0) (.cons (.bin .LShift (.int 1) (.int 62)) (.cons (.str "seed") .nil))))) (.bin .LShift (.int 1) (.int 31))))
  (.cons (.setAttr (.loc 0) "drawn" (.int 0))
  .nil))
noncomputable def k_Source_draw_nm : List Str := ["self", "below"]
noncomputable def k_Source_draw : CSs := (.cons (.expr (.call "need_number" (.cons (.loc 1) (.cons (.int 1) (.cons (.bin .LShift (.int 1) (.int 20)) (.cons (.str "bound") .nil))))))
  (.cons (.setAttr (.loc 0) "state" (.bin .Mod (.bin .Add (.bin .Mult (.attr (.loc 0) "state") (.int 1103515245)) (.int 12345)) (.bin .LShift (.int 1) (.int 31))))
  (.cons (.setAttr (.loc 0) "drawn" (.bin .Add (.attr (.loc 0) "drawn") (.int 1)))
  (.cons (.ret (.bin .Mod (.bin .RShift (.attr (.loc 0) "state") (.int 9)) (.loc 1)))
  .nil))))
noncomputable def k_Source_row_nm : List Str := ["self", "count", "below"]
noncomputable def k_Source_row : CSs := (.cons (.ret (.comp (.meth (.loc 0) "draw" (.cons (.loc 2) .nil)) ["k"] (.call "range" (.cons (.loc 1) .nil)) .nil))
  .nil)
theorem e20 : (1 : Int) * 2 ^ (20 : Int).toNat = 1048576 := rfl
theorem e31 : (1 : Int) * 2 ^ (31 : Int).toNat = 2147483648 := rfl
theorem e62 : (1 : Int) * 2 ^ (62 : Int).toNat = 4611686018427387904 := rfl
structure NeedK (G : Gx) (CE : Addr) : Prop where
  bs : Bs G
  sh : ∃ f, GFn G "shown" f ∧ GDef G f ["value"] k_shown_nm k_shown []
  nn : ∃ f, GFn G "need_number" f ∧ GDef G f ["value", "least", "most", "what"] k_need_number_nm k_need_number []
  ex : GExc G "ShareError" CE bmV
noncomputable def nxt (s : Int) : Int := (s * 1103515245 + 12345) % 2147483648
noncomputable def drw (s b : Int) : Int := nxt s / 512 % b
theorem nxt_bd (s : Int) : 0 ≤ nxt s ∧ nxt s < 2147483648 := ⟨Int.emod_nonneg _ (by decide), Int.emod_lt_of_pos _ (by decide)⟩
structure SrcK (G : Gx) (C : Addr) : Prop where
  bs : Bs G
  nn : ∃ f, GFn G "need_number" f ∧ GDef G f ["value", "least", "most", "what"] k_need_number_nm k_need_number []
  cls : ∃ f, GCls G "Source" C f ∧ GDef G f ["self", "seed"] k_Source_init_nm k_Source_init []
  a1 : GAtt G C "state"
  a2 : GAtt G C "drawn"
  s1 : GSto G C "state"
  s2 : GSto G C "drawn"
  dr : ∃ f, GMth G C "draw" f ∧ GDef G f ["self", "below"] k_Source_draw_nm k_Source_draw []
noncomputable abbrev srcF (s n : Int) : List (Str × MV) := [("state", .int s), ("drawn", .int n)]
noncomputable abbrev srcF1 (s : Int) : List (Str × MV) := [("state", .int s)]
theorem ins_set {H : MH} {i kk : Nat} {C : Addr} {fs gs : List (Str × MV)} (h : Ins H i C kk fs) : Ins (H.set kk (.ns gs)) i C kk gs := by
  have hne : kk ≠ i := by
    rintro rfl
    have := h.1.symm.trans h.2
    cases this
  refine ⟨?_, ?_⟩
  · rw [List.getElem?_set_ne hne]; exact h.1
  · rw [List.getElem?_set_self']; rw [h.2]; rfl
theorem set_same {H : MH} {a : Nat} {o : MO} (h : H[a]? = some o) : H.set a o = H := by
  apply List.ext_getElem?
  intro j
  by_cases e : a = j
  · subst e; rw [get_set h, h]
  · rw [List.getElem?_set_ne e]
theorem draw_cl {G : Gx} {prog : Program} {w : World} {f C : Addr} {i kk : Nat} {s n b : Int} {H : MH} {xp : Addr → List MV → MH → Prop} (K : SrcK G C) (D : GDef G f ["self", "below"] k_Source_draw_nm k_Source_draw [])
    (hS : Ins H i C kk (srcF s n)) (hs : 0 ≤ s ∧ s < 2147483648) (b0 : 1 ≤ b) (b1 : b ≤ 1048576) :
    CL G prog w 2 f [.ref i, .int b] H (fun v H' => v = .int (drw s b) ∧ H' = H.set kk (.ns (srcF (nxt s) (n + 1)))) xp := by
  have bs := K.bs
  obtain ⟨fN, gN, dN⟩ := K.nn
  have a1 := K.a1
  have a2 := K.a2
  have s1 := K.s1
  have s2 := K.s2
  have hs1 := hs.1
  have hs2 := hs.2
  refine D.cl rfl ?_
  intro c e1 e2 ok hfm hint hnm hX
  subst e1 e2
  show TB c [some (.ref i), some (.int b)] _ _ _
  unfold k_Source_draw
  walk_at "w"
  rw [e20]
  refine (need_number_cl dN bs b0 b1).use (Nat.le_refl _) ?_
  rintro _ _ ⟨rfl, rfl⟩
  walk_at "w"
  rw [e31]
  walk_at "w"
  have i1 := ins_set (gs := srcF (nxt s) n) hS
  have p1 : putF "state" (.int ((s * 1103515245 + 12345) % 2147483648)) (srcF s n) = srcF (nxt s) n := rfl
  rw [p1]
  walk_at "w"
  have i2 := ins_set (gs := srcF (nxt s) (n + 1)) i1
  have p2 : putF "drawn" (.int (n + 1)) (srcF (nxt s) n) = srcF (nxt s) (n + 1) := rfl
  rw [p2]
  walk_at "w"
  rw [show (2 : Int) ^ (9 : Int).toNat = 512 from rfl, Int.fdiv_eq_ediv_of_nonneg _ (by decide)]
  refine ⟨rfl, ?_⟩
  rw [List.set_set]
noncomputable def drws (b : Int) : Nat → Int → List Int
  | 0, _ => []
  | n + 1, s => drws b n s ++ [drw (Nat.repeat nxt n s) b]
theorem drws_len (b : Int) : ∀ (n : Nat) (s : Int), (drws b n s).length = n
  | 0, _ => rfl
  | n + 1, s => by simp [drws, drws_len b n s]
theorem drw_bd {s b : Int} (hb : 0 < b) : 0 ≤ drw s b ∧ drw s b < b := ⟨Int.emod_nonneg _ (by lia), Int.emod_lt_of_pos _ hb⟩
theorem drws_bd {b : Int} (hb : 0 < b) : ∀ (n : Nat) (s x : Int), x ∈ drws b n s → 0 ≤ x ∧ x < b
  | 0, _, _, h => by cases h
  | n + 1, s, x, h => by
    simp only [drws, List.mem_append, List.mem_singleton] at h
    rcases h with h | h
    · exact drws_bd hb n s x h
    · rw [h]; exact drw_bd hb
theorem rep_bd {s : Int} (hs : 0 ≤ s ∧ s < 2147483648) : ∀ n : Nat, 0 ≤ Nat.repeat nxt n s ∧ Nat.repeat nxt n s < 2147483648
  | 0 => hs
  | _ + 1 => nxt_bd _
theorem row_cl {G : Gx} {prog : Program} {w : World} {f C : Addr} {i kk : Nat} {s n b k : Int} {H : MH} {xp : Addr → List MV → MH → Prop} (K : SrcK G C) (D : GDef G f ["self", "count", "below"] k_Source_row_nm k_Source_row [])
    (hS : Ins H i C kk (srcF s n)) (hs : 0 ≤ s ∧ s < 2147483648) (b0 : 1 ≤ b) (b1 : b ≤ 1048576) (k1 : k ≤ 100000) (k0 : -100000 ≤ k) :
    CL G prog w 3 f [.ref i, .int k, .int b] H (fun v H' => v = .ref H.length ∧ H' = H.set kk (.ns (srcF (Nat.repeat nxt k.toNat s) (n + k.toNat))) ++ [.list (intL (drws b k.toNat s))]) xp := by
  have bs := K.bs
  obtain ⟨fD, gD, dD⟩ := K.dr
  refine D.cl rfl ?_
  intro c e1 e2 ok hfm hint hnm hX
  subst e1 e2
  show TB c [some (.ref i), some (.int k), some (.int b)] _ _ _
  unfold k_Source_row
  refine TB.cons (TS.ret (TE.comp ok (Src.range ok bs.range ?_)))
  walk_at "w"
  refine ⟨0, k, ⟨.inl ⟨rfl, rfl⟩, by lia, by lia, by lia, by lia⟩, ?_⟩
  have e0 : (k - 0).toNat = k.toNat := by lia
  refine Turns.range (x := "k") rfl (by lia) (fun j ys H1 => H1 = H.set kk (.ns (srcF (Nat.repeat nxt j s) (n + j))) ∧ ys = intL (drws b j s)) ⟨?_, rfl⟩ ?_ ?_ ?_
  · have hk := hS.2
    show H = H.set kk (.ns (srcF s (n + (0 : Nat))))
    have : n + ((0 : Nat) : Int) = n := by lia
    rw [this]
    exact (set_same hk).symm
  · rintro j ys H1 ⟨_, rfl⟩
    simp [drws_len]
  · rintro j ys H1 ⟨rfl, rfl⟩ hlt c' sub hnm'
    have ok' := sub.ok
    refine ⟨fun q => (by cases q), fun _ => ?_⟩
    show TE c' [some (.ref i), some (.int k), some (.int b), some (.int (0 + (j : Int)))] _ _ _
    have iS := ins_set (gs := srcF (Nat.repeat nxt j s) (n + j)) hS
    walk_at "w"
    refine (draw_cl K dD iS (rep_bd hs j) b0 b1).use (Nat.le_refl _) ?_
    rintro _ _ ⟨rfl, rfl⟩
    refine ⟨?_, ?_⟩
    · rw [List.set_set]
      have : n + ((j + 1 : Nat) : Int) = n + j + 1 := by lia
      rw [this]
      rfl
    · simp [drws, intL]
  · rintro ys H1 ⟨rfl, rfl⟩
    rw [e0]
    refine ⟨?_, rfl⟩
    show MV.ref _ = MV.ref _
    rw [List.length_set]
theorem src_init_cl {G : Gx} {prog : Program} {w : World} {f C : Addr} {i kk : Nat} {v : Int} {H : MH} {xp : Addr → List MV → MH → Prop} (K : SrcK G C) (D : GDef G f ["self", "seed"] k_Source_init_nm k_Source_init [])
    (hI : Ins H i C kk []) (h0 : 0 ≤ v) (h1 : v ≤ 4611686018427387904) :
    CL G prog w 2 f [.ref i, .int v] H (fun r H' => r = .none ∧ H' = H.set kk (.ns (srcF (v % 2147483648) 0))) xp := by
  have bs := K.bs
  obtain ⟨fN, gN, dN⟩ := K.nn
  have s1 := K.s1
  have s2 := K.s2
  refine D.cl rfl ?_
  intro c e1 e2 ok hfm hint hnm hX
  subst e1 e2
  show TB c [some (.ref i), some (.int v)] _ _ _
  unfold k_Source_init
  walk_at "w"
  rw [e62]
  refine (need_number_cl dN bs h0 h1).use (Nat.le_refl _) ?_
  rintro _ H1 ⟨rfl, rfl⟩
  walk_at "w"
  rw [e31]
  walk_at "w"
  have i1 : Ins (H1.set kk (.ns (srcF1 (v % 2147483648)))) i C kk (srcF1 (v % 2147483648)) := ins_set hI
  have p1 : putF "state" (.int (v % 2147483648)) [] = srcF1 (v % 2147483648) := rfl
  rw [p1]
  walk_at "w"
  refine ⟨rfl, ?_⟩
  rw [List.set_set]
  rfl
theorem TE.source {c : Cx} {m : ML} {H : MH} {G : Gx} {d : Nat} {C : Addr} (ok : Ok G c d) (hd : 3 ≤ d) (K : SrcK G C) {e : CE} {post : MV → MH → Prop}
    (h : TE c m e H (fun v H1 => ∃ k, v = .int k ∧ 0 ≤ k ∧ k ≤ 4611686018427387904 ∧ post (.ref (H1.length + 1)) (H1 ++ [.ns (srcF (k % 2147483648) 0)] ++ [.inst C H1.length]))) : TE c m (.call "Source" (.cons e .nil)) H post := by
  obtain ⟨fI, gI, dI⟩ := K.cls
  refine TE.new (d := 2) (ok.le hd) gI (TEs.cons (h.mono ?_))
  rintro _ H1 ⟨k, rfl, h0, h1, hpost⟩
  refine TEs.nil ?_
  refine (src_init_cl (kk := H1.length) K dI ⟨?_, ?_⟩ h0 h1).use (Nat.le_refl _) ?_
  · simp
  · simp
  · rintro _ _ ⟨rfl, rfl⟩
    refine ⟨rfl, ?_⟩
    have : (H1 ++ [MO.ns []] ++ [MO.inst C H1.length]).set H1.length (.ns (srcF (k % 2147483648) 0)) = H1 ++ [.ns (srcF (k % 2147483648) 0)] ++ [.inst C H1.length] := by simp
    rw [this]
    exact hpost
noncomputable def k_Field_need_nm : List Str := ["self", "a"]
noncomputable def k_Field_need : CSs := (.cons (.ret (.call "need_number" (.cons (.loc 1) (.cons (.int 0) (.cons (.bin .Sub (.attr (.loc 0) "prime") (.int 1)) (.cons (.str "number of the field") .nil))))))
  .nil)
noncomputable def k_need_counts_nm : List Str := ["field", "needed", "count"]
noncomputable def k_need_counts : CSs := (.cons (.expr (.call "need_number" (.cons (.loc 2) (.cons (.int 1) (.cons (.call "min" (.cons (.glob "MOST") (.cons (.bin .Sub (.attr (.loc 0) "prime") (.int 1)) .nil))) (.cons (.str "count of shares") .nil))))))
  (.cons (.expr (.call "need_number" (.cons (.loc 1) (.cons (.int 1) (.cons (.loc 2) (.cons (.str "count of shares that suffice") .nil))))))
  .nil))
noncomputable def k_deal_nm : List Str := ["field", "secret", "needed", "count", "source", "row"]
noncomputable def k_deal : CSs := (.cons (.expr (.call "need_counts" (.cons (.loc 0) (.cons (.loc 2) (.cons (.loc 3) .nil)))))
  (.cons (.expr (.meth (.loc 0) "need" (.cons (.loc 1) .nil)))
  (.cons (.assign 5 (.bin .Add (.list (.cons (.loc 1) .nil)) (.meth (.loc 4) "row" (.cons (.bin .Sub (.loc 2) (.int 1)) (.cons (.attr (.loc 0) "prime") .nil)))))
  (.cons (.ret (.tup (.cons (.loc 5) (.cons (.call "shares_of" (.cons (.loc 0) (.cons (.loc 5) (.cons (.loc 3) .nil)))) .nil))))
  .nil))))
noncomputable def k_shares_of_nm : List Str := ["field", "row", "count"]
noncomputable def k_shares_of : CSs := (.cons (.ret (.comp (.tup (.cons (.loc 3) (.cons (.call "value" (.cons (.loc 0) (.cons (.loc 1) (.cons (.loc 3) .nil)))) .nil))) ["x"] (.call "range" (.cons (.int 1) (.cons (.bin .Add (.loc 2) (.int 1)) .nil))) .nil))
  .nil)
noncomputable def shs (p : Int) (row : List Int) (n : Nat) : List (Int × Int) := (List.range n).map fun (k : Nat) => ((k : Int) + 1, pval p row ((k : Int) + 1))
theorem shs_len {p : Int} {row : List Int} {n : Nat} : (shs p row n).length = n := by simp [shs]
theorem shs_at {p : Int} {row : List Int} {n k : Nat} (h : k < n) : (shs p row n).getD k (0, 0) = ((k : Int) + 1, pval p row ((k : Int) + 1)) := by
  unfold shs
  rw [List.getD_eq_getElem?_getD, List.getElem?_map, List.getElem?_range h]
  rfl
theorem shares_of_cl {G : Gx} {prog : Program} {w : World} {f fV C : Addr} {i kk r : Nat} {p n : Int} {row : List Int} {H : MH} {xp : Addr → List MV → MH → Prop} (D : GDef G f ["field", "row", "count"] k_shares_of_nm k_shares_of [])
    (bs : Bs G) (ga : GAtt G C "prime") (gV : GFn G "value" fV) (dV : GDef G fV ["field", "row", "x"] k_value_nm k_value []) (hF : Ins H i C kk [("prime", .int p)]) (hp : 2 ≤ p) (hp2 : p < 2 ^ 60)
    (hr : H[r]? = some (.list (intL row))) (h0 : 0 ≤ n) (h1 : n ≤ 1000) :
    CL G prog w 2 f [.ref i, .ref r, .int n] H (fun v H' => ∃ z, v = .ref z ∧ H.length ≤ z ∧ Ext H H' ∧ PtsAt H' z (shs p row n.toNat)) xp := by
  refine D.cl rfl ?_
  intro c e1 e2 ok hfm hint hnm hX
  subst e1 e2
  show TB c [some (.ref i), some (.ref r), some (.int n)] _ _ _
  unfold k_shares_of
  refine TB.cons (TS.ret (TE.comp ok (Src.range ok bs.range ?_)))
  walk_at "w"
  refine ⟨1, n + 1, ⟨.inr rfl, by lia, by lia, by lia, by lia⟩, ?_⟩
  refine Turns.range (x := "x") rfl (by lia) (fun j ys H1 => Ext H H1 ∧ ys.length = j ∧ ∀ k, k < j → ∃ t, ys[k]? = some (.ref t) ∧ H1[t]? = some (.tup [.int ((k : Int) + 1), .int (pval p row ((k : Int) + 1))])) ⟨Ext.refl H, rfl, fun k hk => by lia⟩ ?_ ?_ ?_
  · rintro j ys H1 ⟨_, h, _⟩
    lia
  · rintro j ys H1 ⟨E1, hl, hk⟩ hlt c' sub hnm'
    have ok' := sub.ok
    refine ⟨fun q => (by cases q), fun _ => ?_⟩
    rw [Int.add_comm 1 (j : Int)]
    show TE c' [some (.ref i), some (.ref r), some (.int n), some (.int ((j : Int) + 1))] _ _ _
    walk_at "w"
    refine (value_cl dV bs ga (E1.ins hF) (E1 _ _ hr) hp hp2).use (Nat.le_refl _) ?_
    rintro _ H2 ⟨rfl, rfl⟩
    walk_at "w"
    refine ⟨Nat.le_of_ble_eq_true rfl, E1.app _, by simp [hl], fun k hk' => ?_⟩
    by_cases e : k = j
    · subst e
      exact ⟨H2.length, by rw [← hl]; simp, get_end⟩
    · obtain ⟨t, q1, q2⟩ := hk k (by lia)
      exact ⟨t, by rw [List.getElem?_append_left (by lia)]; exact q1, get_app q2⟩
  · rintro ys H1 ⟨E1, hl, hk⟩
    have e1 : (n + 1 - 1).toNat = n.toNat := by lia
    rw [e1] at hl hk
    refine ⟨H1.length, rfl, E1.len, E1.app _, ys, get_end, by rw [shs_len, hl], fun k hk' => ?_⟩
    rw [shs_len] at hk'
    obtain ⟨t, q1, q2⟩ := hk k hk'
    refine ⟨t, q1, ?_⟩
    unfold px py
    rw [shs_at hk']
    exact get_app q2
structure DealK (G : Gx) (C CS CE : Addr) : Prop extends NeedK G CE where
  S : SrcK G CS
  att : GAtt G C "prime"
  fn : ∃ f, GMth G C "need" f ∧ GDef G f ["self", "a"] k_Field_need_nm k_Field_need []
  nc : ∃ f, GFn G "need_counts" f ∧ GDef G f ["field", "needed", "count"] k_need_counts_nm k_need_counts []
  mo : ∃ t, nsIn G.K mainGlobals "MOST" = some (some (.int 200 t))
  rw : ∃ f, GMth G CS "row" f ∧ GDef G f ["self", "count", "below"] k_Source_row_nm k_Source_row []
  so : ∃ f, GFn G "shares_of" f ∧ GDef G f ["field", "row", "count"] k_shares_of_nm k_shares_of []
  va : ∃ f, GFn G "value" f ∧ GDef G f ["field", "row", "x"] k_value_nm k_value []
theorem need_cl {G : Gx} {prog : Program} {w : World} {f C CE : Addr} {i kk : Nat} {p a : Int} {H : MH} {xp : Addr → List MV → MH → Prop} (D : GDef G f ["self", "a"] k_Field_need_nm k_Field_need []) (K : NeedK G CE) (ga : GAtt G C "prime")
    (hF : Ins H i C kk [("prime", .int p)]) (h0 : 0 ≤ a) (h1 : a < p) : CL G prog w 2 f [.ref i, .int a] H (fun v H' => v = .int a ∧ H' = H) xp := by
  have bs := K.bs
  obtain ⟨fN, gN, dN⟩ := K.nn
  refine D.cl rfl ?_
  intro c e1 e2 ok hfm hint hnm hX
  subst e1 e2
  show TB c [some (.ref i), some (.int a)] _ _ _
  unfold k_Field_need
  walk_at "w"
  exact (need_number_cl dN bs h0 (by lia)).use (Nat.le_refl _) fun _ _ x => x
noncomputable def goodC (p needed count : Int) : Prop := 1 ≤ count ∧ count ≤ 200 ∧ count < p ∧ 1 ≤ needed ∧ needed ≤ count
section
variable {G : Gx} {C CS CE : Addr}
theorem need_counts_cl {prog : Program} {w : World} {f : Addr} {i kk : Nat} {p needed count : Int} {H : MH} {xp : Addr → List MV → MH → Prop} (D : GDef G f ["field", "needed", "count"] k_need_counts_nm k_need_counts []) (K : DealK G C CS CE)
    (hF : Ins H i C kk [("prime", .int p)]) (h : goodC p needed count) : CL G prog w 2 f [.ref i, .int needed, .int count] H (fun v H' => v = .none ∧ H' = H) xp := by
  have bs := K.bs
  have ga := K.att
  obtain ⟨fN, gN, dN⟩ := K.nn
  obtain ⟨t, gM⟩ := K.mo
  obtain ⟨h1, h2, h3, h4, h5⟩ := h
  refine D.cl rfl ?_
  intro c e1 e2 ok hfm hint hnm hX
  subst e1 e2
  show TB c [some (.ref i), some (.int needed), some (.int count)] _ _ _
  unfold k_need_counts
  walk_at "w"
  refine TE.glob ok gM (v := .int 200) ⟨t, rfl⟩ ?_
  walk_at "w"
  refine BC.min ok.hh ?_
  walk_at "w"
  refine (need_number_cl dN bs h1 (by lia)).use (Nat.le_refl _) ?_
  rintro _ _ ⟨rfl, rfl⟩
  walk_at "w"
  refine (need_number_cl dN bs h4 h5).use (Nat.le_refl _) ?_
  rintro _ _ ⟨rfl, rfl⟩
  walk_at "w"
  exact ⟨rfl, rfl⟩
theorem deal_cl {prog : Program} {w : World} {f : Addr} {i kk sc ks : Nat} {p secret needed count s n : Int} {H : MH} {xp : Addr → List MV → MH → Prop} (D : GDef G f ["field", "secret", "needed", "count", "source"] k_deal_nm k_deal [])
    (K : DealK G C CS CE) (hF : Ins H i C kk [("prime", .int p)]) (hS : Ins H sc CS ks (srcF s n)) (hk : kk ≠ ks) (hs : 0 ≤ s ∧ s < 2147483648) (hp : 2 ≤ p) (hp2 : p ≤ 1048576) (h : goodC p needed count) (s0 : 0 ≤ secret) (s1 : secret < p) :
    CL G prog w 5 f [.ref i, .int secret, .int needed, .int count, .ref sc] H (fun v H' => ∃ t zr zs, v = .ref t ∧ H.length ≤ t ∧ H.length ≤ zr ∧ H.length ≤ zs ∧ Ext (H.set ks (.ns (srcF (Nat.repeat nxt (needed - 1).toNat s) (n + (needed - 1).toNat)))) H' ∧
      H'[t]? = some (.tup [.ref zr, .ref zs]) ∧ H'[zr]? = some (.list (intL (secret :: drws p (needed - 1).toNat s))) ∧ PtsAt H' zs (shs p (secret :: drws p (needed - 1).toNat s) count.toNat)) xp := by
  have bs := K.bs
  have ga := K.att
  obtain ⟨fNC, gNC, dNC⟩ := K.nc
  obtain ⟨fFN, gFN, dFN⟩ := K.fn
  obtain ⟨fR, gR, dR⟩ := K.rw
  obtain ⟨fSO, gSO, dSO⟩ := K.so
  obtain ⟨fV, gV, dV⟩ := K.va
  have h' := h
  obtain ⟨h1, h2, h3, h4, h5⟩ := h
  refine D.cl rfl ?_
  intro c e1 e2 ok hfm hint hnm hX
  subst e1 e2
  show TB c [some (.ref i), some (.int secret), some (.int needed), some (.int count), some (.ref sc), none] _ _ _
  unfold k_deal
  walk_at "w"
  refine (need_counts_cl dNC K hF h').use (by decide) ?_
  rintro _ _ ⟨rfl, rfl⟩
  walk_at "w"
  refine (need_cl dFN K.toNeedK ga hF s0 s1).use (by decide) ?_
  rintro _ H1 ⟨rfl, rfl⟩
  refine TB.cons (TS.assign ok hfm rfl (TE.addL ?_))
  walk_at "w"
  refine ⟨by simp, ?_⟩
  have E1 : Ext H1 (H1 ++ [MO.list [.int secret]]) := (Ext.refl H1).app _
  have iS := E1.ins hS
  have iF := E1.ins hF
  walk_at "w"
  refine (row_cl K.S dR iS hs (by lia) hp2 (by lia) (by lia)).use (by decide) ?_
  rintro _ H2 ⟨rfl, e2⟩
  generalize hR : drws p (needed - 1).toNat s = R at e2 ⊢
  have lR : R.length = (needed - 1).toNat := by rw [← hR, drws_len]
  have hL : (H1 ++ [MO.list [.int secret]]).length = H1.length + 1 := by simp
  have hks : ks < H1.length := (List.getElem?_eq_some_iff.mp hS.2).1
  have e3 : H2 = (H1.set ks (.ns (srcF (Nat.repeat nxt (needed - 1).toNat s) (n + (needed - 1).toNat)))) ++ [.list [.int secret]] ++ [.list (intL R)] := by
    rw [e2, List.set_append_left _ _ hks]
  generalize hB : H1.set ks (.ns (srcF (Nat.repeat nxt (needed - 1).toNat s) (n + (needed - 1).toNat))) = B at e3 ⊢
  have lB : B.length = H1.length := by rw [← hB, List.length_set]
  have iB : Ins B i C kk [("prime", .int p)] := by
    rw [← hB]
    have hne : ks ≠ i := by
      rintro rfl
      have := hS.2.symm.trans hF.1
      cases this
    exact ⟨by rw [List.getElem?_set_ne hne]; exact hF.1, by rw [List.getElem?_set_ne (fun e => hk e.symm)]; exact hF.2⟩
  rw [hL]
  refine ⟨H1.length, H1.length + 1, [.int secret], intL R, rfl, rfl, ?_, ?_, by simp [lR]; lia, ?_⟩
  · rw [e3, ← lB]; exact get_app get_end
  · rw [e3, ← lB]; simp
  have E3 : Ext B (H2 ++ [.list ([.int secret] ++ intL R)]) := by rw [e3]; exact (((Ext.refl B).app _).app _).app _
  have lH2 : H2.length = H1.length + 2 := by rw [e3]; simp [lB]
  have kr : (H2 ++ [MO.list ([.int secret] ++ intL R)])[H2.length]? = some (.list (intL (secret :: R))) := get_end
  walk_at "w"
  refine (shares_of_cl dSO bs ga gV dV (E3.ins iB) hp (by lia) kr (by lia) (by lia)).use (by decide) ?_
  rintro _ H4 ⟨z, rfl, hz, E4, hP⟩
  walk_at "w"
  refine ⟨by simp, H4.length, H2.length, z, rfl, ?_, ?_, ?_, (E3.trans E4).app _, get_end, get_app (E4 _ _ kr), hP.ext ((Ext.refl H4).app _)⟩
  · have := E4.len
    simp at this
    lia
  · lia
  · simp at hz
    lia
end
noncomputable def k_need_shares_nm : List Str := ["field", "shares", "seen", "x", "y"]
noncomputable def k_need_shares : CSs := (.cons (.assign 2 (.list .nil))
  (.cons (.for [3, 4] (.loc 1) (.cons (.expr (.meth (.loc 0) "need" (.cons (.loc 3) .nil)))
  (.cons (.expr (.meth (.loc 0) "need" (.cons (.loc 4) .nil)))
  (.cons (.ite (.or (.cons (.cmp .Eq (.loc 3) (.int 0)) (.cons (.cmp .In (.loc 3) (.loc 2)) .nil))) (.cons (.raise "ShareError" (.cons (.str "a place twice, or nought") .nil))
  .nil) .nil)
  (.cons (.expr (.meth (.loc 2) "append" (.cons (.loc 3) .nil)))
  .nil)))))
  (.cons (.ret (.loc 1))
  .nil)))
noncomputable def k_rebuild_nm : List Str := ["field", "shares", "needed"]
noncomputable def k_rebuild : CSs := (.cons (.ret (.call "value_at" (.cons (.loc 0) (.cons (.loc 1) (.cons (.loc 2) (.cons (.int 0) .nil))))))
  .nil)
noncomputable def k_value_at_nm : List Str := ["field", "shares", "needed", "x", "row", "place", "y"]
noncomputable def k_value_at : CSs := (.cons (.expr (.call "need_shares" (.cons (.loc 0) (.cons (.loc 1) .nil))))
  (.cons (.expr (.call "need_number" (.cons (.loc 2) (.cons (.int 1) (.cons (.glob "MOST") (.cons (.str "count of shares that suffice") .nil))))))
  (.cons (.ite (.cmp .Lt (.call "len" (.cons (.loc 1) .nil)) (.loc 2)) (.cons (.raise "ShareError" (.cons (.str "too few shares") .nil))
  .nil) .nil)
  (.cons (.assign 4 (.call "through" (.cons (.loc 0) (.cons (.slice (.loc 1) CO.none (.some (.loc 2))) .nil))))
  (.cons (.for [5, 6] (.slice (.loc 1) (.some (.loc 2)) CO.none) (.cons (.ite (.cmp .NotEq (.call "value" (.cons (.loc 0) (.cons (.loc 4) (.cons (.loc 5) .nil)))) (.loc 6)) (.cons (.raise "ShareError" (.cons (.str "shares that do not lie together") .nil))
  .nil) .nil)
  .nil))
  (.cons (.ret (.call "value" (.cons (.loc 0) (.cons (.loc 4) (.cons (.loc 3) .nil)))))
  .nil))))))
structure Gs (p : Int) (pts : List (Int × Int)) : Prop where
  x : ∀ k, k < pts.length → 1 ≤ px pts k ∧ px pts k < p
  y : ∀ k, k < pts.length → 0 ≤ py pts k ∧ py pts k < p
  d : ∀ j k, j < pts.length → k < pts.length → px pts j = px pts k → j = k
structure PolK (G : Gx) (C CE : Addr) : Prop extends NeedK G CE where
  T : ThrK G C
  fn : ∃ f, GMth G C "need" f ∧ GDef G f ["self", "a"] k_Field_need_nm k_Field_need []
  mo : ∃ t, nsIn G.K mainGlobals "MOST" = some (some (.int 200 t))
  va : ∃ f, GFn G "value" f ∧ GDef G f ["field", "row", "x"] k_value_nm k_value []
  th : ∃ f, GFn G "through" f ∧ GDef G f ["field", "points"] k_through_nm k_through []
  ns : ∃ f, GFn G "need_shares" f ∧ GDef G f ["field", "shares"] k_need_shares_nm k_need_shares []
section
variable {G : Gx} {C CE : Addr}
theorem need_shares_cl {prog : Program} {w : World} {f : Addr} {i kk r : Nat} {p : Int} {pts : List (Int × Int)} {H : MH} {xp : Addr → List MV → MH → Prop} (D : GDef G f ["field", "shares"] k_need_shares_nm k_need_shares [])
    (K : PolK G C CE) (hF : Ins H i C kk [("prime", .int p)]) (hP : PtsAt H r pts) (hl : pts.length ≤ 1000) (g : Gs p pts) :
    CL G prog w 4 f [.ref i, .ref r] H (fun v H' => v = .ref r ∧ Ext H H') xp := by
  have bs := K.bs
  obtain ⟨fN, gN, dN⟩ := K.fn
  refine D.cl rfl ?_
  intro c e1 e2 ok hfm hint hnm hX
  subst e1 e2
  show TB c [some (.ref i), some (.ref r), none, none, none] _ _ _
  unfold k_need_shares
  walk_at "w"
  refine ⟨by simp, ?_⟩
  refine TB.cons (TS.forL' ok hfm ?_)
  walk_at "w"
  obtain ⟨refs, p1, p2, p3⟩ := id hP
  refine ⟨r, refs, rfl, get_app p1, fun j m1 H3 => ∃ o3 o4, m1 = [some (.ref i), some (.ref r), some (.ref H.length), o3, o4] ∧ Ext H H3 ∧ H3[H.length]? = some (.list (intL ((List.range j).map (px pts)))), ⟨_, _, rfl, (Ext.refl H).app _, get_end⟩, ?_, ?_, ?_⟩
  · rintro j m1 H3 ⟨_, _, _, E, _⟩
    exact E _ _ p1
  · rintro j m1 H3 v xt ⟨o3, o4, rfl, E, hs⟩ hv
    have hj : j < pts.length := by
      have := (List.getElem?_eq_some_iff.mp hv).1
      rw [p2] at this
      exact this
    obtain ⟨t, q1, q2⟩ := p3 j hj
    rw [q1] at hv
    cases hv
    refine ⟨[.int (px pts j), .int (py pts j)], ⟨by simp, rfl, t, rfl, E _ _ q2⟩, ?_⟩
    have okx := ok.wx xt
    have hfx : (c.wx xt).fm = none := hfm
    have hix : interactive (c.wx xt).env = false := hint
    show TB (c.wx xt) [some (.ref i), some (.ref r), some (.ref H.length), some (.int (px pts j)), some (.int (py pts j))] _ _ _
    refine TB.gen3 fun PP hPP => ?_
    have iF := E.ins hF
    have gx := g.x j hj
    have gy := g.y j hj
    walk_at "w"
    refine (need_cl dN K.toNeedK K.T.att iF (by lia) gx.2).use (by decide) ?_
    rintro _ H1 ⟨rfl, rfl⟩
    walk_at "w"
    refine (need_cl dN K.toNeedK K.T.att iF gy.1 gy.2).use (by decide) ?_
    rintro _ H1 ⟨rfl, rfl⟩
    walk_at "w"
    refine ⟨false, by show false = decide _; simp; lia, fun h => (by cases h), fun _ => ?_⟩
    walk_at "w"
    refine ⟨_, Cq.inI hs, ?_⟩
    have hn : (((List.range j).map (px pts)).any (· == px pts j)) = false := by
      rw [List.any_eq_false]
      intro x hx
      obtain ⟨k, hk, rfl⟩ := List.mem_map.mp hx
      have hk := List.mem_range.mp hk
      intro e
      have := g.d k j (by lia) hj (by simpa using e)
      lia
    rw [hn]
    refine ⟨fun h => (by cases h), fun _ => ?_⟩
    walk_at "w"
    refine ⟨fun h => (by cases h), fun _ => ?_⟩
    walk_at "w"
    refine ⟨_, _, rfl, hs, ?_⟩
    walk_at "w"
    refine ⟨_, hs, by simp; lia, ?_⟩
    walk_at "w"
    refine hPP _ _ _ ⟨_, _, rfl, E.set (Nat.le_refl _), ?_⟩
    rw [List.getElem?_set_self (List.getElem?_eq_some_iff.mp hs).1, List.range_succ]
    simp [intL]
  · rintro m1 H3 ⟨o3, o4, rfl, E, _⟩
    walk_at "w"
    exact ⟨rfl, E⟩
end
theorem pt_take {pts : List (Int × Int)} {n k : Nat} (h : k < n) : (pts.take n).getD k (0, 0) = pts.getD k (0, 0) := by
  rw [List.getD_eq_getElem?_getD, List.getD_eq_getElem?_getD, List.getElem?_take_of_lt h]
theorem PtsAt.take {H H' : MH} {r q : Nat} {pts : List (Int × Int)} {refs : List MV} {n : Nat} (h1 : H[r]? = some (.list refs)) (h2 : refs.length = pts.length) (h3 : ∀ k, k < pts.length → ∃ t, refs[k]? = some (.ref t) ∧ H[t]? = some (.tup [.int (px pts k), .int (py pts k)]))
    (E : Ext H H') (hq : H'[q]? = some (.list (refs.take n))) : PtsAt H' q (pts.take n) := by
  refine ⟨_, hq, by simp [h2], fun k hk => ?_⟩
  rw [List.length_take] at hk
  obtain ⟨t, q1, q2⟩ := h3 k (by lia)
  refine ⟨t, by rw [List.getElem?_take_of_lt (by lia)]; exact q1, ?_⟩
  unfold px py
  rw [pt_take (by lia)]
  exact E _ _ q2
theorem df_of {p : Int} {pts : List (Int × Int)} (g : Gs p pts) : ∀ i j, i < pts.length → j < pts.length → i ≠ j → (px pts i - px pts j) % p ≠ 0 := by
  intro i j hi hj hne h
  have a := g.x i hi
  have b := g.x j hj
  refine hne (g.d i j hi hj ?_)
  obtain ⟨c, hc⟩ := Int.dvd_of_emod_eq_zero h
  have hp : 0 < p := by lia
  have h1 : c < 1 := by
    refine Int.not_le.mp fun q => ?_
    have := Int.mul_le_mul_of_nonneg_left q (Int.le_of_lt hp)
    lia
  have h2 : -1 < c := by
    refine Int.not_le.mp fun q => ?_
    have := Int.mul_le_mul_of_nonneg_left q (Int.le_of_lt hp)
    lia
  have : c = 0 := by lia
  subst this
  lia
theorem Gs.take {p : Int} {pts : List (Int × Int)} (g : Gs p pts) (n : Nat) : Gs p (pts.take n) := by
  have hx : ∀ k, k < (pts.take n).length → k < pts.length ∧ (pts.take n).getD k (0, 0) = pts.getD k (0, 0) := fun k hk => by
    rw [List.length_take] at hk
    exact ⟨by lia, pt_take (by lia)⟩
  refine ⟨fun k hk => ?_, fun k hk => ?_, fun j k hj hk h => ?_⟩
  · unfold px; rw [(hx k hk).2]; exact g.x k (hx k hk).1
  · unfold py; rw [(hx k hk).2]; exact g.y k (hx k hk).1
  · unfold px at h; rw [(hx j hj).2, (hx k hk).2] at h; exact g.d j k (hx j hj).1 (hx k hk).1 h
section
variable {G : Gx} {C CE : Addr}
theorem value_at_cl {prog : Program} {w : World} {f : Addr} {i kk r : Nat} {p needed x : Int} {pts : List (Int × Int)} {H : MH} {xp : Addr → List MV → MH → Prop} (D : GDef G f ["field", "shares", "needed", "x"] k_value_at_nm k_value_at [])
    (K : PolK G C CE) (F : Fer p) (hp2 : p < 2 ^ 60) (hF : Ins H i C kk [("prime", .int p)]) (hP : PtsAt H r pts) (hl : pts.length ≤ 1000) (g : Gs p pts) (h1 : 1 ≤ needed) (h2 : needed ≤ 200) (h3 : needed ≤ pts.length)
    (ht : ∀ k, needed.toNat ≤ k → k < pts.length → pval p (thr p (pts.take needed.toNat)) (px pts k) = py pts k) :
    CL G prog w 6 f [.ref i, .ref r, .int needed, .int x] H (fun v H' => v = .int (pval p (thr p (pts.take needed.toNat)) x) ∧ Ext H H') xp := by
  have bs := K.bs
  have hp := F.two
  obtain ⟨fS, gS, dS⟩ := K.ns
  obtain ⟨fN, gN, dN⟩ := K.nn
  obtain ⟨fT, gT, dT⟩ := K.th
  obtain ⟨fV, gV, dV⟩ := K.va
  obtain ⟨t0, gM⟩ := K.mo
  refine D.cl rfl ?_
  intro c e1 e2 ok hfm hint hnm hX
  subst e1 e2
  show TB c [some (.ref i), some (.ref r), some (.int needed), some (.int x), none, none, none] _ _ _
  unfold k_value_at
  walk_at "w"
  refine (need_shares_cl dS K hF hP hl g).use (by decide) ?_
  rintro _ H1 ⟨rfl, E1⟩
  walk_at "w"
  refine TE.glob ok gM (v := .int 200) ⟨t0, rfl⟩ ?_
  walk_at "w"
  refine (need_number_cl dN bs h1 h2).use (by decide) ?_
  rintro _ H1 ⟨rfl, rfl⟩
  walk_at "w"
  refine (hP.ext E1).len hl ?_
  walk_at "w"
  refine ⟨false, by show false = decide _; simp; lia, fun h => (by cases h), fun _ => ?_⟩
  refine TB.nil (TB.cons (TS.assign ok hfm rfl ?_))
  walk_at "w"
  refine TE.sliceTo ?_
  obtain ⟨refs, p1, p2, p3⟩ := hP.ext E1
  walk_at "w"
  refine ⟨needed, rfl, r, refs, rfl, p1, by lia, by lia, ?_⟩
  have hT := PtsAt.take (n := needed.toNat) p1 p2 p3 ((Ext.refl H1).app [MO.list (refs.take needed.toNat)]) get_end
  generalize hH2 : H1 ++ [MO.list (refs.take needed.toNat)] = H2 at *
  have E2 : Ext H1 H2 := by subst hH2; exact (Ext.refl H1).app _
  have gt := g.take needed.toNat
  have lt : (pts.take needed.toNat).length = needed.toNat := by rw [List.length_take]; lia
  walk_at "w"
  refine (through_cl dT K.T ((E1.trans E2).ins hF) hp hp2 hT (by lia) fun n hn => tlow_ne F (df_of gt) hn _ (Nat.le_refl _)).use (by decide) ?_
  rintro _ H3 ⟨z, rfl, hz, E3, hr⟩
  have E13 := E2.trans E3
  refine TB.cons (TS.forL' ok hfm (TE.sliceFrom ?_))
  walk_at "w"
  refine ⟨needed, rfl, r, refs, rfl, E13 _ _ p1, by lia, by lia, ?_⟩
  generalize hH4 : H3 ++ [MO.list (refs.drop needed.toNat)] = H4 at *
  have E4 : Ext H3 H4 := by subst hH4; exact (Ext.refl H3).app _
  have E14 := E13.trans E4
  have h4 : H4[H3.length]? = some (.list (refs.drop needed.toNat)) := by subst hH4; exact get_end
  have iF := (E1.trans E14).ins hF
  refine ⟨_, _, rfl, h4, fun j m1 H5 => ∃ o5 o6, m1 = [some (.ref i), some (.ref r), some (.int needed), some (.int x), some (.ref z), o5, o6] ∧ H5 = H4, ⟨_, _, rfl, rfl⟩, ?_, ?_, ?_⟩
  · rintro j m1 H5 ⟨_, _, _, rfl⟩
    exact h4
  · rintro j m1 H5 v xt ⟨o5, o6, rfl, rfl⟩ hv
    rw [List.getElem?_drop] at hv
    have hj : needed.toNat + j < pts.length := by
      have := (List.getElem?_eq_some_iff.mp hv).1
      rw [p2] at this
      exact this
    obtain ⟨t, q1, q2⟩ := p3 _ hj
    rw [q1] at hv
    cases hv
    refine ⟨[.int (px pts (needed.toNat + j)), .int (py pts (needed.toNat + j))], ⟨by simp, rfl, t, rfl, E14 _ _ q2⟩, ?_⟩
    have okx := ok.wx xt
    have hfx : (c.wx xt).fm = none := hfm
    show TB (c.wx xt) [some (.ref i), some (.ref r), some (.int needed), some (.int x), some (.ref z), some (.int (px pts (needed.toNat + j))), some (.int (py pts (needed.toNat + j)))] _ _ _
    refine TB.gen3 fun PP hPP => ?_
    walk_at "w"
    refine (value_cl dV bs K.T.att iF (E4 _ _ hr) hp hp2).use (by decide) ?_
    rintro _ H4 ⟨rfl, rfl⟩
    walk_at "w"
    rw [ht _ (by lia) hj]
    refine ⟨false, by show false = !decide _; simp, fun h => (by cases h), fun _ => ?_⟩
    walk_at "w"
    exact hPP _ _ _ ⟨_, _, rfl, rfl⟩
  · rintro m1 H5 ⟨o5, o6, rfl, rfl⟩
    walk_at "w"
    refine (value_cl dV bs K.T.att iF (E4 _ _ hr) hp hp2).use (by decide) ?_
    rintro _ H4 ⟨rfl, rfl⟩
    exact ⟨rfl, E1.trans E14⟩
theorem rebuild_cl {prog : Program} {w : World} {f fA : Addr} {i kk r : Nat} {p needed : Int} {pts : List (Int × Int)} {H : MH} {xp : Addr → List MV → MH → Prop} (D : GDef G f ["field", "shares", "needed"] k_rebuild_nm k_rebuild []) (gA : GFn G "value_at" fA) (dA : GDef G fA ["field", "shares", "needed", "x"] k_value_at_nm k_value_at [])
    (K : PolK G C CE) (F : Fer p) (hp2 : p < 2 ^ 60) (hF : Ins H i C kk [("prime", .int p)]) (hP : PtsAt H r pts) (hl : pts.length ≤ 1000) (g : Gs p pts) (h1 : 1 ≤ needed) (h2 : needed ≤ 200) (h3 : needed ≤ pts.length)
    (ht : ∀ k, needed.toNat ≤ k → k < pts.length → pval p (thr p (pts.take needed.toNat)) (px pts k) = py pts k) :
    CL G prog w 7 f [.ref i, .ref r, .int needed] H (fun v H' => v = .int (pval p (thr p (pts.take needed.toNat)) 0) ∧ Ext H H') xp := by
  refine D.cl rfl ?_
  intro c e1 e2 ok hfm hint hnm hX
  subst e1 e2
  show TB c [some (.ref i), some (.ref r), some (.int needed)] _ _ _
  unfold k_rebuild
  walk_at "w"
  exact (value_at_cl dA K F hp2 hF hP hl g h1 h2 h3 ht).use (Nat.le_refl _) fun _ _ x => x
end
noncomputable def k_need_name_nm : List Str := ["text", "sign"]
noncomputable def k_need_name : CSs := (.cons (.ite (.or (.cons (.cmp .IsNot (.call "type" (.cons (.loc 0) .nil)) (.glob "str")) (.cons (.cmp .Eq (.loc 0) (.str "")) (.cons (.cmp .Gt (.call "len" (.cons (.loc 0) .nil)) (.int 12)) (.cons (.cmp .NotIn (.sub (.loc 0) (.int 0)) (.glob "LETTERS")) .nil))))) (.cons (.raise "ShareError" (.cons (.bin .Add (.str "no name: ") (.call "shown" (.cons (.loc 0) .nil))) .nil))
  .nil) .nil)
  (.cons (.for [1] (.loc 0) (.cons (.ite (.and (.cons (.cmp .NotIn (.loc 1) (.glob "LETTERS")) (.cons (.cmp .NotIn (.loc 1) (.glob "DIGITS")) .nil))) (.cons (.raise "ShareError" (.cons (.bin .Add (.str "no name: ") (.call "shown" (.cons (.loc 0) .nil))) .nil))
  .nil) .nil)
  .nil))
  (.cons (.ret (.loc 0))
  .nil)))
noncomputable def LETS : Str := "abcdefghijklmnopqrstuvwxyzABCDEFGHIJKLMNOPQRSTUVWXYZ"
noncomputable def DIGS : Str := "0123456789"
noncomputable def okN (x : Str) : Bool := decide (x.length ≤ 12) && x.cps.all (· < 128) && (match x.cps[0]? with | some ch => decide (ch ∈ LETS.cps.toList) | none => false) && x.cps.toList.all fun ch => decide (ch ∈ LETS.cps.toList) || decide (ch ∈ DIGS.cps.toList)
structure NameK (G : Gx) : Prop where
  bs : Bs G
  le : ∃ t, nsIn G.K mainGlobals "LETTERS" = some (some (.str LETS t))
  di : ∃ t, nsIn G.K mainGlobals "DIGITS" = some (some (.str DIGS t))
  nn : ∃ f, GFn G "need_name" f ∧ GDef G f ["text"] k_need_name_nm k_need_name []
theorem need_name_cl {G : Gx} {prog : Program} {w : World} {f : Addr} {x : Str} {H : MH} {xp : Addr → List MV → MH → Prop} (D : GDef G f ["text"] k_need_name_nm k_need_name []) (K : NameK G) (hx : okN x = true) :
    CL G prog w 1 f [.str x] H (fun v H' => v = .str x ∧ H' = H) xp := by
  have bs := K.bs
  obtain ⟨t1, gL⟩ := K.le
  obtain ⟨t2, gD⟩ := K.di
  unfold okN at hx
  obtain ⟨h1, h2, h3, h4⟩ := and4 hx
  have h1 : x.length ≤ 12 := of_decide_eq_true h1
  cases hc : x.cps[0]? with
  | none => rw [hc] at h3; cases h3
  | some ch =>
    rw [hc] at h3
    have h3 : ch ∈ LETS.cps.toList := of_decide_eq_true h3
    have hpos : 0 < x.cps.size := (Array.getElem?_eq_some_iff.mp hc).1
    have hne : x ≠ "" := by
      rintro rfl
      exact absurd hpos (by decide +kernel)
    refine D.cl rfl ?_
    intro c e1 e2 ok hfm hint hnm hX
    show TB c [some (.str x), none] _ _ _
    unfold k_need_name
    refine TB.cons (TS.ite (TT.or (TTs.or (TT.tyAny (N := "str") (T' := "str") ok bs.type (.inr ⟨rfl, rfl⟩) bs.str bb_str (by decide) ?_))))
    walk_at "w"
    refine ⟨"str", rfl, fun h => (by cases h), fun _ => ?_⟩
    walk_at "w"
    refine ⟨false, by show false = decide _; simp [hne], fun h => (by cases h), fun _ => ?_⟩
    walk_at "w"
    refine BC.lenS (by lia) ?_
    walk_at "w"
    refine ⟨false, by show false = decide _; simp; lia, fun h => (by cases h), fun _ => ?_⟩
    walk_at "w"
    refine ⟨_, Sq.str (by decide) (by lia) hc, ?_⟩
    refine TE.glob ok gL (v := .str LETS) ⟨t1, rfl⟩ ?_
    refine ⟨_, Cq.ninS, fun h => (by simp [h3] at h), fun _ => ?_⟩
    walk_at "w"
    refine ⟨fun h => (by cases h), fun _ => ?_⟩
    refine TB.nil (TB.cons (TS.forS ok hfm ?_))
    walk_at "w"
    refine ⟨x, rfl, h2, fun j m1 H2 => ∃ o1, m1 = [some (.str x), o1] ∧ H2 = H, ⟨none, rfl, rfl⟩, ?_, ?_⟩
    · rintro j m1 H2 ch' xt ⟨o1, rfl, rfl⟩ hj
      have okx := ok.wx xt
      have hfx : (c.wx xt).fm = none := hfm
      have hm : ch' ∈ x.cps.toList := by
        rw [Array.mem_toList_iff]
        exact Array.mem_of_getElem? hj
      have hq := List.all_eq_true.mp h4 ch' hm
      show TB (c.wx xt) [some (.str x), some (.str ⟨#[ch']⟩)] _ _ _
      walk_at "w"
      refine TE.glob okx gL (v := .str LETS) ⟨t1, rfl⟩ ?_
      refine ⟨_, Cq.ninS, fun h => ?_, fun h => ?_⟩
      · refine ⟨fun h => (by cases h), fun _ => ?_⟩
        walk_at "w"
        exact ⟨_, rfl, rfl⟩
      · walk_at "w"
        refine TE.glob okx gD (v := .str DIGS) ⟨t2, rfl⟩ ?_
        have hnl : ¬ ch' ∈ LETS.cps.toList := by simpa using h
        have hdg : ch' ∈ DIGS.cps.toList := by
          rcases (Bool.or_eq_true _ _).mp hq with q | q
          · exact absurd (of_decide_eq_true q) hnl
          · exact of_decide_eq_true q
        refine ⟨_, Cq.ninS, fun h => ⟨fun h => (by cases h), fun _ => ?_⟩, fun h => (by simp [hdg] at h)⟩
        walk_at "w"
        exact ⟨_, rfl, rfl⟩
    · rintro m1 H2 ⟨o1, rfl, rfl⟩
      walk_at "w"
      exact ⟨rfl, rfl⟩
section
variable {G : Gx} {prog : Program} {w : World} {f : Addr} {H : MH} {xp : Addr → List MV → MH → Prop}
end
section
variable {prog : Program} {w : World} {A : Around} {E : Value → Shared → Prop} {h : Heap} {g : Array GenState} {d : Drawn} {t : Nat} {os : OsState} {a : Addr} {vs : Array Value} {n : Nat}
end
section
variable {prog : Program} {w : World} {K : Type} [DecidableEq K] {knd : KeyKind prog w K} {A : Around} {E : Value → Shared → Prop} {s : Shared} {d : Addr}
theorem dictSet_D {o : Obj} {kvs : List (K × Value)} {k : K} {key v : Value} {Q : Unit → Shared → Prop} (hkey : knd.is k key = true) (ho : s.heap.get? d = some o) (hD : IsD knd o kvs) (hsz : kvs.length ≤ sizeLine)
    (hQ : ∀ h' o', h'.get? d = some o' → IsD knd o' (stored kvs k v) → Heap.SameBut d s.heap h' → Q () { s with heap := h', toks := s.toks + 1 }) : wpAny (model prog w) A (dictSet d key v) Q E s := by
  obtain ⟨es, hc, hd, hk, hp, hn⟩ := hD
  have hl : es.toList.length = kvs.length := hp.length
  have hes : es.size ≤ sizeLine := by rw [← Array.length_toList, hl]; exact hsz
  have hix : (es.findIdx? fun e => knd.is k e.key) = kvs.findIdx? fun kv => decide (kv.1 = k) := by rw [← hp.findIdx k]; obtain ⟨l⟩ := es; simp
  unfold dictSet
  try with_reducible refine wpAny_holding ?_
  refine wpAny_bind (knd.pyHash hkey ?_)
  unfold dictSetHashed
  try with_reducible refine wpAny_holding ?_
  refine wpAny_bind (wpAny_dictFind_of (s := { s with toks := s.toks + 1 }) hkey ho hd hk ?_)
  cases hi : es.findIdx? fun e => knd.is k e.key with
  | none =>
    have hnot : k ∉ kvs.map (·.1) := not_mem_of_findIdx_none (hix ▸ hi)
    have hany : ¬ (kvs.any fun kv => decide (kv.1 = k)) = true := fun q => by
      obtain ⟨kv, h1, h2⟩ := List.any_eq_true.mp q
      exact hnot (List.mem_map.mpr ⟨kv, h1, of_decide_eq_true h2⟩)
    have e : stored kvs k v = kvs ++ [(k, v)] := if_neg hany
    refine wpAny_bind (wpAny_rule (wpAny_updateDictKeys (hz := hes) (s := { s with toks := s.toks + 1 }) ho hd (hQ _ _ (Heap.get?_update_self _ ho (Obj.isFreed_of_dict (Obj.data_mapDictKeys hd _))) ?_ (Heap.SameBut.update ..))))
    rw [e]
    refine ⟨es.push { hash := knd.hash k, key := key, val := v }, hc.mapDictKeys _, ?_, hk.push hkey v, ?_, ?_⟩
    · rw [List.length_append]
      exact Obj.data_mapDictKeys hd _
    · have := hp.append hkey (knd.hash k) v
      obtain ⟨l⟩ := es
      simpa using this
    · rw [List.map_append, List.nodup_append]
      exact ⟨hn, by simp, fun a ha b hb => by simp at hb; subst hb; exact fun e => hnot (e ▸ ha)⟩
  | some i =>
    have e : stored kvs k v = kvs.map (fun kv => if kv.1 = k then (kv.1, v) else kv) := if_pos (any_of_findIdx_some (hix ▸ hi))
    refine wpAny_bind (wpAny_rule (wpAny_bind (wpAny_updateDict (s := { s with toks := s.toks + 1 }) ho hd (wpAny_point (hQ _ _ (Heap.get?_update_self _ ho (Obj.isFreed_of_dict (Obj.data_mapDict hd _))) ?_ (Heap.SameBut.update ..))))))
    rw [e]
    refine ⟨_, hc.mapDict _, by rw [List.length_map]; exact Obj.data_mapDict hd _, ?_, ?_, by rw [keys_map_store]; exact hn⟩
    · exact hk.modify _ _
    · have := hp.modify hn (by rw [← hi]; obtain ⟨l⟩ := es; simp : (es.toList.findIdx? fun e => knd.is k e.key) = some i) v
      obtain ⟨l⟩ := es
      simpa using this
theorem setItem_D {o : Obj} {kvs : List (K × Value)} {k : K} {key v : Value} {Q : Unit → Shared → Prop} (hkey : knd.is k key = true) (ho : s.heap.get? d = some o) (hD : IsD knd o kvs) (hsz : kvs.length ≤ sizeLine)
    (hQ : ∀ h' o', h'.get? d = some o' → IsD knd o' (stored kvs k v) → Heap.SameBut d s.heap h' → Q () { s with heap := h', toks := s.toks + 1 }) : wpAny (model prog w) A (setItem (.ref d) key v) Q E s := by
  have hm : s.heap.DictOf knd d kvs := Heap.dictOf_iff.mpr ⟨o, ho, hD.dict⟩
  unfold setItem
  try with_reducible refine wpAny_holding ?_
  refine wpAny_bind (wpAny_sequenceKey hm.typeIs (by decide) ?_)
  refine wpAny_bind (wpAny_callSpecial?_slot (name := Str.ofString "__setitem__") hm.typeIs slot_dict_setitem (wpAny_call_entry slot_dict_setitem hm.typeIs entry_dict_setitem ?_ (args_dict_setitem _ _ _)))
  show wpAny _ _ (Builtin.Dict.notOrdered "__setitem__" ⟨[.ref d, key, v], []⟩ >>= _) _ _ s
  refine wpAny_bind (wpAny_notOrdered_dict hm.typeIs ?_)
  show wpAny _ _ (dictSet d key v >>= _) _ _ s
  exact wpAny_bind (dictSet_D hkey ho hD hsz fun h' o' h1 h2 h3 => wpAny_pure ⟨.none, rfl, wpAny_pure (hQ h' o' h1 h2 h3)⟩)
end
section
variable {prog : Program} {w : World} {K : Type} [DecidableEq K] {knd : KeyKind prog w K} {A : Around} {E : Value → Shared → Prop} {s : Shared} {d it l : Addr} {vs : List Value}
end
structure Mth0 (c : Cx) (m : ML) (H : MH) (l : MV) (n : Str) (post : MV → MH → Prop) : Prop where
  out : MCall c m H l n .nil post
structure Emp (H : MH) (o : MO) : Prop where
  out : o = .dI H.length [] ∨ o = .dS H.length []
section
variable {c : Cx} {m : ML} {H : MH} {G : Gx} {d : Nat}
theorem TE.dict0 (ok : Ok G c d) {o : MO} {post : MV → MH → Prop} (ho : Emp H o) (h : post (.ref H.length) (H ++ [o])) : TE c m .dict0 H post := by
  intro e he mr ρ s Q E S l k kx
  show wpAny _ _ (eval (.Dict [] [] e.pos) c.env) _ _ _
  rw [eval_Dict_empty]
  refine S.op fun ml xt os F a1 a2 a3 N a5 back => ?_
  refine wpAny_bind (wpAny_standAt (wpAny_newObj_type ?_))
  have lo : (s.heap.objs.size == sysModules) = false := F.notModules (modules_low ok.top.nolimit)
  have al : ∀ (x : Obj), x.isFreed = false → OR c.prog c.w (ρ ++ [s.heap.objs.size]) o x → Led c.h₀ c.L c.prog c.w ml xt (ρ ++ [s.heap.objs.size]) (H ++ [o]) (s.heap.push x) := fun x hf hx =>
    Led.alloc a1 a2 a3 a5 (F.push _) (News.push F N x hf) (fun p hp => Nat.ne_of_lt (Heap.lt_size (N p hp).1)) hx
  refine k [s.heap.objs.size] (.ref H.length) _ _ _ _ h ⟨_, last_get a2, rfl⟩ (back _ _ _ (al _ rfl ?_))
  rcases ho.out with rfl | rfl
  · obtain ⟨x, hx, es, ep, h1, h2, h3, h4, h5⟩ := Heap.dictOf_iff.mp (Heap.DictOf.new (knd := intKind c.prog c.w) s.heap)
    rw [Heap.get?_push_size _ rfl] at hx
    cases hx
    cases h2
    exact ⟨_, [], last_get a2, lo, rfl, _, h1, rfl, h3, h4, h5⟩
  · obtain ⟨x, hx, es, ep, h1, h2, h3, h4, h5⟩ := Heap.dictOf_iff.mp (Heap.DictOf.new (knd := strKind c.prog c.w) s.heap)
    rw [Heap.get?_push_size _ rfl] at hx
    cases hx
    cases h2
    exact ⟨_, [], last_get a2, lo, rfl, _, h1, rfl, h3, h4, h5⟩
end
structure BCw (c : Cx) (f : Value) (args : List MV) (H : MH) (post : MV → MH → Prop) : Prop where
  out : BC c f args H post
section
variable {c : Cx} {m : ML} {H : MH} {G : Gx} {d : Nat} {prog : Program} {w : World}
end
noncomputable def putD {K : Type} [DecidableEq K] (es : List (K × MV)) (k : K) (v : MV) : List (K × MV) :=
  if es.any (fun kv => kv.1 = k) then es.map (fun kv => if kv.1 = k then (kv.1, v) else kv) else es ++ [(k, v)]
noncomputable def getD' {K : Type} [DecidableEq K] (es : List (K × MV)) (k : K) : Option MV := (es.find? fun kv => kv.1 = k).map (·.2)
section
variable {K : Type} [DecidableEq K] {ρ : List Addr}
theorem PR.length : ∀ {es : List (K × MV)} {kvs : List (K × Value)}, PR ρ es kvs → kvs.length = es.length
  | [], _, h => by rw [h]; rfl
  | _ :: _, _, ⟨v, r, e, _, h2⟩ => by rw [e, List.length_cons, List.length_cons, h2.length]
theorem PR.find {k : K} : ∀ {es : List (K × MV)} {kvs : List (K × Value)}, PR ρ es kvs → (∀ v, getD' es k = some v → ∃ vr, valueAt kvs k = some vr ∧ VR ρ v vr) ∧ (getD' es k = none → valueAt kvs k = none)
  | [], _, h => by rw [h]; exact ⟨(by intro v h; cases h), fun _ => rfl⟩
  | (k', v') :: es, _, ⟨v, r, e, h1, h2⟩ => by
    subst e
    have ih := PR.find (k := k) h2
    unfold getD' valueAt at *
    by_cases q : k' = k
    · subst q
      refine ⟨fun u hu => ?_, fun hu => ?_⟩
      · simp at hu
        subst hu
        exact ⟨v, by simp, h1⟩
      · simp at hu
    · have e1 : List.find? (fun kv : K × MV => decide (kv.1 = k)) ((k', v') :: es) = es.find? (fun kv => decide (kv.1 = k)) := by rw [List.find?_cons]; simp [q]
      have e2 : List.find? (fun kv : K × Value => decide (kv.1 = k)) ((k', v) :: r) = r.find? (fun kv => decide (kv.1 = k)) := by rw [List.find?_cons]; simp [q]
      rw [e1, e2]
      exact ih
theorem PR.any {p : K → Bool} : ∀ {es : List (K × MV)} {kvs : List (K × Value)}, PR ρ es kvs → kvs.any (fun kv => p kv.1) = es.any (fun kv => p kv.1)
  | [], _, h => by rw [h]; rfl
  | _ :: _, _, ⟨v, r, e, _, h2⟩ => by rw [e, List.any_cons, List.any_cons, h2.any]
theorem PR.over {k : K} {v : MV} {vr : Value} (hv : VR ρ v vr) : ∀ {es : List (K × MV)} {kvs : List (K × Value)}, PR ρ es kvs → PR ρ (es.map fun kv => if kv.1 = k then (kv.1, v) else kv) (kvs.map fun kv => if kv.1 = k then (kv.1, vr) else kv)
  | [], _, h => by rw [h]; rfl
  | (k', v') :: es, _, ⟨u, r, e, h1, h2⟩ => by
    subst e
    simp only [List.map_cons]
    by_cases q : k' = k
    · simp only [q, if_true]
      exact ⟨vr, _, rfl, hv, h2.over hv⟩
    · simp only [q, if_false]
      exact ⟨u, _, rfl, h1, h2.over hv⟩
theorem PR.app {k : K} {v : MV} {vr : Value} (hv : VR ρ v vr) : ∀ {es : List (K × MV)} {kvs : List (K × Value)}, PR ρ es kvs → PR ρ (es ++ [(k, v)]) (kvs ++ [(k, vr)])
  | [], _, h => by rw [h]; exact ⟨vr, [], rfl, hv, rfl⟩
  | _ :: _, _, ⟨u, r, e, h1, h2⟩ => by subst e; exact ⟨u, _, rfl, h1, h2.app hv⟩
theorem PR.put {k : K} {v : MV} {vr : Value} (hv : VR ρ v vr) {es : List (K × MV)} {kvs : List (K × Value)} (h : PR ρ es kvs) : PR ρ (putD es k v) (stored kvs k vr) := by
  unfold putD stored
  have e := h.any (p := fun x => decide (x = k))
  rw [show kvs.any (fun kv => decide (kv.1 = k)) = es.any (fun kv => decide (kv.1 = k)) from e]
  split
  · exact h.over hv
  · exact h.app hv
theorem PR.keys : ∀ {es : List (K × MV)} {kvs : List (K × Value)}, PR ρ es kvs → kvs.map (·.1) = es.map (·.1)
  | [], _, h => by rw [h]; rfl
  | _ :: _, _, ⟨v, r, e, _, h2⟩ => by rw [e, List.map_cons, List.map_cons, h2.keys]
theorem PR.at : ∀ {es : List (K × MV)} {kvs : List (K × Value)} {i : Nat} {kv : K × Value}, PR ρ es kvs → kvs[i]? = some kv → ∃ e, es[i]? = some e ∧ VR ρ e.2 kv.2
  | [], _, _, _, h, hi => by rw [h] at hi; simp at hi
  | (k, v) :: es, _, 0, kv, ⟨u, r, e, h1, h2⟩, hi => by
    subst e
    simp at hi
    subst hi
    exact ⟨(k, v), rfl, h1⟩
  | (k, v) :: es, _, i + 1, kv, ⟨u, r, e, h1, h2⟩, hi => by
    subst e
    exact h2.at (i := i) (by simpa using hi)
end
section
variable {c : Cx} {m : ML} {H : MH} {G : Gx} {d : Nat}
theorem St.dGS {mr : Str → Option Value} {ρ : List Addr} {h : Heap} (S : St c mr ρ H h) {a : Nat} {es : List (Str × MV)} (ha : H[a]? = some (.dS a es)) {x : Addr} (hx : ρ[a]? = some x) :
    ∃ o kvs, h.get? x = some o ∧ IsD (strKind c.prog c.w) o kvs ∧ PR ρ es kvs ∧ (x == sysModules) = false := by
  obtain ⟨y, o, hy, ⟨z, kvs, hz, lo, hp, hd⟩, N⟩ := S.get ha
  rw [hx] at hy hz
  cases hy; cases hz
  exact ⟨o, kvs, (N _ (.head _)).1, hd, hp, lo⟩
theorem St.dS {mr : Str → Option Value} {ρ : List Addr} {h : Heap} (S : St c mr ρ H h) {a : Nat} {es : List (Str × MV)} (ha : H[a]? = some (.dS a es)) {x : Addr} (hx : ρ[a]? = some x) :
    ∃ o kvs, h.get? x = some o ∧ o.IsDictOf (strKind c.prog c.w) kvs ∧ PR ρ es kvs ∧ (x == sysModules) = false :=
  let ⟨o, kvs, h1, h2, h3⟩ := S.dGS ha hx
  ⟨o, kvs, h1, h2.dict, h3⟩
theorem isS (k : Str) (t : Tok) : (strKind c.prog c.w).is k (.str k t) = true := by simp [PySem.strKind, Value.isStrOf]
theorem Sq.dS {a : Nat} {es : List (Str × MV)} {k : Str} {v : MV} (ha : H[a]? = some (.dS a es)) (hv : getD' es k = some v) : Sq c H (.ref a) (.str k) v := by
  rintro mr ρ s Q E _ _ base sl hsl S ⟨x, hx, rfl⟩ ⟨u, rfl⟩ kk
  obtain ⟨o, kvs, ho, hd, hp, lo⟩ := S.dS ha hx
  obtain ⟨vr, e1, e2⟩ := hp.find.1 v hv
  have hD : s.heap.DictOf (strKind c.prog c.w) x kvs := Heap.dictOf_iff.mpr ⟨o, ho, hd⟩
  exact tail_any hD.typeIs slot_dict_getitem.lookup (wpAny_getItem_of (isS k u) hD.mapOf e1 (kk vr _ e2)) (subscripted_of (nm := []) (sc := c.sc) hsl _ _)
theorem Uq.dS {a : Nat} {es : List (Str × MV)} {k : Str} {v : MV} (ha : H[a]? = some (.dS a es)) (hsz : es.length ≤ 1000000) : Uq c H (.ref a) (.str k) v (H.set a (.dS a (putD es k v))) := by
  rintro mr ρ s Q E _ _ vv S ⟨x, hx, rfl⟩ ⟨u, rfl⟩ hv kk
  obtain ⟨o, kvs, ho, hd, hp, lo⟩ := S.dGS ha hx
  refine setItem_D (isS k u) ho hd (by rw [sizeLine_eq, hp.length]; lia) fun h' o' ho' hd' hs => ?_
  exact kk [] h' _ (nil_of (S.upd ha hx hs ho' ⟨x, _, hx, lo, hp.put hv, hd'⟩))
theorem PR.some? {K : Type} [DecidableEq K] {ρ : List Addr} {es : List (K × MV)} {kvs : List (K × Value)} (h : PR ρ es kvs) (k : K) : (valueAt kvs k).isSome = (getD' es k).isSome := by
  have f := h.find (k := k)
  cases e : getD' es k with
  | none => rw [f.2 e]; rfl
  | some v => obtain ⟨vr, e1, _⟩ := f.1 v e; rw [e1]; rfl
theorem Cq.inDS {a : Nat} {es : List (Str × MV)} {k : Str} (ha : H[a]? = some (.dS a es)) : Cq c .In H (.str k) (.ref a) (getD' es k).isSome := by
  rintro mr ρ s Q E _ _ S ⟨t, rfl⟩ ⟨x, hx, rfl⟩ kk
  obtain ⟨o, kvs, ho, hd, hp, lo⟩ := S.dS ha hx
  exact wpAny_in_of (isS k t) lo (Heap.DictOf.mapOf (Heap.dictOf_iff.mpr ⟨o, ho, hd⟩)) (by rw [hp.some?]; exact kk s.heap _ S)
theorem Cq.ninDS {a : Nat} {es : List (Str × MV)} {k : Str} (ha : H[a]? = some (.dS a es)) : Cq c .NotIn H (.str k) (.ref a) (!(getD' es k).isSome) := by
  rintro mr ρ s Q E _ _ S ⟨t, rfl⟩ ⟨x, hx, rfl⟩ kk
  obtain ⟨o, kvs, ho, hd, hp, lo⟩ := S.dS ha hx
  exact wpAny_notIn_of (isS k t) lo (Heap.DictOf.mapOf (Heap.dictOf_iff.mpr ⟨o, ho, hd⟩)) (by rw [hp.some?]; exact kk s.heap _ S)
end
section
variable {c : Cx} {m : ML} {H : MH} {G : Gx} {d : Nat}
theorem IsD.at {prog : Program} {w : World} {K : Type} [DecidableEq K] {knd : KeyKind prog w K} {h : Heap} {x : Addr} {o : Obj} {kvs : List (K × Value)} (hd : IsD knd o kvs) (ho : h.get? x = some o) : h.DictAt knd x kvs kvs.length := let ⟨es, r⟩ := hd; ⟨o, es, ho, r⟩
end
section
variable {c : Cx} {m : ML} {H : MH} {G : Gx} {d : Nat}
noncomputable def itemDS (a : Nat) (i : Nat) (H : MH) : Option MV := match H[a]? with
  | some (.dS _ es) => (es[i]?).map fun e => .str e.1
  | _ => none
theorem NX.dS {I x : Addr} {a n : Nat} {ρ : List Addr} (hh : c.A.handled = none) (hx : ρ[a]? = some x) :
    NX c I (fun i o => o.cls = .type "dict_keyiterator" ∧ o.data = .fields #[.ref x, .int i 0, .int n 0, .int n 0]) (fun H => ∃ es, H[a]? = some (.dS a es) ∧ es.length = n) (itemDS a) ρ := by
  rintro i oI mr t H s Q E ⟨hc, hd⟩ ⟨es, ha, hn⟩ S k1 k2
  obtain ⟨o, kvs, ho, hdk, hp, lo⟩ := S.dGS ha (get_mono hx)
  have hl : kvs.length = n := hp.length.trans hn
  have hit : s.heap.IsKeyIter I x i kvs.length kvs.length := ⟨oI, S.itr.1, hc, by rw [hl]; exact hd⟩
  have hitem : itemDS a i H = (es[i]?).map fun e => .str e.1 := by unfold itemDS; rw [ha]
  cases hk : kvs[i]? with
  | some kv =>
    obtain ⟨k, v⟩ := kv
    have ek : (es[i]?).map (fun e => e.1) = some k := by
      have := hp.keys
      have e2 := congrArg (fun l => l[i]?) this
      simp only [List.getElem?_map] at e2
      rw [← e2, hk]
      rfl
    refine wpAny_pyNext_dict_item hit (hdk.at ho) hk fun key h' hky hit' hs' => ?_
    obtain ⟨o', ho', hc', hd'⟩ := hit'
    obtain ⟨u, rfl⟩ := Value.isStrOf_shape hky
    refine k1 (.str k) _ o' h' s.toks ?_ ⟨u, rfl⟩ ⟨hc', by rw [hl] at hd'; exact hd'⟩ ho' fun b o hb e => (hs'.2 b hb).trans e
    rw [hitem]
    cases e : es[i]? with
    | none => rw [e] at ek; cases ek
    | some q => rw [e] at ek; cases ek; rfl
  | none =>
    refine wpAny_pyNext_dict_end hh hit (hdk.at ho) hk fun h' he' => k2 h' s.toks ?_ fun b o hb e => he' b o hb e
    rw [hitem]
    have : kvs.length ≤ i := List.getElem?_eq_none_iff.mp hk
    rw [List.getElem?_eq_none_iff.mpr (by rw [hn, ← hl]; exact this)]
    rfl
theorem TS.forDS (ok : Ok G c d) (hfm : c.fm = none) {is : List Nat} {it : CE} {b : CSs} {post : Fl → ML → MH → Prop}
    (h : TE c m it H (fun l H1 => ∃ a es, l = .ref a ∧ H1[a]? = some (.dS a es) ∧ ∃ (J : Nat → ML → MH → Prop), J 0 m H1 ∧ (∀ i m2 H2, J i m2 H2 → ∃ es', H2[a]? = some (.dS a es') ∧ es'.map (·.1) = es.map (·.1)) ∧
      (∀ i m1 H2 e xt, J i m1 H2 → es[i]? = some e → ∃ vs, Parts H2 is (.str e.1) vs ∧ TB (c.wx xt) (setAll is vs m1) b H2 (fun f m2 H3 => match f with
        | .next => J (i + 1) m2 H3
        | .cont => J (i + 1) m2 H3
        | .brk => post .next m2 H3
        | .ret v => post (.ret v) m2 H3)) ∧
      (∀ m1 H2, J es.length m1 H2 → post .next m1 H2))) : TS c m (.for is it b) H post := by
  intro st hs
  obtain ⟨h0, h1, h2, h3⟩ := and4 hs
  have h0 := ne_of h0
  intro mr ρ s Q E S lr k kx
  refine wpAny_For ?_ (folded_of h2)
  refine h _ h2 mr ρ s _ E S lr ?_ kx
  rintro t l lv H1 hp1 tk1 ⟨a, es, rfl, ha, J, hJ0, hJ, turn, done⟩ hl S1
  obtain ⟨y, hy, rfl⟩ := hl
  obtain ⟨o, kvs, ho, hdk, hpr, lo⟩ := S1.dGS ha hy
  have item : ∀ i m2 H2, J i m2 H2 → itemDS a i H2 = (es[i]?).map fun e => .str e.1 := fun i m2 H2 q => by
    obtain ⟨es', e1, e2⟩ := hJ i m2 H2 q
    unfold itemDS
    rw [e1]
    have := congrArg (fun l => l[i]?) e2
    simp only [List.getElem?_map] at this
    show Option.map (fun e => MV.str e.1) es'[i]? = _
    cases hi : es[i]? with
    | none => rw [hi] at this; cases hi' : es'[i]? with
      | none => rfl
      | some z => rw [hi'] at this; cases this
    | some w => rw [hi] at this; cases hi' : es'[i]? with
      | none => rw [hi'] at this; cases this
      | some z => rw [hi'] at this; simp only [Option.map_some, Option.some.injEq] at this; simp [this]
  have len : ∀ i m2 H2, J i m2 H2 → ∃ es', H2[a]? = some (.dS a es') ∧ es'.length = es.length := fun i m2 H2 q => by
    obtain ⟨es', e1, e2⟩ := hJ i m2 H2 q
    exact ⟨es', e1, by have := congrArg List.length e2; simpa using this⟩
  refine wpAny_pyIter_dict lo (hdk.at ho) ?_
  rw [hpr.length]
  refine forCore (post := post) ok hfm h0 h1 h3 (NX.dS ok.hh hy) (fun i o hT => ⟨_, _, hT.1, hT.2, rfl⟩) (fun i m2 H2 => i ≤ es.length ∧ J i m2 H2) es.length ⟨Nat.zero_le _, hJ0⟩ (fun i m2 H2 q => ⟨q.1, len i m2 H2 q.2⟩) ?_ ?_ (mr := mr) ⟨rfl, rfl⟩ (S1.addX rfl) lr.mono ?_ kx.mono
  · intro i m1 H2 v xt q hi
    rw [item i m1 H2 q.2] at hi
    cases e : es[i]? with
    | none => rw [e] at hi; cases hi
    | some w =>
      rw [e] at hi
      cases hi
      have hlt := (List.getElem?_eq_some_iff.mp e).1
      obtain ⟨vs, hp, ht⟩ := turn i m1 H2 w xt q.2 e
      refine ⟨vs, hp, ht.mono fun f m2 H3 hf => ?_⟩
      cases f with
      | next => exact ⟨hlt, hf⟩
      | cont => exact ⟨hlt, hf⟩
      | brk => exact hf
      | ret v => exact hf
  · intro i m1 H2 q hi
    rw [item i m1 H2 q.2] at hi
    have hx : es[i]? = none := by
      cases e : es[i]? with
      | none => rfl
      | some w => rw [e] at hi; cases hi
    have : i = es.length := Nat.le_antisymm q.1 (List.getElem?_eq_none_iff.mp hx)
    exact done m1 H2 (this ▸ q.2)
  · intro t' f fr m' mr' H' h' tk hp hf S' l'
    rw [List.append_assoc] at hf S' l'
    exact k (t ++ t') f fr m' mr' H' h' tk hp hf S' l'
theorem Src.dS (ok : Ok G c d) {tg : List Str} {elt : CE} {cs : CTs} {it : CE} {post : MV → MH → Prop}
    (h : TE c m it H (fun l H1 => ∃ a es B, l = .ref a ∧ H1[a]? = some (.dS a es) ∧ Turns G d c m tg elt cs (itemDS a) (fun H => ∃ es', H[a]? = some (.dS a es') ∧ es'.length = es.length) B H1 post)) : Src G d c m tg elt cs it H post := by
  intro e mr ρ s Q E he S l kx k
  refine h _ he mr ρ s _ E S l ?_ kx
  rintro t lv lr H1 h1 tk1 ⟨a, es, B, rfl, ha, ht⟩ ⟨y, hy, rfl⟩ S1
  obtain ⟨o, kvs, ho, hdk, hpr, lo⟩ := S1.dGS ha hy
  refine wpAny_pyIter_dict lo (hdk.at ho) ?_
  rw [hpr.length]
  refine k t H1 _ tk1 _ (fun i o => o.cls = .type "dict_keyiterator" ∧ o.data = .fields #[.ref y, .int i 0, .int es.length 0, .int es.length 0]) _ _ B _ ⟨fun c₁ e => NX.dS (by rw [e]; exact ok.hh) hy, fun i o hT => ⟨_, _, hT.1, hT.2, rfl⟩, fun s' Q E i o hT hI hq => ?_⟩ ht ⟨rfl, rfl⟩ (S1.addX rfl)
  exact wpAny_pyIter_keyiter ⟨o, hI, hT.1, hT.2⟩ hq
theorem Turns.dS {tg : List Str} {x : Str} {elt : CE} {cs : CTs} {a : Nat} {es : List (Str × MV)} {post : MV → MH → Prop} (htg : tg = [x]) (hB : es.length ≤ 1000000) (J : Nat → List MV → MH → Prop) (j0 : J 0 [] H) (jl : ∀ i ys H1, J i ys H1 → ys.length ≤ i ∧ H1[a]? = some (.dS a es))
    (turn : ∀ i ys H1 e, J i ys H1 → es[i]? = some e → ∀ c', Sub G c c' d → c'.nm = c.nm ++ tg →
      TC c' (m ++ [some (.str e.1)]) cs H1 (fun r H2 => (r = false → J (i + 1) ys H2) ∧ (r = true → TE c' (m ++ [some (.str e.1)]) elt H2 (fun y H3 => J (i + 1) (ys ++ [y]) H3))))
    (done : ∀ ys H1, J es.length ys H1 → post (.ref H1.length) (H1 ++ [.list ys])) : Turns G d c m tg elt cs (itemDS a) (fun H => ∃ es', H[a]? = some (.dS a es') ∧ es'.length = es.length) es.length H post := by
  subst htg
  refine ⟨hB, fun i ys H1 => i ≤ es.length ∧ J i ys H1, ⟨Nat.zero_le _, j0⟩, fun i ys H1 q => ⟨q.1, (jl i ys H1 q.2).1, es, (jl i ys H1 q.2).2, rfl⟩, ?_, ?_⟩
  · intro i ys H1 v q hi'
    unfold itemDS at hi'
    rw [(jl i ys H1 q.2).2] at hi'
    cases e : es[i]? with
    | none => simp [e] at hi'
    | some w =>
      have hi' : some (MV.str w.1) = some v := by simpa [e] using hi'
      cases hi'
      have hlt := (List.getElem?_eq_some_iff.mp e).1
      refine ⟨[.str w.1], rfl, fun c' sub hn => (turn i ys H1 w q.2 e c' sub hn).mono fun r H2 hr => ?_⟩
      exact ⟨fun e => ⟨hlt, hr.1 e⟩, fun e => (hr.2 e).mono fun y H3 hy => ⟨hlt, hy⟩⟩
  · intro i ys H1 q hi'
    unfold itemDS at hi'
    rw [(jl i ys H1 q.2).2] at hi'
    have hx : es[i]? = none := by
      cases e : es[i]? with
      | none => rfl
      | some w => simp [e] at hi'
    have : i = es.length := Nat.le_antisymm q.1 (List.getElem?_eq_none_iff.mp hx)
    exact done ys H1 (this ▸ q.2)
theorem Mth0.valuesS {a : Nat} {es : List (Str × MV)} {post : MV → MH → Prop} (ha : H[a]? = some (.dS a es)) (hp : post (.ref H.length) (H ++ [.view "dict_values" a])) : Mth0 c m H (.ref a) "values" post := by
  refine ⟨?_⟩
  rintro mr ρ s Q E _ pl pos args S lr ⟨x, hx, rfl⟩ hes k kx
  obtain ⟨o, kvs, ho, hd, hpr, lo⟩ := S.dS ha hx
  have hD : s.heap.DictOf (strKind c.prog c.w) x kvs := Heap.dictOf_iff.mpr ⟨o, ho, hd⟩
  refine S.op fun ml xt os F a1 a2 a3 N a5 back => ?_
  refine getMethod_builtin hD.typeIs PySem.F.plainAttrs_dict PySem.F.slot_dict_values PySem.F.type_dict_values hD.mapOf.noDict ?_
  refine callWith_method0 ?_
  refine call_meetsIn PySem.F.slot_dict_values hD.typeIs PySem.F.entry_dict_values (PySem.F.args_dict_values_1 _) (meets_dict_values (strKind c.prog c.w) x lo) ⟨⟨kvs, hD⟩, ?_⟩
  exact k [s.heap.objs.size] (.ref H.length) _ _ _ _ hp ⟨_, last_get a2, rfl⟩ (back _ _ _ (Led.alloc a1 a2 a3 a5 (F.push _) (News.push F N _ rfl) (fun p hp => Nat.ne_of_lt (Heap.lt_size (N p hp).1)) ⟨x, get_mono hx, rfl⟩))
theorem BCw.sumS (ok : Ok G c d) {b a : Nat} {es : List (Str × MV)} {val : Nat → Int} {post : MV → MH → Prop} (hb : H[b]? = some (.view "dict_values" a)) (ha : H[a]? = some (.dS a es)) (hv : ∀ (i : Nat) e, es[i]? = some e → e.2 = .int (val i))
    (h : post (.int (preSum val es.length)) H) : BCw c (.builtin "sum") [.ref b] H post := by
  refine ⟨?_⟩
  intro mr ρ s Q E vs S hvs k
  obtain ⟨v, rfl, y, hy, rfl⟩ := one_of hvs
  obtain ⟨y', oV, hy', ⟨x, hx, rfl⟩, NV⟩ := S.get hb
  rw [hy] at hy'
  cases hy'
  obtain ⟨o, kvs, ho, hd, hp, lo⟩ := S.dS ha hx
  have hD : s.heap.DictOf (strKind c.prog c.w) x kvs := Heap.dictOf_iff.mpr ⟨o, ho, hd⟩
  obtain ⟨ep, hat⟩ := hD.dictAt
  refine S.op fun ml xt os F a1 a2 a3 N a5 back => ?_
  refine kdu_sum (kdl_values (knd := strKind c.prog c.w) (kvs := kvs) (ep := ep)) ok.hh F N ⟨⟨_, (NV _ (.head _)).1, rfl, rfl⟩, hat⟩ val ?_ ?_
  · rintro i u ⟨kk, e⟩
    obtain ⟨e', h1, h2⟩ := hp.at e
    have := hv i e' h1
    rw [this] at h2
    exact h2
  · intro h' tk t' F' N'
    rw [hp.length]
    exact k [] _ _ H h' tk h ⟨_, rfl⟩ (nil_of (back _ _ _ ⟨F', os, a1, a2, a3, N', a5⟩))
end
section
variable {c : Cx} {m : ML} {H : MH} {G : Gx} {d : Nat}
theorem TE.addB {a b : CE} {post : MV → MH → Prop} (h : TE c m a H (fun x H1 => TE c m b H1 (fun y H2 => ∃ (i : Int) (t : Bool), x = .int i ∧ y = .bool t ∧ post (.int (i + if t = true then 1 else 0)) H2))) : TE c m (.bin .Add a b) H post := by
  refine TE.binH (h.mono fun x H1 h1 => h1.mono fun y H2 h2 => ?_)
  obtain ⟨i, t, rfl, rfl, hp⟩ := h2
  rintro mr ρ s Q E _ _ S ⟨u, rfl⟩ hy k
  rw [show _ = Value.bool t from hy]
  exact PySem.add_int_bool (k [] _ _ H2 s.heap _ hp ⟨_, rfl⟩ (nil_of S))
theorem TE.extend {o x : CE} {post : MV → MH → Prop} (h : TE c m o H (fun l H1 => ∃ a xs, l = .ref a ∧ H1[a]? = some (.list xs) ∧
      TE c m x H1 (fun v H2 => ∃ b ys zs, v = .ref b ∧ H2[a]? = some (.list ys) ∧ H2[b]? = some (.list zs) ∧ ys.length + zs.length ≤ 1000000 ∧ post .none (H2.set a (.list (ys ++ zs)))))) : TE c m (.meth o "extend" (.cons x .nil)) H post := by
  refine TE.mcall (h.mono ?_)
  rintro l H1 ⟨a, xs, rfl, ha, hx⟩ mr ρ s Q E _ pl pos args S lr ⟨y, hy, rfl⟩ hes k kx
  obtain ⟨vs, ep, hvs, No⟩ := S.list ha hy
  have ho := (No _ (.head _)).1
  refine getMethod_list_of PySem.F.slot_list_extend PySem.F.type_list_extend (isList_of No) ⟨_, ho, rfl⟩ ?_
  have h4 := and2 hes
  refine callWith_method1 ?_ (star_cons (star_re h4.1)) (star_plain h4.2)
  refine (TEs.one hx) _ _ hes mr ρ s _ E S lr ?_ kx
  rintro t vs' vrs H2 h2 tk2 ⟨v, rfl, b, ys, zs, rfl, hy2, hz2, hsz, hp⟩ ⟨vr, r, rfl, ⟨z, hz, rfl⟩, hr⟩ S2
  have hr' : r = [] := hr
  subst hr'
  obtain ⟨ws, ep2, hws, No2⟩ := S2.list hy2 (get_mono hy)
  obtain ⟨us, ep3, hus, No3⟩ := S2.list hz2 hz
  have l1 := hws.length
  have l2 := hus.length
  have ho2 := (No2 _ (.head _)).1
  refine call_meets (s := { s with heap := h2, toks := tk2 }) PySem.F.slot_list_extend ⟨_, ho2, rfl⟩ PySem.F.entry_list_extend (PySem.F.args_list_extend_2 _ _) (PySem.AutoSeq1.list_extend_list_list_0 y ws.toArray ep2 z us.toArray ep3 (extend_door (by simp; exact Nat.le_trans (show ws.length + us.length ≤ 1000000 by lia) (by decide))) (by simp; exact Nat.le_trans (show ws.length ≤ 1000000 by lia) (by decide)) (by simp; exact Nat.le_trans (show ws.length + us.length ≤ 1000000 by lia) (by decide))) ⟨ho2, (No3 _ (.head _)).1, ?_⟩
  obtain ⟨n', e⟩ : ∃ n', Obj.mapSeq (fun x => x ++ us.toArray) (listOf ws.toArray ep2) = listOf (ws ++ us).toArray n' := by
    by_cases hu : us = []
    · subst hu
      exact ⟨ep2, by simp [Obj.mapSeq]⟩
    · exact ⟨ep2 + 1, by simp [Obj.mapSeq, hu]⟩
  have S3 := S2.upd (o' := .list (ys ++ zs)) hy2 (get_mono hy) (Heap.SameBut.update ..) (h' := h2.update y (Obj.mapSeq fun x => x ++ us.toArray)) (x' := listOf (ws ++ us).toArray n')
    (by rw [Heap.get?_update_self _ ho2 (by rw [e]; rfl)]; exact congrArg some e) ⟨ws ++ us, n', hws.append hus, rfl⟩
  exact k t .none .none _ _ _ hp rfl S3
theorem TS.tryN (ok : Ok G c d) (hfm : c.fm = none) {b hb : CSs} {g : Str} {x : Option Nat} {post : Fl → ML → MH → Prop} (h : TB (c.wX fun _ _ _ _ => False) m b H post) : TS c m (.try b (.cons g x hb .nil)) H post := by
  intro st hs
  obtain ⟨h1, h2⟩ := and2 hs
  intro mr ρ s Q E S l k kx
  show wpAny _ _ (exec (.Try (reSs b c.nm (bl0 st)) [.ExceptHandler (some (.Name g (hTy (nthH (hsOf st))))) (x.map fun i => c.nm.getD i "") (reSs hb c.nm (hBody (nthH (hsOf st)))) (hPos (nthH (hsOf st)))] [] [] st.pos) c.env) _ _ _
  rw [arm_exec_Try]
  refine wpAny_bind (wpAny_standAt (wpAny_tryStmt_except ?_))
  refine h _ h1 mr ρ s _ _ S l ?_ ?_
  · intro t fl fr m' mr' H' h' tk hp hf S' l'
    cases fl with
    | next => subst hf; exact wpAny_execs_nil (k t .next .next m' mr' H' h' tk hp rfl S' l')
    | brk => subst hf; exact k t .brk .brk m' mr' H' h' tk hp rfl S' l'
    | cont => subst hf; exact k t .cont .cont m' mr' H' h' tk hp rfl S' l'
    | ret v => obtain ⟨vr, rfl, hv⟩ := hf; exact k t (.ret v) (.ret vr) m' mr' H' h' tk hp ⟨vr, rfl, hv⟩ S' l'
  · intro t C as e m' mr' H' h' tk hp hF hL
    exact (show False from hp).elim
end
theorem keq_hits_of {A : Around} {s : Shared} {ρ : List Addr} {es' : List (Str × MV)} {kb : List (Str × Value)} (hb : PR ρ es' kb) : ∀ {es : List (Str × MV)} {kvs : List (Str × Value)}, PR ρ es kvs → (∀ e ∈ es, ∃ i : Int, e.2 = .int i ∧ getD' es' e.1 = some (.int i)) → KeqHits A s kb kvs true
  | [], kvs, h, _ => by rw [show kvs = [] from h]; exact .nil
  | (k, m) :: es, kvs, ⟨v, r, e, h1, h2⟩, he => by
    subst e
    obtain ⟨i, e1, e2⟩ := he _ (.head _)
    dsimp only at e1 e2
    subst e1
    obtain ⟨t, rfl⟩ := h1
    obtain ⟨y, hy, u, rfl⟩ := hb.find.1 _ e2
    have := KeqHits.hit (A := A) (s := s) hy (SeqAt.EqAt.int_int i t i u) (keq_hits_of hb h2 fun e q => he e (.tail _ q))
    rwa [beq_self_eq_true, Bool.true_and] at this
theorem strs_mk {ρ : List Addr} : ∀ {ys : List Str} {vs : List Value}, vs.length = ys.length → (∀ (j : Nat) v, vs[j]? = some v → ∃ k t, ys[j]? = some k ∧ v = .str k t) → VRs ρ (strL ys) vs
  | [], vs, hl, _ => List.eq_nil_of_length_eq_zero hl
  | y :: ys, [], hl, _ => by simp at hl
  | y :: ys, v :: vs, hl, h => by
    obtain ⟨k, t, e, rfl⟩ := h 0 v rfl
    cases e
    exact ⟨_, vs, rfl, ⟨t, rfl⟩, strs_mk (by simpa using hl) fun j v hv => h (j + 1) v (by simpa using hv)⟩
section
variable {c : Cx} {m : ML} {H : MH} {G : Gx} {d : Nat}
theorem Cq.eqDS (ok : Ok G c d) {a b : Nat} {es es' : List (Str × MV)} (ha : H[a]? = some (.dS a es)) (hb : H[b]? = some (.dS b es')) (hl : es.length = es'.length) (he : ∀ e ∈ es, ∃ i : Int, e.2 = .int i ∧ getD' es' e.1 = some (.int i)) : Cq c .Eq H (.ref a) (.ref b) true := by
  rintro mr ρ s Q E _ _ S ⟨x, hx, rfl⟩ ⟨y, hy, rfl⟩ k
  obtain ⟨o, kvs, ho, hd, hp, lo⟩ := S.dS ha hx
  obtain ⟨o', kvs', ho', hd', hp', lo'⟩ := S.dS hb hy
  refine keq_eq lo lo' (Heap.dictOf_iff.mpr ⟨o, ho, hd⟩) (Heap.dictOf_iff.mpr ⟨o', ho', hd'⟩) (by have := ok.uni; lia) (fun _ => keq_hits_of hp' hp he) ?_
  rw [hp.length, hp'.length, hl, beq_self_eq_true, Bool.true_and]
  exact k s.heap s.toks S
theorem BC.listDS (ok : Ok G c d) {a : Nat} {es : List (Str × MV)} {post : MV → MH → Prop} (ha : H[a]? = some (.dS a es)) (hsz : es.length ≤ 1000000) (h : post (.ref H.length) (H ++ [.list (strL (es.map (·.1)))])) : BC c (.type "list") [.ref a] H post := by
  intro mr ρ s Q E vs S hv k
  obtain ⟨v, rfl, x, hx, rfl⟩ := one_of hv
  obtain ⟨o, kvs, ho, hd, hp, lo⟩ := S.dS ha hx
  refine S.op fun ml xt os F a1 a2 a3 N a5 back => ?_
  have hD : s.heap.DictOf (strKind c.prog c.w) x kvs := Heap.dictOf_iff.mpr ⟨o, ho, hd⟩
  obtain ⟨ep, hat⟩ := hD.dictAt
  refine kdl_N (kdl_dict (knd := strKind c.prog c.w) (kvs := kvs) (ep := ep) lo) ok.hh F N hat (by rw [sizeLine_eq, hp.length]; lia) ?_
  intro D cc h1 tk ws F1 N1 l1 hl hw
  refine k [D] (.ref H.length) _ _ h1 tk h ⟨_, last_get a2, rfl⟩ (back _ _ _ (Led.alloc a1 a2 a3 a5 F1 N1 (fun p hp => Nat.ne_of_lt (l1 p hp)) ⟨ws, cc, ?_, rfl⟩))
  have hkeys := hp.keys
  refine strs_mk (by rw [hl, List.length_map, hp.length]) fun j u hu => ?_
  obtain ⟨kk, y, e1, e2⟩ := hw j u hu
  obtain ⟨t, rfl⟩ := Value.isStrOf_shape e2
  exact ⟨kk, t, by rw [← hkeys, List.getElem?_map, e1]; rfl, rfl⟩
theorem TE.sliceB {o lo hi : CE} {post : MV → MH → Prop} (h : TE c m o H (fun x H1 => TE c m lo H1 (fun l H2 => ∃ i, l = .int i ∧ TE c m hi H2 (fun u H3 => ∃ j, u = .int j ∧ ∃ a xs, x = .ref a ∧ H3[a]? = some (.list xs) ∧ 0 ≤ i ∧ i ≤ j ∧ j ≤ xs.length ∧ xs.length ≤ 1000000 ∧
      post (.ref H3.length) (H3 ++ [.list ((xs.drop i.toNat).take (j.toNat - i.toNat))]))))) : TE c m (.slice o (.some lo) (.some hi)) H post := by
  refine TE.sliceQ (h.mono fun x H1 h1 => TE.mono (a := lo) h1 fun l H2 ⟨i, e1, h2⟩ => ⟨i, e1, TE.mono (a := hi) h2 fun u H3 ⟨j, e2, h3⟩ => ⟨j, e2, ?_⟩⟩)
  obtain ⟨a, xs, rfl, ha, i0, i1, i2, hl, hp⟩ := h3
  intro mr ρ s Q E vo vl vu base lw up p S ho pl pu k
  refine slice_made S ho ha hl pl pu (ys := (xs.drop i.toNat).take (j.toNat - i.toNat)) (fun vs hvs => ?_) hp k
  have e2 : slicePick vs.toArray (Option.some i) (Option.some j) Option.none = ((vs.toArray.toList.drop i.toNat).take (j.toNat - i.toNat)).toArray := by
    have := slicePick_run vs.toArray i.toNat j.toNat (by rw [List.size_toArray, hvs.length]; lia) (by lia)
    rwa [Int.toNat_of_nonneg i0, Int.toNat_of_nonneg (by lia)] at this
  rw [e2]
  simpa using (hvs.drop i.toNat).take (j.toNat - i.toNat)
theorem TE.sumV (ok : Ok G c d) (b : Bs G) {e : CE} {post : MV → MH → Prop} (h : TE c m e H (fun v H1 => ∃ (a : Nat) (ws : List (Str × Int)), v = .ref a ∧ H1[a]? = some (.dS a (ws.map fun p : Str × Int => (p.1, MV.int p.2))) ∧ post (.int (ws.map (·.2)).sum) (H1 ++ [.view "dict_values" a]))) :
    TE c m (.call "sum" (.cons (.meth e "values" .nil) .nil)) H post := by
  refine TE.sum ok b (TE.mcall (h.mono ?_))
  rintro v H1 ⟨a, ws, rfl, ha, hp⟩
  refine (Mth0.valuesS ha ?_).out
  refine (BCw.sumS (val := fun i => (ws.map (·.2)).getD i 0) ok get_end (get_app ha) ?_ ?_).out
  · intro i e he
    rw [List.getElem?_map] at he
    cases hw : ws[i]? with
    | none => rw [hw] at he; cases he
    | some p =>
      rw [hw] at he
      cases he
      simp [List.getD_eq_getElem?_getD, hw]
  · rw [List.length_map]
    have key : ∀ (l : List Int) (n : Nat), n ≤ l.length → preSum (fun i => l.getD i 0) n = (l.take n).sum := by
      intro l n
      induction n with
      | zero => intro _; rfl
      | succ n ih =>
        intro hn
        show preSum _ n + l.getD n 0 = _
        have e : l.take (n + 1) = l.take n ++ [l[n]] := by rw [List.take_add_one, List.getElem?_eq_getElem (by lia)]; rfl
        rw [ih (by lia), e, List.sum_append, List.getD_eq_getElem?_getD, List.getElem?_eq_getElem (by lia)]
        simp
    have := key (ws.map (·.2)) ws.length (by simp)
    rw [this, List.take_of_length_le (by simp)]
    exact hp
end
noncomputable def k_Voters_init_nm : List Str := ["self", "field", "rows", "mark", "name", "weight"]
noncomputable def k_Voters_init : CSs := (.cons (.setAttr (.loc 0) "field" (.loc 1))
  (.cons (.setAttr (.loc 0) "weights" CE.dict0)
  (.cons (.for [4, 5] (.loc 2) (.cons (.expr (.call "need_name" (.cons (.loc 4) .nil)))
  (.cons (.ite (.cmp .In (.loc 4) (.attr (.loc 0) "weights")) (.cons (.raise "ShareError" (.cons (.bin .Add (.str "a voter twice: ") (.loc 4)) .nil))
  .nil) .nil)
  (.cons (.setItem (.attr (.loc 0) "weights") (.loc 4) (.call "need_number" (.cons (.loc 5) (.cons (.int 1) (.cons (.int 1000) (.cons (.str "weight") .nil))))))
  .nil))))
  (.cons (.setAttr (.loc 0) "mark" (.call "need_number" (.cons (.loc 3) (.cons (.int 1) (.cons (.call "sum" (.cons (.meth (.attr (.loc 0) "weights") "values" .nil) .nil)) (.cons (.str "mark") .nil))))))
  (.cons (.ite (.cmp .GtE (.call "sum" (.cons (.meth (.attr (.loc 0) "weights") "values" .nil) .nil)) (.attr (.loc 1) "prime")) (.cons (.raise "ShareError" (.cons (.str "more shares than the field has places") .nil))
  .nil) .nil)
  .nil)))))
noncomputable def k_Voters_names_nm : List Str := ["self"]
noncomputable def k_Voters_names : CSs := (.cons (.ret (.call "list" (.cons (.attr (.loc 0) "weights") .nil)))
  .nil)
noncomputable def k_Voters_weight_of_nm : List Str := ["self", "present"]
noncomputable def k_Voters_weight_of : CSs := (.cons (.ret (.call "sum" (.cons (.comp (.sub (.attr (.loc 0) "weights") (.loc 2)) ["name"] (.attr (.loc 0) "weights") (.cons (.cmp .In (.loc 2) (.loc 1)) .nil)) .nil)))
  .nil)
noncomputable def k_Voters_allows_nm : List Str := ["self", "present"]
noncomputable def k_Voters_allows : CSs := (.cons (.ret (.tst (.cmp .GtE (.meth (.loc 0) "weight_of" (.cons (.loc 1) .nil)) (.attr (.loc 0) "mark"))))
  .nil)
noncomputable def k_Voters_deal_nm : List Str := ["self", "secret", "source", "row", "shares", "out", "at", "name"]
noncomputable def k_Voters_deal : CSs := (.cons (.assignT [3, 4] (.call "deal_polynomial" (.cons (.attr (.loc 0) "field") (.cons (.loc 1) (.cons (.attr (.loc 0) "mark") (.cons (.call "sum" (.cons (.meth (.attr (.loc 0) "weights") "values" .nil) .nil)) (.cons (.loc 2) .nil)))))))
  (.cons (.assign 5 CE.dict0)
  (.cons (.assign 6 (.int 0))
  (.cons (.for [7] (.attr (.loc 0) "weights") (.cons (.setItem (.loc 5) (.loc 7) (.slice (.loc 4) (.some (.loc 6)) (.some (.bin .Add (.loc 6) (.sub (.attr (.loc 0) "weights") (.loc 7))))))
  (.cons (.assign 6 (.bin .Add (.loc 6) (.sub (.attr (.loc 0) "weights") (.loc 7))))
  .nil)))
  (.cons (.ret (.loc 5))
  .nil)))))
noncomputable def k_Voters_rebuild_nm : List Str := ["self", "dealt", "present", "rows", "name"]
noncomputable def k_Voters_rebuild : CSs := (.cons (.ite (.not (.plain (.meth (.loc 0) "allows" (.cons (.loc 2) .nil)))) (.cons (.raise "ShareError" (.cons (.str "the mark is not reached") .nil))
  .nil) .nil)
  (.cons (.assign 3 (.list .nil))
  (.cons (.for [4] (.attr (.loc 0) "weights") (.cons (.ite (.cmp .In (.loc 4) (.loc 2)) (.cons (.ite (.cmp .NotIn (.loc 4) (.loc 1)) (.cons (.raise "ShareError" (.cons (.bin .Add (.str "no shares of ") (.loc 4)) .nil))
  .nil) .nil)
  (.cons (.expr (.meth (.loc 3) "extend" (.cons (.sub (.loc 1) (.loc 4)) .nil)))
  .nil)) .nil)
  .nil))
  (.cons (.ret (.call "rebuild_polynomial" (.cons (.attr (.loc 0) "field") (.cons (.loc 3) (.cons (.attr (.loc 0) "mark") .nil)))))
  .nil))))
noncomputable def k_Voters_decisive_nm : List Str := ["self", "names", "out", "name", "others", "count", "number", "some"]
noncomputable def k_Voters_decisive : CSs := (.cons (.assign 1 (.meth (.loc 0) "names" .nil))
  (.cons (.ite (.cmp .Gt (.call "len" (.cons (.loc 1) .nil)) (.int 12)) (.cons (.raise "ShareError" (.cons (.str "too many voters to go through all sets") .nil))
  .nil) .nil)
  (.cons (.assign 2 CE.dict0)
  (.cons (.for [3] (.loc 1) (.cons (.assign 4 (.comp (.loc 8) ["other"] (.loc 1) (.cons (.cmp .NotEq (.loc 8) (.loc 3)) .nil)))
  (.cons (.assign 5 (.int 0))
  (.cons (.for [6] (.call "range" (.cons (.bin .LShift (.int 1) (.call "len" (.cons (.loc 4) .nil))) .nil)) (.cons (.assign 7 (.comp (.sub (.loc 4) (.loc 8)) ["k"] (.call "range" (.cons (.call "len" (.cons (.loc 4) .nil)) .nil)) (.cons (.plain (.bin .BitAnd (.bin .RShift (.loc 6) (.loc 8)) (.int 1))) .nil)))
  (.cons (.ite (.and (.cons (.not (.plain (.meth (.loc 0) "allows" (.cons (.loc 7) .nil)))) (.cons (.plain (.meth (.loc 0) "allows" (.cons (.bin .Add (.loc 7) (.list (.cons (.loc 3) .nil))) .nil))) .nil))) (.cons (.assign 5 (.bin .Add (.loc 5) (.int 1)))
  .nil) .nil)
  .nil)))
  (.cons (.setItem (.loc 2) (.loc 3) (.loc 5))
  .nil)))))
  (.cons (.ret (.loc 2))
  .nil)))))
noncomputable abbrev wd (ws : List (Str × Int)) : List (Str × MV) := ws.map fun p => (p.1, MV.int p.2)
noncomputable def wsum (ws : List (Str × Int)) (ps : List Str) : Int := ((ws.filter fun p => ps.any (· == p.1)).map (·.2)).sum
structure Vot (H : MH) (CV : Addr) (i kk iF d : Nat) (ws : List (Str × Int)) (mark : Int) : Prop where
  ins : Ins H i CV kk [("field", .ref iF), ("weights", .ref d), ("mark", .int mark)]
  wt : H[d]? = some (.dS d (wd ws))
theorem Vot.ext {H H' : MH} {CV : Addr} {i kk iF d : Nat} {ws : List (Str × Int)} {mark : Int} (V : Vot H CV i kk iF d ws mark) (E : Ext H H') : Vot H' CV i kk iF d ws mark := ⟨E.ins V.ins, E _ _ V.wt⟩
structure VoK (G : Gx) (CV : Addr) : Prop where
  bs : Bs G
  af : GAtt G CV "field"
  aw : GAtt G CV "weights"
  am : GAtt G CV "mark"
  wo : ∃ f, GMth G CV "weight_of" f ∧ GDef G f ["self", "present"] k_Voters_weight_of_nm k_Voters_weight_of []
  al : ∃ f, GMth G CV "allows" f ∧ GDef G f ["self", "present"] k_Voters_allows_nm k_Voters_allows []
  nm : ∃ f, GMth G CV "names" f ∧ GDef G f ["self"] k_Voters_names_nm k_Voters_names []
theorem wd_at {ws : List (Str × Int)} {j : Nat} {e : Str × MV} (h : (wd ws)[j]? = some e) : ∃ p, ws[j]? = some p ∧ e = (p.1, .int p.2) := by
  rw [List.getElem?_map] at h
  cases hw : ws[j]? with
  | none => rw [hw] at h; cases h
  | some p => rw [hw] at h; cases h; exact ⟨p, rfl, rfl⟩
theorem wd_get {ws : List (Str × Int)} (hn : (ws.map (·.1)).Nodup) {p : Str × Int} (h : p ∈ ws) : getD' (wd ws) p.1 = some (.int p.2) := by
  induction ws with
  | nil => cases h
  | cons q ws ih =>
    rw [List.map_cons, List.nodup_cons] at hn
    rcases List.mem_cons.mp h with rfl | h
    · simp [getD', wd]
    · have hne : q.1 ≠ p.1 := fun e => hn.1 (e ▸ List.mem_map_of_mem h)
      have := ih hn.2 h
      unfold getD' wd at this ⊢
      rw [List.map_cons, List.find?_cons_of_neg (by simpa using hne)]
      exact this
theorem filt_step {ws : List (Str × Int)} {q : Str × Int → Bool} {j : Nat} {p : Str × Int} (h : ws[j]? = some p) : (ws.take (j + 1)).filter q = (ws.take j).filter q ++ (if q p then [p] else []) := by
  rw [List.take_add_one, h, List.filter_append]
  cases hq : q p <;> simp [hq]
section
variable {G : Gx} {CV : Addr} {prog : Program} {w : World} {xp : Addr → List MV → MH → Prop}
theorem weight_of_cl {f : Addr} {i kk iF d r : Nat} {ws : List (Str × Int)} {mark : Int} {ps : List Str} {H : MH} (D : GDef G f ["self", "present"] k_Voters_weight_of_nm k_Voters_weight_of []) (K : VoK G CV)
    (V : Vot H CV i kk iF d ws mark) (hn : (ws.map (·.1)).Nodup) (hl : ws.length ≤ 100) (hr : H[r]? = some (.list (strL ps))) : CL G prog w 1 f [.ref i, .ref r] H (fun v H' => v = .int (wsum ws ps) ∧ Ext H H') xp := by
  have bs := K.bs
  have aw := K.aw
  have iV := V.ins
  refine D.cl rfl ?_
  intro c e1 e2 ok hfm hint hnm hX
  subst e1 e2
  show TB c [some (.ref i), some (.ref r)] _ _ _
  unfold k_Voters_weight_of
  refine TB.cons (TS.ret (TE.sum ok bs (TE.comp ok (Src.dS ok ?_))))
  walk_at "w"
  refine ⟨d, wd ws, _, rfl, V.wt, Turns.dS rfl (by simp [wd]; lia) (fun j ys H1 => H1 = H ∧ ys = intL (((ws.take j).filter fun p => ps.any (· == p.1)).map (·.2))) ⟨rfl, rfl⟩ ?_ ?_ ?_⟩
  · rintro j ys H1 ⟨rfl, rfl⟩
    refine ⟨?_, V.wt⟩
    simp only [intL, List.length_map]
    exact Nat.le_trans (List.length_filter_le _ _) (by rw [List.length_take]; lia)
  · rintro j ys H1 e ⟨e1, rfl⟩ he c' sub hnm'
    obtain rfl : H = H1 := e1.symm
    obtain ⟨p, hp, rfl⟩ := wd_at he
    have ok' := sub.ok
    show TT c' [some (.ref i), some (.ref r), some (.str p.1)] _ _ _
    walk_at "w"
    refine ⟨_, Cq.inLS hr, fun hb => ⟨fun _ => ⟨rfl, ?_⟩, fun h => (by cases h)⟩, fun hb => ⟨fun h => (by cases h), fun _ => ?_⟩⟩
    · rw [filt_step hp, hb]; simp
    · walk_at "w"
      refine ⟨_, Sq.dS V.wt (wd_get hn (List.mem_of_getElem? hp)), ?_⟩
      exact ⟨rfl, by rw [filt_step hp, hb]; simp [intL]⟩
  · rintro ys H1 ⟨rfl, rfl⟩
    refine BC.sum ok.hh get_end ?_
    rw [show (wd ws).length = ws.length by simp [wd], List.take_length]
    exact ⟨rfl, (Ext.refl H1).app _⟩
theorem allows_cl {f : Addr} {i kk iF d r : Nat} {ws : List (Str × Int)} {mark : Int} {ps : List Str} {H : MH} (D : GDef G f ["self", "present"] k_Voters_allows_nm k_Voters_allows []) (K : VoK G CV)
    (V : Vot H CV i kk iF d ws mark) (hn : (ws.map (·.1)).Nodup) (hl : ws.length ≤ 100) (hr : H[r]? = some (.list (strL ps))) : CL G prog w 2 f [.ref i, .ref r] H (fun v H' => v = .bool (decide (mark ≤ wsum ws ps)) ∧ Ext H H') xp := by
  have bs := K.bs
  have am := K.am
  have iV := V.ins
  obtain ⟨fW, gW, dW⟩ := K.wo
  refine D.cl rfl ?_
  intro c e1 e2 ok hfm hint hnm hX
  subst e1 e2
  show TB c [some (.ref i), some (.ref r)] _ _ _
  unfold k_Voters_allows
  refine TB.cons (TS.ret (TE.tst (TV.cmp ?_)))
  walk_at "w"
  refine (weight_of_cl dW K V hn hl hr).use (Nat.le_refl _) ?_
  rintro _ H1 ⟨rfl, E1⟩
  have iV1 := E1.ins iV
  walk_at "w"
  exact ⟨_, rfl, rfl, E1⟩
theorem names_cl {f : Addr} {i kk iF d : Nat} {ws : List (Str × Int)} {mark : Int} {H : MH} (D : GDef G f ["self"] k_Voters_names_nm k_Voters_names []) (K : VoK G CV)
    (V : Vot H CV i kk iF d ws mark) (hl : ws.length ≤ 100) : CL G prog w 1 f [.ref i] H (fun v H' => v = .ref H.length ∧ H' = H ++ [.list (strL (ws.map (·.1)))]) xp := by
  have bs := K.bs
  have aw := K.aw
  have iV := V.ins
  refine D.cl rfl ?_
  intro c e1 e2 ok hfm hint hnm hX
  subst e1 e2
  show TB c [some (.ref i)] _ _ _
  unfold k_Voters_names
  walk_at "w"
  refine BC.listDS ok V.wt (by simp [wd]; lia) ?_
  exact ⟨rfl, by simp [wd, Function.comp_def]⟩
end
local macro_rules | `(tactic| walk_at "s") => `(tactic| with_reducible first | refine TE.sumV (by assumption) (by assumption) ?_ | fail)
noncomputable def RowsAt (H : MH) (r : Nat) (ws : List (Str × Int)) : Prop := ∃ refs, H[r]? = some (.list refs) ∧ refs.length = ws.length ∧ ∀ (k : Nat) p, ws[k]? = some p → ∃ t, refs[k]? = some (.ref t) ∧ H[t]? = some (.tup [.str p.1, .int p.2])
structure VOk (p mark : Int) (ws : List (Str × Int)) : Prop where
  nm : ∀ q ∈ ws, okN q.1 = true
  nd : (ws.map (·.1)).Nodup
  wt : ∀ q ∈ ws, 1 ≤ q.2 ∧ q.2 ≤ 1000
  m1 : 1 ≤ mark
  m2 : mark ≤ (ws.map (·.2)).sum
  lt : (ws.map (·.2)).sum < p
  len : ws.length ≤ 100
structure VoC (G : Gx) (C CV : Addr) : Prop extends VoK G CV where
  cls : ∃ f, GCls G "Voters" CV f ∧ GDef G f ["self", "field", "rows", "mark"] k_Voters_init_nm k_Voters_init []
  sf : GSto G CV "field"
  sw : GSto G CV "weights"
  sm : GSto G CV "mark"
  nn : ∃ f, GFn G "need_number" f ∧ GDef G f ["value", "least", "most", "what"] k_need_number_nm k_need_number []
  nk : NameK G
  att : GAtt G C "prime"
theorem put_wd {ws : List (Str × Int)} {j : Nat} {p : Str × Int} (hn : (ws.map (·.1)).Nodup) (h : ws[j]? = some p) : getD' (wd (ws.take j)) p.1 = none ∧ putD (wd (ws.take j)) p.1 (.int p.2) = wd (ws.take (j + 1)) := by
  have hlt := (List.getElem?_eq_some_iff.mp h).1
  have hno : ∀ q ∈ ws.take j, q.1 ≠ p.1 := by
    intro q hq e
    obtain ⟨i, hi, rfl⟩ := List.getElem_of_mem hq
    rw [List.length_take] at hi
    rw [List.getElem_take] at e
    have e2 : p = ws[j] := by rw [List.getElem?_eq_getElem hlt] at h; exact (Option.some.inj h).symm
    rw [e2] at e
    have h1 : i < (ws.map (·.1)).length := by rw [List.length_map]; lia
    have h2 : j < (ws.map (·.1)).length := by rw [List.length_map]; lia
    have := (List.getElem_inj (h₀ := h1) (h₁ := h2) hn).mp (by rw [List.getElem_map, List.getElem_map]; exact e)
    lia
  have hany : ((wd (ws.take j)).any fun kv => decide (kv.1 = p.1)) = false := by
    rw [List.any_eq_false]
    intro kv hkv
    obtain ⟨q, hq, rfl⟩ := List.mem_map.mp hkv
    simpa using hno q hq
  have hfind : (wd (ws.take j)).find? (fun kv => decide (kv.1 = p.1)) = none := by
    rw [List.find?_eq_none]
    intro kv hkv
    obtain ⟨q, hq, rfl⟩ := List.mem_map.mp hkv
    simpa using hno q hq
  refine ⟨by unfold getD'; rw [hfind]; rfl, ?_⟩
  unfold putD
  rw [if_neg (by rw [hany]; exact Bool.false_ne_true), List.take_add_one, h]
  simp [wd]
section
variable {G : Gx} {C CV : Addr} {prog : Program} {w : World} {xp : Addr → List MV → MH → Prop}
theorem voters_init {f iF kf r : Nat} {p mark : Int} {ws : List (Str × Int)} {H : MH} (D : GDef G f ["self", "field", "rows", "mark"] k_Voters_init_nm k_Voters_init []) (K : VoC G C CV)
    (hF : Ins H iF C kf [("prime", .int p)]) (hR : RowsAt H r ws) (V : VOk p mark ws) :
    CL G prog w 4 f [.ref (H.length + 1), .ref iF, .ref r, .int mark] (H ++ [.ns []] ++ [.inst CV H.length]) (fun v H' => v = .none ∧ Ext H H' ∧ Vot H' CV (H.length + 1) H.length iF (H.length + 2) ws mark) xp := by
  have bs := K.bs
  have af := K.af
  have aw := K.aw
  have am := K.am
  have sf := K.sf
  have sw := K.sw
  have sm := K.sm
  have ga := K.att
  obtain ⟨fN, gN, dN⟩ := K.nn
  obtain ⟨fM, gM, dM⟩ := K.nk.nn
  have hl := V.len
  refine D.cl rfl ?_
  intro c e1 e2 ok hfm hint hnm hX
  subst e1 e2
  generalize hn : H.length = n
  show TB c [some (.ref (n + 1)), some (.ref iF), some (.ref r), some (.int mark), none, none] _ _ _
  have E0 : Ext H (H ++ [.ns []] ++ [.inst CV n]) := ((Ext.refl H).app _).app _
  have i0 : Ins (H ++ [.ns []] ++ [.inst CV n]) (n + 1) CV n [] := by subst hn; exact ⟨by simp, by simp⟩
  have l0 : (H ++ [.ns []] ++ [.inst CV n] : MH).length = n + 2 := by simp [hn]
  generalize H ++ [.ns []] ++ [.inst CV n] = H0 at *
  unfold k_Voters_init
  walk_at "w"
  have i1 := ins_set (gs := putF "field" (.ref iF) []) i0
  have E1 : Ext H (H0.set n (.ns (putF "field" (.ref iF) []))) := E0.set (by lia)
  have l1 : (H0.set n (.ns (putF "field" (.ref iF) []))).length = n + 2 := by rw [List.length_set, l0]
  generalize H0.set n (.ns (putF "field" (.ref iF) [])) = H1 at *
  refine TE.dict0 (o := .dS H1.length []) ok ⟨.inr rfl⟩ ?_
  have i2 : Ins (H1 ++ [MO.dS H1.length []]) (n + 1) CV n (putF "field" (.ref iF) []) := ((Ext.refl H1).app _).ins i1
  walk_at "w"
  have i3 := ins_set (gs := putF "weights" (.ref H1.length) (putF "field" (.ref iF) [])) i2
  have E3 : Ext H ((H1 ++ [MO.dS H1.length []]).set n (.ns (putF "weights" (.ref H1.length) (putF "field" (.ref iF) [])))) := (E1.app _).set (by lia)
  have w3 : ((H1 ++ [MO.dS H1.length []]).set n (.ns (putF "weights" (.ref H1.length) (putF "field" (.ref iF) []))))[n + 2]? = some (.dS (n + 2) (wd (ws.take 0))) := by
    rw [List.getElem?_set_ne (by lia), ← l1]
    exact get_end
  rw [l1] at i3 E3 w3 ⊢
  generalize (H1 ++ [MO.dS (n + 2) []]).set n (.ns (putF "weights" (.ref (n + 2)) (putF "field" (.ref iF) []))) = H3 at *
  refine TS.forL' ok hfm ?_
  walk_at "w"
  obtain ⟨refs, r1, r2, r3⟩ := hR
  refine ⟨r, refs, rfl, E3 _ _ r1, fun j m1 H4 => ∃ o4 o5, m1 = [some (.ref (n + 1)), some (.ref iF), some (.ref r), some (.int mark), o4, o5] ∧ Ext H H4 ∧ Ins H4 (n + 1) CV n (putF "weights" (.ref (n + 2)) (putF "field" (.ref iF) [])) ∧ H4[n + 2]? = some (.dS (n + 2) (wd (ws.take j))),
    ⟨none, none, rfl, E3, i3, w3⟩, ?_, ?_, ?_⟩
  · rintro j m1 H4 ⟨_, _, _, E, _⟩
    exact E _ _ r1
  · rintro j m1 H4 v xt ⟨o4, o5, rfl, E4, i4, w4⟩ hv
    have hj : j < ws.length := by
      have := (List.getElem?_eq_some_iff.mp hv).1
      lia
    obtain ⟨q, hq⟩ : ∃ q, ws[j]? = some q := ⟨ws[j], List.getElem?_eq_getElem hj⟩
    have hm := List.mem_of_getElem? hq
    obtain ⟨t, t1, t2⟩ := r3 j q hq
    rw [t1] at hv
    cases hv
    refine ⟨[.str q.1, .int q.2], ⟨by simp, rfl, t, rfl, E4 _ _ t2⟩, ?_⟩
    have okx := ok.wx xt
    have hfx : (c.wx xt).fm = none := hfm
    have hix : interactive (c.wx xt).env = false := hint
    obtain ⟨g1, g2⟩ := put_wd V.nd hq
    show TB (c.wx xt) [some (.ref (n + 1)), some (.ref iF), some (.ref r), some (.int mark), some (.str q.1), some (.int q.2)] _ _ _
    refine TB.gen3 fun PP hPP => ?_
    walk_at "w"
    refine (need_name_cl dM K.nk (V.nm q hm)).use (by decide) ?_
    rintro _ H5 ⟨rfl, rfl⟩
    walk_at "w"
    refine ⟨_, Cq.inDS w4, fun h => (by rw [g1] at h; cases h), fun _ => ?_⟩
    walk_at "w"
    refine (need_number_cl dN bs (V.wt q hm).1 (V.wt q hm).2).use (by decide) ?_
    rintro _ H6 ⟨rfl, rfl⟩
    walk_at "w"
    refine ⟨_, Uq.dS w4 (by simp [wd]; lia), ?_⟩
    rw [g2]
    walk_at "w"
    have hw := (List.getElem?_eq_some_iff.mp w4).1
    refine hPP _ _ _ ⟨_, _, rfl, E4.set (by lia), ⟨?_, ?_⟩, ?_⟩
    · rw [List.getElem?_set_ne (by lia)]; exact i4.1
    · rw [List.getElem?_set_ne (by lia)]; exact i4.2
    · rw [List.getElem?_set_self hw]
  · rintro m1 H4 ⟨o4, o5, rfl, E4, i4, w4⟩
    rw [r2, List.take_length] at w4
    walk_at "w"
    refine ⟨n + 2, ws, rfl, w4, ?_⟩
    have E5 : Ext H4 (H4 ++ [MO.view "dict_values" (n + 2)]) := (Ext.refl H4).app _
    have l4 : n + 2 < H4.length := (List.getElem?_eq_some_iff.mp w4).1
    walk_at "w"
    refine (need_number_cl dN bs V.m1 V.m2).use (by decide) ?_
    rintro _ H6 ⟨rfl, rfl⟩
    have i5 := E5.ins i4
    have w5 := E5 _ _ w4
    have E5' := E4.trans E5
    generalize H4 ++ [MO.view "dict_values" (n + 2)] = H5 at *
    walk_at "w"
    have i6 := ins_set (gs := putF "mark" (.int mark) (putF "weights" (.ref (n + 2)) (putF "field" (.ref iF) []))) i5
    have E6 : Ext H (H5.set n (.ns (putF "mark" (.int mark) (putF "weights" (.ref (n + 2)) (putF "field" (.ref iF) []))))) := E5'.set (by lia)
    have w6 : (H5.set n (.ns (putF "mark" (.int mark) (putF "weights" (.ref (n + 2)) (putF "field" (.ref iF) [])))))[n + 2]? = some (.dS (n + 2) (wd ws)) := by rw [List.getElem?_set_ne (by lia)]; exact w5
    generalize H5.set n (.ns (putF "mark" (.int mark) (putF "weights" (.ref (n + 2)) (putF "field" (.ref iF) [])))) = H6 at *
    walk_at "w"
    refine ⟨n + 2, ws, rfl, w6, ?_⟩
    have E7 : Ext H6 (H6 ++ [MO.view "dict_values" (n + 2)]) := (Ext.refl H6).app _
    have iF7 := (E6.trans E7).ins hF
    walk_at "w"
    have lt := V.lt
    refine ⟨false, by show false = decide _; simp; lia, fun h => (by cases h), fun _ => ?_⟩
    walk_at "w"
    exact ⟨rfl, E6.trans E7, ⟨E7.ins i6, E7 _ _ w6⟩⟩
theorem TE.voters {c : Cx} {m : ML} {H : MH} {d : Nat} (ok : Ok G c d) (hd : 5 ≤ d) (K : VoC G C CV) {e1 e2 e3 : CE} {post : MV → MH → Prop}
    (h : TE c m e1 H (fun v1 H1 => TE c m e2 H1 (fun v2 H2 => TE c m e3 H2 (fun v3 H3 => ∃ iF kf r p mark ws, v1 = .ref iF ∧ v2 = .ref r ∧ v3 = .int mark ∧ Ins H3 iF C kf [("prime", .int p)] ∧ RowsAt H3 r ws ∧ VOk p mark ws ∧
      ∀ H', Ext H3 H' → Vot H' CV (H3.length + 1) H3.length iF (H3.length + 2) ws mark → post (.ref (H3.length + 1)) H')))) : TE c m (.call "Voters" (.cons e1 (.cons e2 (.cons e3 .nil)))) H post := by
  obtain ⟨fI, gI, dI⟩ := K.cls
  refine TE.new (d := 4) (ok.le hd) gI (TEs.cons (h.mono fun v1 H1 h => TEs.cons (h.mono fun v2 H2 h => TEs.cons (h.mono ?_))))
  rintro v3 H3 ⟨iF, kf, r, p, mark, ws, rfl, rfl, rfl, hF, hR, V, hp⟩
  refine TEs.nil ?_
  exact (voters_init dI K hF hR V).use (Nat.le_refl _) fun v H' ⟨a1, a2, a3⟩ => ⟨a1, hp H' a2 a3⟩
end
local macro_rules | `(tactic| walk_at "s") => `(tactic| with_reducible first | refine TE.sumV (by assumption) (by assumption) ?_ | fail)
noncomputable def off (ws : List (Str × Int)) (k : Nat) : Nat := ((ws.take k).map fun p => p.2.toNat).sum
theorem off_succ {ws : List (Str × Int)} {k : Nat} {p : Str × Int} (h : ws[k]? = some p) : off ws (k + 1) = off ws k + p.2.toNat := by
  unfold off
  rw [List.take_add_one, h]
  simp
theorem off_le {ws : List (Str × Int)} {k : Nat} {p : Str × Int} (h : ws[k]? = some p) : off ws k + p.2.toNat ≤ (ws.map fun p => p.2.toNat).sum := by
  rw [← off_succ h]
  unfold off
  conv => rhs; rw [← List.take_append_drop (k + 1) ws]
  rw [List.map_append, List.sum_append]
  lia
theorem sum_nat : ∀ {ws : List (Str × Int)}, (∀ q ∈ ws, 1 ≤ q.2) → (ws.map (·.2)).sum = (((ws.map fun p => p.2.toNat).sum : Nat) : Int)
  | [], _ => rfl
  | q :: r, h => by
    have h1 := h q (.head _)
    have ih := sum_nat (ws := r) fun p hp => h p (.tail _ hp)
    simp only [List.map_cons, List.sum_cons, ih]
    lia
structure DltAt (H : MH) (z : Nat) (ws : List (Str × Int)) (refs : List MV) (n : Nat) (es : List (Str × MV)) : Prop where
  d : H[z]? = some (.dS z es)
  len : es.length = n
  nm : ∀ k p, k < n → ws[k]? = some p → ∃ t, es[k]? = some (p.1, .ref t) ∧ H[t]? = some (.list ((refs.drop (off ws k)).take p.2.toNat))
theorem putD_new {es : List (Str × MV)} {k : Str} {v : MV} (h : ∀ e ∈ es, e.1 ≠ k) : putD es k v = es ++ [(k, v)] := by
  unfold putD
  rw [if_neg]
  rw [Bool.not_eq_true, List.any_eq_false]
  intro e he
  simpa using h e he
theorem nodup_at {ws : List (Str × Int)} (hn : (ws.map (·.1)).Nodup) {i j : Nat} {p q : Str × Int} (h1 : ws[i]? = some p) (h2 : ws[j]? = some q) (e : p.1 = q.1) : i = j := by
  have l1 := (List.getElem?_eq_some_iff.mp h1).1
  have l2 := (List.getElem?_eq_some_iff.mp h2).1
  have k1 : i < (ws.map (·.1)).length := by rw [List.length_map]; exact l1
  refine (List.getElem?_inj k1 hn).mp ?_
  rw [List.getElem?_map, List.getElem?_map, h1, h2]
  simp [e]
structure VoD (G : Gx) (C CV CS CE : Addr) : Prop extends VoC G C CV where
  D : DealK G C CS CE
  dp : ∃ f, GFn G "deal_polynomial" f ∧ GDef G f ["field", "secret", "needed", "count", "source"] k_deal_nm k_deal []
section
variable {G : Gx} {C CV CS CE : Addr} {prog : Program} {w : World} {xp : Addr → List MV → MH → Prop}
theorem vdeal_cl {f i kk iF kf d sc ks : Nat} {p mark secret s n : Int} {ws : List (Str × Int)} {H : MH} (D : GDef G f ["self", "secret", "source"] k_Voters_deal_nm k_Voters_deal []) (K : VoD G C CV CS CE)
    (V : Vot H CV i kk iF d ws mark) (O : VOk p mark ws) (hF : Ins H iF C kf [("prime", .int p)]) (hS : Ins H sc CS ks (srcF s n)) (hk : kf ≠ ks) (hk2 : kk ≠ ks) (hs : 0 ≤ s ∧ s < 2147483648) (hp2 : p ≤ 1048576) (hW : (ws.map (·.2)).sum ≤ 200) (s0 : 0 ≤ secret) (s1 : secret < p) :
    CL G prog w 6 f [.ref i, .int secret, .ref sc] H (fun v H' => ∃ z zs refs es, v = .ref z ∧ Ext (H.set ks (.ns (srcF (Nat.repeat nxt (mark - 1).toNat s) (n + (mark - 1).toNat)))) H' ∧
      H'[zs]? = some (.list refs) ∧ PtsAt H' zs (shs p (secret :: drws p (mark - 1).toNat s) (ws.map fun p => p.2.toNat).sum) ∧ DltAt H' z ws refs ws.length es) xp := by
  have bs := K.bs
  have af := K.af
  have aw := K.aw
  have am := K.am
  have iV := V.ins
  have wt := V.wt
  have hl := O.len
  obtain ⟨fD, gD, dD⟩ := K.dp
  have m1 := O.m1
  have m2 := O.m2
  have lt := O.lt
  have eW := sum_nat fun q hq => (O.wt q hq).1
  refine D.cl rfl ?_
  intro c e1 e2 ok hfm hint hnm hX
  subst e1 e2
  show TB c [some (.ref i), some (.int secret), some (.ref sc), none, none, none, none, none] _ _ _
  unfold k_Voters_deal
  refine TB.cons (TS.assignT ok hfm ?_)
  walk_at "w"
  refine ⟨d, ws, rfl, wt, ?_⟩
  have E1 : Ext H (H ++ [MO.view "dict_values" d]) := (Ext.refl H).app _
  have hks : ks < H.length := (List.getElem?_eq_some_iff.mp hS.2).1
  walk_at "w"
  refine (deal_cl dD K.D (E1.ins hF) (E1.ins hS) hk hs (by lia) hp2 ⟨by lia, by lia, by lia, by lia, by lia⟩ s0 s1).use (by decide) ?_
  rintro _ H2 ⟨t, zr, zs, rfl, _, _, _, E2, kt, kr, hP⟩
  refine ⟨[.ref zr, .ref zs], ⟨by simp, rfl, t, rfl, kt⟩, ?_⟩
  rw [List.set_append_left _ _ hks] at E2
  generalize hB : H.set ks (.ns (srcF (Nat.repeat nxt (mark - 1).toNat s) (n + (mark - 1).toNat))) = B at *
  have E2 : Ext B H2 := ((Ext.refl B).app _).trans E2
  have iB : Ins B i CV kk [("field", .ref iF), ("weights", .ref d), ("mark", .int mark)] := by
    rw [← hB]
    have hne : ks ≠ i := by
      rintro rfl
      have := hS.2.symm.trans iV.1
      cases this
    exact ⟨by rw [List.getElem?_set_ne hne]; exact iV.1, by rw [List.getElem?_set_ne (fun e => hk2 e.symm)]; exact iV.2⟩
  have wB : B[d]? = some (.dS d (wd ws)) := by
    rw [← hB]
    have hne : ks ≠ d := by
      rintro rfl
      have := hS.2.symm.trans wt
      cases this
    rw [List.getElem?_set_ne hne]; exact wt
  rw [eW, Int.toNat_natCast] at hP
  generalize hWn : (ws.map fun p => p.2.toNat).sum = W at *
  obtain ⟨refs, p1, p2, p3⟩ := id hP
  rw [shs_len] at p2
  show TB c [some (.ref i), some (.int secret), some (.ref sc), some (.ref zr), some (.ref zs), none, none, none] _ _ _
  refine TB.cons (TS.assign ok hfm rfl (TE.dict0 (o := .dS H2.length []) ok ⟨.inr rfl⟩ ?_))
  have E3 := E2.app [MO.dS H2.length []]
  have hz : (H2 ++ [MO.dS H2.length []])[H2.length]? = some (.dS H2.length []) := get_end
  have hz0 : B.length ≤ H2.length := E2.len
  have hzs : zs < H2.length := (List.getElem?_eq_some_iff.mp p1).1
  have hP3 := hP.ext ((Ext.refl H2).app [.dS H2.length []])
  have p13 := get_app (t := [.dS H2.length []]) p1
  generalize H2 ++ [MO.dS H2.length []] = H3 at *
  generalize H2.length = z at *
  walk_at "w"
  refine TS.forDS ok hfm ?_
  have iV3 := E3.ins iB
  walk_at "w"
  refine ⟨d, wd ws, rfl, E3 _ _ wB, fun j m1 H4 => ∃ o7 es, m1 = [some (.ref i), some (.int secret), some (.ref sc), some (.ref zr), some (.ref zs), some (.ref z), some (.int (off ws j : Nat)), o7] ∧ Ext B H4 ∧ H4[zs]? = some (.list refs) ∧ PtsAt H4 zs (shs p (secret :: drws p (mark - 1).toNat s) W) ∧ DltAt H4 z ws refs j es,
    ⟨none, [], rfl, E3, p13, hP3, hz, rfl, fun k p hk => by lia⟩, ?_, ?_, ?_⟩
  · rintro j m1 H4 ⟨_, _, _, E, _⟩
    exact ⟨_, E _ _ wB, rfl⟩
  · rintro j m1 H4 e xt ⟨o7, es, rfl, E4, s4, hP4, dt⟩ he
    obtain ⟨q, hq, rfl⟩ := wd_at he
    have hm := List.mem_of_getElem? hq
    have hj := (List.getElem?_eq_some_iff.mp hq).1
    refine ⟨[.str q.1], rfl, ?_⟩
    have okx := ok.wx xt
    have hfx : (c.wx xt).fm = none := hfm
    have iV4 := E4.ins iB
    have wd4 : Sq (c.wx xt) H4 (.ref d) (.str q.1) (.int q.2) := Sq.dS (E4 _ _ wB) (wd_get O.nd hm)
    show TB (c.wx xt) [some (.ref i), some (.int secret), some (.ref sc), some (.ref zr), some (.ref zs), some (.ref z), some (.int (off ws j : Nat)), some (.str q.1)] _ _ _
    refine TB.gen3 fun PP hPP => ?_
    refine TB.cons (TS.setItem (TE.sliceB ?_))
    walk_at "w"
    refine ⟨_, rfl, ?_⟩
    walk_at "w"
    refine ⟨_, wd4, ?_⟩
    walk_at "w"
    have wq := O.wt q hm
    have ol := off_le hq
    rw [hWn] at ol
    have ej : ((off ws j : Nat) : Int) + q.2 = ((off ws j + q.2.toNat : Nat) : Int) := by lia
    rw [ej]
    refine ⟨_, rfl, zs, refs, rfl, s4, by lia, by lia, by lia, by lia, ?_⟩
    have e5 : ((off ws j + q.2.toNat : Nat) : Int).toNat - ((off ws j : Nat) : Int).toNat = q.2.toNat := by lia
    rw [e5, Int.toNat_natCast]
    have E5 : Ext H4 (H4 ++ [MO.list ((refs.drop (off ws j)).take q.2.toNat)]) := (Ext.refl H4).app _
    have hz4 := (List.getElem?_eq_some_iff.mp dt.d).1
    walk_at "w"
    refine ⟨_, Uq.dS (E5 _ _ dt.d) (by rw [dt.len]; lia), ?_⟩
    have hnew : ∀ e ∈ es, e.1 ≠ q.1 := by
      intro e he2 hne
      obtain ⟨k, hk, rfl⟩ := List.getElem_of_mem he2
      have hkj : k < j := by rw [← dt.len]; exact hk
      obtain ⟨q', hq'⟩ : ∃ q', ws[k]? = some q' := ⟨ws[k]'(by lia), List.getElem?_eq_getElem _⟩
      obtain ⟨t', x1, x2⟩ := dt.nm k q' hkj hq'
      rw [List.getElem?_eq_getElem hk] at x1
      have x1 := Option.some.inj x1
      rw [x1] at hne
      have := nodup_at O.nd hq' hq hne
      lia
    rw [putD_new hnew]
    have hd5 : (H4 ++ [MO.list ((refs.drop (off ws j)).take q.2.toNat)])[d]? = some (.dS d (wd ws)) := E5 _ _ (E4 _ _ wB)
    have hdz : d ≠ z := by
      have := (List.getElem?_eq_some_iff.mp wB).1
      lia
    have E6 : Ext B ((H4 ++ [MO.list ((refs.drop (off ws j)).take q.2.toNat)]).set z (MO.dS z (es ++ [(q.1, MV.ref H4.length)]))) := (E4.trans E5).set hz0
    have iV6 := E6.ins iB
    have wd6 : Sq (c.wx xt) ((H4 ++ [MO.list ((refs.drop (off ws j)).take q.2.toNat)]).set z (MO.dS z (es ++ [(q.1, MV.ref H4.length)]))) (.ref d) (.str q.1) (.int q.2) := Sq.dS (E6 _ _ wB) (wd_get O.nd hm)
    have k6 : ∀ (x : Nat) o, x ≠ z → H4[x]? = some o → ((H4 ++ [MO.list ((refs.drop (off ws j)).take q.2.toNat)]).set z (MO.dS z (es ++ [(q.1, MV.ref H4.length)])))[x]? = some o := fun x o hx ho => by rw [List.getElem?_set_ne (Ne.symm hx)]; exact E5 _ _ ho
    have h6 : ((H4 ++ [MO.list ((refs.drop (off ws j)).take q.2.toNat)]).set z (MO.dS z (es ++ [(q.1, MV.ref H4.length)])))[z]? = some (.dS z (es ++ [(q.1, .ref H4.length)])) := List.getElem?_set_self (by rw [List.length_append]; lia)
    have n6 : ((H4 ++ [MO.list ((refs.drop (off ws j)).take q.2.toNat)]).set z (MO.dS z (es ++ [(q.1, MV.ref H4.length)])))[H4.length]? = some (.list ((refs.drop (off ws j)).take q.2.toNat)) := by rw [List.getElem?_set_ne (by lia)]; exact get_end
    generalize (H4 ++ [MO.list ((refs.drop (off ws j)).take q.2.toNat)]).set z (MO.dS z (es ++ [(q.1, MV.ref H4.length)])) = H6 at *
    refine TB.cons (TS.assign okx hfx rfl ?_)
    walk_at "w"
    refine ⟨_, wd6, ?_⟩
    walk_at "w"
    rw [ej, ← off_succ hq]
    obtain ⟨refs', a1, a2, a3⟩ := hP4
    have nez : ∀ {x : Nat} {xs : List MV}, H4[x]? = some (.list xs) → x ≠ z := fun h e => by rw [e, dt.d] at h; cases h
    have nezt : ∀ {x : Nat} {xs : List MV}, H4[x]? = some (.tup xs) → x ≠ z := fun h e => by rw [e, dt.d] at h; cases h
    refine hPP _ _ _ ⟨_, es ++ [(q.1, .ref H4.length)], rfl, E6, k6 _ _ (nez s4) s4, ⟨refs', k6 _ _ (nez a1) a1, a2, fun k hk => let ⟨t, b1, b2⟩ := a3 k hk; ⟨t, b1, k6 _ _ (nezt b2) b2⟩⟩, h6, by rw [List.length_append, dt.len]; rfl, fun k q' hk hq' => ?_⟩
    by_cases ek : k = j
    · subst ek
      rw [hq] at hq'
      cases hq'
      exact ⟨H4.length, by rw [List.getElem?_append_right (by rw [dt.len]; lia), dt.len]; simp, n6⟩
    · obtain ⟨t, b1, b2⟩ := dt.nm k q' (by lia) hq'
      exact ⟨t, by rw [List.getElem?_append_left (by rw [dt.len]; lia)]; exact b1, k6 _ _ (nez b2) b2⟩
  · rintro m1 H4 ⟨o7, es, rfl, E4, s4, hP4, dt⟩
    rw [show (wd ws).length = ws.length by simp [wd]] at dt
    walk_at "w"
    exact ⟨z, zs, refs, es, rfl, E4, s4, hP4, dt⟩
end
noncomputable def sdiv (x : Int) : List Int → List Int
  | [] => []
  | [_] => []
  | _ :: b :: r => pz (b :: r) x :: sdiv x (b :: r)
theorem sdiv_len (x : Int) : ∀ (a : Int) (l : List Int), (sdiv x (a :: l)).length = l.length
  | _, [] => rfl
  | _, b :: r => by rw [sdiv, List.length_cons, sdiv_len x b r, List.length_cons]
theorem sdiv_pz (x t : Int) : ∀ (a : Int) (l : List Int), pz (a :: l) t = (t - x) * pz (sdiv x (a :: l)) t + pz (a :: l) x
  | a, [] => by simp [sdiv, pz]
  | a, b :: r => by
    rw [sdiv, pz_cons a, pz_cons a, pz_cons (pz (b :: r) x), sdiv_pz x t b r]
    generalize pz (sdiv x (b :: r)) t = S
    generalize pz (b :: r) x = P
    grind
theorem sdiv_back {p x : Int} : ∀ (a : Int) (l : List Int), (∀ c ∈ sdiv x (a :: l), Cg p c 0) → Cg p (pz (a :: l) x) 0 → ∀ c ∈ a :: l, Cg p c 0
  | a, [], _, h, c, hc => by
    rw [List.mem_singleton] at hc
    subst hc
    simpa [pz] using h
  | a, b :: r, hs, h, c, hc => by
    rw [sdiv] at hs
    have h1 : Cg p (pz (b :: r) x) 0 := hs _ (List.mem_cons_self ..)
    rcases List.mem_cons.mp hc with rfl | hc
    · rw [pz_cons] at h
      have := h.sub (h1.mul (Cg.rfl (a := x)))
      rw [Int.zero_mul, Int.sub_zero] at this
      exact (Cg.of (by lia)).trans this
    · exact sdiv_back b r (fun c hc => hs c (List.mem_cons_of_mem _ hc)) h1 c hc
theorem Fer.cancel {p a b : Int} (F : Fer p) (ha : a % p ≠ 0) (h : Cg p (a * b) 0) : Cg p b 0 := by
  refine Cg.zero.mpr (Decidable.byContradiction fun q => ?_)
  exact F.mul ha q (Cg.zero.mp h)
theorem roots {p : Int} (F : Fer p) : ∀ (xs l : List Int), l.length ≤ xs.length → xs.Pairwise (fun x y => (y - x) % p ≠ 0) → (∀ x ∈ xs, Cg p (pz l x) 0) → ∀ c ∈ l, Cg p c 0
  | _, [], _, _, _, c, hc => by cases hc
  | [], a :: l, h, _, _, _, _ => by simp at h
  | x :: xs, a :: l, h, hd, hz, c, hc => by
    have h0 := hz x (List.mem_cons_self ..)
    refine sdiv_back a l (roots F xs (sdiv x (a :: l)) (by rw [sdiv_len]; simpa using h) (List.pairwise_cons.mp hd).2 fun y hy => ?_) h0 c hc
    have h1 := hz y (List.mem_cons_of_mem _ hy)
    rw [sdiv_pz x y] at h1
    have h2 := h1.sub h0
    rw [Int.add_sub_cancel, Int.sub_zero] at h2
    exact F.cancel ((List.pairwise_cons.mp hd).1 y hy) h2
theorem pz_diff (x : Int) : ∀ (a b : List Int), a.length = b.length → pz (List.zipWith (· - ·) a b) x = pz a x - pz b x
  | [], [], _ => rfl
  | a :: l, b :: r, h => by
    rw [List.zipWith_cons_cons, pz_cons, pz_cons, pz_cons, pz_diff x l r (by simpa using h)]
    grind
  | [], _ :: _, h => by simp at h
  | _ :: _, [], h => by simp at h
theorem diff_eq {p : Int} : ∀ (a b : List Int), a.length = b.length → Bd p a → Bd p b → (∀ c ∈ List.zipWith (· - ·) a b, Cg p c 0) → a = b
  | [], [], _, _, _, _ => rfl
  | a :: l, b :: r, h, ha, hb, hz => by
    have h1 : Cg p (a - b) 0 := hz _ (by simp)
    have h2 := h1.add (Cg.rfl (a := b))
    rw [Int.sub_add_cancel, Int.zero_add] at h2
    have h3 := h2.small (ha a (by simp)) (hb b (by simp))
    rw [h3, diff_eq l r (by simpa using h) (fun x hx => ha x (by simp [hx])) (fun x hx => hb x (by simp [hx])) fun c hc => hz c (by simp [hc])]
  | [], _ :: _, h, _, _, _ => by simp at h
  | _ :: _, [], h, _, _, _ => by simp at h
theorem row_unique {p : Int} (F : Fer p) {xs a b : List Int} (hl : a.length = b.length) (hx : a.length ≤ xs.length) (hd : xs.Pairwise (fun x y => (y - x) % p ≠ 0)) (ha : Bd p a) (hb : Bd p b) (h : ∀ x ∈ xs, pval p a x = pval p b x) : a = b := by
  refine diff_eq a b hl ha hb (roots F xs _ (by simp; lia) hd fun x hx => ?_)
  rw [pz_diff x a b hl]
  have h1 := (pval_pz p a x).symm.sub (pval_pz p b x).symm
  rw [h x hx, Int.sub_self] at h1
  exact h1
noncomputable def padTo (n : Nat) (l : List Int) : List Int := l ++ List.replicate (n - l.length) 0
theorem padTo_len {n : Nat} {l : List Int} (h : l.length ≤ n) : (padTo n l).length = n := by simp [padTo]; lia
theorem pz_rep_app (x : Int) (m : Nat) : ∀ l : List Int, pz (l ++ List.replicate m 0) x = pz l x
  | [] => by rw [List.nil_append, pz_rep]; rfl
  | a :: l => by rw [List.cons_append, pz_cons, pz_cons, pz_rep_app x m l]
theorem padTo_val {p : Int} (hp : 0 < p) {n : Nat} {l : List Int} (x : Int) : pval p (padTo n l) x = pval p l x := by
  refine Cg.small ?_ (pval_bd hp _ _) (pval_bd hp _ _)
  refine (pval_pz p _ x).trans ?_
  unfold padTo
  rw [pz_rep_app]
  exact (pval_pz p _ x).symm
theorem padTo_bd {p : Int} (hp : 0 < p) {n : Nat} {l : List Int} (h : Bd p l) : Bd p (padTo n l) := fun x hx => by
  rcases List.mem_append.mp hx with q | q
  · exact h x q
  · rw [List.eq_of_mem_replicate q]; lia
theorem tsum_bd {p : Int} (hp : 0 < p) (pts : List (Int × Int)) : ∀ n : Nat, Bd p (tsum p pts n)
  | 0 => fun x hx => by simp [tsum] at hx
  | n + 1 => by unfold tsum; rw [range_fold]; exact padd_bd hp
theorem thr_bd {p : Int} (hp : 0 < p) (pts : List (Int × Int)) : Bd p (thr p pts) := (tsum_bd hp pts _).trim
theorem thr_row {p : Int} (F : Fer p) {pts : List (Int × Int)} {row : List Int} (hl : row.length = pts.length) (hb : Bd p row) (hd : ∀ i j, i < pts.length → j < pts.length → i ≠ j → (px pts i - px pts j) % p ≠ 0)
    (h : ∀ k, k < pts.length → py pts k = pval p row (px pts k)) : padTo pts.length (thr p pts) = row := by
  have hp : 0 < p := by have := F.two; lia
  refine row_unique F (xs := (List.range pts.length).map (px pts)) (by rw [padTo_len (thr_length p pts), hl]) (by rw [padTo_len (thr_length p pts)]; simp) ?_ (padTo_bd hp (thr_bd hp pts)) hb ?_
  · rw [List.pairwise_map]
    refine List.Pairwise.imp_of_mem (R := (· < ·)) (fun {a b} ha hb hlt => hd b a (List.mem_range.mp hb) (List.mem_range.mp ha) (Nat.ne_of_gt hlt)) List.pairwise_lt_range
  · intro x hx
    obtain ⟨k, hk, rfl⟩ := List.mem_map.mp hx
    have hk := List.mem_range.mp hk
    rw [padTo_val hp, thr_val F hd hk, h k hk]
    exact Int.emod_eq_of_lt (pval_bd hp _ _).1 (pval_bd hp _ _).2
theorem thr_row_val {p : Int} (F : Fer p) {pts : List (Int × Int)} {row : List Int} (hl : row.length = pts.length) (hb : Bd p row) (hd : ∀ i j, i < pts.length → j < pts.length → i ≠ j → (px pts i - px pts j) % p ≠ 0)
    (h : ∀ k, k < pts.length → py pts k = pval p row (px pts k)) (x : Int) : pval p (thr p pts) x = pval p row x := by
  have hp : 0 < p := by have := F.two; lia
  rw [← padTo_val hp (n := pts.length), thr_row F hl hb hd h]
noncomputable def sel {α : Type} (l : List α) (ps : List Str) : List (Str × Int) → Nat → List α
  | [], _ => []
  | p :: r, o => (if ps.any (· == p.1) then (l.drop o).take p.2.toNat else []) ++ sel l ps r (o + p.2.toNat)
theorem sel_map {α β : Type} {f : α → β} {l : List α} {ps : List Str} : ∀ {ws : List (Str × Int)} {o : Nat}, sel (l.map f) ps ws o = (sel l ps ws o).map f
  | [], _ => rfl
  | p :: r, o => by
    unfold sel
    rw [sel_map (ws := r), List.map_append]
    split
    · rw [List.map_take, List.map_drop]
    · rfl
theorem sel_app {α : Type} {l : List α} {ps : List Str} {p : Str × Int} : ∀ {ws : List (Str × Int)} {o : Nat}, sel l ps (ws ++ [p]) o = sel l ps ws o ++ (if ps.any (· == p.1) then (l.drop (o + (ws.map fun p => p.2.toNat).sum)).take p.2.toNat else [])
  | [], o => by simp [sel]
  | q :: r, o => by
    rw [List.cons_append]
    unfold sel
    rw [sel_app (ws := r), List.append_assoc, List.map_cons, List.sum_cons, Nat.add_assoc]
theorem sel_sub {α : Type} {l : List α} {ps : List Str} : ∀ {ws : List (Str × Int)} {o : Nat}, (sel l ps ws o).Sublist (l.drop o)
  | [], o => List.nil_sublist _
  | p :: r, o => by
    have h := List.take_append_drop p.2.toNat (l.drop o)
    rw [List.drop_drop] at h
    have key : ((if ps.any (· == p.1) then (l.drop o).take p.2.toNat else []) ++ sel l ps r (o + p.2.toNat)).Sublist ((l.drop o).take p.2.toNat ++ l.drop (o + p.2.toNat)) := by
      refine List.Sublist.append ?_ (sel_sub (ws := r))
      split
      · exact List.Sublist.refl _
      · exact List.nil_sublist _
    rw [h] at key
    exact key
theorem sel_len {α : Type} {l : List α} {ps : List Str} : ∀ {ws : List (Str × Int)} {o : Nat}, (∀ q ∈ ws, 1 ≤ q.2) → o + (ws.map fun p => p.2.toNat).sum ≤ l.length → ((sel l ps ws o).length : Int) = wsum ws ps
  | [], _, _, _ => rfl
  | p :: r, o, h, hl => by
    have h1 := h p (.head _)
    rw [List.map_cons, List.sum_cons] at hl
    have ih := sel_len (l := l) (ps := ps) (ws := r) (o := o + p.2.toNat) (fun q hq => h q (.tail _ hq)) (by lia)
    have e : sel l ps (p :: r) o = (if ps.any (· == p.1) then (l.drop o).take p.2.toNat else []) ++ sel l ps r (o + p.2.toNat) := rfl
    rw [e, List.length_append, Int.natCast_add, ih]
    unfold wsum
    cases hp : ps.any (· == p.1) with
    | true =>
      rw [if_pos rfl, List.filter_cons_of_pos (p := fun q : Str × Int => ps.any (· == q.1)) hp, List.map_cons, List.sum_cons, List.length_take, List.length_drop, Nat.min_eq_left (by lia)]
      lia
    | false =>
      rw [if_neg Bool.false_ne_true, List.filter_cons_of_neg (p := fun q : Str × Int => ps.any (· == q.1)) (by rw [hp]; exact Bool.false_ne_true)]
      simp
theorem gs_nodup {p : Int} {pts : List (Int × Int)} (hb : ∀ q ∈ pts, (1 ≤ q.1 ∧ q.1 < p) ∧ 0 ≤ q.2 ∧ q.2 < p) (hn : (pts.map (·.1)).Nodup) : Gs p pts := by
  have at' : ∀ k, k < pts.length → pts.getD k (0, 0) = pts.getD k (0, 0) ∧ pts.getD k (0, 0) ∈ pts := fun k hk => by
    rw [List.getD_eq_getElem?_getD, List.getElem?_eq_getElem hk]
    exact ⟨rfl, List.getElem_mem hk⟩
  refine ⟨fun k hk => (hb _ (at' k hk).2).1, fun k hk => (hb _ (at' k hk).2).2, fun j k hj hk e => ?_⟩
  unfold px at e
  rw [List.getD_eq_getElem?_getD, List.getD_eq_getElem?_getD, List.getElem?_eq_getElem hj, List.getElem?_eq_getElem hk] at e
  have e : pts[j].1 = pts[k].1 := e
  have h1 : j < (pts.map (·.1)).length := by rw [List.length_map]; exact hj
  refine (List.getElem?_inj h1 hn).mp ?_
  rw [List.getElem?_map, List.getElem?_map, List.getElem?_eq_getElem hj, List.getElem?_eq_getElem hk]
  simp [e]
theorem shs_mem {p : Int} {row : List Int} {n : Nat} (hp : 0 < p) (hn : (n : Int) < p) : (∀ q ∈ shs p row n, (1 ≤ q.1 ∧ q.1 < p) ∧ 0 ≤ q.2 ∧ q.2 < p) ∧ ((shs p row n).map (·.1)).Nodup ∧ ∀ q ∈ shs p row n, q.2 = pval p row q.1 := by
  refine ⟨fun q hq => ?_, ?_, fun q hq => ?_⟩
  · obtain ⟨k, hk, rfl⟩ := List.mem_map.mp hq
    have hk := List.mem_range.mp hk
    exact ⟨⟨by dsimp only; lia, by dsimp only; lia⟩, pval_bd hp _ _⟩
  · unfold shs
    rw [List.map_map]
    unfold List.Nodup
    rw [List.pairwise_map]
    refine List.Pairwise.imp ?_ (List.nodup_range (n := n))
    intro a b h e
    have e : (a : Int) + 1 = (b : Int) + 1 := e
    lia
  · obtain ⟨k, hk, rfl⟩ := List.mem_map.mp hq
    rfl
structure VoR (G : Gx) (C CV CS CE : Addr) : Prop extends VoD G C CV CS CE where
  P : PolK G C CE
  rp : ∃ f, GFn G "rebuild_polynomial" f ∧ GDef G f ["field", "shares", "needed"] k_rebuild_nm k_rebuild []
  va : ∃ f, GFn G "value_at" f ∧ GDef G f ["field", "shares", "needed", "x"] k_value_at_nm k_value_at []
section
variable {G : Gx} {C CV CS CE : Addr} {prog : Program} {w : World} {xp : Addr → List MV → MH → Prop}
theorem vrebuild_x {f i kk iF d z r : Nat} {mark : Int} {ws : List (Str × Int)} {ps : List Str} {H : MH} (D : GDef G f ["self", "dealt", "present"] k_Voters_rebuild_nm k_Voters_rebuild []) (K : VoR G C CV CS CE)
    (V : Vot H CV i kk iF d ws mark) (hn : (ws.map (·.1)).Nodup) (hl : ws.length ≤ 100) (hr : H[r]? = some (.list (strL ps))) (h : wsum ws ps < mark) :
    CL G prog w 8 f [.ref i, .ref z, .ref r] H (fun _ _ => False) (fun C' _ H' => C' = CE ∧ Ext H H') := by
  have bs := K.bs
  have iV := V.ins
  obtain ⟨fA, gA, dA⟩ := K.al
  refine D.cl rfl ?_
  intro c e1 e2 ok hfm hint hnm hX
  subst e1 e2
  show TB c [some (.ref i), some (.ref z), some (.ref r), none, none] _ _ _
  unfold k_Voters_rebuild
  walk_at "w"
  refine (allows_cl dA K.toVoK V hn hl hr).use (by decide) ?_
  rintro _ H1 ⟨rfl, E1⟩
  refine ⟨_, rfl, ?_⟩
  rw [decide_eq_false (by lia)]
  refine ⟨fun _ => ?_, fun h => (by cases h)⟩
  refine TB.cons (TS.raise ok K.P.ex ?_)
  walk_at "w"
  rw [hX]
  exact ⟨by simp, rfl, E1⟩
theorem dlt_get {z j : Nat} {ws : List (Str × Int)} {refs : List MV} {es : List (Str × MV)} {u : Str × Int} {H : MH} (hn : (ws.map (·.1)).Nodup) (dt : DltAt H z ws refs ws.length es) (hj : j < ws.length) (hu : ws[j]? = some u) :
    ∃ t, es[j]? = some (u.1, .ref t) ∧ getD' es u.1 = some (.ref t) ∧ H[t]? = some (.list ((refs.drop (off ws j)).take u.2.toNat)) := by
  obtain ⟨t, x1, x2⟩ := dt.nm j u hj hu
  refine ⟨t, x1, ?_, x2⟩
  have hfind : es.find? (fun kv => decide (kv.1 = u.1)) = some (u.1, .ref t) := by
    rw [List.find?_eq_some_iff_getElem]
    refine ⟨by simp, j, (List.getElem?_eq_some_iff.mp x1).1, (List.getElem?_eq_some_iff.mp x1).2, fun k hk => ?_⟩
    obtain ⟨u', hu'⟩ : ∃ u', ws[k]? = some u' := ⟨ws[k]'(by lia), List.getElem?_eq_getElem _⟩
    obtain ⟨t', y1, y2⟩ := dt.nm k u' (by lia) hu'
    have : es[k]'(by rw [dt.len]; lia) = (u'.1, .ref t') := (List.getElem?_eq_some_iff.mp y1).2
    rw [this]
    simp only [Bool.not_eq_eq_eq_not, Bool.not_true, decide_eq_false_iff_not]
    intro e
    have := nodup_at hn hu' hu e
    lia
  unfold getD'
  rw [hfind]
  rfl
theorem vrebuild_cl {f i kk iF kf d z zs r : Nat} {p mark : Int} {ws : List (Str × Int)} {ps : List Str} {refs : List MV} {es : List (Str × MV)} {row : List Int} {H : MH} (D : GDef G f ["self", "dealt", "present"] k_Voters_rebuild_nm k_Voters_rebuild []) (K : VoR G C CV CS CE)
    (V : Vot H CV i kk iF d ws mark) (O : VOk p mark ws) (F : Fer p) (hp2 : p ≤ 1048576) (hF : Ins H iF C kf [("prime", .int p)]) (hr : H[r]? = some (.list (strL ps))) (hz : H[zs]? = some (.list refs)) (hP : PtsAt H zs (shs p row (ws.map fun p => p.2.toNat).sum)) (dt : DltAt H z ws refs ws.length es)
    (hb : Bd p row) (hrow : row.length = mark.toNat) (hW : (ws.map (·.2)).sum ≤ 200) (h : mark ≤ wsum ws ps) :
    CL G prog w 8 f [.ref i, .ref z, .ref r] H (fun v H' => v = .int (pval p row 0) ∧ Ext H H') xp := by
  have bs := K.bs
  have af := K.af
  have aw := K.aw
  have am := K.am
  have iV := V.ins
  have hl := O.len
  have m1 := O.m1
  have m2 := O.m2
  have lt := O.lt
  have hw1 : ∀ q ∈ ws, 1 ≤ q.2 := fun q hq => (O.wt q hq).1
  have eW := sum_nat hw1
  obtain ⟨fA, gA, dA⟩ := K.al
  obtain ⟨fR, gR, dR⟩ := K.rp
  obtain ⟨fVA, gVA, dVA⟩ := K.va
  generalize hWn : (ws.map fun p => p.2.toNat).sum = W at *
  refine D.cl rfl ?_
  intro c e1 e2 ok hfm hint hnm hX
  subst e1 e2
  show TB c [some (.ref i), some (.ref z), some (.ref r), none, none] _ _ _
  unfold k_Voters_rebuild
  walk_at "w"
  refine (allows_cl dA K.toVoK V O.nd hl hr).use (by decide) ?_
  rintro _ H1 ⟨rfl, E1⟩
  refine ⟨_, rfl, ?_⟩
  rw [decide_eq_true h]
  refine ⟨fun h => (by cases h), fun _ => ?_⟩
  refine TB.nil ?_
  walk_at "w"
  refine ⟨by decide, ?_⟩
  have E2 := E1.app [MO.list []]
  have g2 : (H1 ++ [MO.list []])[H1.length]? = some (.list []) := get_end
  have l2 := E1.len
  generalize H1 ++ [MO.list []] = H2 at *
  generalize H1.length = q at *
  refine TB.cons (TS.forDS ok hfm ?_)
  have iV2 := E2.ins iV
  walk_at "w"
  refine ⟨d, wd ws, rfl, E2 _ _ V.wt, fun j m1 H4 => ∃ o4, m1 = [some (.ref i), some (.ref z), some (.ref r), some (.ref q), o4] ∧ Ext H H4 ∧ H4[q]? = some (.list (sel refs ps (ws.take j) 0)),
    ⟨none, rfl, E2, g2⟩, ?_, ?_, ?_⟩
  · rintro j m1 H4 ⟨_, _, E, _⟩
    exact ⟨_, E _ _ V.wt, rfl⟩
  · rintro j m1 H4 e xt ⟨o4, rfl, E4, s4⟩ he
    obtain ⟨u, hu, rfl⟩ := wd_at he
    have hm := List.mem_of_getElem? hu
    have hj := (List.getElem?_eq_some_iff.mp hu).1
    refine ⟨[.str u.1], rfl, ?_⟩
    have okx := ok.wx xt
    have hfx : (c.wx xt).fm = none := hfm
    have hix : interactive (c.wx xt).env = false := hint
    have st : sel refs ps (ws.take (j + 1)) 0 = sel refs ps (ws.take j) 0 ++ (if ps.any (· == u.1) then (refs.drop (off ws j)).take u.2.toNat else []) := by
      rw [List.take_add_one, hu]
      show sel refs ps (ws.take j ++ [u]) 0 = _
      rw [sel_app, Nat.zero_add]
      rfl
    obtain ⟨t, x1, hes, x2⟩ := dlt_get O.nd dt hj hu
    have sd : (sel refs ps (ws.take j) 0).length ≤ refs.length := by
      have := (sel_sub (l := refs) (ps := ps) (ws := ws.take j) (o := 0)).length_le
      rwa [List.drop_zero] at this
    have hrl : refs.length = W := by
      obtain ⟨refs', a1, a2, _⟩ := hP
      rw [hz] at a1
      cases a1
      rw [a2, shs_len]
    show TB (c.wx xt) [some (.ref i), some (.ref z), some (.ref r), some (.ref q), some (.str u.1)] _ _ _
    refine TB.gen3 fun PP hPP => ?_
    walk_at "w"
    refine ⟨_, Cq.inLS (E4 _ _ hr), fun hb => ?_, fun hb => ?_⟩
    · walk_at "w"
      refine ⟨_, Cq.ninDS (E4 _ _ dt.d), fun h => (by rw [hes] at h; cases h), fun _ => ?_⟩
      refine TB.nil ?_
      refine TB.cons (TS.expr hix (TE.extend ?_))
      walk_at "w"
      refine ⟨q, _, rfl, s4, ?_⟩
      walk_at "w"
      refine ⟨_, Sq.dS (E4 _ _ dt.d) hes, ?_⟩
      refine ⟨t, _, _, rfl, s4, E4 _ _ x2, ?_, ?_⟩
      · have : ((refs.drop (off ws j)).take u.2.toNat).length ≤ refs.length := by rw [List.length_take, List.length_drop]; lia
        lia
      refine TB.nil (TB.nil (hPP _ _ _ ⟨_, rfl, E4.set l2, ?_⟩))
      rw [List.getElem?_set_self (List.getElem?_eq_some_iff.mp s4).1, st, hb]
      rfl
    · refine TB.nil (TB.nil (hPP _ _ _ ⟨_, rfl, E4, ?_⟩))
      rw [st, hb, s4]
      simp
  · rintro m1 H4 ⟨o4, rfl, E4, s4⟩
    rw [show (wd ws).length = ws.length by simp [wd], List.take_length] at s4
    have iV4 := E4.ins iV
    have hP4 : PtsAt H4 q (sel (shs p row W) ps ws 0) := by
      obtain ⟨refs', a1, a2, a3⟩ := hP
      rw [hz] at a1
      cases a1
      have z1 : (refs.zip (shs p row W)).map (·.1) = refs := List.map_fst_zip (by lia)
      have z2 : (refs.zip (shs p row W)).map (·.2) = shs p row W := List.map_snd_zip (by lia)
      have s1 : sel refs ps ws 0 = (sel (refs.zip (shs p row W)) ps ws 0).map (·.1) := by rw [← sel_map, z1]
      have s2 : sel (shs p row W) ps ws 0 = (sel (refs.zip (shs p row W)) ps ws 0).map (·.2) := by rw [← sel_map, z2]
      refine ⟨_, s4, by rw [s1, s2, List.length_map, List.length_map], fun k hk => ?_⟩
      rw [s2, List.length_map] at hk
      obtain ⟨pr, hpr⟩ : ∃ pr, (sel (refs.zip (shs p row W)) ps ws 0)[k]? = some pr := ⟨_, List.getElem?_eq_getElem hk⟩
      have hmem := (sel_sub (l := refs.zip (shs p row W)) (ps := ps) (ws := ws) (o := 0)).subset (List.mem_of_getElem? hpr)
      rw [List.drop_zero] at hmem
      obtain ⟨n, hn, hn2⟩ := List.getElem_of_mem hmem
      have hn3 : n < (shs p row W).length := by rw [List.length_zip] at hn; lia
      obtain ⟨t, t1, t2⟩ := a3 n hn3
      rw [List.getElem_zip] at hn2
      rw [List.getElem?_eq_getElem (by lia)] at t1
      have t1 := Option.some.inj t1
      unfold px py at t2
      rw [List.getD_eq_getElem?_getD, List.getElem?_eq_getElem hn3] at t2
      refine ⟨t, ?_, ?_⟩
      · rw [s1, List.getElem?_map, hpr, ← hn2]
        show some refs[n] = _
        rw [t1]
      · unfold px py
        rw [s2, List.getD_eq_getElem?_getD, List.getElem?_map, hpr, ← hn2]
        exact E4 _ _ t2
    obtain ⟨b1, b2, b3⟩ := shs_mem (row := row) (p := p) (n := W) (by lia) (by lia)
    have sub := sel_sub (l := shs p row W) (ps := ps) (ws := ws) (o := 0)
    rw [List.drop_zero] at sub
    have len := sel_len (l := shs p row W) (ps := ps) (ws := ws) (o := 0) hw1 (by rw [shs_len]; lia)
    have g := gs_nodup (fun q hq => b1 q (sub.subset hq)) ((sub.map (·.1)).nodup b2)
    have hv : ∀ k, k < (sel (shs p row W) ps ws 0).length → py (sel (shs p row W) ps ws 0) k = pval p row (px (sel (shs p row W) ps ws 0) k) := fun k hk => by
      unfold px py
      rw [List.getD_eq_getElem?_getD, List.getElem?_eq_getElem hk]
      exact b3 _ (sub.subset (List.getElem_mem hk))
    generalize sel (shs p row W) ps ws 0 = pts at *
    have hl2 := sub.length_le
    rw [shs_len] at hl2
    have lt2 : (pts.take mark.toNat).length = mark.toNat := by rw [List.length_take]; lia
    have tv : ∀ x, pval p (thr p (pts.take mark.toNat)) x = pval p row x := fun x => by
      refine thr_row_val F (by rw [lt2, hrow]) hb (df_of (g.take _)) (fun k hk => ?_) x
      rw [lt2] at hk
      unfold px py
      rw [pt_take hk]
      exact hv k (by lia)
    walk_at "w"
    refine (rebuild_cl dR gVA dVA K.P F (by lia) (E4.ins hF) hP4 (by lia) g m1 (by lia) (by lia) (fun k _ hk => by rw [tv, hv k hk])).use (by decide) ?_
    rintro _ H5 ⟨rfl, E5⟩
    rw [tv]
    exact ⟨rfl, E4.trans E5⟩
end
noncomputable def bit (n k : Nat) : Bool := n / 2 ^ k % 2 == 1
theorem fdiv_nat (n k : Nat) : (n : Int).fdiv (2 ^ k) = ((n / 2 ^ k : Nat) : Int) := by
  have e : ((2 : Int) ^ k) = ((2 ^ k : Nat) : Int) := by simp
  rw [e, Int.fdiv_eq_ediv_of_nonneg _ (Int.natCast_nonneg _)]
  rfl
theorem bit_shr (n k : Nat) : (!decide (Builtin.bitAnd ((n : Int).fdiv (2 ^ ((k : Nat) : Int).toNat)) 1 = 0)) = bit n k := by
  rw [bitAnd_m1, Int.toNat_natCast, fdiv_nat]
  unfold bit
  have : n / 2 ^ k % 2 = 0 ∨ n / 2 ^ k % 2 = 1 := by lia
  generalize n / 2 ^ k = x at *
  rcases this with h | h
  · have : ((x : Nat) : Int) % 2 = 0 := by lia
    rw [this, h]; rfl
  · have : ((x : Nat) : Int) % 2 = 1 := by lia
    rw [this, h]; rfl
noncomputable def oth (ns : List Str) (x : Str) : List Str := ns.filter fun y => !decide (y = x)
noncomputable def som (l : List Str) (n : Nat) : List Str := ((List.range l.length).filter (bit n)).map fun k => l.getD k ""
noncomputable def dcond (ws : List (Str × Int)) (mark : Int) (x : Str) (l : List Str) (n : Nat) : Bool := !decide (mark ≤ wsum ws (som l n)) && decide (mark ≤ wsum ws (som l n ++ [x]))
noncomputable def dcnt (ws : List (Str × Int)) (mark : Int) (x : Str) : Nat := (List.range (2 ^ (oth (ws.map (·.1)) x).length)).countP (dcond ws mark x (oth (ws.map (·.1)) x))
theorem fil_step {α : Type} {l : List α} {g : α → Bool} {j : Nat} {p : α} (h : l[j]? = some p) : (l.take (j + 1)).filter g = (l.take j).filter g ++ (if g p then [p] else []) := by
  rw [List.take_add_one, h, List.filter_append]
  cases hq : g p <;> simp [hq]
theorem rng_fil {g : Nat → Bool} {k : Nat} : (List.range (k + 1)).filter g = (List.range k).filter g ++ (if g k then [k] else []) := by
  rw [List.range_succ, List.filter_append]
  cases hq : g k <;> simp [hq]
section
variable {G : Gx} {CV : Addr} {prog : Program} {w : World} {xp : Addr → List MV → MH → Prop}
theorem decisive_cl {f i kk iF d : Nat} {mark : Int} {ws : List (Str × Int)} {H : MH} (D : GDef G f ["self"] k_Voters_decisive_nm k_Voters_decisive []) (K : VoK G CV)
    (V : Vot H CV i kk iF d ws mark) (hn : (ws.map (·.1)).Nodup) (hl : ws.length ≤ 12) :
    CL G prog w 5 f [.ref i] H (fun v H' => ∃ z, v = .ref z ∧ Ext H H' ∧ H'[z]? = some (.dS z (ws.map fun p => (p.1, .int ((dcnt ws mark p.1 : Nat) : Int))))) xp := by
  have bs := K.bs
  have iV := V.ins
  obtain ⟨fA, gA, dA⟩ := K.al
  obtain ⟨fN, gN, dN⟩ := K.nm
  refine D.cl rfl ?_
  intro c e1 e2 ok hfm hint hnm hX
  subst e1 e2
  show TB c [some (.ref i), none, none, none, none, none, none, none] _ _ _
  unfold k_Voters_decisive
  walk_at "w"
  refine (names_cl dN K V (by lia)).use (by decide) ?_
  rintro _ H1 ⟨rfl, rfl⟩
  have E1 : Ext H (H ++ [MO.list (strL (ws.map (·.1)))]) := (Ext.refl H).app _
  have g1 : (H ++ [MO.list (strL (ws.map (·.1)))])[H.length]? = some (.list (strL (ws.map (·.1)))) := get_end
  generalize H ++ [MO.list (strL (ws.map (·.1)))] = H1 at *
  generalize H.length = n1 at *
  have lN : (strL (ws.map (·.1))).length = ws.length := by simp [strL]
  walk_at "w"
  refine BC.len g1 (by lia) ?_
  rw [lN]
  walk_at "w"
  refine ⟨false, by show false = decide _; simp; lia, fun h => (by cases h), fun _ => ?_⟩
  refine TB.nil (TB.cons (TS.assign ok hfm rfl (TE.dict0 (o := .dS H1.length []) ok ⟨.inr rfl⟩ ?_)))
  have E2 := E1.app [MO.dS H1.length []]
  have g2 := get_app (t := [.dS H1.length []]) g1
  have z2 : (H1 ++ [MO.dS H1.length []])[H1.length]? = some (.dS H1.length []) := get_end
  have hz0 := E1.len
  have hnz : n1 < H1.length := (List.getElem?_eq_some_iff.mp g1).1
  generalize H1 ++ [MO.dS H1.length []] = H2 at *
  generalize H1.length = z at *
  refine TB.cons (TS.forL' ok hfm ?_)
  walk_at "w"
  refine ⟨n1, _, rfl, g2, fun j m1 H3 => ∃ o3 o4 o5 o6 o7, m1 = [some (.ref i), some (.ref n1), some (.ref z), o3, o4, o5, o6, o7] ∧ Ext H H3 ∧ H3[n1]? = some (.list (strL (ws.map (·.1)))) ∧ H3[z]? = some (.dS z ((ws.take j).map fun p => (p.1, .int ((dcnt ws mark p.1 : Nat) : Int)))),
    ⟨none, none, none, none, none, rfl, E2, g2, z2⟩, ?_, ?_, ?_⟩
  · rintro j m1 H3 ⟨_, _, _, _, _, _, _, g, _⟩
    exact g
  · rintro j m1 H3 v xt ⟨o3, o4, o5, o6, o7, rfl, E3, g3, z3⟩ hv
    have hj : j < ws.length := by
      have := (List.getElem?_eq_some_iff.mp hv).1
      lia
    obtain ⟨q, hq⟩ : ∃ q, ws[j]? = some q := ⟨ws[j], List.getElem?_eq_getElem hj⟩
    have hm := List.mem_of_getElem? hq
    have hv : v = .str q.1 := by
      rw [List.getElem?_map, List.getElem?_map, hq] at hv
      exact (Option.some.inj hv).symm
    subst hv
    refine ⟨[.str q.1], rfl, ?_⟩
    have okx := ok.wx xt
    have hfx : (c.wx xt).fm = none := hfm
    generalize hx : q.1 = x at *
    show TB (c.wx xt) [some (.ref i), some (.ref n1), some (.ref z), some (.str x), o4, o5, o6, o7] _ _ _
    refine TB.gen3 fun PP hPP => ?_
    refine TB.cons (TS.assignC okx hfx (Src.list okx ?_))
    walk_at "w"
    refine ⟨n1, _, _, rfl, g3, Turns.list (xs := strL (ws.map (·.1))) (by lia) (fun k ys H4 => H4 = H3 ∧ ys = strL (((ws.map (·.1)).take k).filter fun y => !decide (y = x))) ⟨rfl, rfl⟩ ?_ ?_ ?_⟩
    · rintro k ys H4 ⟨rfl, rfl⟩
      refine ⟨?_, g3⟩
      simp only [strL, List.length_map]
      exact Nat.le_trans (List.length_filter_le _ _) (by rw [List.length_take]; lia)
    · rintro k ys H4 v ⟨e4, rfl⟩ hv
      obtain rfl : H3 = H4 := e4.symm
      obtain ⟨y, hy, rfl⟩ : ∃ y, (ws.map (·.1))[k]? = some y ∧ v = .str y := by
        rw [List.getElem?_map] at hv
        cases e : (ws.map (·.1))[k]? with
        | none => rw [e] at hv; cases hv
        | some y => rw [e] at hv; exact ⟨y, rfl, (Option.some.inj hv).symm⟩
      refine ⟨[.str y], rfl, fun c' sub hnm' => ?_⟩
      have ok' := sub.ok
      show TT c' [some (.ref i), some (.ref n1), some (.ref z), some (.str x), o4, o5, o6, o7, some (.str y)] _ _ _
      walk_at "w"
      refine ⟨_, rfl, fun hb => ⟨fun _ => ⟨rfl, ?_⟩, fun h => (by cases h)⟩, fun hb => ⟨fun h => (by cases h), fun _ => ?_⟩⟩
      · rw [fil_step hy, hb]; simp
      · walk_at "w"
        exact ⟨rfl, by rw [fil_step hy, hb]; simp [strL]⟩
    rintro ys H4 ⟨rfl, rfl⟩
    have eo : ((ws.map (·.1)).take (strL (ws.map (·.1))).length).filter (fun y => !decide (y = x)) = oth (ws.map (·.1)) x := by rw [List.take_of_length_le (by simp [strL])]; rfl
    rw [eo]
    have hd : dcnt ws mark x = (List.range (2 ^ (oth (ws.map (·.1)) x).length)).countP (dcond ws mark x (oth (ws.map (·.1)) x)) := rfl
    have lo : (oth (ws.map (·.1)) x).length ≤ 12 := Nat.le_trans (List.length_filter_le _ _) (by simpa using hl)
    have g4 : (H4 ++ [MO.list (strL (oth (ws.map (·.1)) x))])[H4.length]? = some (.list (strL (oth (ws.map (·.1)) x))) := get_end
    have E4 := E3.app [MO.list (strL (oth (ws.map (·.1)) x))]
    have z4 := get_app (t := [.list (strL (oth (ws.map (·.1)) x))]) z3
    have n4 := get_app (t := [.list (strL (oth (ws.map (·.1)) x))]) g3
    generalize oth (ws.map (·.1)) x = l at *
    generalize H4 ++ [MO.list (strL l)] = H5 at *
    generalize H4.length = q4 at *
    have lL : (strL l).length = l.length := by simp [strL]
    walk_at "s"
    walk_at "s"
    walk_at "s"
    refine TB.cons (TS.forR okx hfx bs.range (by nofun) ?_ ⟨_, rfl⟩)
    walk_at "w"
    refine BC.len g4 (by lia) ?_
    rw [lL]
    refine ⟨_, BinI.shl (by lia) (by lia) (by decide), ?_⟩
    have e2 : (1 : Int) * 2 ^ ((l.length : Nat) : Int).toNat = ((2 ^ l.length : Nat) : Int) := by
      rw [Int.one_mul, Int.toNat_natCast]; simp
    rw [e2]
    have hp2 : 2 ^ l.length ≤ 4096 := Nat.le_trans (Nat.pow_le_pow_right (by decide) lo) (by decide)
    generalize 2 ^ l.length = P at *
    refine TEs.nil ⟨0, _, ⟨.inl ⟨rfl, rfl⟩, by lia, by lia, by lia, by lia⟩, fun n m1 H6 => ∃ o6 o7, m1 = [some (.ref i), some (.ref n1), some (.ref z), some (.str x), some (.ref q4), some (.int (((List.range n).countP (dcond ws mark x l) : Nat) : Int)), o6, o7] ∧ Ext H5 H6,
      ⟨o6, o7, rfl, Ext.refl _⟩, ?_, ?_⟩
    · rintro n m1 H6 xt2 ⟨o6, o7, rfl, E6⟩ hlt
      rw [Int.zero_add] at *
      have okx := okx.wx xt2
      have hfx : ((c.wx xt).wx xt2).fm = none := hfm
      have V6 := V.ext (E4.trans E6)
      have iV6 := V6.ins
      have g6 := E6 _ _ g4
      show TB ((c.wx xt).wx xt2) [some (.ref i), some (.ref n1), some (.ref z), some (.str x), some (.ref q4), some (.int (((List.range n).countP (dcond ws mark x l) : Nat) : Int)), some (.int (n : Int)), o7] _ _ _
      refine TB.gen3 fun PQ hPQ => ?_
      refine TB.cons (TS.assignC okx hfx (Src.range okx bs.range ?_))
      walk_at "w"
      refine BC.len g6 (by lia) ?_
      rw [lL]
      refine TEs.nil ⟨0, (l.length : Int), ⟨.inl ⟨rfl, rfl⟩, by lia, by lia, by lia, by lia⟩, Turns.range (x := "k") rfl (le0 (by lia)) (fun k ys H7 => H7 = H6 ∧ k ≤ l.length ∧ ys = strL (((List.range k).filter (bit n)).map fun k => l.getD k "")) ⟨rfl, by lia, rfl⟩ ?_ ?_ ?_⟩
      · rintro k ys H7 ⟨_, _, rfl⟩
        simp only [strL, List.length_map]
        exact Nat.le_trans (List.length_filter_le _ _) (by simp)
      · rintro k ys H7 ⟨e7, hk, rfl⟩ hk2 c' sub hnm'
        obtain rfl : H6 = H7 := e7.symm
        have ok' := sub.ok
        rw [Int.zero_add] at *
        show TT c' [some (.ref i), some (.ref n1), some (.ref z), some (.str x), some (.ref q4), some (.int (((List.range n).countP (dcond ws mark x l) : Nat) : Int)), some (.int (n : Int)), o7, some (.int (k : Int))] _ _ _
        walk_at "w"
        refine ⟨_, BinI.shr (by lia), ?_⟩
        walk_at "w"
        refine ⟨_, rfl, ?_⟩
        rw [bit_shr]
        refine ⟨fun hb => ⟨fun _ => ⟨rfl, by lia, ?_⟩, fun h => (by cases h)⟩, fun hb => ⟨fun h => (by cases h), fun _ => ?_⟩⟩
        · rw [rng_fil, hb]; simp
        · walk_at "w"
          refine ⟨.str (l.getD k ""), Sq.list g6 ⟨by lia, .inl ⟨by lia, ?_⟩⟩, rfl, by lia, ?_⟩
          · rw [Int.toNat_natCast, List.getElem?_map, List.getElem?_eq_getElem (by lia), List.getD_eq_getElem?_getD, List.getElem?_eq_getElem (by lia)]
            rfl
          · rw [rng_fil, hb]; simp [strL]
      rintro ys H7 ⟨rfl, _, rfl⟩
      rw [sub0]
      have g7 : (H7 ++ [MO.list (strL (som l n))])[H7.length]? = some (.list (strL (som l n))) := get_end
      have E7 : Ext H7 (H7 ++ [MO.list (strL (som l n))]) := (Ext.refl H7).app _
      have hs : dcond ws mark x l n = (!decide (mark ≤ wsum ws (som l n)) && decide (mark ≤ wsum ws (som l n ++ [x]))) := rfl
      have ls : (strL (som l n)).length ≤ 12 := by
        simp only [strL, List.length_map, som]
        exact Nat.le_trans (List.length_filter_le _ _) (by simpa using lo)
      have e7 : strL (((List.range l.length).filter (bit n)).map fun k => l.getD k "") = strL (som l n) := rfl
      rw [e7]
      clear e7
      generalize som l n = sm at *
      generalize H7 ++ [MO.list (strL sm)] = H8 at *
      generalize H7.length = q7 at *
      have V8 := V6.ext E7
      have iV8 := V8.ins
      have cnt : (List.range (n + 1)).countP (dcond ws mark x l) = (List.range n).countP (dcond ws mark x l) + (if dcond ws mark x l n then 1 else 0) := by
        rw [List.range_succ, List.countP_append]
        simp [List.countP_cons]
      rw [hs] at cnt
      show TB ((c.wx xt).wx xt2) [some (.ref i), some (.ref n1), some (.ref z), some (.str x), some (.ref q4), some (.int (((List.range n).countP (dcond ws mark x l) : Nat) : Int)), some (.int (n : Int)), some (.ref q7)] _ _ _
      refine TB.cons (TS.ite (TT.and (TTs.and (TT.not (TT.plain ?_)))))
      walk_at "w"
      refine (allows_cl dA K V8 hn (by lia) g7).use (by decide) ?_
      rintro _ H9 ⟨rfl, E9⟩
      refine ⟨_, rfl, fun hb => ?_, fun hb => ?_⟩
      · refine ⟨fun h => (by cases h), fun _ => TB.nil (TB.nil (hPQ _ _ _ ⟨some (.int (n : Int)), some (.ref q7), ?_, E6.trans (E7.trans E9)⟩))⟩
        rw [cnt, hb]
        rfl
      have V9 := V8.ext E9
      have iV9 := V9.ins
      have g9 := E9 _ _ g7
      refine TTs.and (TT.plain (TE.meth okx ?_))
      walk_at "s"
      refine ⟨_, _, _, _, _, rfl, iV9, rfl, gA, TEs.cons (TE.addL ?_)⟩
      walk_at "w"
      refine ⟨Nat.le_of_ble_eq_true rfl, q7, H9.length, _, _, rfl, rfl, get_app g9, get_end, by rw [List.length_singleton]; lia, ?_⟩
      have E10 : Ext H9 (H9 ++ [MO.list [.str x]] ++ [MO.list (strL sm ++ [.str x])]) := ((Ext.refl H9).app _).app _
      have g10 : (H9 ++ [MO.list [.str x]] ++ [MO.list (strL sm ++ [.str x])])[(H9 ++ [MO.list [.str x]]).length]? = some (.list (strL (sm ++ [x]))) := by rw [show strL (sm ++ [x]) = strL sm ++ [.str x] by simp [strL]]; exact get_end
      have V10 := V9.ext E10
      generalize H9 ++ [MO.list [.str x]] ++ [MO.list (strL sm ++ [.str x])] = H10 at *
      generalize (H9 ++ [MO.list [.str x]]).length = q9 at *
      refine TEs.nil ?_
      refine (allows_cl dA K V10 hn (by lia) g10).use (by decide) ?_
      rintro _ H11 ⟨rfl, E11⟩
      have E611 := E6.trans (E7.trans (E9.trans (E10.trans E11)))
      refine ⟨_, rfl, fun hb2 => ?_, fun hb2 => TTs.andNil ?_⟩
      · refine ⟨fun h => (by cases h), fun _ => TB.nil (TB.nil (hPQ _ _ _ ⟨some (.int (n : Int)), some (.ref q7), ?_, E611⟩))⟩
        rw [cnt, hb, hb2]
        rfl
      · refine ⟨fun _ => ?_, fun h => (by cases h)⟩
        walk_at "w"
        refine hPQ _ _ _ ⟨some (.int (n : Int)), some (.ref q7), ?_, E611⟩
        rw [cnt, hb, hb2]
        simp
    · rintro m1 H6 ⟨o6, o7, rfl, E6⟩
      rw [sub0, ← hd]
      have z6 := E6 _ _ z4
      walk_at "w"
      refine ⟨_, Uq.dS z6 (by simp; lia), ?_⟩
      have hput : putD ((ws.take j).map fun p => (p.1, MV.int ((dcnt ws mark p.1 : Nat) : Int))) x (.int ((dcnt ws mark x : Nat) : Int)) = (ws.take (j + 1)).map fun p => (p.1, MV.int ((dcnt ws mark p.1 : Nat) : Int)) := by
        rw [putD_new]
        · rw [List.take_add_one, hq]; simp [hx]
        · intro e he hne
          obtain ⟨p, hp, rfl⟩ := List.mem_map.mp he
          obtain ⟨k, hk, rfl⟩ := List.getElem_of_mem hp
          rw [List.length_take] at hk
          have := nodup_at hn (i := k) (j := j) (p := (ws.take j)[k]'(by rw [List.length_take]; exact hk)) (by rw [List.getElem_take, List.getElem?_eq_getElem]) hq (hne.trans hx.symm)
          lia
      rw [hput]
      walk_at "w"
      have hz6 := (List.getElem?_eq_some_iff.mp z6).1
      refine hPP _ _ _ ⟨_, _, _, _, _, rfl, (E4.trans E6).set hz0, ?_, List.getElem?_set_self hz6⟩
      rw [List.getElem?_set_ne (by lia)]
      exact E6 _ _ n4
  · rintro m1 H3 ⟨o3, o4, o5, o6, o7, rfl, E3, g3, z3⟩
    rw [lN, List.take_length] at z3
    walk_at "w"
    exact ⟨z, rfl, E3, z3⟩
end
noncomputable def nam (k : Nat) : Str := ⟨#[97 + k]⟩
noncomputable def nmL (n : Nat) : List Str := (List.range n).map nam
noncomputable def vws (n : Nat) (w : Nat → Int) : List (Str × Int) := (List.range n).map fun k => (nam k, w k)
noncomputable def ins (k m : Nat) : Nat := m / 2 ^ k * 2 ^ (k + 1) + m % 2 ^ k
noncomputable def fsum (n : Nat) (w : Nat → Int) (B : Nat → Bool) : Int := (((List.range n).filter B).map w).sum
noncomputable def wo (n : Nat) (w : Nat → Int) (k num : Nat) : Int := fsum n w fun j => !decide (j = k) && bit num j
noncomputable def dq (n : Nat) (w : Nat → Int) (mark : Int) (k num : Nat) : Bool := decide (wo n w k num < mark) && decide (mark ≤ wo n w k num + w k)
noncomputable def due (n : Nat) (w : Nat → Int) (mark : Int) (k : Nat) (N : Nat) : Nat := (List.range N).countP fun num => dq n w mark k num && !bit num k
theorem vws_names {n : Nat} {w : Nat → Int} : (vws n w).map (·.1) = nmL n := by unfold vws nmL; rw [List.map_map]; rfl
theorem wsum_v {n : Nat} {w : Nat → Int} {ps : List Str} : wsum (vws n w) ps = fsum n w fun j => ps.any (· == nam j) := by
  unfold wsum vws fsum
  rw [List.filter_map, List.map_map]
  rfl
theorem fsum_congr {w : Nat → Int} {B C : Nat → Bool} {n : Nat} (h : ∀ j, j < n → B j = C j) : fsum n w B = fsum n w C := by
  unfold fsum
  rw [List.filter_congr fun j hj => h j (List.mem_range.mp hj)]
theorem fsum_succ {w : Nat → Int} {B : Nat → Bool} {n : Nat} : fsum (n + 1) w B = fsum n w B + (if B n then w n else 0) := by
  unfold fsum
  rw [rng_fil, List.map_append, List.sum_append]
  cases B n <;> simp
theorem fsum_or {w : Nat → Int} {B : Nat → Bool} {k : Nat} (hk : B k = false) : ∀ {n : Nat}, fsum n w (fun j => B j || decide (j = k)) = fsum n w B + (if k < n then w k else 0)
  | 0 => by simp [fsum]
  | n + 1 => by
    rw [fsum_succ, fsum_succ, fsum_or hk]
    by_cases e : n = k
    · subst e
      rw [hk]
      simp
    · have h1 : decide (n = k) = false := decide_eq_false e
      rw [h1, Bool.or_false]
      by_cases q : k < n
      · rw [if_pos q, if_pos (show k < n + 1 by lia)]; lia
      · rw [if_neg q, if_neg (show ¬ k < n + 1 by lia)]; lia
theorem ins_all : ∀ n < 5, ∀ k < n, (List.range (2 ^ n)).filter (fun num => !bit num k) = (List.range (2 ^ (n - 1))).map (ins k) := by decide +kernel
theorem som_all : ∀ n < 5, ∀ k < n, (oth (nmL n) (nam k)).length = n - 1 ∧ ∀ m < 2 ^ (n - 1), ∀ j < n, (som (oth (nmL n) (nam k)) m).any (· == nam j) = (!decide (j = k) && bit (ins k m) j) := by decide +kernel
theorem nam_all : ∀ j < 5, ∀ k < 5, (nam k == nam j) = decide (j = k) := by decide +kernel
theorem due_ok {n k : Nat} {w : Nat → Int} {mark : Int} (hn : n < 5) (hk : k < n) : dcnt (vws n w) mark (nam k) = due n w mark k (2 ^ n) := by
  unfold dcnt due
  rw [vws_names]
  obtain ⟨l1, l2⟩ := som_all n hn k hk
  rw [l1, ← List.countP_filter, ins_all n hn k hk, List.countP_map]
  refine List.countP_congr fun m hm => ?_
  have hm := List.mem_range.mp hm
  have h1 : wsum (vws n w) (som (oth (nmL n) (nam k)) m) = wo n w k (ins k m) := by
    rw [wsum_v]
    exact fsum_congr fun j hj => l2 m hm j hj
  have h2 : wsum (vws n w) (som (oth (nmL n) (nam k)) m ++ [nam k]) = wo n w k (ins k m) + w k := by
    rw [wsum_v]
    have e : fsum n w (fun j => (som (oth (nmL n) (nam k)) m ++ [nam k]).any (· == nam j)) = fsum n w (fun j => (!decide (j = k) && bit (ins k m) j) || decide (j = k)) := by
      refine fsum_congr fun j hj => ?_
      rw [List.any_append, l2 m hm j hj]
      congr 1
      simp only [List.any_cons, List.any_nil, Bool.or_false]
      exact nam_all j (by lia) k (by lia)
    rw [e, fsum_or (by simp), if_pos hk]
    rfl
  show dcond _ _ _ _ m = true ↔ dq n w mark k (ins k m) = true
  unfold dcond dq
  rw [h1, h2]
  have : (!decide (mark ≤ wo n w k (ins k m))) = decide (wo n w k (ins k m) < mark) := by
    by_cases e : mark ≤ wo n w k (ins k m)
    · rw [decide_eq_true e, decide_eq_false (by lia)]; rfl
    · rw [decide_eq_false e, decide_eq_true (by lia)]; rfl
  rw [this]
set_option compiler.extract_closed false
set_option hygiene false in
local macro_rules | `(tactic| walk_at "s") => `(tactic| with_reducible first
  | refine TE.cell (by assumption) (by decide) (by assumption) (by with_unfolding_all rfl) ?_
  | refine ⟨_, CellI.mk (by lia), ?_⟩
  | fail)
noncomputable def k15_law_nm : List Str := ["script", "field", "weights", "names", "mark", "voters", "secret", "dealt", "present", "total", "found", "told", "due", "k", "number", "without"]
noncomputable def k15_4 : CSs := (.cons (.assign 12 CE.dict0)
  (.cons (.for [13] (.call "range" (.cons (.call "len" (.cons (.loc 3) .nil)) .nil)) (.cons (.setItem (.loc 12) (.sub (.loc 3) (.loc 13)) (.int 0))
  (.cons (.for [14] (.call "range" (.cons (.bin .Pow (.int 2) (.call "len" (.cons (.loc 3) .nil))) .nil)) (.cons (.assign 15 (.call "sum" (.cons (.comp (.sub (.loc 2) (.loc 16)) ["j"] (.call "range" (.cons (.call "len" (.cons (.loc 3) .nil)) .nil)) (.cons (.cmp .NotEq (.loc 16) (.loc 13)) (.cons (.cmp .Eq (.bin .Mod (.bin .FloorDiv (.loc 14) (.bin .Pow (.int 2) (.loc 16))) (.int 2)) (.int 1)) .nil))) .nil)))
  (.cons (.ite (.cmp .Eq (.bin .Mod (.bin .FloorDiv (.loc 14) (.bin .Pow (.int 2) (.loc 13))) (.int 2)) (.int 0)) (.cons (.setItem (.loc 12) (.sub (.loc 3) (.loc 13)) (.bin .Add (.sub (.loc 12) (.sub (.loc 3) (.loc 13))) (.tst (.cmp2 (.loc 15) .Lt (.loc 4) .LtE (.bin .Add (.loc 15) (.sub (.loc 2) (.loc 13)))))))
  .nil) .nil)
  .nil)))
  .nil)))
  (.cons (.ret (.tst (.cmp .Eq (.meth (.loc 5) "decisive" .nil) (.loc 12))))
  .nil)))
noncomputable def k15_3 : CSs := (.cons (.ite (.cmp .NotEq (.tst (.cmp .Eq (.loc 10) (.str ""))) (.tst (.cmp .GtE (.loc 9) (.loc 4)))) (.cons (.ret (.bool false))
  .nil) .nil)
  (.cons (.ite (.cmp .GtE (.loc 9) (.loc 4)) (.cons (.ite (.cmp .NotEq (.loc 11) (.loc 6)) (.cons (.ret (.bool false))
  .nil) .nil)
  .nil) .nil)
  k15_4))
noncomputable def k15_2 : CSs := (.cons (.assign 8 (.comp (.sub (.loc 3) (.loc 16)) ["k"] (.call "range" (.cons (.call "len" (.cons (.loc 3) .nil)) .nil)) (.cons (.cmp .Eq (.bin .Mod (.bin .FloorDiv (.call "_law_cell" (.cons (.loc 0) (.cons (.int 8) .nil))) (.bin .Pow (.int 2) (.loc 16))) (.int 2)) (.int 1)) .nil)))
  (.cons (.assign 9 (.call "sum" (.cons (.comp (.sub (.loc 2) (.loc 16)) ["k"] (.call "range" (.cons (.call "len" (.cons (.loc 3) .nil)) .nil)) (.cons (.cmp .In (.sub (.loc 3) (.loc 16)) (.loc 8)) .nil)) .nil)))
  (.cons (.ite (.cmp .NotEq (.meth (.loc 5) "weight_of" (.cons (.loc 8) .nil)) (.loc 9)) (.cons (.ret (.bool false))
  .nil) .nil)
  (.cons (.ite (.cmp .NotEq (.meth (.loc 5) "allows" (.cons (.loc 8) .nil)) (.tst (.cmp .GtE (.loc 9) (.loc 4)))) (.cons (.ret (.bool false))
  .nil) .nil)
  (.cons (.assign 10 (.str ""))
  (.cons (.assign 11 (.neg (.int 1)))
  (.cons (.try (.cons (.assign 11 (.meth (.loc 5) "rebuild" (.cons (.loc 7) (.cons (.loc 8) .nil))))
  .nil) (.cons "ValueError" none (.cons (.assign 10 (.str "ValueError"))
  .nil) .nil))
  k15_3)))))))
noncomputable def k15_1 : CSs := (.cons (.assign 6 (.bin .Mod (.call "_law_cell" (.cons (.loc 0) (.cons (.int 6) .nil))) (.int 101)))
  (.cons (.assign 7 (.meth (.loc 5) "deal" (.cons (.loc 6) (.cons (.call "Source" (.cons (.bin .Mod (.call "_law_cell" (.cons (.loc 0) (.cons (.int 7) .nil))) (.bin .Pow (.int 10) (.int 9))) .nil)) .nil))))
  (.cons (.ite (.cmp .NotEq (.comp (.call "len" (.cons (.sub (.loc 7) (.loc 16)) .nil)) ["name"] (.loc 3) .nil) (.loc 2)) (.cons (.ret (.bool false))
  .nil) .nil)
  k15_2)))
noncomputable def k15_law : CSs := (.cons (.assign 1 (.call "Field" (.cons (.int 101) .nil)))
  (.cons (.assign 2 (.comp (.bin .Add (.int 1) (.bin .Mod (.call "_law_cell" (.cons (.loc 0) (.cons (.bin .Add (.int 1) (.loc 16)) .nil))) (.int 4))) ["k"] (.call "range" (.cons (.bin .Add (.int 1) (.bin .Mod (.call "_law_cell" (.cons (.loc 0) (.cons (.int 0) .nil))) (.int 4))) .nil)) .nil))
  (.cons (.assign 3 (.comp (.sub (.str "abcd") (.loc 16)) ["k"] (.call "range" (.cons (.call "len" (.cons (.loc 2) .nil)) .nil)) .nil))
  (.cons (.assign 4 (.bin .Add (.int 1) (.bin .Mod (.call "_law_cell" (.cons (.loc 0) (.cons (.int 5) .nil))) (.call "sum" (.cons (.loc 2) .nil)))))
  (.cons (.assign 5 (.call "Voters" (.cons (.loc 1) (.cons (.comp (.tup (.cons (.sub (.loc 3) (.loc 16)) (.cons (.sub (.loc 2) (.loc 16)) .nil))) ["k"] (.call "range" (.cons (.call "len" (.cons (.loc 3) .nil)) .nil)) .nil) (.cons (.loc 4) .nil)))))
  k15_1)))))
structure K15 (G : Gx) (C CV CS CE : Addr) : Prop extends VoR G C CV CS CE where
  F : FieldK G C
  de : ∃ f, GMth G CV "deal" f ∧ GDef G f ["self", "secret", "source"] k_Voters_deal_nm k_Voters_deal []
  re : ∃ f, GMth G CV "rebuild" f ∧ GDef G f ["self", "dealt", "present"] k_Voters_rebuild_nm k_Voters_rebuild []
  di : ∃ f, GMth G CV "decisive" f ∧ GDef G f ["self"] k_Voters_decisive_nm k_Voters_decisive []
  ve : nsIn G.K mainGlobals "ValueError" = some none
theorem bit_div (n k : Nat) : (decide (((n : Int).fdiv ((2 : Int) ^ ((k : Nat) : Int).toNat)) % 2 = 1)) = bit n k := by
  rw [Int.toNat_natCast, fdiv_nat]
  unfold bit
  generalize n / 2 ^ k = x
  have : x % 2 = 0 ∨ x % 2 = 1 := by lia
  rcases this with h | h
  · rw [h]; exact decide_eq_false (by lia)
  · rw [h]; exact decide_eq_true (by lia)
theorem bit_div0 (n k : Nat) : (decide (((n : Int).fdiv ((2 : Int) ^ ((k : Nat) : Int).toNat)) % 2 = 0)) = !bit n k := by
  rw [Int.toNat_natCast, fdiv_nat]
  unfold bit
  generalize n / 2 ^ k = x
  have : x % 2 = 0 ∨ x % 2 = 1 := by lia
  rcases this with h | h
  · rw [h]; exact decide_eq_true (by lia)
  · rw [h]; exact decide_eq_false (by lia)
theorem two_pow {k : Nat} (h : k ≤ 4) : ((2 : Int) ^ ((k : Nat) : Int).toNat) ≠ 0 ∧ ((2 : Int) ^ ((k : Nat) : Int).toNat).natAbs < 1073741824 := by
  rw [Int.toNat_natCast]
  have : k = 0 ∨ k = 1 ∨ k = 2 ∨ k = 3 ∨ k = 4 := by lia
  rcases this with rfl | rfl | rfl | rfl | rfl <;> decide
theorem putD_last {es : List (Str × MV)} {k : Str} {u v : MV} (h : ∀ e ∈ es, e.1 ≠ k) : putD (es ++ [(k, u)]) k v = es ++ [(k, v)] := by
  unfold putD
  rw [if_pos (by simp), List.map_append]
  congr 1
  · rw [List.map_congr_left (g := id) (fun e he => by rw [if_neg (h e he)]; rfl)]
    simp
  · simp
theorem getD_last {es : List (Str × MV)} {k : Str} {u : MV} (h : ∀ e ∈ es, e.1 ≠ k) : getD' (es ++ [(k, u)]) k = some u := by
  unfold getD'
  rw [List.find?_append, List.find?_eq_none.mpr (fun e he => by simpa using h e he)]
  simp
noncomputable def dueL (n : Nat) (w : Nat → Int) (mark : Int) (k : Nat) : List (Str × MV) := (List.range k).map fun j => (nam j, MV.int ((due n w mark j (2 ^ n) : Nat) : Int))
theorem nam_ne {j k : Nat} (h : j < k) : nam j ≠ nam k := by
  intro e
  unfold nam at e
  have := congrArg (fun x : Str => x.cps[0]?) e
  simp at this
  lia
theorem dueL_ne {n : Nat} {w : Nat → Int} {mark : Int} {k : Nat} : ∀ e ∈ dueL n w mark k, e.1 ≠ nam k := by
  intro e he
  obtain ⟨j, hj, rfl⟩ := List.mem_map.mp he
  exact nam_ne (List.mem_range.mp hj)
theorem dueL_succ {n : Nat} {w : Nat → Int} {mark : Int} {k : Nat} : dueL n w mark (k + 1) = dueL n w mark k ++ [(nam k, .int ((due n w mark k (2 ^ n) : Nat) : Int))] := by
  unfold dueL
  rw [List.range_succ, List.map_append]
  rfl
theorem due_succ {n : Nat} {w : Nat → Int} {mark : Int} {k N : Nat} : due n w mark k (N + 1) = due n w mark k N + (if dq n w mark k N && !bit N k then 1 else 0) := by
  unfold due
  rw [List.range_succ, List.countP_append]
  simp [List.countP_cons]
theorem nmL_nodup {n : Nat} : (nmL n).Nodup := by
  unfold nmL List.Nodup
  rw [List.pairwise_map]
  refine List.Pairwise.imp ?_ (List.pairwise_lt_range (n := n))
  intro a b h
  exact nam_ne h
section
variable {G : Gx} {c : Cx} {sa C CV CS CE : Addr} {ns : List Int}
theorem law15_4 (ok : Ok G c 200) (hfm : c.fm = none) (hint : interactive c.env = false) (L : LawK G sa ns) (K : K15 G C CV CS CE) {H : MH} {iF i kk d zw zn n : Nat} {mark : Int} {w : Nat → Int} {o1 o6 o7 o8 o9 o10 o11 : Option MV} (V : Vot H CV i kk iF d (vws n w) mark)
    (hw : H[zw]? = some (.list (intL ((List.range n).map w)))) (hnm : H[zn]? = some (.list (strL (nmL n)))) (h1 : 1 ≤ n) (h4 : n ≤ 4) :
    TB c [some (.glob sa), o1, some (.ref zw), some (.ref zn), some (.int mark), some (.ref i), o6, o7, o8, o9, o10, o11, none, none, none, none] k15_4 H (fun fl _ _ => retv fl = .bool true) := by
  have bs := L.bs
  obtain ⟨fD, gD, dD⟩ := K.di
  have lS : (strL (nmL n)).length = n := by simp [strL, nmL]
  have lI : (intL ((List.range n).map w)).length = n := by simp [intL]
  have atw : ∀ {k : Nat}, k < n → (intL ((List.range n).map w))[((k : Nat) : Int).toNat]? = some (.int (w k)) := fun {k} hk => by
    rw [Int.toNat_natCast, List.getElem?_map, List.getElem?_map, List.getElem?_range hk]; rfl
  have atn : ∀ {k : Nat}, k < n → (strL (nmL n))[((k : Nat) : Int).toNat]? = some (.str (nam k)) := fun {k} hk => by
    unfold strL nmL
    rw [Int.toNat_natCast, List.getElem?_map, List.getElem?_map, List.getElem?_range hk]; rfl
  unfold k15_4
  refine TB.cons (TS.assign ok hfm rfl (TE.dict0 (o := .dS H.length []) ok ⟨.inr rfl⟩ ?_))
  have E1 : Ext H (H ++ [MO.dS H.length []]) := (Ext.refl H).app _
  have z1 : (H ++ [MO.dS H.length []])[H.length]? = some (.dS H.length (dueL n w mark 0)) := get_end
  have hz0 : H.length ≤ H.length := Nat.le_refl _
  generalize H ++ [MO.dS H.length []] = H1 at *
  generalize hzz : H.length = z at *
  refine TB.cons (TS.forR ok hfm bs.range (by nofun) ?_ ⟨_, rfl⟩)
  walk_at "w"
  refine BC.len (E1 _ _ hnm) (by lia) ?_
  rw [lS]
  refine TEs.nil ⟨0, (n : Int), ⟨.inl ⟨rfl, rfl⟩, by lia, by lia, by lia, by lia⟩, fun k m1 H2 => ∃ o13 o14 o15, m1 = [some (.glob sa), o1, some (.ref zw), some (.ref zn), some (.int mark), some (.ref i), o6, o7, o8, o9, o10, o11, some (.ref z), o13, o14, o15] ∧ Ext H H2 ∧ H2[z]? = some (.dS z (dueL n w mark k)),
    ⟨none, none, none, rfl, E1, z1⟩, ?_, ?_⟩
  · rintro k m1 H2 xt ⟨o13, o14, o15, rfl, E2, z2⟩ hlt
    rw [Int.zero_add] at *
    have hk : k < n := by lia
    have okx := ok.wx xt
    have hfx : (c.wx xt).fm = none := hfm
    have hz2 := (List.getElem?_eq_some_iff.mp z2).1
    have lD : (dueL n w mark k).length = k := by simp [dueL]
    show TB (c.wx xt) [some (.glob sa), o1, some (.ref zw), some (.ref zn), some (.int mark), some (.ref i), o6, o7, o8, o9, o10, o11, some (.ref z), some (.int (k : Int)), o14, o15] _ _ _
    refine TB.gen3 fun PP hPP => ?_
    walk_at "w"
    refine ⟨.str (nam k), Sq.list (E2 _ _ hnm) ⟨by lia, .inl ⟨by lia, atn hk⟩⟩, ?_⟩
    refine ⟨_, Uq.dS z2 (by lia), ?_⟩
    rw [putD_new dueL_ne]
    have E3 : Ext H (H2.set z (MO.dS z (dueL n w mark k ++ [(nam k, MV.int 0)]))) := E2.set (by lia)
    have z3 : (H2.set z (MO.dS z (dueL n w mark k ++ [(nam k, MV.int 0)])))[z]? = some (.dS z (dueL n w mark k ++ [(nam k, .int ((due n w mark k 0 : Nat) : Int))])) := List.getElem?_set_self hz2
    have l3 : (H2.set z (MO.dS z (dueL n w mark k ++ [(nam k, MV.int 0)]))).length = H2.length := List.length_set
    generalize H2.set z (MO.dS z (dueL n w mark k ++ [(nam k, MV.int 0)])) = H3 at *
    refine TB.cons (TS.forR okx hfx bs.range (by nofun) ?_ ⟨_, rfl⟩)
    walk_at "w"
    refine BC.len (E3 _ _ hnm) (by lia) ?_
    rw [lS]
    refine ⟨_, BinI.pow (by lia) (by lia) (by decide), ?_⟩
    have e2 : (2 : Int) ^ ((n : Nat) : Int).toNat = ((2 ^ n : Nat) : Int) := by rw [Int.toNat_natCast]; simp
    rw [e2]
    have hP : 2 ^ n ≤ 16 := Nat.le_trans (Nat.pow_le_pow_right (by decide) h4) (by decide)
    have hd : dueL n w mark (k + 1) = dueL n w mark k ++ [(nam k, .int ((due n w mark k (2 ^ n) : Nat) : Int))] := dueL_succ
    generalize 2 ^ n = P at *
    refine TEs.nil ⟨0, (P : Int), ⟨.inl ⟨rfl, rfl⟩, by lia, by lia, by lia, by lia⟩, fun N m1 H4 => ∃ o14 o15, m1 = [some (.glob sa), o1, some (.ref zw), some (.ref zn), some (.int mark), some (.ref i), o6, o7, o8, o9, o10, o11, some (.ref z), some (.int (k : Int)), o14, o15] ∧ Ext H H4 ∧ H4[z]? = some (.dS z (dueL n w mark k ++ [(nam k, .int ((due n w mark k N : Nat) : Int))])),
      ⟨o14, o15, rfl, E3, z3⟩, ?_, ?_⟩
    · rintro N m1 H4 xt2 ⟨o14, o15, rfl, E4, z4⟩ hlt
      rw [Int.zero_add] at *
      have okx := okx.wx xt2
      have hfx : ((c.wx xt).wx xt2).fm = none := hfm
      have hz4 := (List.getElem?_eq_some_iff.mp z4).1
      show TB ((c.wx xt).wx xt2) [some (.glob sa), o1, some (.ref zw), some (.ref zn), some (.int mark), some (.ref i), o6, o7, o8, o9, o10, o11, some (.ref z), some (.int (k : Int)), some (.int (N : Int)), o15] _ _ _
      refine TB.gen3 fun PQ hPQ => ?_
      refine TB.cons (TS.assign okx hfx rfl (TE.sum okx bs (TE.comp okx (Src.range okx bs.range ?_))))
      walk_at "w"
      refine BC.len (E4 _ _ hnm) (by lia) ?_
      rw [lS]
      refine TEs.nil ⟨0, (n : Int), ⟨.inl ⟨rfl, rfl⟩, by lia, by lia, by lia, by lia⟩, Turns.range (x := "j") rfl (le0 (by lia)) (fun j ys H5 => H5 = H4 ∧ ys = intL (((List.range j).filter fun j => !decide (j = k) && bit N j).map w)) ⟨rfl, rfl⟩ ?_ ?_ ?_⟩
      · rintro j ys H5 ⟨_, rfl⟩
        simp only [intL, List.length_map]
        exact Nat.le_trans (List.length_filter_le _ _) (by simp)
      · rintro j ys H5 ⟨e5, rfl⟩ hj2 c' sub hnm'
        obtain rfl : H4 = H5 := e5.symm
        have ok' := sub.ok
        rw [Int.zero_add] at *
        have hj : j < n := by lia
        show TT c' [some (.glob sa), o1, some (.ref zw), some (.ref zn), some (.int mark), some (.ref i), o6, o7, o8, o9, o10, o11, some (.ref z), some (.int (k : Int)), some (.int (N : Int)), o15, some (.int (j : Int))] _ _ _
        have ejk : (!decide (((j : Nat) : Int) = ((k : Nat) : Int))) = !decide (j = k) := by
          by_cases e : j = k
          · rw [decide_eq_true e, decide_eq_true (by lia)]
          · rw [decide_eq_false e, decide_eq_false (by lia)]
        walk_at "w"
        refine ⟨_, rfl, ?_⟩
        rw [ejk]
        refine ⟨fun hb => ⟨fun _ => ⟨rfl, ?_⟩, fun h => (by cases h)⟩, fun hb => ?_⟩
        · rw [rng_fil, hb]; simp
        show TT c' [some (.glob sa), o1, some (.ref zw), some (.ref zn), some (.int mark), some (.ref i), o6, o7, o8, o9, o10, o11, some (.ref z), some (.int (k : Int)), some (.int (N : Int)), o15, some (.int (j : Int))] _ _ _
        walk_at "w"
        refine ⟨_, BinI.pow (by lia) (by lia) (by decide), ?_⟩
        obtain ⟨t1, t2⟩ := two_pow (k := j) (by lia)
        refine ⟨_, BinI.div t1 t2, ?_⟩
        walk_at "w"
        refine ⟨_, rfl, ?_⟩
        rw [bit_div]
        refine ⟨fun hb2 => ⟨fun _ => ⟨rfl, ?_⟩, fun h => (by cases h)⟩, fun hb2 => ⟨fun h => (by cases h), fun _ => ?_⟩⟩
        · rw [rng_fil, hb, hb2]; simp
        · walk_at "w"
          refine ⟨.int (w j), Sq.list (E4 _ _ hw) ⟨by lia, .inl ⟨by lia, atw hj⟩⟩, rfl, ?_⟩
          rw [rng_fil, hb, hb2]; simp [intL]
      rintro ys H5 ⟨rfl, rfl⟩
      rw [sub0]
      refine BC.sum okx.hh get_end ?_
      show TB ((c.wx xt).wx xt2) [some (.glob sa), o1, some (.ref zw), some (.ref zn), some (.int mark), some (.ref i), o6, o7, o8, o9, o10, o11, some (.ref z), some (.int (k : Int)), some (.int (N : Int)), some (.int (wo n w k N))] _ _ _
      have E5 := E4.app [MO.list (intL (((List.range n).filter fun j => !decide (j = k) && bit N j).map w))]
      have z5 := get_app (t := [MO.list (intL (((List.range n).filter fun j => !decide (j = k) && bit N j).map w))]) z4
      have l5 := E5.len
      generalize H5 ++ [MO.list (intL (((List.range n).filter fun j => !decide (j = k) && bit N j).map w))] = H6 at *
      walk_at "w"
      refine ⟨_, BinI.pow (by lia) (by lia) (by decide), ?_⟩
      obtain ⟨t1, t2⟩ := two_pow (k := k) (by lia)
      refine ⟨_, BinI.div t1 t2, ?_⟩
      walk_at "w"
      refine ⟨_, rfl, ?_⟩
      rw [bit_div0]
      have step := due_succ (n := n) (w := w) (mark := mark) (k := k) (N := N)
      refine ⟨fun hb => ?_, fun hb => TB.nil (TB.nil (hPQ _ _ _ ⟨_, _, rfl, E5, ?_⟩))⟩
      · have fin : ∀ b : Bool, b = dq n w mark k N → TB ((c.wx xt).wx xt2) [some (.glob sa), o1, some (.ref zw), some (.ref zn), some (.int mark), some (.ref i), o6, o7, o8, o9, o10, o11, some (.ref z), some (.int (k : Int)), some (.int (N : Int)), some (.int (wo n w k N))] .nil (H6.set z (.dS z (putD (dueL n w mark k ++ [(nam k, .int ((due n w mark k N : Nat) : Int))]) (nam k) (.int (((due n w mark k N : Nat) : Int) + if b = true then 1 else 0))))) PQ := by
          intro b eb
          refine TB.nil (hPQ _ _ _ ⟨_, _, rfl, E5.set (by lia), ?_⟩)
          rw [putD_last dueL_ne, List.getElem?_set_self (List.getElem?_eq_some_iff.mp z5).1, step, hb, eb]
          cases dq n w mark k N <;> simp
        refine TB.cons (TS.setItem (TE.addB ?_))
        walk_at "w"
        refine ⟨.str (nam k), Sq.list (E5 _ _ hnm) ⟨by lia, .inl ⟨by lia, atn hk⟩⟩, ?_⟩
        refine ⟨_, Sq.dS z5 (getD_last dueL_ne), ?_⟩
        refine TE.tst (TV.cmp2 ?_)
        walk_at "w"
        refine ⟨_, rfl, fun h => ?_, fun h => ?_⟩
        · refine ⟨_, _, rfl, rfl, ?_⟩
          walk_at "w"
          refine ⟨.str (nam k), Sq.list (E5 _ _ hnm) ⟨by lia, .inl ⟨by lia, atn hk⟩⟩, ?_⟩
          refine ⟨_, Uq.dS z5 (by rw [List.length_append, lD, List.length_singleton]; lia), TB.nil (fin _ ?_)⟩
          unfold dq; rw [show decide (wo n w k N < mark) = false from h]; rfl
        · walk_at "w"
          refine ⟨.int (w k), Sq.list (E5 _ _ hw) ⟨by lia, .inl ⟨by lia, atw hk⟩⟩, ?_⟩
          walk_at "w"
          refine ⟨_, rfl, ?_⟩
          refine ⟨_, _, rfl, rfl, ?_⟩
          walk_at "w"
          refine ⟨.str (nam k), Sq.list (E5 _ _ hnm) ⟨by lia, .inl ⟨by lia, atn hk⟩⟩, ?_⟩
          refine ⟨_, Uq.dS z5 (by rw [List.length_append, lD, List.length_singleton]; lia), TB.nil (fin _ ?_)⟩
          unfold dq; rw [show decide (wo n w k N < mark) = true from h]; rfl
      · rw [step, hb, Bool.and_false]
        exact z5
    · rintro m1 H4 ⟨o14, o15, rfl, E4, z4⟩
      rw [sub0, ← hd] at z4
      exact TB.nil (hPP _ _ _ ⟨_, _, _, rfl, E4, z4⟩)
  · rintro m1 H2 ⟨o13, o14, o15, rfl, E2, z2⟩
    rw [sub0] at z2
    have V2 := V.ext E2
    have iV2 := V2.ins
    refine TB.cons (TS.ret (TE.tst (TV.cq ?_)))
    walk_at "w"
    refine (decisive_cl dD K.toVoK V2 (by rw [vws_names]; exact nmL_nodup) (by simp [vws]; lia)).use (by decide) ?_
    rintro _ H3 ⟨zd, rfl, E3, g3⟩
    walk_at "w"
    refine ⟨true, Cq.eqDS ok g3 (E3 _ _ z2) (by simp [vws, dueL]) ?_, rfl⟩
    intro e he
    obtain ⟨p, hp, rfl⟩ := List.mem_map.mp he
    obtain ⟨k, hk, rfl⟩ := List.mem_map.mp hp
    have hk := List.mem_range.mp hk
    refine ⟨_, rfl, ?_⟩
    rw [due_ok (by lia) hk]
    have := wd_get (ws := (List.range n).map fun j => (nam j, ((due n w mark j (2 ^ n) : Nat) : Int))) (by rw [List.map_map]; exact nmL_nodup) (p := (nam k, ((due n w mark k (2 ^ n) : Nat) : Int))) (List.mem_map.mpr ⟨k, List.mem_range.mpr hk, rfl⟩)
    unfold wd at this
    rw [List.map_map] at this
    exact this
end
theorem nam_ok : ∀ k < 4, okN (nam k) = true := by decide +kernel
theorem abcd_at : ∀ k < 4, ("abcd" : Str).cps[k]? = some (97 + k) := by decide +kernel
theorem wsm_bd {w : Nat → Int} (hw : ∀ k, 1 ≤ w k ∧ w k ≤ 4) : ∀ n : Nat, (n : Int) ≤ ((List.range n).map w).sum ∧ ((List.range n).map w).sum ≤ 4 * n
  | 0 => by simp
  | n + 1 => by
    have ih := wsm_bd hw n
    have := hw n
    rw [List.range_succ, List.map_append, List.sum_append]
    simp only [List.map_cons, List.map_nil, List.sum_cons, List.sum_nil]
    lia
theorem vws_sum {n : Nat} {w : Nat → Int} : ((vws n w).map (·.2)).sum = ((List.range n).map w).sum := by unfold vws; rw [List.map_map]; rfl
section
variable {G : Gx} {c : Cx} {sa C CV CS CE : Addr} {ns : List Int}
theorem law15_3 (ok : Ok G c 200) (hfm : c.fm = none) (hint : interactive c.env = false) (L : LawK G sa ns) (K : K15 G C CV CS CE) {H : MH} {i kk iF d zw zn n : Nat} {mark total secret told : Int} {fo : Str} {w : Nat → Int} {o1 o7 o8 : Option MV} (V : Vot H CV i kk iF d (vws n w) mark)
    (hw : H[zw]? = some (.list (intL ((List.range n).map w)))) (hnm : H[zn]? = some (.list (strL (nmL n)))) (h1 : 1 ≤ n) (h4 : n ≤ 4) (ht : (mark ≤ total ∧ fo = "" ∧ told = secret) ∨ (total < mark ∧ fo = "ValueError")) :
    TB c [some (.glob sa), o1, some (.ref zw), some (.ref zn), some (.int mark), some (.ref i), some (.int secret), o7, o8, some (.int total), some (.str fo), some (.int told), none, none, none, none] k15_3 H (fun fl _ _ => retv fl = .bool true) := by
  have bs := L.bs
  unfold k15_3
  refine TB.cons (TS.ite (TT.cmp (TE.tst (TV.cmp ?_))))
  walk_at "w"
  rcases ht with ⟨h, rfl, rfl⟩ | ⟨h, rfl⟩
  · refine ⟨true, by show true = decide (_ = _); simp, ?_⟩
    refine TE.tst (TV.cmp ?_)
    walk_at "w"
    refine ⟨true, (decide_eq_true h).symm, false, rfl, fun q => (by cases q), fun _ => TB.nil ?_⟩
    walk_at "w"
    refine ⟨true, (decide_eq_true h).symm, fun _ => ?_, fun q => (by cases q)⟩
    walk_at "w"
    refine ⟨false, by show false = !decide _; simp, fun q => (by cases q), fun _ => ?_⟩
    exact TB.nil (TB.nil (law15_4 ok hfm hint L K V hw hnm h1 h4))
  · refine ⟨false, by show false = decide (_ = _); decide +kernel, ?_⟩
    refine TE.tst (TV.cmp ?_)
    walk_at "w"
    refine ⟨false, (decide_eq_false (show ¬ mark ≤ total by lia)).symm, false, rfl, fun q => (by cases q), fun _ => TB.nil ?_⟩
    walk_at "w"
    refine ⟨false, (decide_eq_false (show ¬ mark ≤ total by lia)).symm, fun q => (by cases q), fun _ => ?_⟩
    exact TB.nil (law15_4 ok hfm hint L K V hw hnm h1 h4)
theorem law15_2 (ok : Ok G c 200) (hfm : c.fm = none) (hint : interactive c.env = false) (L : LawK G sa ns) (K : K15 G C CV CS CE) {H : MH} {i kk iF kf d zw zn z zs n : Nat} {mark secret : Int} {w : Nat → Int} {refs : List MV} {es : List (Str × MV)} {row : List Int} {o1 : Option MV} (V : Vot H CV i kk iF d (vws n w) mark) (O : VOk 101 mark (vws n w))
    (hF : Ins H iF C kf [("prime", .int 101)]) (hw : H[zw]? = some (.list (intL ((List.range n).map w)))) (hnm : H[zn]? = some (.list (strL (nmL n)))) (h1 : 1 ≤ n) (h4 : n ≤ 4) (hwb : ∀ k, 1 ≤ w k ∧ w k ≤ 4)
    (hz : H[zs]? = some (.list refs)) (hP : PtsAt H zs (shs 101 row ((vws n w).map fun p => p.2.toNat).sum)) (dt : DltAt H z (vws n w) refs (vws n w).length es) (hb : Bd 101 row) (hrow : row.length = mark.toNat) (hsec : pval 101 row 0 = secret) :
    TB c [some (.glob sa), o1, some (.ref zw), some (.ref zn), some (.int mark), some (.ref i), some (.int secret), some (.ref z), none, none, none, none, none, none, none, none] k15_2 H (fun fl _ _ => retv fl = .bool true) := by
  have bs := L.bs
  obtain ⟨fW, gW, dW⟩ := K.wo
  obtain ⟨fA, gA, dA⟩ := K.al
  obtain ⟨fR, gR, dR⟩ := K.re
  have lS : (strL (nmL n)).length = n := by simp [strL, nmL]
  have hnd : ((vws n w).map (·.1)).Nodup := O.nd
  have hln : (vws n w).length ≤ 100 := O.len
  have atw : ∀ {k : Nat}, k < n → (intL ((List.range n).map w))[((k : Nat) : Int).toNat]? = some (.int (w k)) := fun {k} hk => by
    rw [Int.toNat_natCast, List.getElem?_map, List.getElem?_map, List.getElem?_range hk]; rfl
  have atn : ∀ {k : Nat}, k < n → (strL (nmL n))[((k : Nat) : Int).toNat]? = some (.str (nam k)) := fun {k} hk => by
    unfold strL nmL
    rw [Int.toNat_natCast, List.getElem?_map, List.getElem?_map, List.getElem?_range hk]; rfl
  have lI : (intL ((List.range n).map w)).length = n := by simp [intL]
  unfold k15_2
  refine TB.cons (TS.assignC ok hfm (Src.range ok bs.range ?_))
  walk_at "w"
  refine BC.len hnm (by lia) ?_
  rw [lS]
  refine TEs.nil ⟨0, (n : Int), ⟨.inl ⟨rfl, rfl⟩, by lia, by lia, by lia, by lia⟩, Turns.range (x := "k") rfl (le0 (by lia)) (fun k ys H1 => H1 = H ∧ ∃ ps, ys = strL ps ∧ ps.length ≤ k) ⟨rfl, [], rfl, Nat.le_refl _⟩ ?_ ?_ ?_⟩
  · rintro k ys H1 ⟨_, ps, rfl, hl⟩
    simpa [strL] using hl
  · rintro k ys H1 ⟨e1, ps, rfl, hl⟩ hk2 c' sub hnm'
    obtain rfl : H = H1 := e1.symm
    have ok' := sub.ok
    rw [Int.zero_add] at *
    have hk : k < n := by lia
    show TT c' [some (.glob sa), o1, some (.ref zw), some (.ref zn), some (.int mark), some (.ref i), some (.int secret), some (.ref z), none, none, none, none, none, none, none, none, some (.int (k : Int))] _ _ _
    walk_at "w"
    refine ⟨_, BinI.pow (by lia) (by lia) (by decide), ?_⟩
    obtain ⟨t1, t2⟩ := two_pow (k := k) (by lia)
    refine ⟨_, BinI.div t1 t2, ?_⟩
    walk_at "w"
    refine ⟨_, rfl, fun hb2 => ⟨fun _ => ⟨rfl, ps, rfl, by lia⟩, fun h => (by cases h)⟩, fun hb2 => ⟨fun h => (by cases h), fun _ => ?_⟩⟩
    walk_at "w"
    exact ⟨.str (nam k), Sq.list hnm ⟨by lia, .inl ⟨by lia, atn hk⟩⟩, rfl, ps ++ [nam k], by simp [strL], by simp; lia⟩
  rintro ys H1 ⟨rfl, ps, rfl, hl⟩
  have E1 : Ext H1 (H1 ++ [MO.list (strL ps)]) := (Ext.refl H1).app _
  have gp : (H1 ++ [MO.list (strL ps)])[H1.length]? = some (.list (strL ps)) := get_end
  have V1 := V.ext E1
  have hw1 := E1 _ _ hw
  have hn1 := E1 _ _ hnm
  have d1 := E1 _ _ dt.d
  have hF1 := E1.ins hF
  have hz1 := E1 _ _ hz
  have hP1 := hP.ext E1
  have dt1 : DltAt (H1 ++ [MO.list (strL ps)]) z (vws n w) refs (vws n w).length es := ⟨d1, dt.len, fun k p hk hp => let ⟨t, a, b⟩ := dt.nm k p hk hp; ⟨t, a, E1 _ _ b⟩⟩
  generalize H1 ++ [MO.list (strL ps)] = H2 at *
  generalize H1.length = r at *
  -- total
  refine TB.cons (TS.assign ok hfm rfl (TE.sum ok bs (TE.comp ok (Src.range ok bs.range ?_))))
  walk_at "w"
  refine BC.len hn1 (by lia) ?_
  rw [lS]
  refine TEs.nil ⟨0, (n : Int), ⟨.inl ⟨rfl, rfl⟩, by lia, by lia, by lia, by lia⟩, Turns.range (x := "k") rfl (le0 (by lia)) (fun k ys H3 => H3 = H2 ∧ ys = intL (((List.range k).filter fun j => ps.any (· == nam j)).map w)) ⟨rfl, rfl⟩ ?_ ?_ ?_⟩
  · rintro k ys H3 ⟨_, rfl⟩
    simp only [intL, List.length_map]
    exact Nat.le_trans (List.length_filter_le _ _) (by simp)
  · rintro k ys H3 ⟨e1, rfl⟩ hk2 c' sub hnm'
    obtain rfl : H2 = H3 := e1.symm
    have ok' := sub.ok
    rw [Int.zero_add] at *
    have hk : k < n := by lia
    show TT c' [some (.glob sa), o1, some (.ref zw), some (.ref zn), some (.int mark), some (.ref i), some (.int secret), some (.ref z), some (.ref r), none, none, none, none, none, none, none, some (.int (k : Int))] _ _ _
    walk_at "w"
    refine ⟨.str (nam k), Sq.list hn1 ⟨by lia, .inl ⟨by lia, atn hk⟩⟩, ?_⟩
    walk_at "w"
    refine ⟨_, Cq.inLS gp, fun hb2 => ⟨fun _ => ⟨rfl, ?_⟩, fun h => (by cases h)⟩, fun hb2 => ⟨fun h => (by cases h), fun _ => ?_⟩⟩
    · rw [rng_fil, hb2]; simp
    · walk_at "w"
      refine ⟨.int (w k), Sq.list hw1 ⟨by lia, .inl ⟨by lia, atw hk⟩⟩, rfl, ?_⟩
      rw [rng_fil, hb2]; simp [intL]
  rintro ys H3 ⟨rfl, rfl⟩
  rw [sub0]
  refine BC.sum ok.hh get_end ?_
  have ews : (((List.range n).filter fun j => ps.any (· == nam j)).map w).sum = wsum (vws n w) ps := wsum_v.symm
  rw [ews]
  clear ews
  have E3 : Ext H3 (H3 ++ [MO.list (intL (((List.range n).filter fun j => ps.any (· == nam j)).map w))]) := (Ext.refl H3).app _
  generalize H3 ++ [MO.list (intL (((List.range n).filter fun j => ps.any (· == nam j)).map w))] = H4 at *
  show TB c [some (.glob sa), o1, some (.ref zw), some (.ref zn), some (.int mark), some (.ref i), some (.int secret), some (.ref z), some (.ref r), some (.int (wsum (vws n w) ps)), none, none, none, none, none, none] _ _ _
  have V4 := V1.ext E3
  have iV4 := V4.ins
  have gp4 := E3 _ _ gp
  walk_at "w"
  refine (weight_of_cl dW K.toVoK V4 hnd hln gp4).use (by decide) ?_
  rintro _ H5 ⟨rfl, E5⟩
  walk_at "w"
  refine ⟨false, by show false = !decide _; simp, fun q => (by cases q), fun _ => TB.nil ?_⟩
  have V5 := V4.ext E5
  have iV5 := V5.ins
  have gp5 := E5 _ _ gp4
  walk_at "w"
  refine (allows_cl dA K.toVoK V5 hnd hln gp5).use (by decide) ?_
  rintro _ H6 ⟨rfl, E6⟩
  refine TE.tst (TV.cmp ?_)
  walk_at "w"
  refine ⟨_, rfl, false, ?_, fun q => (by cases q), fun _ => TB.nil ?_⟩
  · show false = !(decide (mark ≤ wsum (vws n w) ps) == decide (mark ≤ wsum (vws n w) ps))
    simp
  have E36 := E3.trans (E5.trans E6)
  have V6 := V5.ext E6
  have gp6 := E6 _ _ gp5
  have hw6 := E36 _ _ hw1
  have hn6 := E36 _ _ hn1
  walk_at "s"
  walk_at "s"
  walk_at "s"
  walk_at "s"
  walk_at "s"
  walk_at "s"
  walk_at "s"
  walk_at "s"
  show TB c [some (.glob sa), o1, some (.ref zw), some (.ref zn), some (.int mark), some (.ref i), some (.int secret), some (.ref z), some (.ref r), some (.int (wsum (vws n w) ps)), some (.str ""), some (.int (-1)), none, none, none, none] _ _ _
  by_cases h : mark ≤ wsum (vws n w) ps
  · refine TB.cons (TS.tryN ok hfm ?_)
    generalize hX : (fun (_ : Addr) (_ : List MV) (_ : ML) (_ : MH) => False) = X
    have okX := ok.wX X
    have hfX : (c.wX X).fm = none := hfm
    have hiX : interactive (c.wX X).env = false := hint
    have iV6 := V6.ins
    walk_at "w"
    refine (vrebuild_cl dR K.toVoR V6 O fer101 (by decide) (E36.ins hF1) gp6 (E36 _ _ hz1) (hP1.ext E36) ⟨E36 _ _ dt1.d, dt1.len, fun k p hk hp => let ⟨t, a, b⟩ := dt1.nm k p hk hp; ⟨t, a, E36 _ _ b⟩⟩ hb hrow (by rw [vws_sum]; have := wsm_bd hwb n; lia) h).use (by decide) ?_
    rintro _ H7 ⟨rfl, E7⟩
    walk_at "w"
    rw [hsec]
    exact law15_3 ok hfm hint L K (V6.ext E7) (E7 _ _ hw6) (E7 _ _ hn6) h1 h4 (.inl ⟨h, rfl, rfl⟩)
  · refine TB.cons (TS.tryA ok hfm ?_)
    generalize hX : (fun (C_1 : Addr) (as : List MV) (m1 : ML) (H1_1 : MH) => _) = X
    have okX := ok.wX X
    have hfX : (c.wX X).fm = none := hfm
    have hiX : interactive (c.wX X).env = false := hint
    have iV6 := V6.ins
    show TB (c.wX X) [some (.glob sa), o1, some (.ref zw), some (.ref zn), some (.int mark), some (.ref i), some (.int secret), some (.ref z), some (.ref r), some (.int (wsum (vws n w) ps)), some (.str ""), some (.int (-1)), none, none, none, none] _ _ _
    walk_at "w"
    refine (vrebuild_x dR K.toVoR V6 hnd hln gp6 (by lia)).use2 (by decide) (fun _ _ h => h.elim) ?_
    rintro C' as H7 ⟨rfl, E7⟩
    subst hX
    refine ⟨takesV K.P.ex K.ve, ?_⟩
    exact law15_3 ok hfm hint L K (V6.ext E7) (E7 _ _ hw6) (E7 _ _ hn6) h1 h4 (.inr ⟨by lia, rfl⟩)
theorem law15_1 (ok : Ok G c 200) (hfm : c.fm = none) (hint : interactive c.env = false) (L : LawK G sa ns) (K : K15 G C CV CS CE) {H : MH} {i kk iF kf d zw zn n : Nat} {mark : Int} {w : Nat → Int} {o1 : Option MV} (V : Vot H CV i kk iF d (vws n w) mark) (O : VOk 101 mark (vws n w))
    (hF : Ins H iF C kf [("prime", .int 101)]) (hw : H[zw]? = some (.list (intL ((List.range n).map w)))) (hnm : H[zn]? = some (.list (strL (nmL n)))) (h1 : 1 ≤ n) (h4 : n ≤ 4) (hwb : ∀ k, 1 ≤ w k ∧ w k ≤ 4) :
    TB c [some (.glob sa), o1, some (.ref zw), some (.ref zn), some (.int mark), some (.ref i), none, none, none, none, none, none, none, none, none, none] k15_1 H (fun fl _ _ => retv fl = .bool true) := by
  have bs := L.bs
  obtain ⟨fD, gD, dD⟩ := K.de
  have iV := V.ins
  have lS : (strL (nmL n)).length = n := by simp [strL, nmL]
  have lV : (vws n w).length = n := by simp [vws]
  unfold k15_1
  walk_at "w"
  have hs0 := md (p := (101 : Int)) (a := cell ns (Int.toNat 6)) (by lia)
  generalize cell ns (Int.toNat 6) % 101 = secret at *
  refine TE.source ok (by decide) K.D.S ?_
  walk_at "w"
  have hk0 := md (p := (10 : Int) ^ (9 : Int).toNat) (a := cell ns (Int.toNat 7)) (by decide)
  have hk1 : (10 : Int) ^ (9 : Int).toNat ≤ 4611686018427387904 := by decide
  generalize (10 : Int) ^ (9 : Int).toNat = tt at *
  refine ⟨_, rfl, hk0.1, by lia, ?_⟩
  refine TEs.nil ?_
  generalize cell ns (Int.toNat 7) % tt = seed at *
  have hsd := md (p := (2147483648 : Int)) (a := seed) (by decide)
  generalize seed % 2147483648 = st at *
  have hsum := wsm_bd hwb n
  have O' := O
  obtain ⟨q1, q2, q3, q4, q5, q6, q7⟩ := O
  rw [vws_sum] at q5 q6
  generalize hH1 : H ++ [MO.ns (srcF st 0)] ++ [.inst CS H.length] = H1
  have E1 : Ext H H1 := by subst hH1; exact ((Ext.refl H).app _).app _
  have iS : Ins H1 (H.length + 1) CS H.length (srcF st 0) := by
    subst hH1
    refine ⟨?_, ?_⟩ <;> simp
  have b1 := (List.getElem?_eq_some_iff.mp hF.2).1
  have b2 := (List.getElem?_eq_some_iff.mp iV.2).1
  refine (vdeal_cl dD K.toVoD (V.ext E1) O' (E1.ins hF) iS (by lia) (by lia) hsd (by decide) (by rw [vws_sum]; lia) hs0.1 hs0.2).use (d' := 200) (by decide) ?_
  rintro _ H2 ⟨z, zs, refs, es, rfl, E2, kz, kP, dt⟩
  have E02 : Ext H H2 := (E1.set (Nat.le_refl _)).trans E2
  have V2 := V.ext E02
  have hF2 := E02.ins hF
  have hw2 := E02 _ _ hw
  have hn2 := E02 _ _ hnm
  generalize hR : drws 101 (mark - 1).toNat st = R at *
  have lR : R.length = (mark - 1).toNat := by rw [← hR, drws_len]
  have bR : Bd (101 : Int) (secret :: R) := by
    intro x hx
    rcases List.mem_cons.mp hx with rfl | hx
    · exact hs0
    · rw [← hR] at hx
      exact drws_bd (by lia) _ _ x hx
  have hrl : refs.length = ((vws n w).map fun p => p.2.toNat).sum := by
    obtain ⟨refs', a1, a2, _⟩ := kP
    rw [kz] at a1
    cases a1
    rw [a2, shs_len]
  show TB c [some (.glob sa), o1, some (.ref zw), some (.ref zn), some (.int mark), some (.ref i), some (.int secret), some (.ref z), none, none, none, none, none, none, none, none] _ _ _
  refine TB.cons (TS.ite (TT.cq (TE.comp ok (Src.list ok ?_))))
  walk_at "w"
  refine ⟨zn, _, _, rfl, hn2, Turns.list (xs := strL (nmL n)) (by lia) (fun k ys H3 => H3 = H2 ∧ k ≤ n ∧ ys = intL ((List.range k).map w)) ⟨rfl, by lia, rfl⟩ ?_ ?_ ?_⟩
  · rintro k ys H3 ⟨rfl, _, rfl⟩
    exact ⟨by simp [intL], hn2⟩
  · rintro k ys H3 v ⟨e3, hk, rfl⟩ hv
    obtain rfl : H2 = H3 := e3.symm
    have hk : k < n := by
      have := (List.getElem?_eq_some_iff.mp hv).1
      lia
    have hv : v = .str (nam k) := by
      unfold strL nmL at hv
      rw [List.getElem?_map, List.getElem?_map, List.getElem?_range hk] at hv
      exact (Option.some.inj hv).symm
    subst hv
    refine ⟨[.str (nam k)], rfl, fun c' sub hnm' => ?_⟩
    have ok' := sub.ok
    refine ⟨fun q => (by cases q), fun _ => ?_⟩
    have hp : (vws n w)[k]? = some (nam k, w k) := by
      unfold vws
      rw [List.getElem?_map, List.getElem?_range hk]; rfl
    obtain ⟨t, x1, hes, x2⟩ := dlt_get q2 dt (by lia) hp
    show TE c' [some (.glob sa), o1, some (.ref zw), some (.ref zn), some (.int mark), some (.ref i), some (.int secret), some (.ref z), none, none, none, none, none, none, none, none, some (.str (nam k))] _ _ _
    walk_at "w"
    refine ⟨_, Sq.dS dt.d hes, ?_⟩
    have ol := off_le hp
    rw [← hrl] at ol
    have ll : ((refs.drop (off (vws n w) k)).take (w k).toNat).length = (w k).toNat := by rw [List.length_take, List.length_drop]; lia
    have := hwb k
    refine BC.len x2 (by rw [ll]; lia) ?_
    rw [ll]
    refine ⟨rfl, by lia, ?_⟩
    have e : (((w k).toNat : Nat) : Int) = w k := by lia
    rw [e, List.range_succ, List.map_append]
    simp [intL]
  rintro ys H3 ⟨rfl, _, rfl⟩
  walk_at "w"
  rw [lS]
  have E3 : Ext H3 (H3 ++ [MO.list (intL ((List.range n).map w))]) := (Ext.refl H3).app _
  refine ⟨_, Cq.neI ok get_end (get_app hw2), fun q => (by simp at q), fun _ => TB.nil ?_⟩
  refine law15_2 ok hfm hint L K (V2.ext E3) O' (E3.ins hF2) (E3 _ _ hw2) (E3 _ _ hn2) h1 h4 hwb (E3 _ _ kz) (kP.ext E3) ⟨E3 _ _ dt.d, dt.len, fun k p hk hp => let ⟨t, a, b⟩ := dt.nm k p hk hp; ⟨t, a, E3 _ _ b⟩⟩ bR (by simp [lR]; lia) ?_
  show (pval 101 R 0 * 0 + secret) % 101 = secret
  rw [Int.mul_zero, Int.zero_add]
  exact Int.emod_eq_of_lt hs0.1 hs0.2
theorem law15_walk (ok : Ok G c 200) (hfm : c.fm = none) (hint : interactive c.env = false) (L : LawK G sa ns) (K : K15 G C CV CS CE) :
    TB c [some (.glob sa), none, none, none, none, none, none, none, none, none, none, none, none, none, none, none] k15_law [] (fun fl _ _ => retv fl = .bool true) := by
  have bs := L.bs
  unfold k15_law
  refine TB.cons (TS.assign ok hfm rfl (TE.field ok (by decide) K.F ?_))
  walk_at "w"
  refine ⟨101, rfl, isP101, by decide, ?_⟩
  generalize hH0 : ([] ++ [MO.ns [("prime", .int (101 : Int))]] ++ [.inst C ([] : MH).length] : MH) = H0
  have iF : Ins H0 1 C 0 [("prime", .int (101 : Int))] := by subst hH0; exact ⟨rfl, rfl⟩
  show TB c [some (.glob sa), some (.ref 1), none, none, none, none, none, none, none, none, none, none, none, none, none, none] _ _ _
  refine TB.cons (TS.assignC ok hfm (Src.range ok bs.range ?_))
  walk_at "w"
  obtain ⟨n, hn, h1, h4⟩ : ∃ n : Nat, 1 + cell ns (Int.toNat 0) % 4 = (n : Int) ∧ 1 ≤ n ∧ n ≤ 4 := ⟨(1 + cell ns (Int.toNat 0) % 4).toNat, by lia, by lia, by lia⟩
  rw [hn]
  obtain ⟨w, ew⟩ : ∃ w : Nat → Int, w = fun k => 1 + cell ns (1 + k) % 4 := ⟨_, rfl⟩
  have hwb : ∀ k, 1 ≤ w k ∧ w k ≤ 4 := fun k => by rw [ew]; dsimp only; lia
  refine ⟨0, (n : Int), ⟨.inl ⟨rfl, rfl⟩, by lia, by lia, by lia, by lia⟩, Turns.range (x := "k") rfl (le0 (by lia)) (fun k ys H1 => H1 = H0 ∧ ys = intL ((List.range k).map w)) ⟨rfl, rfl⟩ ?_ ?_ ?_⟩
  · rintro k ys H1 ⟨_, rfl⟩
    simp [intL]
  · rintro k ys H1 ⟨e1, rfl⟩ hk2 c' sub hnm'
    obtain rfl : H0 = H1 := e1.symm
    have ok' := sub.ok
    refine ⟨fun q => (by cases q), fun _ => ?_⟩
    rw [Int.zero_add] at *
    show TE c' [some (.glob sa), some (.ref 1), none, none, none, none, none, none, none, none, none, none, none, none, none, none, some (.int (k : Int))] _ _ _
    walk_at "w"
    refine ⟨rfl, ?_⟩
    have e : ((1 : Int) + (k : Int)).toNat = 1 + k := by lia
    rw [e, List.range_succ, ew]
    simp [intL]
  rintro ys H1 ⟨rfl, rfl⟩
  rw [sub0]
  have E1 : Ext H1 (H1 ++ [MO.list (intL ((List.range n).map w))]) := (Ext.refl H1).app _
  have hw1 : (H1 ++ [MO.list (intL ((List.range n).map w))])[H1.length]? = some (.list (intL ((List.range n).map w))) := get_end
  have iF1 := E1.ins iF
  generalize H1 ++ [MO.list (intL ((List.range n).map w))] = H2 at *
  generalize H1.length = zw at *
  show TB c [some (.glob sa), some (.ref 1), some (.ref zw), none, none, none, none, none, none, none, none, none, none, none, none, none] _ _ _
  refine TB.cons (TS.assignC ok hfm (Src.range ok bs.range ?_))
  walk_at "w"
  have lI : (intL ((List.range n).map w)).length = n := by simp [intL]
  refine BC.len hw1 (by lia) ?_
  rw [lI]
  refine TEs.nil ⟨0, (n : Int), ⟨.inl ⟨rfl, rfl⟩, by lia, by lia, by lia, by lia⟩, Turns.range (x := "k") rfl (le0 (by lia)) (fun k ys H3 => H3 = H2 ∧ ys = strL (nmL k)) ⟨rfl, rfl⟩ ?_ ?_ ?_⟩
  · rintro k ys H3 ⟨_, rfl⟩
    simp [strL, nmL]
  · rintro k ys H3 ⟨e1, rfl⟩ hk2 c' sub hnm'
    obtain rfl : H2 = H3 := e1.symm
    have ok' := sub.ok
    refine ⟨fun q => (by cases q), fun _ => ?_⟩
    rw [Int.zero_add] at *
    show TE c' [some (.glob sa), some (.ref 1), some (.ref zw), none, none, none, none, none, none, none, none, none, none, none, none, none, some (.int (k : Int))] _ _ _
    walk_at "w"
    refine ⟨.str (nam k), Sq.str (by lia) (by decide) (by rw [Int.toNat_natCast]; exact abcd_at k (by lia)), rfl, ?_⟩
    unfold nmL
    rw [List.range_succ]
    simp [strL]
  rintro ys H3 ⟨rfl, rfl⟩
  rw [sub0]
  have E3 : Ext H3 (H3 ++ [MO.list (strL (nmL n))]) := (Ext.refl H3).app _
  have hn3 : (H3 ++ [MO.list (strL (nmL n))])[H3.length]? = some (.list (strL (nmL n))) := get_end
  have iF3 := E3.ins iF1
  have hw3 := E3 _ _ hw1
  generalize H3 ++ [MO.list (strL (nmL n))] = H4 at *
  generalize H3.length = zn at *
  show TB c [some (.glob sa), some (.ref 1), some (.ref zw), some (.ref zn), none, none, none, none, none, none, none, none, none, none, none, none] _ _ _
  have hsum := wsm_bd hwb n
  walk_at "w"
  refine BC.sum ok.hh hw3 ?_
  refine ⟨_, BinI.modP (by lia), ?_⟩
  have hm := md (p := ((List.range n).map w).sum) (a := cell ns (Int.toNat 5)) (by lia)
  walk_at "w"
  generalize hmk : 1 + cell ns (Int.toNat 5) % ((List.range n).map w).sum = mark at *
  have O : VOk 101 mark (vws n w) := by
    refine ⟨fun q hq => ?_, by rw [vws_names]; exact nmL_nodup, fun q hq => ?_, by lia, by rw [vws_sum]; lia, by rw [vws_sum]; lia, by simp [vws]; lia⟩
    · obtain ⟨k, hk, rfl⟩ := List.mem_map.mp hq
      exact nam_ok k (by have := List.mem_range.mp hk; lia)
    · obtain ⟨k, hk, rfl⟩ := List.mem_map.mp hq
      have := hwb k
      exact ⟨this.1, by dsimp only; lia⟩
  refine TE.voters ok (by decide) K.toVoC ?_
  have lS : (strL (nmL n)).length = n := by simp [strL, nmL]
  walk_at "s"
  refine TE.comp ok (Src.range ok bs.range ?_)
  walk_at "w"
  refine BC.len hn3 (by lia) ?_
  rw [lS]
  refine TEs.nil ⟨0, (n : Int), ⟨.inl ⟨rfl, rfl⟩, by lia, by lia, by lia, by lia⟩, Turns.range (x := "k") rfl (le0 (by lia)) (fun k ys H5 => Ext H4 H5 ∧ ys.length = k ∧ ∀ j, j < k → ∃ t, ys[j]? = some (.ref t) ∧ H5[t]? = some (.tup [.str (nam j), .int (w j)])) ⟨Ext.refl _, rfl, fun j hj => by lia⟩ ?_ ?_ ?_⟩
  · rintro k ys H5 ⟨_, h, _⟩
    lia
  · rintro k ys H5 ⟨E5, hl, hk⟩ hk2 c' sub hnm'
    have ok' := sub.ok
    refine ⟨fun q => (by cases q), fun _ => ?_⟩
    rw [Int.zero_add] at *
    have hkn : k < n := by lia
    show TE c' [some (.glob sa), some (.ref 1), some (.ref zw), some (.ref zn), some (.int mark), none, none, none, none, none, none, none, none, none, none, none, some (.int (k : Int))] _ _ _
    have hlI : (intL ((List.range n).map w)).length = n := by simp [intL]
    walk_at "w"
    refine ⟨.str (nam k), Sq.list (E5 _ _ hn3) ⟨by lia, .inl ⟨by lia, ?_⟩⟩, ?_⟩
    · unfold strL nmL
      rw [Int.toNat_natCast, List.getElem?_map, List.getElem?_map, List.getElem?_range hkn]; rfl
    walk_at "w"
    refine ⟨.int (w k), Sq.list (E5 _ _ hw3) ⟨by lia, .inl ⟨by lia, ?_⟩⟩, ?_⟩
    · rw [Int.toNat_natCast, List.getElem?_map, List.getElem?_map, List.getElem?_range hkn]; rfl
    refine TEs.nil ⟨Nat.le_of_ble_eq_true rfl, E5.app _, by simp [hl], fun j hj => ?_⟩
    by_cases e : j = k
    · subst e
      exact ⟨H5.length, by rw [← hl]; simp, get_end⟩
    · obtain ⟨t, q1, q2⟩ := hk j (by lia)
      exact ⟨t, by rw [List.getElem?_append_left (by lia)]; exact q1, get_app q2⟩
  rintro ys H5 ⟨E5, hl, hk⟩
  rw [sub0] at hl hk
  have E6 : Ext H5 (H5 ++ [MO.list ys]) := (Ext.refl H5).app _
  have E46 := E5.trans E6
  walk_at "s"
  refine ⟨1, 0, H5.length, 101, mark, vws n w, rfl, rfl, rfl, E46.ins iF3, ⟨ys, get_end, by simp [vws, hl], fun k p hp => ?_⟩, O, fun H' E' V' => ?_⟩
  · have hkn : k < n := by
      have := (List.getElem?_eq_some_iff.mp hp).1
      simpa [vws] using this
    unfold vws at hp
    rw [List.getElem?_map, List.getElem?_range hkn] at hp
    cases hp
    obtain ⟨t, q1, q2⟩ := hk k hkn
    exact ⟨t, q1, get_app q2⟩
  exact law15_1 ok hfm hint L K V' O ((E46.trans E').ins iF3) (E' _ _ (E46 _ _ hw3)) (E' _ _ (E46 _ _ hn3)) h1 h4 hwb
end
noncomputable def scrEx (a : Addr) (ns : List Int) : Heap → Prop := fun h => ∃ vs : List Value, h.IsList a vs.toArray ∧ IntsAre vs ns ∧ ns.length ≤ 63
section
variable {G : Gx} {P : Params} (h : G.K = _root_.Mine.hd.heap_1 P)
include h
theorem z_bs : Bs G := by
  constructor <;> (rw [h]; kernel_rfl)
theorem z_f_shown : ∃ f, GFn G "shown" f ∧ GDef G f ["value"] k_shown_nm k_shown [] := by
  refine ⟨41, GFn.of ?_, GDef.of ?_ ?_⟩
  all_goals (rw [h]; kernel_rfl)
theorem z_f_need_number : ∃ f, GFn G "need_number" f ∧ GDef G f ["value", "least", "most", "what"] k_need_number_nm k_need_number [] := by
  refine ⟨48, GFn.of ?_, GDef.of ?_ ?_⟩
  all_goals (rw [h]; kernel_rfl)
theorem z_f_need_name : ∃ f, GFn G "need_name" f ∧ GDef G f ["text"] k_need_name_nm k_need_name [] := by
  refine ⟨55, GFn.of ?_, GDef.of ?_ ?_⟩
  all_goals (rw [h]; kernel_rfl)
theorem z_f_is_prime : ∃ f, GFn G "is_prime" f ∧ GDef G f ["n"] k_is_prime_nm k_is_prime [] := by
  refine ⟨62, GFn.of ?_, GDef.of ?_ ?_⟩
  all_goals (rw [h]; kernel_rfl)
theorem z_f_product : ∃ f, GFn G "product" f ∧ GDef G f ["field", "one", "two"] k_product_nm k_product [] := by
  refine ⟨165, GFn.of ?_, GDef.of ?_ ?_⟩
  all_goals (rw [h]; kernel_rfl)
theorem z_f_plus : ∃ f, GFn G "plus" f ∧ GDef G f ["field", "one", "two"] k_plus_nm k_plus [] := by
  refine ⟨158, GFn.of ?_, GDef.of ?_ ?_⟩
  all_goals (rw [h]; kernel_rfl)
theorem z_f_trimmed : ∃ f, GFn G "trimmed" f ∧ GDef G f ["row"] k_trimmed_nm k_trimmed [] := by
  refine ⟨153, GFn.of ?_, GDef.of ?_ ?_⟩
  all_goals (rw [h]; kernel_rfl)
theorem z_f_through : ∃ f, GFn G "through" f ∧ GDef G f ["field", "points"] k_through_nm k_through [] := by
  refine ⟨170, GFn.of ?_, GDef.of ?_ ?_⟩
  all_goals (rw [h]; kernel_rfl)
theorem z_f_value : ∃ f, GFn G "value" f ∧ GDef G f ["field", "row", "x"] k_value_nm k_value [] := by
  refine ⟨146, GFn.of ?_, GDef.of ?_ ?_⟩
  all_goals (rw [h]; kernel_rfl)
theorem z_f_need_counts : ∃ f, GFn G "need_counts" f ∧ GDef G f ["field", "needed", "count"] k_need_counts_nm k_need_counts [] := by
  refine ⟨177, GFn.of ?_, GDef.of ?_ ?_⟩
  all_goals (rw [h]; kernel_rfl)
theorem z_f_shares_of : ∃ f, GFn G "shares_of" f ∧ GDef G f ["field", "row", "count"] k_shares_of_nm k_shares_of [] := by
  refine ⟨189, GFn.of ?_, GDef.of ?_ ?_⟩
  all_goals (rw [h]; kernel_rfl)
theorem z_f_need_shares : ∃ f, GFn G "need_shares" f ∧ GDef G f ["field", "shares"] k_need_shares_nm k_need_shares [] := by
  refine ⟨196, GFn.of ?_, GDef.of ?_ ?_⟩
  all_goals (rw [h]; kernel_rfl)
theorem z_f_value_at : ∃ f, GFn G "value_at" f ∧ GDef G f ["field", "shares", "needed", "x"] k_value_at_nm k_value_at [] := by
  refine ⟨210, GFn.of ?_, GDef.of ?_ ?_⟩
  all_goals (rw [h]; kernel_rfl)
theorem z_f_law_cell : ∃ f, GFn G "_law_cell" f ∧ GDef G f ["script", "k"] k_law_cell_nm k_law_cell [] := by
  refine ⟨309, GFn.of ?_, GDef.of ?_ ?_⟩
  all_goals (rw [h]; kernel_rfl)
theorem z_m_Field_power : ∃ f, GMth G 135 "power" f ∧ GDef G f ["self", "a", "n"] k_Field_power_nm k_Field_power [] := by
  refine ⟨111, GMth.of ?_, GDef.of ?_ ?_⟩
  all_goals (rw [h]; kernel_rfl)
theorem z_m_Field_inverse : ∃ f, GMth G 135 "inverse" f ∧ GDef G f ["self", "a"] k_Field_inverse_nm k_Field_inverse [] := by
  refine ⟨118, GMth.of ?_, GDef.of ?_ ?_⟩
  all_goals (rw [h]; kernel_rfl)
theorem z_m_Field_over : ∃ f, GMth G 135 "over" f ∧ GDef G f ["self", "a", "b"] k_Field_over_nm k_Field_over [] := by
  refine ⟨125, GMth.of ?_, GDef.of ?_ ?_⟩
  all_goals (rw [h]; kernel_rfl)
theorem z_m_Field_need : ∃ f, GMth G 135 "need" f ∧ GDef G f ["self", "a"] k_Field_need_nm k_Field_need [] := by
  refine ⟨83, GMth.of ?_, GDef.of ?_ ?_⟩
  all_goals (rw [h]; kernel_rfl)
theorem z_m_Source_draw : ∃ f, GMth G 298 "draw" f ∧ GDef G f ["self", "below"] k_Source_draw_nm k_Source_draw [] := by
  refine ⟨290, GMth.of ?_, GDef.of ?_ ?_⟩
  all_goals (rw [h]; kernel_rfl)
theorem z_m_Source_row : ∃ f, GMth G 298 "row" f ∧ GDef G f ["self", "count", "below"] k_Source_row_nm k_Source_row [] := by
  refine ⟨295, GMth.of ?_, GDef.of ?_ ?_⟩
  all_goals (rw [h]; kernel_rfl)
theorem z_m_Voters_names : ∃ f, GMth G 265 "names" f ∧ GDef G f ["self"] k_Voters_names_nm k_Voters_names [] := by
  refine ⟨231, GMth.of ?_, GDef.of ?_ ?_⟩
  all_goals (rw [h]; kernel_rfl)
theorem z_m_Voters_weight_of : ∃ f, GMth G 265 "weight_of" f ∧ GDef G f ["self", "present"] k_Voters_weight_of_nm k_Voters_weight_of [] := by
  refine ⟨236, GMth.of ?_, GDef.of ?_ ?_⟩
  all_goals (rw [h]; kernel_rfl)
theorem z_m_Voters_allows : ∃ f, GMth G 265 "allows" f ∧ GDef G f ["self", "present"] k_Voters_allows_nm k_Voters_allows [] := by
  refine ⟨243, GMth.of ?_, GDef.of ?_ ?_⟩
  all_goals (rw [h]; kernel_rfl)
theorem z_m_Voters_deal : ∃ f, GMth G 265 "deal" f ∧ GDef G f ["self", "secret", "source"] k_Voters_deal_nm k_Voters_deal [] := by
  refine ⟨250, GMth.of ?_, GDef.of ?_ ?_⟩
  all_goals (rw [h]; kernel_rfl)
theorem z_m_Voters_rebuild : ∃ f, GMth G 265 "rebuild" f ∧ GDef G f ["self", "dealt", "present"] k_Voters_rebuild_nm k_Voters_rebuild [] := by
  refine ⟨257, GMth.of ?_, GDef.of ?_ ?_⟩
  all_goals (rw [h]; kernel_rfl)
theorem z_m_Voters_decisive : ∃ f, GMth G 265 "decisive" f ∧ GDef G f ["self"] k_Voters_decisive_nm k_Voters_decisive [] := by
  refine ⟨262, GMth.of ?_, GDef.of ?_ ?_⟩
  all_goals (rw [h]; kernel_rfl)
theorem z_c_Field : ∃ f, GCls G "Field" 135 f ∧ GDef G f ["self", "prime"] k_Field_init_nm k_Field_init [] := by
  refine ⟨76, GCls.of ?_, GDef.of ?_ ?_⟩
  all_goals (rw [h]; kernel_rfl)
theorem z_c_Source : ∃ f, GCls G "Source" 298 f ∧ GDef G f ["self", "seed"] k_Source_init_nm k_Source_init [] := by
  refine ⟨283, GCls.of ?_, GDef.of ?_ ?_⟩
  all_goals (rw [h]; kernel_rfl)
theorem z_c_Voters : ∃ f, GCls G "Voters" 265 f ∧ GDef G f ["self", "field", "rows", "mark"] k_Voters_init_nm k_Voters_init [] := by
  refine ⟨224, GCls.of ?_, GDef.of ?_ ?_⟩
  all_goals (rw [h]; kernel_rfl)
theorem z_a_Field_prime : GAtt G 135 "prime" := GAtt.of (by rw [h]; kernel_rfl)
theorem z_s_Field_prime : GSto G 135 "prime" := GSto.of (by rw [h]; kernel_rfl)
theorem z_a_Source_state : GAtt G 298 "state" := GAtt.of (by rw [h]; kernel_rfl)
theorem z_s_Source_state : GSto G 298 "state" := GSto.of (by rw [h]; kernel_rfl)
theorem z_a_Source_drawn : GAtt G 298 "drawn" := GAtt.of (by rw [h]; kernel_rfl)
theorem z_s_Source_drawn : GSto G 298 "drawn" := GSto.of (by rw [h]; kernel_rfl)
theorem z_a_Voters_field : GAtt G 265 "field" := GAtt.of (by rw [h]; kernel_rfl)
theorem z_s_Voters_field : GSto G 265 "field" := GSto.of (by rw [h]; kernel_rfl)
theorem z_a_Voters_weights : GAtt G 265 "weights" := GAtt.of (by rw [h]; kernel_rfl)
theorem z_s_Voters_weights : GSto G 265 "weights" := GSto.of (by rw [h]; kernel_rfl)
theorem z_a_Voters_mark : GAtt G 265 "mark" := GAtt.of (by rw [h]; kernel_rfl)
theorem z_s_Voters_mark : GSto G 265 "mark" := GSto.of (by rw [h]; kernel_rfl)
theorem z_e_ShareError : GExc G "ShareError" 31 bmV := GExc.of (by rw [h]; kernel_rfl)
theorem z_i_GREATEST : ∃ t, nsIn G.K mainGlobals "GREATEST" = some (some (.int 1048576 t)) := isSomeInt_eq (by rw [h]; kernel_rfl)
theorem z_i_MOST : ∃ t, nsIn G.K mainGlobals "MOST" = some (some (.int 200 t)) := isSomeInt_eq (by rw [h]; kernel_rfl)
theorem z_t_LETTERS : ∃ t, nsIn G.K mainGlobals "LETTERS" = some (some (.str LETS t)) := isSomeStr_eq (by rw [h]; kernel_rfl)
theorem z_t_DIGITS : ∃ t, nsIn G.K mainGlobals "DIGITS" = some (some (.str DIGS t)) := isSomeStr_eq (by rw [h]; kernel_rfl)
theorem z_n_ValueError : nsIn G.K mainGlobals "ValueError" = some none := by rw [h]; kernel_rfl
theorem z_law {sa : Addr} {ns : List Int} (e : G.ex = scrEx sa ns) : LawK G sa ns := ⟨z_bs h, fun h x => by rw [e] at x; exact x, z_f_law_cell h⟩
theorem z_field : FieldK G 135 := ⟨z_c_Field h, z_f_need_number h, z_f_is_prime h, z_a_Field_prime h, z_s_Field_prime h, z_i_GREATEST h, z_bs h⟩
theorem z_need : NeedK G 31 := ⟨z_bs h, z_f_shown h, z_f_need_number h, z_e_ShareError h⟩
theorem z_src : SrcK G 298 := ⟨z_bs h, z_f_need_number h, z_c_Source h, z_a_Source_state h, z_a_Source_drawn h, z_s_Source_state h, z_s_Source_drawn h, z_m_Source_draw h⟩
theorem z_deal : DealK G 135 298 31 := ⟨z_need h, z_src h, z_a_Field_prime h, z_m_Field_need h, z_f_need_counts h, z_i_MOST h, z_m_Source_row h, z_f_shares_of h, z_f_value h⟩
theorem z_thr : ThrK G 135 := ⟨z_bs h, z_a_Field_prime h, z_m_Field_power h, z_m_Field_inverse h, z_m_Field_over h, z_f_product h, z_f_plus h, z_f_trimmed h⟩
theorem z_name : NameK G := ⟨z_bs h, z_t_LETTERS h, z_t_DIGITS h, z_f_need_name h⟩
theorem z_pol : PolK G 135 31 := ⟨z_need h, z_thr h, z_m_Field_need h, z_i_MOST h, z_f_value h, z_f_through h, z_f_need_shares h⟩
theorem z_f_deal_polynomial : ∃ f, GFn G "deal_polynomial" f ∧ GDef G f ["field", "secret", "needed", "count", "source"] k_deal_nm k_deal [] := by
  refine ⟨184, GFn.of ?_, GDef.of ?_ ?_⟩
  all_goals (rw [h]; kernel_rfl)
theorem z_f_rebuild_polynomial : ∃ f, GFn G "rebuild_polynomial" f ∧ GDef G f ["field", "shares", "needed"] k_rebuild_nm k_rebuild [] := by
  refine ⟨203, GFn.of ?_, GDef.of ?_ ?_⟩
  all_goals (rw [h]; kernel_rfl)
theorem z_K : K15 G 135 265 298 31 := ⟨⟨⟨⟨⟨z_bs h, z_a_Voters_field h, z_a_Voters_weights h, z_a_Voters_mark h, z_m_Voters_weight_of h, z_m_Voters_allows h, z_m_Voters_names h⟩, z_c_Voters h, z_s_Voters_field h, z_s_Voters_weights h, z_s_Voters_mark h, z_f_need_number h, z_name h, z_a_Field_prime h⟩, z_deal h, z_f_deal_polynomial h⟩, z_pol h, z_f_rebuild_polynomial h, z_f_value_at h⟩, z_field h, z_m_Voters_deal h, z_m_Voters_rebuild h, z_m_Voters_decisive h, z_n_ValueError h⟩
end
end Mine
theorem PySem.Challenge.cw_ui0506_15_holds : PySem.Challenge.rw_ui0506_15.Holds := by
  refine _root_.Mine.hd ?_
  intro w s₀ s₁ mg mb G Y fa o pm cd doc dV kV ho hd hcd hD hmg hg args vals as hpre hlay hrd hwl hlo
  have KX := kIn_of Y
  refine Ground.open G ?_
  intro T B D TE TW
  wrow_args hpre hlay hrd hwl hlo
  refine enter_call ?_
  have e0 := hD.none rfl
  subst e0
  refine Mine.law_entry 200 (by decide) (G := ⟨_root_.Mine.hd.heap_1 w.params, _, _, _, mg, mb, Mine.scrEx _ _⟩) (x := "script") (nm := Mine.k15_law_nm) (k := Mine.k15_law) KX ⟨_, by assumption, by assumption, by omega⟩ T ho hd hcd rfl rfl rfl rfl ?_ ?_ ?_ ?_ ?_ ?_
  · exact BindsTo.of_eq (Mine.bind_plain rfl rfl (show List.Nodup [("script" : Str)] by simp) rfl)
  · kernel_rfl
  · kernel_rfl
  · kernel_rfl
  · intro c e1 e2 e3 ok hfm hint hnm hX
    exact Mine.law15_walk ok hfm hint (Mine.z_law rfl rfl) (Mine.z_K rfl)
  · intro L m h' tk F
    exact GoodW.toG (goodW_bool F hg (fun cls => rfl) (postW_of rfl rfl (by simp [W.same])))
