import PyProof.Rows.All
import Wide.All
import OpenK.AllK
import Wide.FinOn
import KE.BitLaws
import KE.KEqSeq
import PyProof.ExcBaseAll.ValueError
import KE.KDictOf
import KE.KDictSum
import KE.KItemsList
import KE.KSortTup
import KE.KIntText
import PyProof.StrLawsChain
import KE.KWords
import PyProof.Rows.SortStr
import PyProof.Rows.SortShellK
import Lean
import PySem.Challenge.RW_ui0506_21
open PySem PySem.W PyProof.Rows PySem.Calls PySem.Spec
set_option Elab.async false
set_option linter.unusedVariables false
set_option maxRecDepth 100000
set_option maxHeartbeats 8000000
set_option genSizeOf false
set_option genInjectivity false
set_option compiler.extract_closed false
set_option tactic.hygienic false
namespace Mine
open List (mem_cons mem_append getElem?_append_left length_cons length_set getElem?_set_ne append_assoc append_nil mem_append_left mem_append_right mem_of_getElem? getElem?_eq_getElem mem_singleton mem_map getElem?_append_right nodup_append getElem?_set_self mem_map_of_mem map_cons map_append map_congr_left of_mem_zip cons_append nodup_cons zip_cons_cons lookup_cons all_eq_true pairwise_map length_take length_append length_map getElem?_map nil_append any_cons size_toArray perm_middle length_reverse take_of_length_le foldl_cons length_singleton isEmpty_iff map_nil length_nil take_length getD_eq_getElem?_getD eq_nil_of_length_eq_zero pairwise_cons map_map getElem?_take length_eq_one_iff range_succ mem_range take_succ getElem?_drop getElem?_range nodup_range mem_filter length_drop)
noncomputable def runQ (p:Program) (w:World) (n₀:Nat) (ann:Option Value):Nat->SharedT->Thread->Option SharedT
 | 0,_,_=>none
 | n+1,s,t=>match through t with
   | true=>some s
   | false=>match Fast.tw6613529449190102663 n₀ ann t with
     | false=>none
     | true=>match Fast.tw10156331382660048174 (Fast.tw11892475500146522536 Fast.tw14364793385576792824) p w s t with
       | some (s',t')=>runQ p w n₀ ann n s' t'
       | none=>none
theorem zl {a b:Prop} (h:a/\b):a:=h.1
theorem zr {a b:Prop} (h:a/\b):b:=h.2
theorem zlb {a b:Nat} (h:Nat.ble a b=true):a<=b:=Nat.le_of_ble_eq_true h
theorem zgs {α:Type} {l:List α} {i:Nat} {a:α} (h:l[i]?=some a):∃h:i<l.length,l[i]=a:=List.getElem?_eq_some_iff.mp h
theorem zba {a b:Bool} (h:(a && b)=true):a=true/\b=true:=Bool.and_eq_true_iff.mp h
theorem zmc {α:Type} {a b:α} {l:List α} (h:a ∈ b :: l):a=b\/a ∈ l:=mem_cons.mp h
theorem zma {α:Type} {a:α} {l r:List α} (h:a ∈ l++r):a ∈ l\/a ∈ r:=mem_append.mp h
theorem yvj:denote treeTable=Fast.tw11892475500146522536 Fast.tw14364793385576792824:=by
 rw [<-Fast.te11892475500146522536,<-Fast.te14364793385576792824]
theorem yrt {p:Program} {w:World} {n₀:Nat} {ann:Option Value}:∀{n:Nat} {s s':SharedT} {t:Thread},runQ p w n₀ ann n s t=some s'->topRun treeTable p w n₀ ann n s.abs t=some s'.abs:=by
 intro zd
 induction zd with
 | zero=>
  exact fun {zz} {zz} {zz} h=>by cases h
 | succ n zih=>
  exact fun {s} {s'} {t} h=>by
   dsimp only [runQ] at h;unfold topRun;rw [<-yvj,<-Fast.te6613529449190102663,<-Fast.te10156331382660048174] at h;cases ht:through t with
   | true=>rw [ht] at h;cases h;rfl
   | false=>
     rw [ht] at h;cases hk:stepOk n₀ ann t with
     | false=>rw [hk] at h;cases h
     | true=>
       rw [hk] at h;cases hs:stepT (denote treeTable) p w s t with
       | none=>rw [hs] at h;cases h
       | some r=>obtain ⟨s₂,t₂⟩:=r;rw [hs] at h;rw [stepT_spec hs];exact zih h
noncomputable def ygt:List Obj->Nat->BT->Option BT
 | [],_,t=>some t
 | o :: r,n,t=>match ((t.ins n o).get n).isSome with
   | true=>ygt r (n+1) (t.ins n o)
   | false=>none
theorem yor {life:Life}:∀{l pre:List Obj} {n:Nat} {t t':BT},ygt l n t=some t'->absHeap t n life=⟨pre.toArray,life⟩->absHeap t' (n+l.length) life=⟨(pre++l).toArray,life⟩:=by
 intro zd
 induction zd with
 | nil=>
  exact fun {pre} {n} {t} {t'} h e=>by cases h;simpa using e
 | cons o r zih=>
  exact fun {pre} {n} {t} {t'} h e=>by
   dsimp only [ygt] at h;cases hk:((t.ins n o).get n).isSome with
   | false=>rw [hk] at h;cases h
   | true=>
     rw [hk] at h;have h1:=absHeap_ins (life:=life) hk;rw [e] at h1;have h2:=zih (pre:=pre++[o]) h (h1.trans (by simp [Heap.push]));have e1:n+1+r.length=n+(o :: r).length:=by simp;omega
     rw [e1] at h2;rw [h2];simp
theorem yl6 {h:Heap} {t:BT} (e:ygt h.objs.toList 0 .nil=some t):absHeap t h.objs.size h.life=h:=by
 have:=yor (life:=h.life) (pre:=[]) e (by simp [absHeap,BT.list]);simpa using this
theorem left_quick {p q:Program} {loose:List Str} {Xt:Shared->Bool} {α:Type} {Yf:Shared->α} {Ya:World->α} {N:Nat} {g0:Bool}
   (h:∀w:World,((Fast.tw10274390034422433532 Fast.tw14364793385576792824 (opening p) w N (Fast.tw1435165496053646825 (opening p)).1 (Fast.tw1435165496053646825 (opening p)).2).bind (Fast.tw14289696077712309145 p)).bind (fun s₀=>
     match s₀.heap.isNs mainGlobals && s₀.gens.size==0 with
     | true=>(ygt s₀.heap.objs.toList 0 .nil).bind fun T=>(runQ p w s₀.heap.objs.size (Fast.tw8920871248978507458 s₀.heap mainGlobals "__annotations__") N ⟨T,s₀.heap.objs.size,s₀.heap.life,s₀.gens,s₀.drawn,s₀.toks,s₀.os⟩ (topStub p)).bind fun S₁=>
       match staticsOk (Fast.tw5923862056798008813 p.main.body) s₀.heap S₁.abs.heap && namesBound p S₁.abs.heap && gensDone S₁.abs && laidKept s₀.heap S₁.abs.heap with
       | true=>some (Fast.tw4187177175401517315 q loose (Fast.tw5923862056798008813 p.main.body) Xt g0 S₁.abs,Yf S₁.abs)
       | false=>none
     | false=>none)=some (openGood q loose,Ya w)):LeftO p q loose Xt Yf Ya N g0:=by
 intro w;have h:=h w;rw [<-Fast.te10274390034422433532,<-Fast.te14364793385576792824,<-Fast.te1435165496053646825,<-Fast.te14289696077712309145,<-Fast.te8920871248978507458,<-Fast.te5923862056798008813,<-Fast.te4187177175401517315] at h;obtain ⟨s₀,h0,h⟩:=Option.bind_eq_some_iff.mp h;unfold openEnds fencedOpening;rw [h0];show Option.map _ (topFrom treeTable p w N s₀)=_;unfold topFrom;cases hg:s₀.heap.isNs mainGlobals && s₀.gens.size==0 with
 | false=>rw [hg] at h;cases h
 | true=>
   rw [hg] at h;obtain ⟨T,hT,h⟩:=Option.bind_eq_some_iff.mp h;obtain ⟨S₁,hS,h⟩:=Option.bind_eq_some_iff.mp h;have e:=yrt hS;have ea:(SharedT.mk T s₀.heap.objs.size s₀.heap.life s₀.gens s₀.drawn s₀.toks s₀.os).abs=s₀:=by
     unfold SharedT.abs;rw [yl6 hT]
   rw [ea] at e;rw [e];show Option.map _ (match staticsOk (importedModules p.main.body) s₀.heap S₁.abs.heap && namesBound p S₁.abs.heap && gensDone S₁.abs && laidKept s₀.heap S₁.abs.heap with | true=>some S₁.abs | false=>none)=_;cases hk:staticsOk (importedModules p.main.body) s₀.heap S₁.abs.heap && namesBound p S₁.abs.heap && gensDone S₁.abs && laidKept s₀.heap S₁.abs.heap with
   | false=>rw [hk] at h;cases h
   | true=>rw [hk] at h;exact h
theorem no {α:Type} {a:α} {P:Prop} (h:none=some a):P:=nomatch h
theorem si {α:Type} {a b:α} (h:some a=some b):a=b:=Option.some.inj h
theorem nb {P:Prop} (h:false=true):P:=nomatch h
theorem ns {α:Type} {a:α} {P:Prop} (h:some a=none):P:=nomatch h
theorem nt {P:Prop} (h:true=false):P:=nomatch h
theorem yv1 {a b:Nat}:(b<=a)->(¬(b<a))->(a<=b):=by intros;exact Nat.not_lt.mp ‹_›
theorem ywh {a b c d:Nat}:(a<=d)->(b<=c)->((a+b)<=(c+d)):=by intros;lia
theorem yvd {a b:Nat}:((0:Nat)<b)->(a=b)->((-((2:Int) ^ 62))<=(a:Int)):=by intros;lia
theorem ywe {a:Nat}:(a<=(8:Nat))->((a+a)<=(1000000:Nat)):=by intros;lia
theorem yu6 {a:Nat}:((0:Int)<=((14:Int)+(a:Int))):=by intros;lia
theorem yu3 {a:Nat}:(a<(8:Nat))->(a<(9:Nat)):=by intros;exact Nat.lt_succ_of_lt ‹_›
theorem ywg {a b:Nat}:(a<=(50:Nat))->(b<=(50:Nat))->((a+b)<=(100:Nat)):=by intros;lia
theorem ywn {a:Nat}:(a<=(4:Nat))->(a<=(100:Nat)):=by intros;exact Nat.le_trans ‹_› (by decide)
theorem yvq {a:Nat}:(a=(3:Nat))->(a<=(100:Nat)):=by intros;lia
theorem ywm {a:Int}:((0:Int)<=(a % 2)):=by intros;lia
theorem ywb {a:Int}:((a % 2)<(2:Int)):=by intros;lia
theorem yvw {a:Nat}:((((8:Nat)+((3:Nat)*a))+1)<=((9:Nat)+((3:Nat)*a))):=by intros;lia
theorem yvu {a:Nat}:(((9:Nat)+((3:Nat)*a))<=(((8:Nat)+((3:Nat)*a))+1)):=by intros;lia
theorem ywa {a b c:Nat}:((c+(b+1))<=(1000000:Nat))->(a<=(c+1))->((a+b)<=(1000000:Nat)):=by intros;lia
theorem yv3 {a b:Int}:(a<=b)->(a<b)->((a+1)<=b):=by intros;lia
theorem yvx {a b:Int}:(a<(b+1))->(¬(a=b))->(a<b):=by intros;lia
theorem ywc {a b c:Nat}:(a<=c)->(b=((c+1) - 1))->((max a b)<=c):=by intros;lia
theorem yqp {a b c:Nat}:((c+1)=a)->(a<=b)->((a+(b - a))=b):=by intros;omega
theorem yv6 {a b c d:Nat}:(((c+d)+a)=((c+d)+b))->(a=b):=by intros;lia
theorem ywu {a:Nat}:(a<=(a+a)):=by intros;exact Nat.le_add_right _ _
theorem yws {a b:Nat}:(((9:Nat)+((3:Nat)*a))<=b)->(((9:Nat)+((3:Nat)*a))<=(b+1)):=by intros;exact Nat.le_succ_of_le ‹_›
theorem ywd {a b:Int}:(b<a)->(¬(a<b)):=by intros;lia
theorem yvz {a b:Nat}:((a+b)<=(a+b)):=by intros;exact Nat.le_refl _
theorem ywl {a b:Nat} {c:Prop}:c->(a<b)->((min a b)=a):=by intros;lia
theorem ywz {a b c:Nat}:((((9:Nat)+((3:Nat)*c))+a)<(((15:Nat)+((3:Nat)*c))+b))->(a<((6:Nat)+b)):=by intros;lia
theorem yu0 {a b c:Nat}:(((((15:Nat)+((3:Nat)*a))+b)+c)=((((9:Nat)+((3:Nat)*a))+((6:Nat)+b))+c)):=by intros;lia
theorem qf0 {a b:Nat}:b+1<=a->(a+1) - (b+1)<(a+1) - b:=by intros;lia
theorem qf5 {a:Nat} {b c:Int} {d:Prop}:((a<=(Int.toNat (b - c)))/\d)->c+(a:Int)<b->a+1<=Int.toNat (b - c):=by intros;lia
theorem qf6 {a:Nat} {b c:Int} {d:Prop}:((a<=(Int.toNat (b - c)))/\d)->(¬((c+(a:Int))<b))->a=Int.toNat (b - c):=by intros;lia
theorem qf7 {a b:Nat}:b<=a->b<a->(a - 1) - b<a:=by intros;omega
theorem qf8 {a b:Nat}:b<=a->b<a->((a:Int) - 1) - (b:Int)=((((a - 1) - b):Nat):Int):=by intros;omega
theorem qf9 {a b:Nat}:((a:Int) - 1) - (b:Int)=((((a - 1) - b):Nat):Int)->((((a - 1) - b):Nat):Int) - 1=((a:Int) - 1) - (((b+1):Nat):Int):=by intros;lia
theorem qf10 {a b:Nat}:b<=a->(¬(b<a))->((a:Int) - 1) - (b:Int)=-(1:Int):=by intros;lia
theorem qf16 {a b c:Nat}:a+(b+1)<c->(a+1)+b<c:=by intros;lia
theorem qf18 {a:Nat}:a<=(1000000:Nat)->(a:Int)<(2:Int) ^ 63:=by intros;lia
theorem qf23 {a b:Int}:(¬(b<a))->a<=b:=by intros;exact Int.not_lt.mp ‹_›
theorem qf24 {a:Int}:-(1000000:Int)<=a->-((2:Int) ^ 63)<=a:=by intros;lia
theorem qf28 {a b:Nat}:a<=a+b:=by intros;exact Nat.le_add_right _ _
theorem qf29 {a b:Nat}:b<=a->b+1<=a->(a+1) - (b+1)<(a+1) - b:=by intros;lia
theorem qf33 {a:Nat}:a<(1:Nat)->a=(0:Nat):=by intros;lia
theorem qf37 {a:Nat}:a > (0:Nat)->a - 1<a:=by intros;omega
theorem qf38 {a b:Nat}:a > (0:Nat)->a - 1<b->a<=b:=by intros;lia
theorem qf39 {a b:Nat}:b<=(63:Nat)->a=b->a<=(1000000:Nat):=by intros;lia
theorem qf40 {a:Int} {b:Nat}:(0:Int)<=a->a<(b:Int)->Int.toNat a<b:=by intros;lia
theorem qf44 {a b c:Nat}:(a+((8:Nat)*c))+64<b->a+64<b:=by intros;lia
theorem qf46 {a:Nat}:a<=(1000:Nat)->a<=(1000000:Nat):=by intros;exact Nat.le_trans ‹_› (by decide)
theorem qf47 {a b:Nat}:a+1<=b->a<=b:=by intros;lia
theorem qf63 {a b c:Nat}:a=c->(¬(b<a))->a<=b:=by intros;exact Nat.not_lt.mp ‹_›
theorem qf75 {a b c:Nat}:a+(b+1)=c->(a+1)+b=c:=by intros;lia
theorem qf77 {a b:Nat}:(a+1)+b=a+(b+1):=by intros;exact Nat.add_right_comm _ _ _
theorem qf82 {a b c:Nat}:a+(c+1)=b->a<b:=by intros;lia
theorem qf88 {a b:Nat}:a+(b+1)=(a+1)+b:=by intros;lia
theorem qf89 {a b:Nat}:(2:Nat)<=b->a=b->(2:Nat)<=a:=by intros;lia
theorem qf92 {a b c:Nat}:c=b->a<c->a<b:=by intros;lia
theorem qf96 {a b c:Nat}:b=c->a<=c->min a b=a:=by intros;lia
theorem qf97 {a b c:Nat}:a=c->(¬(b<c))->a<=b:=by intros;lia
theorem yu5 {a b c d e:Nat}:c<=(50:Nat)->(a+((8:Nat)*e))+64<d->min b c<=c->(a+1)+(min b c)<d:=by intros;lia
theorem yqr {a b c:Nat}:a<min b c->a<b:=by intros;lia
theorem yi4 {a b c:Nat}:b=c->a<c->a<b:=by intros;lia
theorem yp1 {a b c:Nat}:c+1=b->a=c->a+1=b:=by intros;lia
theorem yqu {a b c d:Nat}:c+1=d->b=d->a<d->a<b:=by intros;lia
theorem ymp {a b c:Nat}:a=b->a<=b+c:=by intros;lia
theorem yi1 {a:Nat}:(((11:Int)<=(a:Int))/\((a:Int)<=(101:Int)))->(a:Int)<=(1048576:Int):=by intros;lia
theorem yhb {a b:Nat}:b<=(8:Nat)->a=b->a<=(1000000:Nat):=by intros;lia
theorem yu2:-((2:Int) ^ 62)<=(0:Int):=by intros;decide
theorem yvk:(0:Int)<(2:Int) ^ 62:=by intros;decide
theorem yqc {a b:Nat}:b<=(8:Nat)->a=b->(a:Int)<(2:Int) ^ 62:=by intros;lia
theorem yqh {a:Nat}:(((a+1)+1)+1)+1<(4:Nat)->(¬(((((a+1)+1)+1)+1)<(4:Nat))):=by intros;lia
theorem yw0 {a:Nat}:a<=(4:Nat)->a<=(9:Nat):=by intros;exact Nat.le_trans ‹_› (by decide)
theorem yp4 {a:Nat}:(0:Nat)<a->(a:Int)≠(0:Int):=by intros;lia
theorem ywf {a:Nat}:(0:Nat)<a->(0:Int)<(a:Int):=by intros;exact Int.ofNat_lt.mpr ‹_›
theorem yqg {a:Int}:(0:Int)<=a->a=(((Int.toNat a):Nat):Int):=by intros;lia
theorem yqs {a:Int} {b:Nat}:(0:Nat)<b->a<(b:Int)->Int.toNat a<b:=by intros;lia
theorem yqx {a b:Nat} {c:Int}:b<(8:Nat)->c=(a:Int)->a<b->(((0:Int)<=(a:Int))/\((a:Int)<((2:Int) ^ 64))):=by intros;lia
theorem yi6 {a b:Nat}:b<(8:Nat)->a=b->a<=(1000000:Nat):=by intros;lia
theorem yql {a b:Nat}:(0:Nat)<b->a=b->(0:Int)<(a:Int):=by intros;lia
theorem yqm {a:Nat}:(((11:Int)<=(a:Int))/\((a:Int)<=(101:Int)))->(a:Int)≠(0:Int):=by intros;lia
theorem ya4 {a:Nat}:(((11:Int)<=(a:Int))/\((a:Int)<=(101:Int)))->(0:Int)<(a:Int):=by intros;lia
theorem ymk {a:Int} {b:Nat}:(((11:Int)<=(b:Int))/\((b:Int)<=(101:Int)))->(((0:Int)<=a)/\(a<(b:Int)))->(((0:Int)<=a)/\(a<((2:Int) ^ 64))):=by intros;lia
theorem yqi {a b:Nat} {c:Int}:b<(8:Nat)->c=(a:Int)->a<b->a<(9:Nat):=by intros;lia
theorem ym2 {a:Nat}:a<=(50:Nat)->a<=(100:Nat):=by intros;exact Nat.le_trans ‹_› (by decide)
theorem yfr {a:Nat}:a<=(4:Nat)->a<=(50:Nat):=by intros;exact Nat.le_trans ‹_› (by decide)
theorem yi3 {a:Nat}:a=(3:Nat)->a<=(50:Nat):=by intros;lia
theorem yp9 {a:Nat}:a<=(9:Nat)->a<=(50:Nat):=by intros;exact Nat.le_trans ‹_› (by decide)
theorem yvm {a:Nat}:(0:Int)<=(a:Int):=by intros;exact Int.natCast_nonneg _
theorem yqe {a b c:Nat}:(9:Nat)+((3:Nat)*a)<=c->b=c+1->(9:Nat)+((3:Nat)*a)<=b:=by intros;lia
theorem ydb {a b:Nat}:b<=(8:Nat)->a<b->a<(9:Nat):=by intros;lia
theorem ym8 {a b:Nat}:(¬(a<b))->a=b+(a - b):=by intros;lia
theorem ygq {a b:Nat}:b+a<b+b->a<b:=by intros;lia
theorem yqk {a:Int}:(3:Int)<a->(4:Int)<=a:=by intros;lia
theorem yvc {a:Int} {b:Nat}:(((0:Int)<=a)/\(a<(b:Int)))->-((2:Int) ^ 64)<a:=by intros;omega
theorem yvn {a:Int} {b:Nat}:(((0:Int)<=a)/\(a<(b:Int)))->(((11:Int)<=(b:Int))/\((b:Int)<=(101:Int)))->a<(2:Int) ^ 64:=by intros;lia
theorem yi2 {a:Nat}:(((11:Int)<=(a:Int))/\((a:Int)<=(101:Int)))->(2:Int)<=(a:Int):=by intros;lia
theorem yqo {a b:Nat}:(((1:Nat)<=b)/\((b<=(2:Nat))/\((b<=a)/\(((1:Nat)<=a)/\(a<=(4:Nat))))))->(1:Int)<=(a:Int):=by intros;lia
theorem yl3 {a b:Nat}:(((1:Nat)<=a)/\((a<=(2:Nat))/\((a<=b)/\(((1:Nat)<=b)/\(b<=(4:Nat))))))->(1:Int)<=(a:Int):=by intros;lia
theorem yrh {a b:Nat}:(((1:Nat)<=a)/\((a<=(2:Nat))/\((a<=b)/\(((1:Nat)<=b)/\(b<=(4:Nat))))))->(a:Int)<=(b:Int):=by intros;lia
theorem ymv {a:Int} {b:Nat}:(((0:Int)<=a)/\(a<(b:Int)))->a<=(b:Int) - 1:=by intros;lia
theorem yqd {a b:Nat}:(((1:Nat)<=b)/\((b<=(2:Nat))/\((b<=a)/\(((1:Nat)<=a)/\(a<=(4:Nat))))))->(a:Int)<=(4:Int):=by intros;lia
theorem ymh {a b:Nat}:(((1:Nat)<=a)/\((a<=(2:Nat))/\((a<=b)/\(((1:Nat)<=b)/\(b<=(4:Nat))))))->a<=b:=by intros;lia
theorem yp3 {a b:Nat}:a<b+1->(¬(a<b))->a=b:=by intros;lia
theorem yqf {a b:Nat}:a<b->a=b->False:=by intros;lia
theorem yl0 {a b:Nat}:a<=b->a+(b - a)=b:=by intros;lia
theorem yl7 {a b:Nat}:a+1<=b->a<b:=by intros;lia
theorem ypx {a b c:Nat}:c=b->(¬(a<c))->a - c=(0:Nat)->a=b:=by intros;lia
theorem ywj {a:Nat}:a<=(9:Nat)->a<=(1000000:Nat):=by intros;exact Nat.le_trans ‹_› (by decide)
theorem yp0 {a b:Nat}:(((1:Nat)<=a)/\((a<=(2:Nat))/\((a<=b)/\(((1:Nat)<=b)/\(b<=(4:Nat))))))->(a - 1)+1=a:=by intros;lia
theorem yp7 {a:Nat}:(1:Nat)<(9:Nat)+((3:Nat)*a):=by intros;lia
theorem yq8 {a:Nat}:(2:Nat)<(9:Nat)+((3:Nat)*a):=by intros;lia
theorem yq3 {a:Nat}:(7:Nat)+((3:Nat)*a)<(9:Nat)+((3:Nat)*a):=by intros;lia
theorem yqz {a:Nat}:(8:Nat)+((3:Nat)*a)<(9:Nat)+((3:Nat)*a):=by intros;lia
theorem yrd {a:Nat}:(5:Nat)<(9:Nat)+((3:Nat)*a):=by intros;lia
theorem yp6 {a b:Nat}:a<b->(9:Nat)+((3:Nat)*a)<(9:Nat)+((3:Nat)*b):=by intros;lia
theorem yiz {a:Nat}:(6:Nat)<(9:Nat)+((3:Nat)*a):=by intros;lia
theorem yvg {a:Nat}:((8:Nat)+((3:Nat)*a))+1=(9:Nat)+((3:Nat)*a):=by intros;exact Nat.add_right_comm _ _ _
theorem yww {a b c:Nat}:a<min c b->a<b:=by intros;lia
theorem yg3 {a b:Nat}:a<b->min a b=a:=by intros;lia
theorem ylx {a b:Nat}:a<b->(a+1) - b=a - b:=by intros;omega
theorem ypv {a b:Nat}:b<a->min ((a+b) - a) a=b:=by intros;lia
theorem ydn {a b c:Nat}:a<c->b=c->a<b:=by intros;lia
theorem ymw {a b:Nat}:b<=(8:Nat)->a=b->a<=(9:Nat):=by intros;lia
theorem yqb {a b:Nat}:(a+b) - a=b:=by intros;lia
theorem yp8 {a b:Nat}:((a+b)+1) - a=b+1:=by intros;lia
theorem yq6 {a b:Nat}:a<b->b<=(8:Nat)->a<=(1000000:Nat):=by intros;lia
theorem ypz {a b:Nat}:a<=(a+b)+1:=by intros;lia
theorem yhf {a b:Nat}:a<b->a=min a b:=by intros;lia
theorem yrb {a b c:Nat}:a<=(1:Nat)->b<=c->a+b<=c+1:=by intros;lia
theorem yqt {a:Nat}:a<=(8:Nat)->a+a<=(1000:Nat):=by intros;lia
theorem yv7 {a b:Nat}:min a b<=a:=by intros;lia
theorem yrg {a b:Nat}:(9:Nat)+((3:Nat)*a)<=b->((9:Nat)+((3:Nat)*a))+(b - ((9:Nat)+((3:Nat)*a)))=b:=by intros;omega
theorem yrc {a:Nat}:((((a+1)+1)+1)+1)+1=(5:Nat)+a:=by intros;lia
theorem yvo {a b c d e:Nat}:a+d<=e->b+1<=d->c=e->a+b<c:=by intros;lia
theorem yvl {a b c d:Nat}:(¬((d=(0:Nat))\/(b=(0:Nat))))->a+1<=d->c=(d+b) - 1->a+b<=c:=by intros;omega
theorem yc9 {a:Int}:(2:Int)<=a->(0:Int)<a:=by intros;lia
theorem ymx {a:Int}:(2:Int)<=a->(1:Int)<a:=by intros;lia
theorem yu7 {a b:Nat}:a<b+1->(¬(a=b))->a<b:=by intros;lia
theorem yv8 {a b:Nat}:(¬(b=a))->(¬(a<b))->(¬(a<(b+1))):=by intros;lia
theorem yq1 {a:Int}:(10:Int)<a->(11:Int)<=a:=by intros;lia
theorem yq9 {a:Int}:(0:Int)<a->(((0:Int)<=(0:Int))/\((0:Int)<a)):=by intros;lia
theorem ymo {a:Int}:(2:Int)<=a->(0:Int)<=a:=by intros;lia
theorem yv2 {a:Int}:(2:Int)<=a->a≠(0:Int):=by intros;lia
theorem ywr {a:Int}:(0:Int)<=a->-((2:Int) ^ 64)<a:=by intros;lia
theorem yu9 {a b:Int}:b<(2:Int) ^ 60->a<b->a<(2:Int) ^ 64:=by intros;lia
theorem yw2 {a b:Nat}:a≠(0:Nat)->b≠(0:Nat)->(¬((a=(0:Nat))\/(b=(0:Nat)))):=by intros;lia
theorem ywk {a b:Int}:(((0:Int)<=a)/\(a<b))->-((2:Int) ^ 64)<a:=by intros;omega
theorem yq7 {a:Nat}:(((48:Nat)<=a)/\(a<=(57:Nat)))->((a=(48:Nat))\/((a=(49:Nat))\/((a=(50:Nat))\/((a=(51:Nat))\/((a=(52:Nat))\/((a=(53:Nat))\/((a=(54:Nat))\/((a=(55:Nat))\/((a=(56:Nat))\/(a=(57:Nat))))))))))):=by intros;lia
theorem yv4 {a b:Int}:a<b->a<=b - 1:=by intros;lia
theorem yhm {a b c:Nat}:b<=(8:Nat)->c<b->a=c->a<(9:Nat):=by intros;lia
theorem yp2 {a b:Nat}:b<=(8:Nat)->a<b->a<=(1000000:Nat):=by intros;lia
theorem yre {a:Int}:(0:Int)<a->(0:Int)<a:=by intros;assumption
theorem yl8 {a b c:Nat}:b<=(8:Nat)->c<b->a=c->a<=(9:Nat):=by intros;lia
theorem yv5 {a b:Nat}:b=a+2->a<=b:=by intros;lia
theorem yq2 {a:Int}:Int.natAbs a<(2:Nat) ^ 64->-((2:Int) ^ 64)<a:=by intros;omega
theorem yra {a:Int}:Int.natAbs a<(2:Nat) ^ 64->a<(2:Int) ^ 64:=by intros;omega
theorem yp5 {a b c:Nat}:c=a->c=b->a=b:=by intros;lia
theorem ypw {a b:Nat}:b<=(60:Nat)->a<=b->a<=(64:Nat):=by intros;lia
theorem yq0 {a b c:Nat}:a+(c+1)=b->a<=b:=by intros;lia
theorem yqq {a b c:Nat} {d:Prop}:((a<=(Int.toNat ((b:Int) - (c:Int))))/\d)->(c:Int)+(a:Int)<(b:Int)->a+1<=Int.toNat ((b:Int) - (c:Int)):=by intros;omega
inductive MV where
 | none
 | bool (b:Bool)
 | int (i:Int)
 | str (x:Str)
 | ref (a:Nat)
 | glob (a:Addr)
inductive MO where
 | list (xs:List MV)
 | tup (xs:List MV)
 | inst (c:Addr) (d:Nat)
 | ns (fs:List (Str×MV))
 | dI (j:Nat) (es:List (Int×MV))
 | dS (j:Nat) (es:List (Str×MV))
 | view (k:String) (d:Nat)
 | exc (c:Addr) (t:Nat)
 | setN (n:Nat)
 | lany (k:Nat)
 | junk
abbrev MH:=List MO
abbrev ML:=List (Option MV)
def VR (ρ:List Addr):MV->Value->Prop
 | .none,v=>v=.none
 | .bool b,v=>v=.bool b
 | .int i,v=>∃t,v=.int i t
 | .str x,v=>∃t,v=.str x t
 | .ref a,v=>∃x,ρ[a]?=some x/\v=.ref x
 | .glob a,v=>v=.ref a
def VRs (ρ:List Addr):List MV->List Value->Prop
 | [],vs=>vs=[]
 | m :: ms,vs=>∃v r,vs=v :: r/\VR ρ m v/\VRs ρ ms r
def NR (P:Params) (ρ:List Addr):List (Str×MV)->List DictEntry->Prop
 | [],es=>es=[]
 | (x,m) :: fs,es=>∃t v r,es=⟨PyData.keyHash P x,.str x t,v⟩ :: r/\VR ρ m v/\NR P ρ fs r
def PR {K:Type} (ρ:List Addr):List (K×MV)->List (K×Value)->Prop
 | [],es=>es=[]
 | (k,m) :: fs,es=>∃v r,es=(k,v) :: r/\VR ρ m v/\PR ρ fs r
def IsD {prog:Program} {w:World} {K:Type} [DecidableEq K] (knd:KeyKind prog w K) (o:Obj) (kvs:List (K×Value)):Prop:=∃es,o.ExactDict/\o.data=.dict es kvs.length/\KeysOf knd es/\Pairs knd es.toList kvs/\(kvs.map (·.1)).Nodup
theorem IsD.dict {prog:Program} {w:World} {K:Type} [DecidableEq K] {knd:KeyKind prog w K} {o:Obj} {kvs:List (K×Value)} (h:IsD knd o kvs):o.IsDictOf knd kvs:=let ⟨es,r⟩:=h;⟨es,_,r⟩
def OR (prog:Program) (w:World) (ρ:List Addr):MO->Obj->Prop
 | .list xs,o=>∃vs n,VRs ρ xs vs/\o=listOf vs.toArray n
 | .tup xs,o=>∃vs n,VRs ρ xs vs/\o={ cls:=.type "tuple",data:=.seq vs.toArray n }
 | .inst c d,o=>∃x,ρ[d]?=some x/\o=instObj c x
 | .ns fs,o=>∃es n,NR w.params ρ fs es/\o=dictOf es n
 | .dI j fs,o=>∃x kvs,ρ[j]?=some x/\(x==sysModules)=false/\PR ρ fs kvs/\IsD (intKind prog w) o kvs
 | .dS j fs,o=>∃x kvs,ρ[j]?=some x/\(x==sysModules)=false/\PR ρ fs kvs/\IsD (strKind prog w) o kvs
 | .view k d,o=>∃x,ρ[d]?=some x/\o={ cls:=.type k,data:=.fields #[.ref x] }
 | .exc c d,o=>∃x vs,ρ[d]?=some x/\o.cls=.ref c/\o.data=.fields vs/\vs[0]?=some (.ref x)
 | .setN n,o=>∃S,o.SetObjOf (intKind prog w) S n
 | .lany k,o=>∃vs n,o=listOf vs n/\vs.size<=k
 | .junk,_=>True
theorem yam {ρ t:List Addr} {a:Nat} {x:Addr} (h:ρ[a]?=some x):(ρ++t)[a]?=some x:=by
 rw [getElem?_append_left (zgs h).1];exact h
theorem VR.mono {ρ t:List Addr} {m:MV} {v:Value} (h:VR ρ m v):VR (ρ++t) m v:=by
 cases m <;> try exact h
 obtain ⟨x,hx,e⟩:=h;exact ⟨x,yam hx,e⟩
theorem VRs.mono {ρ t:List Addr}:∀{ms:List MV} {vs:List Value},VRs ρ ms vs->VRs (ρ++t) ms vs
 | [],_,h=>h
 | _ :: _,_,⟨v,r,e,h1,h2⟩=>⟨v,r,e,h1.mono,h2.mono⟩
theorem NR.mono {P:Params} {ρ t:List Addr}:∀{fs:List (Str×MV)} {es:List DictEntry},NR P ρ fs es->NR P (ρ++t) fs es
 | [],_,h=>h
 | (_,_) :: _,_,⟨k,v,r,e,h1,h2⟩=>⟨k,v,r,e,h1.mono,h2.mono⟩
theorem PR.mono {K:Type} {ρ t:List Addr}:∀{fs:List (K×MV)} {es:List (K×Value)},PR ρ fs es->PR (ρ++t) fs es
 | [],_,h=>h
 | (_,_) :: _,_,⟨v,r,e,h1,h2⟩=>⟨v,r,e,h1.mono,h2.mono⟩
theorem OR.mono {prog:Program} {w:World} {ρ t:List Addr} {m:MO} {o:Obj} (h:OR prog w ρ m o):OR prog w (ρ++t) m o:=by
 cases m with
 | list xs=>obtain ⟨vs,n,Z1⟩:=h;haveI h:=(zl Z1);haveI e:=(zr Z1);clear Z1;exact ⟨vs,n,h.mono,e⟩
 | tup xs=>obtain ⟨vs,n,Z2⟩:=h;haveI h:=(zl Z2);haveI e:=(zr Z2);clear Z2;exact ⟨vs,n,h.mono,e⟩
 | inst c d=>obtain ⟨x,Z3⟩:=h;haveI hx:=(zl Z3);haveI e:=(zr Z3);clear Z3;exact ⟨x,yam hx,e⟩
 | ns fs=>obtain ⟨es,n,Z4⟩:=h;haveI h:=(zl Z4);haveI e:=(zr Z4);clear Z4;exact ⟨es,n,h.mono,e⟩
 | dI j fs=>obtain ⟨x,es,Z5⟩:=h;haveI hx:=(zl Z5);haveI lo:=(zl (zr Z5));haveI h:=(zl (zr (zr Z5)));haveI e:=(zr (zr (zr Z5)));clear Z5;exact ⟨x,es,yam hx,lo,h.mono,e⟩
 | dS j fs=>obtain ⟨x,es,Z6⟩:=h;haveI hx:=(zl Z6);haveI lo:=(zl (zr Z6));haveI h:=(zl (zr (zr Z6)));haveI e:=(zr (zr (zr Z6)));clear Z6;exact ⟨x,es,yam hx,lo,h.mono,e⟩
 | view k d=>obtain ⟨x,Z7⟩:=h;haveI hx:=(zl Z7);haveI e:=(zr Z7);clear Z7;exact ⟨x,yam hx,e⟩
 | exc c d=>obtain ⟨x,vs,Z8⟩:=h;haveI h:=(zl Z8);haveI e:=(zr Z8);clear Z8;exact ⟨x,vs,yam h,e⟩
 | setN n=>exact h
 | lany k=>exact h
 | junk=>trivial
theorem VRs.length {ρ:List Addr}:∀{ms:List MV} {vs:List Value},VRs ρ ms vs->vs.length=ms.length
 | [],_,h=>by rw [h];rfl
 | _ :: _,_,⟨v,r,e,_,h2⟩=>by rw [e,length_cons,length_cons,h2.length]
theorem VRs.get {ρ:List Addr}:∀{ms:List MV} {vs:List Value} {i:Nat} {m:MV},VRs ρ ms vs->ms[i]?=some m->∃v,vs[i]?=some v/\VR ρ m v:=by
 intro ms
 induction ms with
 | nil=>intro vs i m _ e;exact no e
 | cons a ms ih=>
   intro vs i m h hi;obtain ⟨v,r,e,h1,h2⟩:=h;subst e;cases i with
   | zero=>(replace hi:=si hi;subst hi);exact ⟨v,rfl,h1⟩
   | succ i=>exact ih (vs:=r) (i:=i) h2 hi
theorem VRs.set {ρ:List Addr} {m:MV} {v:Value} (hv:VR ρ m v):∀{ms:List MV} {vs:List Value} {i:Nat},VRs ρ ms vs->VRs ρ (ms.set i m) (vs.set i v):=by
 intro ms
 induction ms with
 | nil=>intro vs i h;rw [show vs=[] from h];rfl
 | cons a ms ih=>
   intro vs i h;obtain ⟨u,r,e,h1,h2⟩:=h;subst e;cases i with
   | zero=>exact ⟨v,r,rfl,hv,h2⟩
   | succ i=>exact ⟨u,r.set i v,rfl,h1,ih h2⟩
theorem VRs.append {ρ:List Addr}:∀{ms ms':List MV} {vs vs':List Value},VRs ρ ms vs->VRs ρ ms' vs'->VRs ρ (ms++ms') (vs++vs'):=@fun zd1 zd2 zd3 zd4 zd5=>@(match zd1,zd2,zd3,zd4,zd5 with
 | [],_,_,_,h=>fun h'=>by rw [h];exact h'
 | _ :: _,_,_,_,⟨u,r,e,h1,h2⟩=>fun h'=>by subst e;exact ⟨u,r++_,rfl,h1,h2.append h'⟩)
theorem VRs.concat {ρ:List Addr} {m:MV}:∀{ms:List MV} {vs:List Value},VRs ρ (ms++[m]) vs->∃ws v,vs=ws++[v]/\VRs ρ ms ws/\VR ρ m v:=by
 intro ms
 induction ms with
 | nil=>
   intro vs h;obtain ⟨v,r,e,h1,h2⟩:=h;have hr:r=[]:=h2;subst hr;exact ⟨[],v,e,rfl,h1⟩
 | cons a ms ih=>
   intro vs h;obtain ⟨u,r,e,h1,h2⟩:=h;obtain ⟨ws,v,e2,h3,h4⟩:=ih h2;subst e2;exact ⟨u :: ws,v,e,⟨u,ws,rfl,h1,h3⟩,h4⟩
structure Cx where
 prog:Program
 w:World
 A:Around
 env:Env
 h₀:Heap
 L:Addr
 fm:Option ((Str->Option Value)×List (Addr×Obj))
 fr:List (Addr×Obj)
 xt:List (Addr×Obj)
 X:Addr->List MV->ML->MH->Prop
 nm:List Str
 sc:Scope
def Led (h₀:Heap) (L:Addr) (prog:Program) (w:World) (ml:Str->Option Value) (xs:List (Addr×Obj)) (ρ:List Addr) (H:MH) (h:Heap):Prop:=
 Fr h₀ L h ml/\∃os:List Obj,os.length=H.length/\ρ.length=H.length/\
   (∀(i:Nat) (o:MO),H[i]?=some o->∃x,os[i]?=some x/\OR prog w ρ o x)/\
   News h₀ L h (xs++ρ.zip os)/\(xs.map (·.1)++ρ).Nodup
def Own (c:Cx) (mr ml:Str->Option Value) (ex:List (Addr×Obj)):Prop:=
 match c.fm with
 | none=>c.env.locals=c.L/\(∀x,c.env.kindOf x=some .local->ml x=mr x)/\
     ∀x,c.env.kindOf x=some .cell\/c.env.kindOf x=some .free->∃a o,c.env.cells.lookup x=some a/\(a,o) ∈ ex/\o.data=.cell (mr x)
 | some (f,ox)=>ml=f/\(∃oC mC,ex=(c.env.locals,oC) :: ox/\LCg.NsObj oC mC/\∀x,c.env.kindOf x=some .local->mC x=mr x)/\
     ∀x,c.env.kindOf x=some .cell\/c.env.kindOf x=some .free->∃a o,c.env.cells.lookup x=some a/\(a,o) ∈ ox/\o.data=.cell (mr x)
def St (c:Cx) (mr:Str->Option Value) (ρ:List Addr) (H:MH) (h:Heap):Prop:=
 ∃ml fr ex,Own c mr ml ex/\TI.SameUp c.fr fr/\Led c.h₀ c.L c.prog c.w ml (fr++(c.xt++ex)) ρ H h
theorem St.open {c:Cx} {mr:Str->Option Value} {ρ:List Addr} {H:MH} {h:Heap} (S:St c mr ρ H h) :
   ∃ml xs,Led c.h₀ c.L c.prog c.w ml xs ρ H h/\∀ρ' H' h',Led c.h₀ c.L c.prog c.w ml xs ρ' H' h'->St c mr ρ' H' h':=by
 obtain ⟨ml,fr,ex,Z1⟩:=S;haveI o:=(zl Z1);haveI u:=(zl (zr Z1));haveI l:=(zr (zr Z1));clear Z1;exact ⟨ml,_,l,fun ρ' H' h' l'=>⟨ml,fr,ex,o,u,l'⟩⟩
theorem St.op {c:Cx} {mr:Str->Option Value} {ρ:List Addr} {H:MH} {h:Heap} (S:St c mr ρ H h) {P:Prop}
   (k:∀ml xt os,Fr c.h₀ c.L h ml->os.length=H.length->ρ.length=H.length->(∀(i:Nat) (o:MO),H[i]?=some o->∃x,os[i]?=some x/\OR c.prog c.w ρ o x)->News c.h₀ c.L h (xt++ρ.zip os)->(xt.map (·.1)++ρ).Nodup->
     (∀ρ' H' h',Led c.h₀ c.L c.prog c.w ml xt ρ' H' h'->St c mr ρ' H' h')->P):P:=by
 obtain ⟨ml,xt,Z1⟩:=S.open;obtain ⟨os,Z2⟩:=(zr (zl Z1));haveI F:=(zl (zl Z1));haveI a1:=(zl Z2);haveI a2:=(zl (zr Z2));haveI a3:=(zl (zr (zr Z2)));haveI N:=(zl (zr (zr (zr Z2))));haveI a5:=(zr (zr (zr (zr Z2))));haveI back:=(zr Z1);clear Z2 Z1;exact k ml xt os F a1 a2 a3 N a5 back
theorem St.oq {c:Cx} {mr:Str->Option Value} {ρ:List Addr} {H:MH} {h:Heap} (S:St c mr ρ H h) {P:Prop}
   (k:∀ml fr ex os,Own c mr ml ex->TI.SameUp c.fr fr->Fr c.h₀ c.L h ml->os.length=H.length->ρ.length=H.length->(∀(i:Nat) (o:MO),H[i]?=some o->∃x,os[i]?=some x/\OR c.prog c.w ρ o x)->
     News c.h₀ c.L h ((fr++(c.xt++ex))++ρ.zip os)->((fr++(c.xt++ex)).map (·.1)++ρ).Nodup->P):P:=by
 obtain ⟨ml,fr,ex,Z1⟩:=S;obtain ⟨os,Z2⟩:=(zr (zr (zr Z1)));haveI o:=(zl Z1);haveI u:=(zl (zr Z1));haveI F:=(zl (zr (zr Z1)));haveI a1:=(zl Z2);haveI a2:=(zl (zr Z2));haveI a3:=(zl (zr (zr Z2)));haveI N:=(zl (zr (zr (zr Z2))));haveI a5:=(zr (zr (zr (zr Z2))));clear Z2 Z1;exact k ml fr ex os o u F a1 a2 a3 N a5
theorem Led.oq {h₀:Heap} {L:Addr} {prog:Program} {w:World} {ml:Str->Option Value} {xs:List (Addr×Obj)} {ρ:List Addr} {H:MH} {h:Heap} (S:Led h₀ L prog w ml xs ρ H h) {P:Prop}
   (k:∀os,Fr h₀ L h ml->os.length=H.length->ρ.length=H.length->(∀(i:Nat) (o:MO),H[i]?=some o->∃x,os[i]?=some x/\OR prog w ρ o x)->News h₀ L h (xs++ρ.zip os)->(xs.map (·.1)++ρ).Nodup->P):P:=by
 haveI Z1:=S;clear S;obtain ⟨os,Z2⟩:=(zr Z1);haveI F:=(zl Z1);haveI a1:=(zl Z2);haveI a2:=(zl (zr Z2));haveI a3:=(zl (zr (zr Z2)));haveI N:=(zl (zr (zr (zr Z2))));haveI a5:=(zr (zr (zr (zr Z2))));clear Z2 Z1;exact k os F a1 a2 a3 N a5
theorem St.keep {c:Cx} {mr:Str->Option Value} {ρ:List Addr} {H:MH} {h:Heap} (S:St c mr ρ H h):∀b o,c.h₀.get? b=some o->h.get? b=some o:=by
 obtain ⟨ml,xs,Z1⟩:=S.open;haveI l:=(zl Z1);clear Z1;exact l.1.keep
noncomputable def slot:List Str->Str->Option Nat
 | [],_=>none
 | y :: r,x=>match slot r x with
   | some i=>some (i+1)
   | none=>if y==x then some 0 else none
theorem ycr:∀{nm:List Str} {x:Str} {i:Nat},slot nm x=some i->nm[i]?=some x:=by
 intro zd
 induction zd with
 | nil=>
  exact fun {zz} {zz} h=>by exact no h
 | cons y r zih=>
  exact fun {x} {i} h=>by
   dsimp only [slot] at h;cases e:slot r x with
   | some j=>
     rw [e] at h
     (replace h:=si h;subst h)
     simpa using zih e
   | none=>
     rw [e] at h;simp only at h;split at h
     . rename_i q
       (replace h:=si h;subst h)
       exact beq_iff_eq.mp q
     . exact no h
def LR (mr:Str->Option Value) (nm:List Str) (ρ:List Addr) (m:ML):Prop:=
 m.length=nm.length/\∀i x v,slot nm x=some i->m[i]?=some (some v)->∃vr,VR ρ v vr/\mr x=some vr
theorem LR.mono {mr:Str->Option Value} {nm:List Str} {ρ t:List Addr} {m:ML} (h:LR mr nm ρ m):LR mr nm (ρ++t) m:=
 ⟨h.1,fun i x v e1 e2=>let ⟨vr,h1,h2⟩:=h.2 i x v e1 e2;⟨vr,h1.mono,h2⟩⟩
theorem LR.set {mr:Str->Option Value} {nm:List Str} {ρ:List Addr} {m:ML} (h:LR mr nm ρ m) {x:Str} {i:Nat} {v:MV} {vr:Value} (hs:slot nm x=some i) (hv:VR ρ v vr) :
   LR (fun y=>if y=x then some vr else mr y) nm ρ (m.set i (some v)):=by
 refine ⟨by rw [length_set];exact h.1,fun j y u e1 e2=>?_⟩;by_cases e:y=x
 . subst e;rw [hs] at e1
   (replace e1:=si e1;subst e1)
   rw [List.getElem?_set_self'] at e2;cases hm:m[i]? with
   | none=>rw [hm] at e2;exact no e2
   | some o=>
     rw [hm] at e2;cases e2;exact ⟨vr,hv,by simp⟩
 . have hij:i≠j:=by
     rintro rfl;have h1:=ycr hs;have h2:=ycr e1;rw [h1] at h2
     (replace h2:=si h2;subst h2)
     exact e rfl
   rw [getElem?_set_ne hij] at e2;obtain ⟨w,h1,h2⟩:=h.2 j y u e1 e2;exact ⟨w,h1,by simp [e,h2]⟩
def Fly (c:Cx) (mr:Str->Option Value) (ρ:List Addr) (H:MH) (C:Addr) (as:List MV) (e:Addr) (h:Heap):Prop:=
 ∃(hB:Heap) (t:Addr) (vs:List Value),St c mr ρ H hB/\VRs ρ as vs/\hB.get? e=none/\hB.get? t=none/\h.TupAt t vs/\hB.UpToSlots h/\
   (TI.gone hB (c.L :: c.fr.map (·.1))).StaysIn h/\
   ((∃oe ws,h.get? e=some oe/\oe.cls=.ref C/\oe.data=.fields ws/\ws[0]?=some (.ref t)/\ws[1]?=some .none)\/
    ∃fl,h.TracedAtW (TI.gone hB (c.L :: c.fr.map (·.1))) e (.ref C) (.ref t) fl/\(fl=.none\/fl=rawInt c.L))
def Kx (c:Cx) (ρ:List Addr) (s:Shared) (E:Value->Shared->Prop):Prop:=
 ∀t C as e m' mr' H' h' tk,c.X C as m' H'->Fly c mr' (ρ++t) H' C as e h'->LR mr' c.nm (ρ++t) m'->E (.ref e) { s with heap:=h',toks:=tk }
theorem Kx.mono {c:Cx} {ρ t:List Addr} {s:Shared} {E:Value->Shared->Prop} {h:Heap} {tk:Nat} (k:Kx c ρ s E):Kx c (ρ++t) { s with heap:=h,toks:=tk } E:=by
 intro t' C as e m' mr' H' h' tk' hX hF hL;rw [append_assoc] at hF hL;exact k (t++t') C as e m' mr' H' h' tk' hX hF hL
def EV (c:Cx) (m:ML) (e:PySem.Expr) (H:MH) (post:MV->MH->Prop):Prop:=
 ∀(mr:Str->Option Value) (ρ:List Addr) (s:Shared) (Q:Value->Shared->Prop) (E:Value->Shared->Prop),St c mr ρ H s.heap->LR mr c.nm ρ m->
   (∀t v vr H' h' tk,post v H'->VR (ρ++t) v vr->St c mr (ρ++t) H' h'->Q vr { s with heap:=h',toks:=tk })->Kx c ρ s E->
   wpAny (model c.prog c.w) c.A (eval e c.env) Q E s
theorem EV.mono {c:Cx} {m:ML} {e:PySem.Expr} {H:MH} {p q:MV->MH->Prop} (h:EV c m e H p) (hp:∀v H',p v H'->q v H'):EV c m e H q:=
 fun mr ρ s Q E S l k kx=>h mr ρ s Q E S l (fun t v vr H' h' tk hv=>k t v vr H' h' tk (hp _ _ hv)) kx
theorem yac {c:Cx} {mr:Str->Option Value} {ρ:List Addr} {H:MH} {h:Heap} (S:St c mr ρ H h):St c mr (ρ++[]) H h:=by rw [append_nil];exact S
theorem yve {oC:Obj} {mC:Str->Option Value} {h:Heap} {C:Addr} (hC:LCg.NsObj oC mC) (e:h.get? C=some oC):h.Ns C mC:=hC.ns e
noncomputable def kcl:Option NameKind->Nat
 | some .local=>1
 | some .cell=>2
 | some .free=>2
 | some .globalImplicit=>3
 | _=>0
noncomputable def rdb (sc:Scope) (x:Str):Bool:=(x != ("__debug__":Str)) && (x != ("__classdict__":Str)) && (kcl (sc.names.lookup x)==1 || kcl (sc.names.lookup x)==2)
noncomputable def glb (sc:Scope) (x:Str):Bool:=(x != ("__debug__":Str)) && kcl (sc.names.lookup x)==3
theorem kcl1 {k:Option NameKind} (h:kcl k=1):k=some .local:=by
 cases k with
 | none=>exact absurd h (by decide)
 | some n=>cases n <;> first | rfl | exact absurd h (by decide)
theorem kcl2 {k:Option NameKind} (h:kcl k=2):k=some .cell\/k=some .free:=by
 cases k with
 | none=>exact absurd h (by decide)
 | some n=>cases n <;> first | exact .inl rfl | exact .inr rfl | exact absurd h (by decide)
theorem kcl3 {k:Option NameKind} (h:kcl k=3):k=some .globalImplicit:=by
 unfold kcl at h;split at h <;> first | rfl | cases h
structure Gx where
 K:Frag
 p:Program
 loose:List Str
 mean:ExcName->Option Value
 mg:Str->Option Value
 mb:Str->Option Value
 ex:Heap->Prop
structure Ok (G:Gx) (c:Cx) (d:Nat):Prop where
 frames:∃env₀ outer,c.A.frames=some (env₀ :: outer)/\env₀.frame=some c.L/\env₀.scope.kind=.function/\TI.Frs outer c.fr/\(c.fm=none->env₀=c.env)
 kin:G.K.In c.h₀
 top:Top G.p G.loose G.mean G.mg G.mb c.h₀
 hh:c.A.handled=none
 dep:c.A.depth+d<recursionLimit
 uni:c.A.units+8*d+64<cLine
 fn:c.env.scope.kind=.function
 gl:c.env.globals=mainGlobals
 bi:c.env.builtins=builtinsNs
 ap:c.fm=none->c.env.cells.Pairwise fun x y=>x.2≠y.2
 kd:∀x,kcl (c.env.kindOf x)=kcl (c.sc.names.lookup x)
 fs:c.fm=none->c.env.scope=c.sc
 ex:G.ex c.h₀
theorem read {G:Gx} {c:Cx} {d:Nat} (ok:Ok G c d) {mr:Str->Option Value} {ρ:List Addr} {H:MH} {s:Shared} {x:Str} {pos:Pos} {v:Value} {Q E} (S:St c mr ρ H s.heap) (hx:rdb c.sc x=true) (hv:mr x=some v) (h:Q v s) :
   wpAny (model c.prog c.w) c.A (eval (.Name x pos) c.env) Q E s:=by
 unfold rdb at hx;simp only [Bool.and_eq_true,Bool.or_eq_true,beq_iff_eq,bne_iff_ne,ne_eq] at hx;obtain ⟨⟨hd,hcd⟩,hx⟩:=hx;rw [<-ok.kd] at hx;have hd':(x==("__debug__":Str))=false:=by exact beq_eq_false_iff_ne.mpr hd
 have hcd':(x==("__classdict__":Str))=false:=by exact beq_eq_false_iff_ne.mpr hcd
 have hk:=ok.fn;refine wpAny_Name ?_ hd';refine S.oq fun ml fr ex os o u F a1 a2 a3 N a5=>?_;unfold Own at o;have cellRead:∀a o,c.env.cells.lookup x=some a->(a,o) ∈ fr++(c.xt++ex)->o.data=.cell (mr x)->(c.env.kindOf x=some .cell\/c.env.kindOf x=some .free)->wpAny (model c.prog c.w) c.A (loadName c.env x) Q E s:=by
   intro a o e1 e2 e3 hk';rw [hv] at e3;have hc:s.heap.IsCell a (some v):=⟨o,(N _ (mem_append_left _ e2)).1,e3⟩;rcases hk' with hk' | hk'
   . exact wpAny_loadName_cell hk hk' e1 hc h
   . exact wpAny_loadName_free hk hk' e1 hc h hcd'
 cases hf:c.fm with
 | none=>
   rw [hf] at o;obtain ⟨oL,o1,o2⟩:=o;rcases hx with hx | hx
   . exact wpAny_loadName_local hk (kcl1 hx) (by rw [oL];exact F.ns) ((o1 x (kcl1 hx)).trans hv) h
   . obtain ⟨a,ob,e1,e2,e3⟩:=o2 x (kcl2 hx);exact cellRead a ob e1 (mem_append_right _ (mem_append_right _ e2)) e3 (kcl2 hx)
 | some f=>
   obtain ⟨f,ox⟩:=f;rw [hf] at o;obtain ⟨rfl,⟨oC,mC,q1,q2,q3⟩,o2⟩:=o;have hox:∀p ∈ ox,p ∈ fr++(c.xt++ex):=fun p hp=>mem_append_right _ (mem_append_right _ (by rw [q1];exact .tail _ hp));rcases hx with hx | hx
   . exact wpAny_loadName_local hk (kcl1 hx) (yve q2 (N _ (mem_append_left _ (mem_append_right _ (mem_append_right _ (by rw [q1];exact .head _))))).1) ((q3 x (kcl1 hx)).trans hv) h
   . obtain ⟨a,ob,e1,e2,e3⟩:=o2 x (kcl2 hx);exact cellRead a ob e1 (hox _ e2) e3 (kcl2 hx)
theorem ya2 {ρ:List Addr} {os:List Obj} {i:Nat} {a:Addr} {x:Obj} (h1:ρ[i]?=some a) (h2:os[i]?=some x):(a,x) ∈ ρ.zip os:=by
 have:(ρ.zip os)[i]?=some (a,x):=by
   rw [List.getElem?_zip_eq_some];exact ⟨h1,h2⟩
 exact mem_of_getElem? this
section
variable {h₀ h h':Heap} {L:Addr} {prog:Program} {w:World} {ml:Str->Option Value} {xs:List (Addr×Obj)} {ρ:List Addr} {H:MH}
theorem Led.get (S:Led h₀ L prog w ml xs ρ H h) {i:Nat} {o:MO} (hi:H[i]?=some o):∃a x,ρ[i]?=some a/\OR prog w ρ o x/\News h₀ L h [(a,x)]:=by
 refine S.oq fun os F a1 a2 a3 N a5=>?_;obtain ⟨x,hx,hr⟩:=a3 i o hi;have hlt:i<ρ.length:=by rw [a2];exact (zgs hi).1
 refine ⟨ρ[i],x,getElem?_eq_getElem hlt,hr,fun p hp=>?_⟩;rw [mem_singleton.mp hp];exact N _ (mem_append_right _ (ya2 (getElem?_eq_getElem hlt) hx))
theorem yht {os:List Obj} {l:Addr} {x:Obj} (h:ρ.length=os.length):(ρ++[l]).zip (os++[x])=ρ.zip os++[(l,x)]:=by
 rw [List.zip_append h];rfl
theorem ybs {os:List Obj} (a1:os.length=H.length) (a2:ρ.length=H.length) {a:Addr} (ha:a ∈ xs.map (·.1)++ρ):∃p ∈ xs++ρ.zip os,p.1=a:=by
 rcases zma ha with ha | ha
 . obtain ⟨p,hp,rfl⟩:=mem_map.mp ha;exact ⟨p,mem_append_left _ hp,rfl⟩
 . obtain ⟨i,hi,rfl⟩:=List.getElem_of_mem ha;have hi':i<os.length:=by rw [a1,<-a2];exact hi
   exact ⟨(ρ[i],os[i]),mem_append_right _ (ya2 (getElem?_eq_getElem hi) (getElem?_eq_getElem hi')),rfl⟩
theorem Led.alloc {os:List Obj} {l:Addr} {x:Obj} {o:MO}
   (a1:os.length=H.length) (a2:ρ.length=H.length) (a3:∀(i:Nat) (o:MO),H[i]?=some o->∃x,os[i]?=some x/\OR prog w ρ o x)
   (a5:(xs.map (·.1)++ρ).Nodup)
   (F:Fr h₀ L h' ml) (N:News h₀ L h' ((l,x) :: (xs++ρ.zip os))) (hl:∀p ∈ xs++ρ.zip os,p.1≠l) (ho:OR prog w (ρ++[l]) o x) :
   Led h₀ L prog w ml xs (ρ++[l]) (H++[o]) h':=by
 refine ⟨F,os++[x],by simp [a1],by simp [a2],?_,?_,?_⟩
 . intro i o' hi;by_cases hlt:i<H.length
   . rw [getElem?_append_left hlt] at hi;obtain ⟨y,Z1⟩:=a3 i o' hi;haveI hy:=(zl Z1);haveI hr:=(zr Z1);clear Z1;exact ⟨y,by rw [getElem?_append_left (by rw [a1];exact hlt)];exact hy,hr.mono⟩
   . rw [getElem?_append_right (Nat.le_of_not_lt hlt)] at hi;haveI hz:i - H.length=0:=by
       haveI:=(zgs hi).1;simp at this;assumption
     rw [hz] at hi;simp at hi;subst hi;refine ⟨x,?_,ho⟩;rw [getElem?_append_right (by rw [a1];exact Nat.le_of_not_lt hlt),a1,hz];rfl
 . intro p hp;rw [yht (by rw [a1,a2])] at hp;refine N p ?_;rw [<-append_assoc] at hp;rcases zma hp with hp | hp
   . exact .tail _ hp
   . rw [mem_singleton.mp hp];exact .head _
 . rw [<-append_assoc,nodup_append];refine ⟨a5,by simp,?_⟩;intro a ha b hb e;rw [mem_singleton.mp hb] at e;obtain ⟨p,Z2⟩:=ybs (os:=os) a1 a2 ha;haveI hp:=(zl Z2);haveI e2:=(zr Z2);clear Z2;exact hl p hp (e2.trans e)
theorem Led.upd (S:Led h₀ L prog w ml xs ρ H h) {i:Nat} {o o':MO} {a:Addr} {x':Obj} (hi:H[i]?=some o) (ha:ρ[i]?=some a)
   (hs:Heap.SameBut a h h') (hx:h'.get? a=some x') (ho:OR prog w ρ o' x'):Led h₀ L prog w ml xs ρ (H.set i o') h':=by
 refine S.oq fun os F a1 a2 a3 N a5=>?_;obtain ⟨x,hx0,_⟩:=a3 i o hi;have hm:(a,x) ∈ ρ.zip os:=ya2 ha hx0;have na:=N _ (mem_append_right _ hm);have hlt:i<H.length:=(zgs hi).1;refine ⟨F.change hs na.2.1 na.2.2,os.set i x',by simp [a1],by simp [a2],?_,?_,a5⟩
 . intro j o1 hj;by_cases e:i=j
   . subst e;rw [getElem?_set_self hlt] at hj
     (replace hj:=si hj;subst hj)
     exact ⟨x',getElem?_set_self (by rw [a1];exact hlt),ho⟩
   . rw [getElem?_set_ne e] at hj;obtain ⟨y,hy,hr⟩:=a3 j o1 hj;exact ⟨y,by rw [getElem?_set_ne e];exact hy,hr⟩
 . intro p hp;rw [nodup_append] at a5;rcases zma hp with hp | hp
   . have P:=N p (mem_append_left _ hp);have hne:p.1≠a:=fun e=>a5.2.2 p.1 (mem_map_of_mem hp) a (mem_of_getElem? ha) e;exact ⟨(hs.2 _ hne).trans P.1,P.2⟩
   . obtain ⟨j,hj,e⟩:=List.getElem_of_mem hp;obtain ⟨b,y⟩:=p;have e':(ρ.zip (os.set i x'))[j]?=some (b,y):=by rw [getElem?_eq_getElem hj,e]
     rw [List.getElem?_zip_eq_some] at e';by_cases eij:i=j
     . subst eij;rw [ha,getElem?_set_self (by rw [a1];exact hlt)] at e';obtain ⟨e1,e2⟩:=e';cases e1;cases e2;exact ⟨hx,na.2⟩
     . rw [getElem?_set_ne eij] at e';have P:=N _ (mem_append_right _ (ya2 e'.1 e'.2));have hne:b≠a:=by
         intro e3;subst e3;have l1:=(zgs ha).1;exact eij ((List.getElem?_inj l1 a5.2.1).mp (ha.trans e'.1.symm))
       exact ⟨(hs.2 _ hne).trans P.1,P.2⟩
theorem Led.grow (S:Led h₀ L prog w ml xs ρ H h) (hk:∀b o,h.get? b=some o->h'.get? b=some o):Led h₀ L prog w ml xs ρ H h':=by
 refine S.oq fun os F a1 a2 a3 N a5=>?_;exact ⟨F.keeps hk,os,a1,a2,a3,N.grown hk,a5⟩
end
theorem St.get {c:Cx} {mr:Str->Option Value} {ρ:List Addr} {H:MH} {h:Heap} (S:St c mr ρ H h) {i:Nat} {o:MO} (hi:H[i]?=some o) :
   ∃a x,ρ[i]?=some a/\OR c.prog c.w ρ o x/\News c.h₀ c.L h [(a,x)]:=by
 obtain ⟨ml,xs,Z1⟩:=S.open;haveI l:=(zl Z1);clear Z1;exact l.get hi
theorem St.upd {c:Cx} {mr:Str->Option Value} {ρ:List Addr} {H:MH} {h h':Heap} (S:St c mr ρ H h) {i:Nat} {o o':MO} {a:Addr} {x':Obj} (hi:H[i]?=some o) (ha:ρ[i]?=some a)
   (hs:Heap.SameBut a h h') (hx:h'.get? a=some x') (ho:OR c.prog c.w ρ o' x'):St c mr ρ (H.set i o') h':=by
 obtain ⟨ml,xs,l,back⟩:=S.open;exact back _ _ _ (l.upd hi ha hs hx ho)
theorem St.grow {c:Cx} {mr:Str->Option Value} {ρ:List Addr} {H:MH} {h h':Heap} (S:St c mr ρ H h) (hk:∀b o,h.get? b=some o->h'.get? b=some o):St c mr ρ H h':=by
 obtain ⟨ml,xs,l,back⟩:=S.open;exact back _ _ _ (l.grow hk)
theorem St.len {c:Cx} {mr:Str->Option Value} {ρ:List Addr} {H:MH} {h:Heap} (S:St c mr ρ H h):ρ.length=H.length:=by
 obtain ⟨ml,xs,Z1⟩:=S.open;obtain ⟨os,Z2⟩:=(zr (zl Z1));haveI F:=(zl (zl Z1));haveI a1:=(zl Z2);haveI a2:=(zl (zr Z2));haveI back:=(zr Z1);clear Z2 Z1;exact a2
theorem yag {ρ:List Addr} {H:MH} {l:Addr} (a2:ρ.length=H.length):(ρ++[l])[H.length]?=some l:=by
 rw [getElem?_append_right (by rw [a2];exact Nat.le_refl _),a2,Nat.sub_self];rfl
noncomputable def stb (sc:Scope) (x:Str):Bool:=sc.names.lookup x==some .local || sc.names.lookup x==some .cell
theorem yuu {c:Cx} (hap:c.fm=none->c.env.cells.Pairwise fun x y=>x.2≠y.2) (hk:c.env.scope.kind=.function) (hfs:c.fm=none->c.env.scope=c.sc) {mr:Str->Option Value} {ρ:List Addr} {H:MH} {s:Shared} {x:Str} {v:Value} {Q E} (S:St c mr ρ H s.heap) (hfm:c.fm=none) (hx:stb c.sc x=true)
   (h:∀h' tk,St c (fun y=>if y=x then some v else mr y) ρ H h'->Q () { s with heap:=h',toks:=tk }) :
   wpAny (model c.prog c.w) c.A (storeName c.env x v) Q E s:=by
 unfold stb at hx;replace hap:=hap hfm;rw [<-hfs hfm] at hx;simp only [Bool.or_eq_true,beq_iff_eq] at hx;change c.env.kindOf x=some .local\/c.env.kindOf x=some .cell at hx;refine S.oq fun ml fr ex os o u F a1 a2 a3 N a5=>?_;unfold Own at o;rw [hfm] at o;obtain ⟨oL,o1,o2⟩:=o;rcases hx with hx | hx
 . refine wpAny_storeName_local hx (by rw [oL];exact F.ns) (fun h' hn hs=>?_) (by rw [hk];rfl);rw [oL] at hn hs;refine h h' _ ⟨_,fr,ex,?_,u,F.set hn hs,os,a1,a2,a3,N.set hs,a5⟩;unfold Own;rw [hfm];refine ⟨oL,fun y hy=>?_,fun y hy=>?_⟩
   . by_cases e:y=x
     . simp [e]
     . simp [e,o1 y hy]
   . have hne:y≠x:=by
       rintro rfl;rw [hx] at hy;rcases hy with hy | hy <;> cases hy
     simp only [if_neg hne];exact o2 y hy
 . obtain ⟨a,ob,e1,e2,e3⟩:=o2 x (.inl hx);haveI hmem:(a,ob) ∈ fr++(c.xt++ex):=mem_append_right _ (mem_append_right _ e2);haveI hN:=N _ (mem_append_left _ hmem);refine wpAny_storeName_cell hk hx e1 ⟨ob,hN.1,e3⟩ fun h' hv hs=>?_;obtain ⟨o',ho',hd'⟩:=hv;haveI hF:Fr c.h₀ c.L h' ml:=F.change hs hN.2.1 hN.2.2
   let f:Addr×Obj->Addr×Obj:=fun p=>if p.1=a then (a,o') else p
   have hfst:∀l:List (Addr×Obj),(l.map f).map (·.1)=l.map (·.1):=by
     intro l
     induction l with
     | nil=>rfl
     | cons p l ih=>
       simp only [map_cons,ih];congr 1;show (if p.1=a then (a,o') else p).1=p.1;split
       . rename_i q;exact q.symm
       . rfl
   haveI hnd:=a5;rw [nodup_append] at hnd;obtain ⟨nd1,nd2,nd3⟩:=hnd;have hfix:∀p ∈ fr++c.xt,f p=p:=by
     intro p hp;show (if p.1=a then (a,o') else p)=p;rw [if_neg];intro q;rw [map_append,map_append,<-append_assoc,<-map_append,nodup_append] at nd1;exact nd1.2.2 p.1 (mem_map_of_mem hp) a (mem_map_of_mem (f:=(·.1)) e2) q
   have hfix1:fr.map f=fr:=by
     have:=map_congr_left (l:=fr) (f:=f) (g:=id) (fun p hp=>hfix p (mem_append_left _ hp));rw [this];simp
   have hfix2:c.xt.map f=c.xt:=by
     have:=map_congr_left (l:=c.xt) (f:=f) (g:=id) (fun p hp=>hfix p (mem_append_right _ hp));rw [this];simp
   refine h h' _ ⟨ml,fr,ex.map f,?_,u,hF,os,a1,a2,a3,?_,?_⟩
   . unfold Own;rw [hfm];refine ⟨oL,fun y hy=>?_,fun y hy=>?_⟩
     . have hne:y≠x:=by
         rintro rfl;rw [hx] at hy;cases hy
       simp only [if_neg hne];exact o1 y hy
     . by_cases e:y=x
       . subst e;refine ⟨a,o',e1,?_,by simp [hd']⟩;have:f (a,ob)=(a,o'):=by show (if a=a then (a,o') else _)=_;rw [if_pos rfl]
         rw [<-this];exact mem_map_of_mem e2
       . obtain ⟨b,oy,y1,y2,y3⟩:=o2 y hy;have hba:b≠a:=fun q=>e (name_of_addr hap (mem_of_lookup y1) (q ▸ mem_of_lookup e1));refine ⟨b,oy,y1,?_,by simp [e,y3]⟩;have:f (b,oy)=(b,oy):=by show (if b=a then (a,o') else _)=_;rw [if_neg hba]
         rw [<-this];exact mem_map_of_mem y2
   . intro p hp;have hsplit:fr++(c.xt++ex.map f)=(fr++(c.xt++ex)).map f:=by simp only [map_append,hfix1,hfix2]
     rw [hsplit] at hp;rcases zma hp with hp | hp
     . obtain ⟨q,hq,rfl⟩:=mem_map.mp hp;haveI P:=N q (mem_append_left _ hq);show h'.get? (f q).1=some (f q).2/\_;by_cases e:q.1=a
       . have:f q=(a,o'):=by show (if q.1=a then (a,o') else q)=_;rw [if_pos e]
         rw [this];exact ⟨ho',hN.2⟩
       . have:f q=q:=by show (if q.1=a then (a,o') else q)=_;rw [if_neg e]
         rw [this];exact ⟨(hs.2 _ e).trans P.1,P.2⟩
     . haveI P:=N p (mem_append_right _ hp);refine ⟨(hs.2 _ fun q=>?_).trans P.1,P.2⟩;exact nd3 a (mem_map_of_mem (f:=(·.1)) hmem) p.1 (of_mem_zip (show (p.1,p.2) ∈ _ from hp)).1 q.symm
   . have hsplit:fr++(c.xt++ex.map f)=(fr++(c.xt++ex)).map f:=by simp only [map_append,hfix1,hfix2]
     rw [hsplit,hfst];exact a5
theorem yhk {G:Gx} {c:Cx} {d:Nat} (ok:Ok G c d) {mr:Str->Option Value} {ρ:List Addr} {H:MH} {s:Shared} {x:Str} {v:Value} {Q E} (S:St c mr ρ H s.heap) (hfm:c.fm=none) (hx:stb c.sc x=true)
   (h:∀h' tk,St c (fun y=>if y=x then some v else mr y) ρ H h'->Q () { s with heap:=h',toks:=tk }) :
   wpAny (model c.prog c.w) c.A (storeName c.env x v) Q E s:=yuu ok.ap ok.fn ok.fs S hfm hx h
theorem yew:∀{a b:List (Addr×Obj)},TI.SameUp a b->b.map (·.1)=a.map (·.1)
 | [],[],_=>rfl
 | [],_ :: _,h=>False.elim h
 | _ :: _,[],h=>False.elim h
 | _ :: _,_ :: _,⟨h1,_,h3⟩=>by simp only [map_cons,h1,yew h3]
abbrev FA (c:Cx):List Addr:=c.L :: c.fr.map (·.1)
structure FlyB (c:Cx) (mr:Str->Option Value) (ρ:List Addr) (H:MH) (as:List MV) (e:Addr) (h hB:Heap) (t:Addr) (vs:List Value):Prop where
 st:St c mr ρ H hB
 vr:VRs ρ as vs
 en:hB.get? e=none
 tn:hB.get? t=none
 tup:h.TupAt t vs
 up:hB.UpToSlots h
 stay:(TI.gone hB (FA c)).StaysIn h
def FlyH (c:Cx) (mr:Str->Option Value) (ρ:List Addr) (H:MH) (C:Addr) (as:List MV) (e:Addr) (fl:Value) (h:Heap):Prop:=
 ∃hB t vs,FlyB c mr ρ H as e h hB t vs/\h.TracedAtW (TI.gone hB (FA c)) e (.ref C) (.ref t) fl
section
variable {c:Cx} {mr:Str->Option Value} {ρ:List Addr} {H:MH} {C:Addr} {as:List MV} {e:Addr} {h hB:Heap} {t:Addr} {vs:List Value} {G:Gx} {d:Nat}
theorem Fly.split (f:Fly c mr ρ H C as e h):∃hB t vs,FlyB c mr ρ H as e h hB t vs/\
   ((∃oe ws,h.get? e=some oe/\oe.cls=.ref C/\oe.data=.fields ws/\ws[0]?=some (.ref t)/\ws[1]?=some .none)\/
    ∃fl,h.TracedAtW (TI.gone hB (FA c)) e (.ref C) (.ref t) fl/\(fl=.none\/fl=rawInt c.L)):=by
 obtain ⟨hB,t,vs,Z1⟩:=f;haveI a1:=(zl Z1);haveI a2:=(zl (zr Z1));haveI a3:=(zl (zr (zr Z1)));haveI a4:=(zl (zr (zr (zr Z1))));haveI a5:=(zl (zr (zr (zr (zr Z1)))));haveI a6:=(zl (zr (zr (zr (zr (zr Z1))))));haveI a7:=(zl (zr (zr (zr (zr (zr (zr Z1)))))));haveI a8:=(zr (zr (zr (zr (zr (zr (zr Z1)))))));clear Z1;exact ⟨hB,t,vs,⟨a1,a2,a3,a4,a5,a6,a7⟩,a8⟩
theorem FlyB.fly (b:FlyB c mr ρ H as e h hB t vs) (x:(∃oe ws,h.get? e=some oe/\oe.cls=.ref C/\oe.data=.fields ws/\ws[0]?=some (.ref t)/\ws[1]?=some .none)\/
    ∃fl,h.TracedAtW (TI.gone hB (FA c)) e (.ref C) (.ref t) fl/\(fl=.none\/fl=rawInt c.L)):Fly c mr ρ H C as e h:=
 ⟨hB,t,vs,b.st,b.vr,b.en,b.tn,b.tup,b.up,b.stay,x⟩
theorem FlyH.fly {fl:Value} (f:FlyH c mr ρ H C as e fl h) (hfl:fl=.none\/fl=rawInt c.L):Fly c mr ρ H C as e h:=by
 obtain ⟨hB,t,vs,b,x⟩:=f;exact b.fly (.inr ⟨fl,x,hfl⟩)
theorem FlyB.frames (ok:Ok G c d) (b:FlyB c mr ρ H as e h hB t vs):∃env₀ outer,c.A.frames=some (env₀ :: outer)/\env₀.frame=some c.L/\(c.fm=none->env₀=c.env)/\h.FunFrames (TI.gone hB (FA c)) (env₀ :: outer):=by
 obtain ⟨env₀,outer,Z1⟩:=ok.frames;haveI hA:=(zl Z1);haveI hf:=(zl (zr Z1));haveI hk:=(zl (zr (zr Z1)));haveI Fs:=(zl (zr (zr (zr Z1))));haveI he:=(zr (zr (zr (zr Z1))));clear Z1;refine ⟨env₀,outer,hA,hf,he,?_⟩;refine b.st.oq fun ml fr ex os own u F a1 a2 a3 N a5=>?_;haveI Fs':=Fs.up u;obtain ⟨fr',u',ht'⟩:=TI.sameUp_of (h':=h) (frs:=fr) fun p hp=>b.up p.1 p.2 (N p (mem_append_left _ (mem_append_left _ hp))).1 fun ws q=>by
   obtain ⟨es,ep,hd⟩:=Fs'.dict p hp;rw [hd] at q;cases q
 refine Heap.FunFrames.cons (by rw [hk];decide) hf (b.up.ns F.ns) (TI.gone_none (.head _)) ((Fs'.up u').fun fun q hq=>⟨ht' q hq,TI.gone_none (.tail _ ?_)⟩);rw [<-yew u,<-yew u'];exact mem_map_of_mem hq
theorem FlyB.base (b:FlyB c mr ρ H as e h hB t vs):(TI.gone hB (FA c)).get? e=none:=TI.none_of (fun _ _ q=>(TI.gone_some q).2) b.en
theorem FlyB.on {h':Heap} (b:FlyB c mr ρ H as e h hB t vs) (up:h.UpToSlots h') (st:(TI.gone hB (FA c)).StaysIn h'):FlyB c mr ρ H as e h' hB t vs:=
 ⟨b.st,b.vr,b.en,b.tn,b.tup.of_slots up,b.up.trans up,st⟩
end
section
variable {c:Cx} {mr:Str->Option Value} {ρ:List Addr} {H:MH} {C:Addr} {as:List MV} {e:Addr} {G:Gx} {d:Nat} {M:Model} {A:Around} {s:Shared} {Q:Unit->Shared->Prop} {E:Value->Shared->Prop}
theorem ymi {base:Heap} {cls a0 fl:Value} (o:Option Addr) (hkb:base.StaysIn s.heap) (ht:s.heap.TracedAtW base e cls a0 fl)
   (h:∀h',base.StaysIn h'->h'.TracedAtW base e cls a0 (o.elim .none fun f=>rawInt f)->(∀b x,s.heap.get? b=some x->(∀vs,x.data≠.fields vs)->h'.get? b=some x)->Q () { s with heap:=h' }) :
   wpAny M A (setFlight (.ref e) o) Q E s:=by
 obtain ⟨oe,vs,T,oT,ts,Z1⟩:=ht;haveI he:=(zl Z1);haveI hcls:=(zl (zr Z1));haveI hd:=(zl (zr (zr Z1)));haveI h1:=(zl (zr (zr (zr Z1))));haveI hnT:=(zl (zr (zr (zr (zr Z1)))));haveI hTe:=(zl (zr (zr (zr (zr (zr Z1))))));haveI hT:=(zl (zr (zr (zr (zr (zr (zr Z1)))))));haveI hdT:=(zl (zr (zr (zr (zr (zr (zr (zr Z1))))))));haveI h3:=(zr (zr (zr (zr (zr (zr (zr (zr Z1))))))));clear Z1;haveI hsz3:3<ts.size:=(Array.getElem?_eq_some_iff.mp h3).1;haveI other:∀b,b≠T->(s.heap.update T (Obj.mapFields (·.setIfInBounds 3 (o.elim Value.none fun f=>rawInt f)))).get? b=s.heap.get? b:=
   fun b hb=>Heap.get?_update_other _ _ (Ne.symm hb)
 haveI noRecord:∀b o,s.heap.get? b=some o->(∀vs,o.data≠.fields vs)->b≠T:=fun b o hb hnf q=>by
   rw [q,hT] at hb;injection hb with hb;subst hb;exact hnf ts hdT
 unfold setFlight;refine wpAny_bind (wpAny_field he hd h1 ?_);rw [if_pos (show (Value.ref T != Value.none)=true from by rfl)];refine wpAny_setField hT hdT hsz3 (h _ (fun b o hbo=>(other b fun q=>by rw [q,hnT] at hbo;exact no hbo).trans (hkb b o hbo)) ?_ fun b o hb hnf=>(other b (noRecord b o hb hnf)).trans hb);exact ⟨oe,vs,T,_,_,(other e (Ne.symm hTe)).trans he,hcls,hd,h1,hnT,hTe,Heap.get?_update_self _ hT (Obj.isFreed_of_fields (Obj.data_mapFields hdT _)),Obj.data_mapFields hdT _,by simp [hsz3]⟩
theorem FlyH.flight {fl:Value} (o:Option Addr) (f:FlyH c mr ρ H C as e fl s.heap) (k:∀h',FlyH c mr ρ H C as e (o.elim .none fun f=>rawInt f) h'->Q () { s with heap:=h' }):wpAny M A (setFlight (.ref e) o) Q E s:=by
 obtain ⟨hB,t,vs,b,x⟩:=f;exact ymi o b.stay x fun h' k1 k2 k3=>k h' ⟨hB,t,vs,b.on (fun a x ha hn=>⟨x.slots,k3 a x ha hn⟩) k1,k2⟩
theorem Fly.note (ok:Ok G c d) (hfm:c.fm=none) (hA:A.frames=c.A.frames) (f:Fly c mr ρ H C as e s.heap) (k:∀h',FlyH c mr ρ H C as e (rawInt c.L) h'->Q () { s with heap:=h' }) :
   wpAny M A (noteFrame (.ref e) c.env) Q E s:=by
 obtain ⟨hB,t,vs,Z1⟩:=f.split;haveI b:=(zl Z1);haveI x:=(zr Z1);clear Z1;obtain ⟨env₀,outer,Z2⟩:=b.frames ok;haveI hA0:=(zl Z2);haveI hf:=(zl (zr Z2));haveI he0:=(zl (zr (zr Z2)));haveI hFF:=(zr (zr (zr Z2)));clear Z2;haveI he1:=he0 hfm;subst he1;rw [hA0] at hA;rcases x with ⟨oe,ws,q1,q2,q3,q4,q5⟩ | ⟨fl,x,rfl | rfl⟩
 . unfold noteFrame;simp only [hf];refine wpAny_bind (wpAny_field q1 q3 q5 ?_);rw [if_neg (by decide)];refine wpAny_entryW (a0:=.ref t) hA hFF hf q1 b.stay b.base q3 (Array.getElem?_eq_some_iff.mp q5).1 q4 fun h' hN=>?_;haveI Z3:=hN;clear hN;haveI k1:=(zl Z3);haveI k2:=(zl (zr Z3));haveI k3:=(zl (zr (zr Z3)));haveI k4:=(zr (zr (zr Z3)));clear Z3;rw [q2] at k3;exact k h' ⟨hB,t,vs,b.on k4 k1,k3⟩
 . refine wpAny_noteFrame_onW hA hFF hf x b.stay b.base fun h' hN=>?_;haveI Z4:=hN;clear hN;haveI k1:=(zl Z4);haveI k2:=(zl (zr Z4));haveI k3:=(zl (zr (zr Z4)));haveI k4:=(zr (zr (zr Z4)));clear Z4;exact k h' ⟨hB,t,vs,b.on k4 k1,k3⟩
 . exact wpAny_noteFrame_againW hf x (k s.heap ⟨hB,t,vs,b,x⟩)
theorem Fly.leave (ok:Ok G c d) (hfm:c.fm=none) (hA:A.frames=c.A.frames) (f:Fly c mr ρ H C as e s.heap) (k:∀h',FlyH c mr ρ H C as e .none h'->Q () { s with heap:=h' }) :
   wpAny M A (leaving c.env (.ref e)) Q E s:=by
 unfold leaving;refine wpAny_bind (f.note ok hfm hA fun h' f'=>?_);exact f'.flight none k
theorem Kx.pass (ok:Ok G c d) (hfm:c.fm=none) {A':Around} (hA:A.frames=c.A.frames) (k:Kx c ρ s E):Kx c ρ s (notedBy M A c.env (cameBackBy M A' c.env E)):=by
 intro t C as e m' mr' H' h' tk hX hF hL;obtain ⟨_,_,Z1⟩:=ok.frames;haveI he:=(zr (zr (zr (zr Z1))));clear Z1;haveI hfr:c.env.frame=some c.L:=by
   obtain ⟨env₀,outer,Z2⟩:=ok.frames;haveI hf:=(zl (zr Z2));haveI he:=(zr (zr (zr (zr Z2))));clear Z2;rw [<-he hfm];exact hf
 unfold notedBy;refine Fly.note (s:={ s with heap:=h',toks:=tk }) ok hfm hA hF fun h2 f2=>?_;unfold cameBackBy;obtain ⟨hB,t',vs,Z3⟩:=id f2;haveI b:=(zl Z3);haveI x:=(zr Z3);clear Z3;obtain ⟨oe,ws,T,oT,ts,Z4⟩:=id x;haveI q1:=(zl Z4);haveI q2:=(zl (zr Z4));haveI q3:=(zl (zr (zr Z4)));haveI q4:=(zl (zr (zr (zr Z4))));haveI q5:=(zl (zr (zr (zr (zr Z4)))));haveI q6:=(zl (zr (zr (zr (zr (zr Z4))))));haveI q7:=(zl (zr (zr (zr (zr (zr (zr Z4)))))));haveI q8:=(zl (zr (zr (zr (zr (zr (zr (zr Z4))))))));haveI q9:=(zr (zr (zr (zr (zr (zr (zr (zr Z4))))))));clear Z4;refine wpAny_bind (wpAny_field q1 q3 q4 ?_);rw [if_neg (by exact fun h=>nomatch h)];rw [hfr];refine FlyH.flight (s:={ s with heap:=h2,toks:=tk }) (some c.L) f2 fun h3 f3=>?_;exact k t C as e m' mr' H' h3 tk hX (f3.fly (.inr rfl)) hL
end
structure Over (c c':Cx) (mr ml:Str->Option Value) (fr ex:List (Addr×Obj)) (oL:Obj):Prop where
 prog:c'.prog=c.prog
 w:c'.w=c.w
 h₀:c'.h₀=c.h₀
 fr':c'.fr=(c.L,oL) :: fr
 xt':c'.xt=c.xt++ex
 su:TI.SameUp c.fr fr
 own:Own c mr ml ex
 ns:∀(h:Heap) sl,h.get? c.L=some { oL with slots:=sl }->h.Ns c.L ml
 above:c.h₀.objs.size<=c.L
theorem Over.back {c c':Cx} {mr ml mr':Str->Option Value} {fr ex:List (Addr×Obj)} {oL:Obj} {ρ:List Addr} {H:MH} {h h':Heap} (O:Over c c' mr ml fr ex oL) (S:St c' mr' ρ H h)
   (hk:∀b o,b≠c'.L->h.get? b=some o->h'.get? b=some o):St c mr ρ H h':=by
 obtain ⟨ml',fr',ex',own',u',F',os,a1,a2,a3,N',a5⟩:=S;obtain ⟨ep,ew,e0,ef,ex0,su,own,ns,above⟩:=O;rw [ef] at u';cases fr' with
 | nil=>exact False.elim u'
 | cons q fr''=>
   obtain ⟨u1,⟨sl,u2⟩,u3⟩:=u';obtain ⟨qa,qo⟩:=q;simp only at u1 u2;subst u1 u2;haveI hmem:∀p ∈ (fr''++(c.xt++ex))++ρ.zip os,p ∈ ((c.L,{ oL with slots:=sl }) :: fr''++(c'.xt++ex'))++ρ.zip os:=by
     intro p hp;rw [ex0];simp only [mem_append,mem_cons,cons_append] at hp ⊢;rcases hp with (hp | hp | hp) | hp <;> simp [hp]
   haveI hL:=N' (c.L,{ oL with slots:=sl }) (mem_append_left _ (.head _));have hnd:(c.L :: ((fr''++(c.xt++ex)).map (·.1)++ρ)).Nodup:=by
     refine List.Nodup.sublist ?_ a5;rw [ex0];simp only [cons_append,map_cons,map_append,append_assoc];refine List.Sublist.cons_cons _ ?_;refine List.Sublist.append (List.Sublist.refl _) ?_;refine List.Sublist.append (List.Sublist.refl _) ?_;refine List.Sublist.append (List.Sublist.refl _) ?_;exact List.sublist_append_right _ _
   rw [nodup_cons] at hnd;refine ⟨ml,fr'',ex,own,su.trans u3,⟨ns _ sl (hk _ _ hL.2.1 hL.1),fun b o e=>hk b o ?_ (F'.keep b o (by rw [e0];exact e)),above⟩,os,a1,a2,?_,?_,hnd.2⟩
   . rintro rfl;haveI:=F'.above;rw [e0] at this;exact absurd (Heap.lt_size e) (Nat.not_lt.mpr this)
   . rw [<-ep,<-ew];exact a3
   . intro p hp;haveI P:=N' p (hmem p hp);refine ⟨hk _ _ P.2.1 P.1,?_,by rw [<-e0];exact P.2.2⟩;intro q;refine hnd.1 ?_;rw [<-q];rcases zma hp with hp | hp
     . exact mem_append_left _ (mem_map_of_mem hp)
     . exact mem_append_right _ (of_mem_zip (show (p.1,p.2) ∈ _ from hp)).1
theorem Over.fly {c c':Cx} {mr ml mr':Str->Option Value} {fr ex:List (Addr×Obj)} {oL:Obj} {ρ:List Addr} {H:MH} {C:Addr} {as:List MV} {e:Addr} {h:Heap} (O:Over c c' mr ml fr ex oL)
   (f:FlyH c' mr' ρ H C as e .none h):Fly c mr ρ H C as e h:=by
 obtain ⟨hB,t,vs,b,x⟩:=f;have hg:∀b o,(TI.gone hB [c'.L]).get? b=some o->b≠c'.L/\hB.get? b=some o:=fun b o q=>by
   obtain ⟨h1,h2⟩:=TI.gone_some q;exact ⟨fun e=>h1 (by rw [e];exact .head _),h2⟩
 have hin:∀b o,(TI.gone (TI.gone hB [c'.L]) (FA c)).get? b=some o->(TI.gone hB (FA c')).get? b=some o:=fun b o q=>by
   obtain ⟨h1,h2⟩:=TI.gone_some q;obtain ⟨h3,h4⟩:=hg b o h2;refine (TI.gone_get ?_).trans h4;unfold FA at h1 ⊢;rw [O.fr',map_cons,yew O.su];intro hm;rcases zmc hm with q | hm
   . exact h3 q
   . exact h1 hm
 refine FlyB.fly (hB:=TI.gone hB [c'.L]) (t:=t) (vs:=vs) ⟨O.back b.st fun b o hb q=>(TI.gone_get (by simpa using hb)).trans q,b.vr,TI.none_of (fun b o q=>(hg b o q).2) b.en,TI.none_of (fun b o q=>(hg b o q).2) b.tn,b.tup,
   fun a o q hn=>b.up a o (hg a o q).2 hn,fun a o q=>b.stay a o (hin a o q)⟩ (.inr ⟨.none,?_,.inl rfl⟩)
 obtain ⟨oe,ws,T,oT,ts,q1,q2,q3,q4,q5,q6,q7,q8,q9⟩:=x;exact ⟨oe,ws,T,oT,ts,q1,q2,q3,q4,TI.none_of hin q5,q6,q7,q8,q9⟩
def CL (G:Gx) (prog:Program) (w:World) (d:Nat) (f:Addr) (args:List MV) (H:MH) (post:MV->MH->Prop) (xp:Addr->List MV->MH->Prop):Prop:=
 ∀(c:Cx) (mr:Str->Option Value) (ρ:List Addr) (s:Shared) (Q:Value->Shared->Prop) (E:Value->Shared->Prop) (vs:List Value),c.prog=prog->c.w=w->Ok G c d->St c mr ρ H s.heap->VRs ρ args vs->
   (∀t v vr H' h' tk,post v H'->VR (ρ++t) v vr->St c mr (ρ++t) H' h'->Q vr { s with heap:=h',toks:=tk })->
   (∀t C as e H' h' tk,xp C as H'->Fly c mr (ρ++t) H' C as e h'->E (.ref e) { s with heap:=h',toks:=tk })->
   codeAny (model prog w) c.A (.call (.ref f) ⟨vs,[]⟩) (fun r s'=>match r with | .ok (.ret v)=>Q v s' | .ok _=>False | .error e=>E e s') s
theorem CL.mono {G:Gx} {prog:Program} {w:World} {d:Nat} {f:Addr} {args:List MV} {H:MH} {p q:MV->MH->Prop} {xp xq:Addr->List MV->MH->Prop} (h:CL G prog w d f args H p xp) (hp:∀v H',p v H'->q v H')
   (hx:∀C as H',xp C as H'->xq C as H'):CL G prog w d f args H q xq:=
 fun c mr ρ s Q E vs e1 e2 o S l k kx=>h c mr ρ s Q E vs e1 e2 o S l (fun t v vr H' h' tk hv=>k t v vr H' h' tk (hp _ _ hv)) fun t C as e H' h' tk hv=>kx t C as e H' h' tk (hx _ _ _ hv)
inductive Fl where
 | next
 | brk
 | cont
 | ret (v:MV)
def FlR (ρ:List Addr):Fl->Flow->Prop
 | .next,f=>f=.next
 | .brk,f=>f=.brk
 | .cont,f=>f=.cont
 | .ret m,f=>∃v,f=.ret v/\VR ρ m v
noncomputable def retv:Fl->MV
 | .ret v=>v
 | _=>.none
def EX (c:Cx) (m:ML) (ss:List Stmt) (H:MH) (post:Fl->ML->MH->Prop):Prop:=
 ∀(mr:Str->Option Value) (ρ:List Addr) (s:Shared) (Q:Flow->Shared->Prop) (E:Value->Shared->Prop),St c mr ρ H s.heap->LR mr c.nm ρ m->
   (∀t f fr m' mr' H' h' tk,post f m' H'->FlR (ρ++t) f fr->St c mr' (ρ++t) H' h'->LR mr' c.nm (ρ++t) m'->Q fr { s with heap:=h',toks:=tk })->Kx c ρ s E->
   wpAny (model c.prog c.w) c.A (execs ss c.env) Q E s
theorem yok {k:Str->Option NameKind} {x:Str}:∀{names:List Str} {vals:List Value} {m₀:Str->Option Value},x ∉ names->bindL k (names.zip vals) m₀ x=m₀ x:=by
 intro names
 induction names with
 | nil=>intro vals m₀ _;rfl
 | cons n ns ih=>
   intro vals m₀ h;cases vals with
   | nil=>rfl
   | cons v vs=>
     have hn:x≠n:=fun e=>h (e ▸ .head _);rw [zip_cons_cons];unfold bindL;rw [ih fun q=>h (.tail _ q)];split <;> simp [hn]
theorem yob {k:Str->Option NameKind} {x:Str}:∀{names:List Str} {vals:List Value} {m₀:Str->Option Value},x ∉ names->bindC k (names.zip vals) m₀ x=m₀ x:=by
 intro names
 induction names with
 | nil=>intro vals m₀ _;rfl
 | cons n ns ih=>
   intro vals m₀ h;cases vals with
   | nil=>rfl
   | cons v vs=>
     have hn:x≠n:=fun e=>h (e ▸ .head _);rw [zip_cons_cons];unfold bindC;rw [ih fun q=>h (.tail _ q)];split <;> simp [hn]
theorem ykb {k:Str->Option NameKind} {x:Str} {v:Value} (hk:k x=some .local):∀{names:List Str} {vals:List Value} {i:Nat} {m₀:Str->Option Value},names.Nodup->names[i]?=some x->vals[i]?=some v->bindL k (names.zip vals) m₀ x=some v:=by
 intro names
 induction names with
 | nil=>intro vals i m₀ _ e _;exact no e
 | cons n ns ih=>
   intro vals i m₀ hn e1 e2;cases vals with
   | nil=>exact no e2
   | cons u us=>
     rw [zip_cons_cons];unfold bindL;cases i with
     | zero=>
       simp at e1 e2;subst e1 e2;rw [yok (nodup_cons.mp hn).1,if_pos hk];simp
     | succ i=>exact ih (nodup_cons.mp hn).2 e1 e2
theorem ykl {k:Str->Option NameKind} {x:Str} {v:Value} (hk:k x≠some .local):∀{names:List Str} {vals:List Value} {i:Nat} {m₀:Str->Option Value},names.Nodup->names[i]?=some x->vals[i]?=some v->bindC k (names.zip vals) m₀ x=some v:=by
 intro names
 induction names with
 | nil=>intro vals i m₀ _ e _;exact no e
 | cons n ns ih=>
   intro vals i m₀ hn e1 e2;cases vals with
   | nil=>exact no e2
   | cons u us=>
     rw [zip_cons_cons];unfold bindC;cases i with
     | zero=>
       simp at e1 e2;subst e1 e2;rw [yob (nodup_cons.mp hn).1,if_neg hk];simp
     | succ i=>exact ih (nodup_cons.mp hn).2 e1 e2
theorem yie {cm:Str->Option Value} {x:Str} {a:Addr}:∀{cs:List (Str×Addr)} {cells:List (Addr×Obj)},CellsAre cm cs cells->cs.lookup x=some a->∃o,(a,o) ∈ cells/\o.data=.cell (cm x):=by
 intro cs cells X
 induction X with
 | nil=>intro h;exact no h
 | @cons n b o cs cells hd X ih=>
   intro h;rw [lookup_cons] at h;by_cases e:x=n
   . subst e;simp at h;subst h;exact ⟨o,.head _,hd⟩
   . haveI hb:(x==n)=false:=by exact beq_eq_false_iff_ne.mpr e
     rw [hb] at h;obtain ⟨o',Z1⟩:=ih h;haveI h1:=(zl Z1);haveI h2:=(zr Z1);clear Z1;exact ⟨o',.tail _ h1,h2⟩
theorem yfz {cm:Str->Option Value}:∀{cs:List (Str×Addr)} {cells:List (Addr×Obj)},CellsAre cm cs cells->cells.map (·.1)=cs.map (·.2):=by
 intro cs cells X
 induction X with
 | nil=>rfl
 | @cons n b o cs cells hd X ih=>rw [map_cons,map_cons,ih]
noncomputable def start (nm:List Str) (args:List MV):ML:=args.map some++List.replicate (nm.length - args.length) none
noncomputable def fnb (scope:Scope) (names nm:List Str):Bool:=
 names==nm.take names.length && decide nm.Nodup && names.all (fun x=>stb scope x) && !scope.isCoroutine && !scope.isGenerator && scope.kind==.function &&
   decide (((cellsFrom 0 scope.names []).map (·.1)).Nodup) && scope.names.all (fun p=>p.2 != .free)
theorem yn2 {x:Str}:∀{l:List (Str×NameKind)},l.all (fun p=>p.2 != .free)=true->l.lookup x≠some .free:=by
 intro zd
 induction zd with
 | nil=>
  exact fun zz h=>by exact no h
 | cons zp0 r zih=>
  obtain ⟨y,k⟩:=zp0;exact fun h e=>by
   simp only [List.all_cons,Bool.and_eq_true] at h;rw [lookup_cons] at e;by_cases q:x=y
   . subst q;simp at e;rw [e] at h;exact absurd h.1 (by decide)
   . have hb:(x==y)=false:=by exact beq_eq_false_iff_ne.mpr q
     rw [hb] at e;exact zih h.2 e
theorem CL.body {G:Gx} {prog:Program} {w:World} {d:Nat} {f:Addr} {args:List MV} {H:MH} {post:MV->MH->Prop} {xp:Addr->List MV->MH->Prop}
   {name qual:Str} {params:Arguments} {body:List Stmt} {scope:Scope} {dV kV doc pm cdv ct oc:Value} {an od:Option Addr} {osl:Array (Option Value)} {names nm:List Str} {dm:List MV} {dv:List Value}
   (hf:G.K.lookup f=some ⟨oc,od,.func (fnOf name qual params body scope dV kV doc pm an cdv ct),osl⟩) (hcd:codeIn G.K cdv qual=true)
   (hb:∀(s:Shared) (vs:List Value),G.K.In s.heap->vs.length=args.length->BindsTo s (fnOf name qual params body scope dV kV doc pm an cdv ct) ⟨vs,[]⟩ (names.zip (vs++dv)))
   (hdm:VRs [] dm dv) (hl:(args++dm).length=names.length) (hfn:fnb scope names nm=true)
   (h:∀c:Cx,c.prog=prog->c.w=w->Ok G c d->c.fm=none->c.nm=nm->c.sc=scope->c.X=(fun C as _ H=>xp C as H)->EX c (start nm (args++dm)) body H (fun fl _ H'=>post (retv fl) H')) :
   CL G prog w (d+1) f args H post xp:=by
 intro c mr ρ s Q E vs ep ew ok S hvs k kx;subst ep ew;unfold fnb at hfn;simp only [Bool.and_eq_true,beq_iff_eq,decide_eq_true_eq,Bool.not_eq_true',all_eq_true] at hfn;obtain ⟨⟨⟨⟨⟨⟨⟨hn1,hn2⟩,hn3⟩,hco⟩,hgen⟩,hk⟩,hnd⟩,hnf⟩:=hfn;haveI hnf':scope.names.all (fun p=>p.2 != .free)=true:=all_eq_true.mpr hnf;obtain ⟨ml,fr,ex,own,u,F,os,a1,a2,a3,N,a5⟩:=id S;obtain ⟨env₀,outer,hA,hfr,hkf,Fs,_⟩:=ok.frames;haveI X:=ok.kin.keeps F.keep;have hnn:names.Nodup:=by rw [hn1];exact (List.take_sublist _ _).nodup hn2
 have hvd:VRs ρ (args++dm) (vs++dv):=hvs.append (by simpa using hdm.mono (t:=ρ));have hlen:(vs++dv).length=names.length:=by rw [hvd.length,hl]
 have hmemn:∀x ∈ names.zip (vs++dv),scope.names.lookup x.1=some .local\/scope.names.lookup x.1=some .cell:=fun x hx=>by
   haveI:=hn3 x.1 (of_mem_zip (show (x.1,x.2) ∈ _ from hx)).1;unfold stb at this;simpa using this
 refine codeAny_call_function (by haveI:=ok.dep;exact Nat.lt_of_le_of_lt (Nat.le_add_right _ _) ‹_›) (X _ _ hf) rfl hco hgen rfl (codeRec_of X hcd) (hb s vs X hvs.length _ _ _ _ ?_);refine wpAny_newFunctionEnv_cells hk (fun x hx=>(hmemn x hx).imp id fun q=>⟨q,cellsFrom_some _ _ _ (.inl q)⟩) fun env' he s' x=>?_;subst he;refine ⟨(ok.top.nolimit.keeps F.keep).keeps x.toInCall.keep,codeAny_func ?_⟩;obtain ⟨h₁,tk,rfl,hk₁⟩:=x.done;obtain ⟨cells,NC,Y⟩:=Cl.news (h₀:=s.heap) (Nat.le_refl _) fun n c hm=>⟨x.cell n c (lookup_of_mem_nodup (cellsFrom_names scope.names 0 (s.heap.objs.size+1) [] [] rfl ▸ hnd) hm),x.above n c hm⟩;obtain ⟨oL,es,eP,hL,hLd,hLk,hLf⟩:=F.ns;haveI hLt:=Heap.lt_size hL
 let env':Env:=envOfC qual scope s.heap.objs.size f cdv
 let mr':Str->Option Value:=fun y=>if env'.kindOf y=some .local then bindL env'.kindOf (names.zip (vs++dv)) (fun _=>none) y else bindC env'.kindOf (names.zip (vs++dv)) (fun _=>none) y
 let c':Cx:={ prog:=c.prog,w:=c.w,A:=c.A.deeper env',env:=env',h₀:=c.h₀,L:=s.heap.objs.size,fm:=none,fr:=(c.L,oL) :: fr,xt:=c.xt++ex,X:=fun C as _ H=>xp C as H,nm:=nm,sc:=scope }
 have O:Over c c' mr ml fr ex oL:=⟨rfl,rfl,rfl,rfl,rfl,u,own,fun h' sl e=>⟨_,es,eP,e,hLd,hLk,hLf⟩,F.above⟩;have ok':Ok G c' d:=by
   refine ⟨⟨env',env₀ :: outer,Around.frames_deeper hA,rfl,hk,⟨by rw [hkf];decide,hfr,⟨es,eP,hLd⟩,Fs.up u⟩,fun _=>rfl⟩,ok.kin,ok.top,ok.hh,?_,?_,hk,rfl,rfl,fun _=>x.apart,fun _=>rfl,fun _=>rfl,ok.ex⟩
   . haveI:=ok.dep;show c.A.depth+1+d<recursionLimit;exact qf16 this
   . haveI:=ok.uni;show c.A.units+3+8*d+64<cLine;lia
 have hall:∀p ∈ (fr++(c.xt++ex))++ρ.zip os,h₁.get? p.1=some p.2/\p.1≠s.heap.objs.size/\c.h₀.get? p.1=none:=fun p hp=>⟨hk₁ _ _ (N p hp).1,Nat.ne_of_lt (Heap.lt_size (N p hp).1),(N p hp).2.2⟩;have S':St c' mr' ρ H h₁:=by
   refine ⟨bindL env'.kindOf (names.zip (vs++dv)) (fun _=>none),(c.L,oL) :: fr,cells,?_,TI.SameUp.refl _,⟨x.toInCall.ns,fun b o e=>hk₁ b o (F.keep b o e),Nat.le_trans F.above (Nat.le_of_lt hLt)⟩,os,a1,a2,a3,?_,?_⟩
   . refine ⟨rfl,fun y hy=>?_,fun y hy=>?_⟩
     . show _=if env'.kindOf y=some .local then _ else _
       rw [if_pos hy]
     . rcases hy with hy | hy
       . haveI hs:((cellsFrom (s.heap.objs.size+1) scope.names []).lookup y).isSome=true:=cellsFrom_some _ _ _ (.inl hy);obtain ⟨a,ha⟩:=Option.isSome_iff_exists.mp hs;obtain ⟨o,h1,h2⟩:=yie Y ha;refine ⟨a,o,ha,h1,h2.trans ?_⟩;have hnl:¬env'.kindOf y=some .local:=by
           intro q;haveI q':env'.kindOf y=some .cell:=hy;rw [q] at q';cases q'
         show _=Data.cell (if env'.kindOf y=some .local then _ else _);rw [if_neg hnl];rfl
       . exact absurd hy (yn2 hnf')
   . intro p hp;replace hp:p ∈ (((c.L,oL) :: fr)++((c.xt++ex)++cells))++ρ.zip os:=hp;simp only [cons_append,append_assoc,mem_cons,mem_append] at hp;rcases hp with rfl | hp | hp | hp | hp | hp
     . exact ⟨hk₁ _ _ hL,Nat.ne_of_lt hLt,Heap.get?_none_of_le F.above⟩
     . exact hall p (by simp [hp])
     . exact hall p (by simp [hp])
     . exact hall p (by simp [hp])
     . exact ⟨(NC p hp).1,(NC p hp).2.1,TI.none_of F.keep (NC p hp).2.2⟩
     . exact hall p (by simp [hp])
   . have hLn:c.L ∉ (fr++(c.xt++ex)).map (·.1)++ρ:=fun q=>by
       obtain ⟨p,hp,e⟩:=ybs (os:=os) a1 a2 q;exact (N p hp).2.1 e
     have hcn:∀a ∈ cells.map (·.1),s.heap.get? a=none:=fun a ha=>by
       obtain ⟨p,hp,rfl⟩:=mem_map.mp ha;exact (NC p hp).2.2
     have hcnd:(cells.map (·.1)).Nodup:=by
       rw [yfz Y];exact pairwise_map.mpr x.apart
     have hp:((((c.L,oL) :: fr)++((c.xt++ex)++cells)).map (·.1)++ρ).Perm (cells.map (·.1)++(c.L :: ((fr++(c.xt++ex)).map (·.1)++ρ))):=by
       simp only [map_append,map_cons,cons_append,append_assoc];have:∀(A B C R:List Addr),(A++(B++(C++R))).Perm (C++(A++(B++R))):=by
         intro A B C R;haveI h1:((A++B)++C++R).Perm (C++(A++B)++R):=List.perm_append_comm.append_right R;simpa [append_assoc] using h1
       haveI h2:=this (c.L :: fr.map (·.1)) (c.xt.map (·.1)++ex.map (·.1)) (cells.map (·.1)) ρ;simpa [append_assoc] using h2
     rw [hp.nodup_iff,nodup_append];refine ⟨hcnd,nodup_cons.mpr ⟨hLn,a5⟩,fun a ha b hb e=>?_⟩;subst e;haveI h0:=hcn a ha;rcases zmc hb with q | q
     . rw [q,hL] at h0;exact ns h0
     . obtain ⟨p,hp,e⟩:=ybs (os:=os) a1 a2 q;haveI:=(N p hp).1;rw [e,h0] at this;exact no this
 have l':LR mr' nm ρ (start nm (args++dm)):=by
   have hle:names.length<=nm.length:=by
     haveI:=congrArg List.length hn1;rw [length_take] at this;lia
   refine ⟨by unfold start;rw [length_append,length_map,List.length_replicate];lia,fun i y v e1 e2=>?_⟩;unfold start at e2;by_cases hi:i<(args++dm).length
   . rw [getElem?_append_left (by rw [length_map];exact hi),getElem?_map] at e2;cases q:(args++dm)[i]? with
     | none=>rw [q] at e2;exact no e2
     | some v'=>
       rw [q] at e2;cases e2;obtain ⟨vr,g1,g2⟩:=hvd.get q;have hy:names[i]?=some y:=by
         rw [hn1,List.getElem?_take_of_lt (by rw [<-hl];exact hi)];exact ycr e1
       refine ⟨vr,g2,?_⟩;show (if env'.kindOf y=some .local then _ else _)=_;split
       . rename_i q;exact ykb q hnn hy g1
       . rename_i q;exact ykl q hnn hy g1
   . rw [getElem?_append_right (by rw [length_map];exact qf63 hl hi),List.getElem?_replicate] at e2;split at e2 <;> (first | exact no e2 | cases e2)
 refine h c' rfl rfl ok' rfl rfl rfl rfl mr' ρ { s with heap:=h₁,toks:=tk } _ _ S' l' ?_ ?_
 . intro t fl fr' m' mr'' H' h' tk' hp hfl S2 _;have S3:St c mr (ρ++t) H' h':=O.back S2 fun b o _ q=>q;cases fl with
   | ret v=>
     obtain ⟨vr,rfl,hv⟩:=hfl;exact k t v vr H' h' tk' hp hv S3
   | next=>subst hfl;exact k t .none .none H' h' tk' hp rfl S3
   | brk=>subst hfl;exact k t .none .none H' h' tk' hp rfl S3
   | cont=>subst hfl;exact k t .none .none H' h' tk' hp rfl S3
 . intro t C as e m' mr'' H' h' tk' hX hF hL';refine Fly.leave (c:=c') (s:={ s with heap:=h',toks:=tk' }) ok' rfl rfl hF fun h2 f2=>?_;exact kx t C as e H' h2 tk' hX (O.fly f2)
set_option genCtorIdx false in
mutual
inductive CE where
 | int (i:Int)
 | str (x:Str)
 | none
 | bool (b:Bool)
 | loc (i:Nat)
 | glob (x:Str)
 | bin (op:Operator) (a b:CE)
 | neg (a:CE)
 | tst (t:CT)
 | ite (t:CT) (a b:CE)
 | call (g:Str) (as:CEs)
 | meth (o:CE) (n:Str) (as:CEs)
 | attr (o:CE) (n:Str)
 | sub (o i:CE)
 | slice (o:CE) (lo hi:CO)
 | list (as:CEs)
 | tup (as:CEs)
 | dict0
 | comp (elt:CE) (tg:List Str) (it:CE) (cs:CTs)
inductive CEs where
 | nil
 | cons (e:CE) (r:CEs)
inductive CO where
 | none
 | some (e:CE)
inductive CT where
 | cmp (op:CmpOp) (a b:CE)
 | cmp2 (a:CE) (o1:CmpOp) (b:CE) (o2:CmpOp) (c:CE)
 | not (t:CT)
 | and (ts:CTs)
 | or (ts:CTs)
 | plain (e:CE)
inductive CTs where
 | nil
 | cons (t:CT) (r:CTs)
end
noncomputable def CEs.isN:CEs->Bool
 | .nil=>true
 | .cons _ _=>false
theorem CEs.ne {e:CE} {r:CEs}:CEs.cons e r≠.nil:=fun q=>nomatch (show false=true from congrArg CEs.isN q)
set_option genCtorIdx false in
mutual
inductive CS where
 | assign (i:Nat) (e:CE)
 | assignT (is:List Nat) (e:CE)
 | setItem (o i e:CE)
 | setAttr (o:CE) (n:Str) (e:CE)
 | swap (o1 i1 o2 i2 e1 e2:CE)
 | expr (e:CE)
 | ite (t:CT) (a b:CSs)
 | while (t:CT) (b:CSs)
 | for (tg:List Nat) (it:CE) (b:CSs)
 | ret (e:CE)
 | ret0
 | raise (g:Str) (as:CEs)
 | raiseFrom (g:Str) (as:CEs) (c:CE)
 | try (b:CSs) (h:CHs)
 | brk
 | cont
 | pass
inductive CSs where
 | nil
 | cons (s:CS) (r:CSs)
inductive CHs where
 | nil
 | cons (g:Str) (x:Option Nat) (b:CSs) (r:CHs)
end
noncomputable def yjj:PySem.Expr->List PySem.Expr×Nat×Scope
 | .Constant _ k _=>([],k,default)
 | .BinOp l _ r _=>([l,r],0,default)
 | .UnaryOp _ x _=>([x],0,default)
 | .IfExp a b c _=>([a,b,c],0,default)
 | .Compare l _ rs _=>(l :: rs,0,default)
 | .Call f as _ _=>(f :: as,0,default)
 | .Attribute o _ _=>([o],0,default)
 | .Subscript o i _=>([o,i],0,default)
 | .List es _=>(es,0,default)
 | .Tuple es k _=>(es,k,default)
 | .BoolOp _ es _=>(es,0,default)
 | .ListComp el gs s _=>(match gs with
   | [⟨t,i,ifs,_⟩]=>el :: t :: i :: ifs
   | _=>[],0,s)
 | .Slice l h _ _=>(l.toList++h.toList,0,default)
 | _=>([],0,default)
noncomputable def kids (e:PySem.Expr):List PySem.Expr:=(yjj e).1
noncomputable def ycm (e:PySem.Expr):Nat:=(yjj e).2.1
noncomputable def scOf (e:PySem.Expr):Scope:=(yjj e).2.2
noncomputable def kid (i:Nat) (e:PySem.Expr):PySem.Expr:=(kids e).getD i e
noncomputable def nth (i:Nat) (es:List PySem.Expr):PySem.Expr:=es.getD i (.Name "" default)
noncomputable def yau (ns:List Str) (es:List PySem.Expr):List PySem.Expr:=match ns with
 | []=>[]
 | x :: r=>.Name x (nth 0 es).pos :: yau r es.tail
noncomputable def reTg (ns:List Str) (e:PySem.Expr):PySem.Expr:=match ns with
 | [x]=>.Name x e.pos
 | ns=>.Tuple (yau ns (kids e)) (ycm e) e.pos
mutual
noncomputable def reE:CE->List Str->PySem.Expr->PySem.Expr
 | .int i=>fun _ e=>.Constant (.int i) (ycm e) e.pos
 | .str x=>fun _ e=>.Constant (.str x) (ycm e) e.pos
 | .none=>fun _ e=>.Constant .none (ycm e) e.pos
 | .bool b=>fun _ e=>.Constant (.bool b) (ycm e) e.pos
 | .loc i=>fun nm e=>.Name (nm.getD i "") e.pos
 | .glob x=>fun _ e=>.Name x e.pos
 | .bin op a b=>fun nm e=>.BinOp (reE a nm (kid 0 e)) op (reE b nm (kid 1 e)) e.pos
 | .neg a=>fun nm e=>.UnaryOp .USub (reE a nm (kid 0 e)) e.pos
 | .tst t=>fun nm e=>reT t nm e
 | .ite t a b=>fun nm e=>.IfExp (reT t nm (kid 0 e)) (reE a nm (kid 1 e)) (reE b nm (kid 2 e)) e.pos
 | .call g as=>fun nm e=>.Call (.Name g (kid 0 e).pos) (reEs as nm (kids e).tail) [] e.pos
 | .meth o n as=>fun nm e=>.Call (.Attribute (reE o nm (kid 0 (kid 0 e))) n (kid 0 e).pos) (reEs as nm (kids e).tail) [] e.pos
 | .attr o n=>fun nm e=>.Attribute (reE o nm (kid 0 e)) n e.pos
 | .sub o i=>fun nm e=>.Subscript (reE o nm (kid 0 e)) (reE i nm (kid 1 e)) e.pos
 | .slice o lo hi=>fun nm e=>.Subscript (reE o nm (kid 0 e)) (.Slice (reO lo nm (nth 0 (kids (kid 1 e)))) (reO hi nm (nth 0 (kids (kid 1 e)).reverse)) Option.none (kid 1 e).pos) e.pos
 | .list as=>fun nm e=>.List (reEs as nm (kids e)) e.pos
 | .tup as=>fun nm e=>.Tuple (reEs as nm (kids e)) (ycm e) e.pos
 | .dict0=>fun _ e=>.Dict [] [] e.pos
 | .comp elt tg it cs=>fun nm e=>.ListComp (reE elt (nm++tg) (kid 0 e)) [⟨reTg tg (kid 1 e),reE it nm (kid 2 e),reTs cs (nm++tg) ((kids e).drop 3),0⟩] (scOf e) e.pos
noncomputable def reEs:CEs->List Str->List PySem.Expr->List PySem.Expr
 | .nil=>fun _ _=>[]
 | .cons a r=>fun nm es=>reE a nm (nth 0 es) :: reEs r nm es.tail
noncomputable def reO:CO->List Str->PySem.Expr->Option PySem.Expr
 | .none=>fun _ _=>Option.none
 | .some a=>fun nm e=>Option.some (reE a nm e)
noncomputable def reT:CT->List Str->PySem.Expr->PySem.Expr
 | .cmp op a b=>fun nm e=>.Compare (reE a nm (kid 0 e)) [op] [reE b nm (kid 1 e)] e.pos
 | .cmp2 a o1 b o2 c=>fun nm e=>.Compare (reE a nm (kid 0 e)) [o1,o2] [reE b nm (kid 1 e),reE c nm (kid 2 e)] e.pos
 | .not t=>fun nm e=>.UnaryOp .Not (reT t nm (kid 0 e)) e.pos
 | .and ts=>fun nm e=>.BoolOp .And (reTs ts nm (kids e)) e.pos
 | .or ts=>fun nm e=>.BoolOp .Or (reTs ts nm (kids e)) e.pos
 | .plain a=>fun nm e=>reE a nm e
noncomputable def reTs:CTs->List Str->List PySem.Expr->List PySem.Expr
 | .nil=>fun _ _=>[]
 | .cons t r=>fun nm es=>reT t nm (nth 0 es) :: reTs r nm es.tail
end
noncomputable def yfm:PySem.Expr->Nat
 | .Slice ..=>1
 | .Starred ..=>2
 | .ListComp ..=>3
 | .SetComp ..=>3
 | .DictComp ..=>3
 | .Tuple ..=>4
 | .Call ..=>5
 | .Name ..=>6
 | _=>0
noncomputable def yj3 (e:PySem.Expr):Bool:=!(Nat.beq (yfm e) 5 && Nat.beq (yfm ((kids e).headD e)) 6 && Nat.beq (kids e).length 1)
noncomputable def yf3 (e:PySem.Expr):Bool:=!(Nat.beq (yfm e) 1)
noncomputable def yln (e:PySem.Expr):Bool:=!(Nat.beq (yfm e) 2)
noncomputable def yll (e:PySem.Expr):Bool:=!(Nat.beq (yfm e) 3)
noncomputable def yjs (e:PySem.Expr):Bool:=!(Nat.beq (yfm e) 4)
noncomputable def yjw:PySem.Expr->Bool
 | .UnaryOp .Not _ _=>false
 | .BoolOp ..=>false
 | .IfExp ..=>false
 | .Compare ..=>false
 | _=>true
noncomputable def yc5:CT->Bool
 | .plain _=>false
 | _=>true
noncomputable def yt1:CE->Bool
 | .tst _=>false
 | .ite ..=>false
 | _=>true
noncomputable def nsup:CE->Bool
 | .call _ .nil=>false
 | _=>true
noncomputable def yei (p:Str->Bool):List Str->Bool
 | []=>true
 | x :: r=>p x && !r.contains x && yei p r
noncomputable def yel (sc scope:Scope) (tg:List Str):Bool:=
 scope.kind==.function && scope.names.all fun p=>match p.2 with
   | .local=>(p.1==(".0":Str) || tg.contains p.1) && scope.names.lookup p.1==some .local
   | .free=>kcl (sc.names.lookup p.1)==2 && !tg.contains p.1
   | .globalImplicit=>true
   | _=>false
noncomputable def yix:CEs->Nat
 | .nil=>0
 | .cons _ r=>yix r+1
noncomputable def ydg (nm:List Str) (i:Nat):Bool:=slot nm (nm.getD i "")==some i
mutual
noncomputable def wfE:CE->List Str->Scope->PySem.Expr->Bool
 | .int _=>fun _ _ _=>true
 | .str _=>fun _ _ _=>true
 | .none=>fun _ _ _=>true
 | .bool _=>fun _ _ _=>true
 | .loc i=>fun nm sc _=>ydg nm i && rdb sc (nm.getD i "")
 | .glob x=>fun _ sc _=>glb sc x
 | .bin _ a b=>fun nm sc e=>wfE a nm sc (kid 0 e) && wfE b nm sc (kid 1 e)
 | .neg a=>fun nm sc e=>wfE a nm sc (kid 0 e)
 | .tst t=>fun nm sc e=>yc5 t && wfT t nm sc e
 | .ite t a b=>fun nm sc e=>wfT t nm sc (kid 0 e) && wfE a nm sc (kid 1 e) && wfE b nm sc (kid 2 e)
 | .call g as=>fun nm sc e=>glb sc g && wfEs as nm sc (kids e).tail
 | .meth o _ as=>fun nm sc e=>nsup o && (kid 0 e).pos.endLine==e.pos.line && yix as<30 && wfE o nm sc (kid 0 (kid 0 e)) && wfEs as nm sc (kids e).tail
 | .attr o _=>fun nm sc e=>nsup o && wfE o nm sc (kid 0 e)
 | .sub o i=>fun nm sc e=>wfE o nm sc (kid 0 e) && wfE i nm sc (kid 1 e)
 | .slice o lo hi=>fun nm sc e=>wfE o nm sc (kid 0 e) && wfO lo nm sc (nth 0 (kids (kid 1 e))) && wfO hi nm sc (nth 0 (kids (kid 1 e)).reverse)
 | .list as=>fun nm sc e=>wfEs as nm sc (kids e)
 | .tup as=>fun nm sc e=>wfEs as nm sc (kids e)
 | .dict0=>fun _ _ _=>true
 | .comp elt tg it cs=>fun nm sc e=>!nm.contains (".0":Str) && !tg.isEmpty && yei (fun x=>(scOf e).names.lookup x==some .local) tg && yel sc (scOf e) tg && wfE it nm sc (kid 2 e) && wfTs cs (nm++tg) (scOf e) ((kids e).drop 3) && wfE elt (nm++tg) (scOf e) (kid 0 e)
noncomputable def wfEs:CEs->List Str->Scope->List PySem.Expr->Bool
 | .nil=>fun _ _ _=>true
 | .cons a r=>fun nm sc es=>wfE a nm sc (nth 0 es) && wfEs r nm sc es.tail
noncomputable def wfO:CO->List Str->Scope->PySem.Expr->Bool
 | .none=>fun _ _ _=>true
 | .some a=>fun nm sc e=>wfE a nm sc e
noncomputable def wfT:CT->List Str->Scope->PySem.Expr->Bool
 | .cmp _ a b=>fun nm sc e=>wfE a nm sc (kid 0 e) && wfE b nm sc (kid 1 e)
 | .cmp2 a _ b _ c=>fun nm sc e=>wfE a nm sc (kid 0 e) && wfE b nm sc (kid 1 e) && wfE c nm sc (kid 2 e)
 | .not t=>fun nm sc e=>wfT t nm sc (kid 0 e)
 | .and ts=>fun nm sc e=>wfTs ts nm sc (kids e)
 | .or ts=>fun nm sc e=>wfTs ts nm sc (kids e)
 | .plain a=>fun nm sc e=>yt1 a && wfE a nm sc e
noncomputable def wfTs:CTs->List Str->Scope->List PySem.Expr->Bool
 | .nil=>fun _ _ _=>true
 | .cons t r=>fun nm sc es=>wfT t nm sc (nth 0 es) && wfTs r nm sc es.tail
end
noncomputable def yha:Stmt->List PySem.Expr×List Stmt×List Stmt×List ExceptHandler
 | .Assign ts v _=>(v :: ts,[],[],[])
 | .Expr v _=>([v],[],[],[])
 | .If t b c _=>([t],b,c,[])
 | .While t b _ _=>([t],b,[],[])
 | .For t i b _ _=>([t,i],b,[],[])
 | .Return v _=>(v.toList,[],[],[])
 | .Raise x c _=>(x.toList++c.toList,[],[],[])
 | .Try b h _ _ _=>([],b,[],h)
 | _=>([],[],[],[])
noncomputable def exps (s:Stmt):List PySem.Expr:=(yha s).1
noncomputable def bl0 (s:Stmt):List Stmt:=(yha s).2.1
noncomputable def bl1 (s:Stmt):List Stmt:=(yha s).2.2.1
noncomputable def hsOf (s:Stmt):List ExceptHandler:=(yha s).2.2.2
noncomputable def ex (i:Nat) (st:Stmt):PySem.Expr:=nth i (exps st)
noncomputable def yqj:ExceptHandler->List Stmt
 | .ExceptHandler _ _ b _=>b
noncomputable def hPos:ExceptHandler->Pos
 | .ExceptHandler _ _ _ p=>p
noncomputable def hTy:ExceptHandler->Pos
 | .ExceptHandler (some t) _ _ _=>t.pos
 | .ExceptHandler none _ _ p=>p
noncomputable def nthS (ss:List Stmt):Stmt:=ss.headD (.Pass default)
noncomputable def nthH (hs:List ExceptHandler):ExceptHandler:=hs.headD (.ExceptHandler none none [] default)
noncomputable def atNm (nm:List Str) (is:List Nat):List Str:=is.map fun i=>nm.getD i ""
mutual
noncomputable def reS:CS->List Str->Stmt->Stmt
 | .assign i a=>fun nm st=>.Assign [.Name (nm.getD i "") (ex 1 st).pos] (reE a nm (ex 0 st)) st.pos
 | .assignT is a=>fun nm st=>.Assign [.Tuple (yau (atNm nm is) (kids (ex 1 st))) (ycm (ex 1 st)) (ex 1 st).pos] (reE a nm (ex 0 st)) st.pos
 | .setItem o i a=>fun nm st=>.Assign [.Subscript (reE o nm (kid 0 (ex 1 st))) (reE i nm (kid 1 (ex 1 st))) (ex 1 st).pos] (reE a nm (ex 0 st)) st.pos
 | .setAttr o n a=>fun nm st=>.Assign [.Attribute (reE o nm (kid 0 (ex 1 st))) n (ex 1 st).pos] (reE a nm (ex 0 st)) st.pos
 | .swap o1 i1 o2 i2 a1 a2=>fun nm st=>.Assign [.Tuple [.Subscript (reE o1 nm (kid 0 (kid 0 (ex 1 st)))) (reE i1 nm (kid 1 (kid 0 (ex 1 st)))) (kid 0 (ex 1 st)).pos,.Subscript (reE o2 nm (kid 0 (kid 1 (ex 1 st)))) (reE i2 nm (kid 1 (kid 1 (ex 1 st)))) (kid 1 (ex 1 st)).pos] (ycm (ex 1 st)) (ex 1 st).pos]
     (.Tuple [reE a1 nm (kid 0 (ex 0 st)),reE a2 nm (kid 1 (ex 0 st))] (ycm (ex 0 st)) (ex 0 st).pos) st.pos
 | .expr a=>fun nm st=>.Expr (reE a nm (ex 0 st)) st.pos
 | .ite t a b=>fun nm st=>.If (reT t nm (ex 0 st)) (reSs a nm (bl0 st)) (reSs b nm (bl1 st)) st.pos
 | .while t b=>fun nm st=>.While (reT t nm (ex 0 st)) (reSs b nm (bl0 st)) [] st.pos
 | .for is it b=>fun nm st=>.For (reTg (atNm nm is) (ex 0 st)) (reE it nm (ex 1 st)) (reSs b nm (bl0 st)) [] st.pos
 | .ret a=>fun nm st=>.Return (some (reE a nm (ex 0 st))) st.pos
 | .ret0=>fun _ st=>.Return none st.pos
 | .raise g as=>fun nm st=>.Raise (some (.Call (.Name g (kid 0 (ex 0 st)).pos) (reEs as nm (kids (ex 0 st)).tail) [] (ex 0 st).pos)) none st.pos
 | .raiseFrom g as c=>fun nm st=>.Raise (some (.Call (.Name g (kid 0 (ex 0 st)).pos) (reEs as nm (kids (ex 0 st)).tail) [] (ex 0 st).pos)) (some (reE c nm (ex 1 st))) st.pos
 | .try b h=>fun nm st=>.Try (reSs b nm (bl0 st)) (reHs h nm (hsOf st)) [] [] st.pos
 | .brk=>fun _ st=>.Break st.pos
 | .cont=>fun _ st=>.Continue st.pos
 | .pass=>fun _ st=>.Pass st.pos
noncomputable def reSs:CSs->List Str->List Stmt->List Stmt
 | .nil=>fun _ _=>[]
 | .cons a r=>fun nm ss=>reS a nm (nthS ss) :: reSs r nm ss.tail
noncomputable def reHs:CHs->List Str->List ExceptHandler->List ExceptHandler
 | .nil=>fun _ _=>[]
 | .cons g x b r=>fun nm hs=>.ExceptHandler (some (.Name g (hTy (nthH hs)))) (x.map fun i=>nm.getD i "") (reSs b nm (yqj (nthH hs))) (hPos (nthH hs)) :: reHs r nm hs.tail
end
noncomputable def yfd:CE->Bool
 | .comp ..=>true
 | _=>false
noncomputable def ywp:CE->Bool
 | .tup ..=>true
 | _=>false
noncomputable def yse:CSs->Bool
 | .nil=>false
 | _=>true
mutual
noncomputable def wfS:CS->List Str->Scope->Stmt->Bool
 | .assign i a=>fun nm sc st=>ydg nm i && stb sc (nm.getD i "") && wfE a nm sc (ex 0 st)
 | .assignT is a=>fun nm sc st=>is.all (fun i=>ydg nm i && stb sc (nm.getD i "")) && decide (1<is.length) && !ywp a && !yfd a && wfE a nm sc (ex 0 st)
 | .setItem o i a=>fun nm sc st=>wfE o nm sc (kid 0 (ex 1 st)) && wfE i nm sc (kid 1 (ex 1 st)) && wfE a nm sc (ex 0 st)
 | .setAttr o _ a=>fun nm sc st=>wfE o nm sc (kid 0 (ex 1 st)) && wfE a nm sc (ex 0 st)
 | .swap o1 i1 o2 i2 a1 a2=>fun nm sc st=>wfE o1 nm sc (kid 0 (kid 0 (ex 1 st))) && wfE i1 nm sc (kid 1 (kid 0 (ex 1 st))) && wfE o2 nm sc (kid 0 (kid 1 (ex 1 st))) && wfE i2 nm sc (kid 1 (kid 1 (ex 1 st))) && wfE a1 nm sc (kid 0 (ex 0 st)) && wfE a2 nm sc (kid 1 (ex 0 st))
 | .expr a=>fun nm sc st=>!yfd a && wfE a nm sc (ex 0 st)
 | .ite t a b=>fun nm sc st=>wfT t nm sc (ex 0 st) && wfSs a nm sc (bl0 st) && wfSs b nm sc (bl1 st)
 | .while t b=>fun nm sc st=>wfT t nm sc (ex 0 st) && wfSs b nm sc (bl0 st)
 | .for is it b=>fun nm sc st=>!is.isEmpty && is.all (fun i=>ydg nm i && stb sc (nm.getD i "")) && wfE it nm sc (ex 1 st) && wfSs b nm sc (bl0 st)
 | .ret a=>fun nm sc st=>wfE a nm sc (ex 0 st)
 | .ret0=>fun _ _ _=>true
 | .raise g as=>fun nm sc st=>glb sc g && wfEs as nm sc (kids (ex 0 st)).tail
 | .raiseFrom g as c=>fun nm sc st=>glb sc g && wfEs as nm sc (kids (ex 0 st)).tail && wfE c nm sc (ex 1 st)
 | .try b h=>fun nm sc st=>wfSs b nm sc (bl0 st) && wfHs h nm sc (hsOf st)
 | .brk=>fun _ _ _=>true
 | .cont=>fun _ _ _=>true
 | .pass=>fun _ _ _=>true
noncomputable def wfSs:CSs->List Str->Scope->List Stmt->Bool
 | .nil=>fun _ _ _=>true
 | .cons a r=>fun nm sc ss=>wfS a nm sc (nthS ss) && wfSs r nm sc ss.tail
noncomputable def wfHs:CHs->List Str->Scope->List ExceptHandler->Bool
 | .nil=>fun _ _ _=>true
 | .cons g x b r=>fun nm sc hs=>glb sc g && yse b && (match x with
     | none=>true
     | some i=>ydg nm i && sc.names.lookup (nm.getD i "")==some .local) && wfSs b nm sc (yqj (nthH hs)) && wfHs r nm sc hs.tail
end
def AR (c:Cx) (m:ML) (es:List PySem.Expr) (pos:Pos) (H:MH) (post:List MV->MH->Prop):Prop:=
 ∀(mr:Str->Option Value) (ρ:List Addr) (s:Shared) (Q:List Value->Shared->Prop) (E:Value->Shared->Prop),St c mr ρ H s.heap->LR mr c.nm ρ m->
   (∀t vs vrs H' h' tk,post vs H'->VRs (ρ++t) vs vrs->St c mr (ρ++t) H' h'->Q vrs { s with heap:=h',toks:=tk })->Kx c ρ s E->
   wpAny (model c.prog c.w) c.A (spliced (backTo pos (starEach es c.env))) Q E s
def IT (c:Cx) (m:ML) (e:PySem.Expr) (H:MH) (post:Bool->MH->Prop):Prop:=
 ∀(whole:Sem Value) (mr:Str->Option Value) (ρ:List Addr) (s:Shared) (Q:Bool->Shared->Prop) (E:Value->Shared->Prop),(yjw e=true->whole=eval e c.env)->St c mr ρ H s.heap->LR mr c.nm ρ m->
   (∀t b H' h' tk,post b H'->St c mr (ρ++t) H' h'->Q b { s with heap:=h',toks:=tk })->Kx c ρ s E->
   wpAny (model c.prog c.w) c.A (isTrue e c.env whole) Q E s
def IB (c:Cx) (m:ML) (op:BoolOp) (es:List PySem.Expr) (H:MH) (post:Bool->MH->Prop):Prop:=
 ∀(mr:Str->Option Value) (ρ:List Addr) (s:Shared) (Q:Bool->Shared->Prop) (E:Value->Shared->Prop),St c mr ρ H s.heap->LR mr c.nm ρ m->
   (∀t b H' h' tk,post b H'->St c mr (ρ++t) H' h'->Q b { s with heap:=h',toks:=tk })->Kx c ρ s E->
   wpAny (model c.prog c.w) c.A (allTrue op es c.env) Q E s
def X1 (c:Cx) (m:ML) (st:Stmt) (H:MH) (post:Fl->ML->MH->Prop):Prop:=
 ∀(mr:Str->Option Value) (ρ:List Addr) (s:Shared) (Q:Flow->Shared->Prop) (E:Value->Shared->Prop),St c mr ρ H s.heap->LR mr c.nm ρ m->
   (∀t f fr m' mr' H' h' tk,post f m' H'->FlR (ρ++t) f fr->St c mr' (ρ++t) H' h'->LR mr' c.nm (ρ++t) m'->Q fr { s with heap:=h',toks:=tk })->Kx c ρ s E->
   wpAny (model c.prog c.w) c.A (exec st c.env) Q E s
def TE (c:Cx) (m:ML) (a:CE) (H:MH) (post:MV->MH->Prop):Prop:=∀e,wfE a c.nm c.sc e=true->EV c m (reE a c.nm e) H post
def TEs (c:Cx) (m:ML) (as:CEs) (H:MH) (post:List MV->MH->Prop):Prop:=∀es pos,wfEs as c.nm c.sc es=true->AR c m (reEs as c.nm es) pos H post
def TT (c:Cx) (m:ML) (t:CT) (H:MH) (post:Bool->MH->Prop):Prop:=∀e,wfT t c.nm c.sc e=true->IT c m (reT t c.nm e) H post
def TTs (c:Cx) (m:ML) (op:BoolOp) (ts:CTs) (H:MH) (post:Bool->MH->Prop):Prop:=∀es,wfTs ts c.nm c.sc es=true->IB c m op (reTs ts c.nm es) H post
def TV (c:Cx) (m:ML) (t:CT) (H:MH) (post:MV->MH->Prop):Prop:=∀e,yc5 t=true->wfT t c.nm c.sc e=true->EV c m (reT t c.nm e) H post
def TS (c:Cx) (m:ML) (a:CS) (H:MH) (post:Fl->ML->MH->Prop):Prop:=∀st,wfS a c.nm c.sc st=true->X1 c m (reS a c.nm st) H post
def TB (c:Cx) (m:ML) (b:CSs) (H:MH) (post:Fl->ML->MH->Prop):Prop:=∀ss,wfSs b c.nm c.sc ss=true->EX c m (reSs b c.nm ss) H post
section
variable {c:Cx} {m:ML} {H:MH} {G:Gx} {d:Nat}
theorem TE.mono {a:CE} {p q:MV->MH->Prop} (h:TE c m a H p) (hp:∀v H',p v H'->q v H'):TE c m a H q:=fun e he=>(h e he).mono hp
theorem TEs.mono {as:CEs} {p q:List MV->MH->Prop} (h:TEs c m as H p) (hp:∀v H',p v H'->q v H'):TEs c m as H q:=
 fun es pos he mr ρ s Q E S l k kx=>h es pos he mr ρ s Q E S l (fun t v vr H' h' tk hv=>k t v vr H' h' tk (hp _ _ hv)) kx
theorem TT.mono {t:CT} {p q:Bool->MH->Prop} (h:TT c m t H p) (hp:∀v H',p v H'->q v H'):TT c m t H q:=
 fun e he wh mr ρ s Q E hw S l k kx=>h e he wh mr ρ s Q E hw S l (fun t v H' h' tk hv=>k t v H' h' tk (hp _ _ hv)) kx
theorem TS.mono {a:CS} {p q:Fl->ML->MH->Prop} (h:TS c m a H p) (hp:∀f m' H',p f m' H'->q f m' H'):TS c m a H q:=
 fun st hs mr ρ s Q E S l k kx=>h st hs mr ρ s Q E S l (fun t f fr m' mr' H' h' tk hv=>k t f fr m' mr' H' h' tk (hp _ _ _ hv)) kx
theorem TB.mono {a:CSs} {p q:Fl->ML->MH->Prop} (h:TB c m a H p) (hp:∀f m' H',p f m' H'->q f m' H'):TB c m a H q:=
 fun st hs mr ρ s Q E S l k kx=>h st hs mr ρ s Q E S l (fun t f fr m' mr' H' h' tk hv=>k t f fr m' mr' H' h' tk (hp _ _ _ hv)) kx
theorem nf1:¬(true=false):=fun h=>Bool.noConfusion h
theorem nf2:¬(false=true):=fun h=>Bool.noConfusion h
theorem dL {p q A B:Prop} (hq:¬q) (h:A):(p->A)/\(q->B):=⟨fun _=>h,fun e=>absurd e hq⟩
theorem dR {p q A B:Prop} (hp:¬p) (h:B):(p->A)/\(q->B):=⟨fun e=>absurd e hp,fun _=>h⟩
theorem and2 {a b:Bool} (h:(a && b)=true):a=true/\b=true:=(Bool.and_eq_true a b).mp h
theorem and3 {a b c:Bool} (h:(a && b && c)=true):a=true/\b=true/\c=true:=⟨(and2 (and2 h).1).1,(and2 (and2 h).1).2,(and2 h).2⟩
theorem TE.int {i:Int} {post:MV->MH->Prop} (h:post (.int i) H):TE c m (.int i) H post:=by
 intro e he mr ρ s Q E S l k kx;exact wpAny_Constant_int (k [] (.int i) _ H s.heap _ h ⟨_,rfl⟩ (yac S))
theorem TE.str {x:Str} {post:MV->MH->Prop} (h:post (.str x) H):TE c m (.str x) H post:=by
 intro e he mr ρ s Q E S l k kx;exact wpAny_Constant_str (k [] (.str x) _ H s.heap _ h ⟨_,rfl⟩ (yac S))
theorem TE.none {post:MV->MH->Prop} (h:post .none H):TE c m .none H post:=by
 intro e he mr ρ s Q E S l k kx;exact wpAny_Constant_none (k [] .none _ H s.heap s.toks h rfl (yac S))
theorem TE.bool {b:Bool} {post:MV->MH->Prop} (h:post (.bool b) H):TE c m (.bool b) H post:=by
 intro e he mr ρ s Q E S l k kx;exact wpAny_Constant_bool (k [] (.bool b) _ H s.heap s.toks h rfl (yac S))
theorem TE.loc (ok:Ok G c d) {i:Nat} {v:MV} {post:MV->MH->Prop} (hm:m[i]?=some (some v)) (h:post v H):TE c m (.loc i) H post:=by
 intro e he mr ρ s Q E S l k kx;haveI Z1:=and2 he;haveI h1:=(zl Z1);haveI h2:=(zr Z1);clear Z1;obtain ⟨vr,Z2⟩:=l.2 _ _ _ (beq_iff_eq.mp h1) hm;haveI h3:=(zl Z2);haveI h4:=(zr Z2);clear Z2;exact read ok S h2 h4 (k [] v vr H s.heap s.toks h (by rw [append_nil];exact h3) (yac S))
theorem ymr (ok:Ok G c d) {mr:Str->Option Value} {ρ:List Addr} {s:Shared} {x:Str} {pos:Pos} {v:Value} {Q E} (S:St c mr ρ H s.heap) (hx:glb c.sc x=true) (hg:nsIn G.K mainGlobals x=some (some v)) (h:Q v s) :
   wpAny (model c.prog c.w) c.A (eval (.Name x pos) c.env) Q E s:=by
 unfold glb at hx;simp only [Bool.and_eq_true,beq_iff_eq,bne_iff_ne,ne_eq] at hx;haveI hd':(x==("__debug__":Str))=false:=by exact beq_eq_false_iff_ne.mpr hx.1
 haveI hk:=kcl3 ((ok.kd x).trans hx.2);exact Name_function_global ok.fn hk (loadGlobal_global (env:=c.env) (by rw [ok.gl];exact ok.top.g.keeps S.keep) (mg_of ok.kin ok.top.g hg) h) hd'
theorem yl4 (ok:Ok G c d) {mr:Str->Option Value} {ρ:List Addr} {s:Shared} {x:Str} {pos:Pos} {v:Value} {Q E} (S:St c mr ρ H s.heap) (hx:glb c.sc x=true) (hg:nsIn G.K mainGlobals x=some Option.none)
   (hb:bootBuiltins x=some v) (hn:x≠"__name__") (h:Q v s):wpAny (model c.prog c.w) c.A (eval (.Name x pos) c.env) Q E s:=by
 unfold glb at hx;simp only [Bool.and_eq_true,beq_iff_eq,bne_iff_ne,ne_eq] at hx;haveI hd':(x==("__debug__":Str))=false:=by exact beq_eq_false_iff_ne.mpr hx.1
 haveI hk:=kcl3 ((ok.kd x).trans hx.2);haveI T:=topRead_of ok.top;exact Name_function_global ok.fn hk (loadGlobal_builtin (env:=c.env) (by rw [ok.gl];exact T.g.keeps S.keep) (mg_none_of ok.kin T.g hg) (by rw [ok.bi];exact T.b.keeps S.keep) ((T.builtins x hn).trans hb) h) hd'
theorem TE.glob (ok:Ok G c d) {x:Str} {v:MV} {vr:Value} {post:MV->MH->Prop} (hg:nsIn G.K mainGlobals x=some (some vr)) (hv:VR [] v vr) (h:post v H):TE c m (.glob x) H post:=by
 intro e he mr ρ s Q E S l k kx;exact ymr ok S he hg (k [] v vr H s.heap s.toks h (by rw [append_nil];have:=hv.mono (t:=ρ);rwa [nil_append] at this) (yac S))
theorem fm {a p:Int} (h:0<p):a.fmod p=a % p:=Int.fmod_eq_emod_of_nonneg _ (by exact Int.le_of_lt ‹_›)
inductive BinI:Operator->MV->MV->MV->Prop where
 | add {x y:Int}:BinI .Add (.int x) (.int y) (.int (x+y))
 | sub {x y:Int}:BinI .Sub (.int x) (.int y) (.int (x - y))
 | mul {x y:Int} (h:IntMulOk x y):BinI .Mult (.int x) (.int y) (.int (x*y))
 | mod {x y:Int} (h:y≠0):BinI .Mod (.int x) (.int y) (.int (x.fmod y))
 | modP {x y:Int} (h:0<y):BinI .Mod (.int x) (.int y) (.int (x % y))
 | div {x y:Int} (h:y≠0) (h2:y.natAbs<1073741824):BinI .FloorDiv (.int x) (.int y) (.int (x.fdiv y))
 | band {x y:Int}:BinI .BitAnd (.int x) (.int y) (.int (Builtin.bitAnd x y))
 | shr {x y:Int} (h:0<=y):BinI .RShift (.int x) (.int y) (.int (x.fdiv (2 ^ y.toNat)))
 | pow {x y:Int} (h0:0<=y) (h1:y<=1000000) (h2:x.natAbs<2 ^ 64):BinI .Pow (.int x) (.int y) (.int (x ^ y.toNat))
 | shl {x y:Int} (h0:0<=y) (h1:y<=1000000) (h2:x.natAbs<2 ^ 64):BinI .LShift (.int x) (.int y) (.int (x*2 ^ y.toNat))
 | smul {x:Str} {n:Int} (h:MulOk x n):BinI .Mult (.str x) (.int n) (.str (Txt.mul x n))
 | cat {x y:Str} (h:x.length+y.length<=1000000):BinI .Add (.str x) (.str y) (.str (x++y))
set_option tactic.hygienic true in
theorem ynp {op:Operator} {a b v:MV} {x y:Value} {ρ:List Addr} {s:Shared} {Q E} (hh:c.A.handled=Option.none) (hb:BinI op a b v) (ha:VR ρ a x) (hy:VR ρ b y) (k:∀z tk,VR ρ v z->Q z { s with toks:=tk }) :
   wpAny (model c.prog c.w) c.A (binaryOp op x y) Q E s:=by
 cases hb <;> obtain ⟨t,rfl⟩:=ha <;> obtain ⟨u,rfl⟩:=hy
 case add=>exact add_int (k _ _ ⟨_,rfl⟩)
 case sub=>exact sub_int (k _ _ ⟨_,rfl⟩)
 case mul h=>exact mul_int (k _ _ ⟨_,rfl⟩) h
 case mod h=>exact mod_int' h (k _ _ ⟨_,rfl⟩)
 case modP h=>exact mod_int' (Int.ne_of_gt h) (by rw [fm h];exact k _ _ ⟨_,rfl⟩)
 case div h h2=>exact floordiv_int h (k _ _ ⟨_,rfl⟩) (.inl (PyProof.noPylong_small h2))
 case band=>exact and_int (k _ _ ⟨_,rfl⟩)
 case shr h=>exact rshift_int_or hh (fun hn=>absurd hn (Int.not_lt.mpr h)) fun _=>k _ _ ⟨_,rfl⟩
 case pow h0 h1 h2=>exact pow_int_small h0 h1 h2 (k _ _ ⟨_,rfl⟩)
 case shl h0 h1 h2=>exact lshift_int_small h0 h1 h2 (k _ _ ⟨_,rfl⟩)
 case smul h=>exact SB.mul h fun _ _=>k _ _ ⟨_,rfl⟩
 case cat h=>exact add_str (fun _ _=>k _ _ ⟨_,rfl⟩) (Nat.le_trans h (by decide))
inductive qOp1 (op:Operator) (post:MV->MH->Prop) (x y:MV) (H:MH):Prop where
 | mk (v:MV) (h:BinI op x y v) (k:post v H)
abbrev qOp (c:Cx) (m:ML) (op:Operator) (b:CE) (post:MV->MH->Prop) (x:MV) (H:MH):Prop:=TE c m b H (qOp1 op post x)
theorem TE.op (ok:Ok G c d) {op:Operator} {a b:CE} {post:MV->MH->Prop} (h:TE c m a H (qOp c m op b post)):TE c m (.bin op a b) H post:=by
 intro e he mr ρ s Q E S l k kx;obtain ⟨h2,h3⟩:=and2 he;refine wpAny_BinOp ?_;refine h _ h2 mr ρ s _ E S l ?_ kx;intro t x xr H1 hp1 tk1 hr hx S1;refine hr _ h3 mr (ρ++t) _ _ E S1 l.mono ?_ kx.mono;rintro t' y yr H2 hp2 tk2 ⟨v,hv,hp⟩ hy S2;refine ynp ok.hh hv hx.mono hy ?_;intro z tk hz;rw [append_assoc] at hz S2;exact k (t++t') v z H2 hp2 tk hp hz S2
inductive NegI:MV->MV->Prop where
 | mk {i:Int}:NegI (.int i) (.int (-i))
theorem TE.negI {a:CE} {post:MV->MH->Prop} (h:TE c m a H (fun x H1=>∃v,NegI x v/\post v H1)):TE c m (.neg a) H post:=by
 intro e he mr ρ s Q E S l k kx;refine wpAny_UnaryOp ?_;refine h _ he mr ρ s _ E S l ?_ kx;rintro t a ar H1 h1 tk1 ⟨v,⟨⟩,hp⟩ ⟨u,rfl⟩ S1;exact neg_int (k t _ _ H1 h1 _ hp ⟨_,rfl⟩ S1)
end
def Cq (c:Cx) (op:CmpOp) (H:MH) (a b:MV) (r:Bool):Prop:=
 ∀(mr:Str->Option Value) (ρ:List Addr) (s:Shared) (Q:Value->Shared->Prop) (E:Value->Shared->Prop) (va vb:Value),St c mr ρ H s.heap->VR ρ a va->VR ρ b vb->
   (∀h' tk,St c mr ρ H h'->Q (.bool r) { s with heap:=h',toks:=tk })->wpAny (model c.prog c.w) c.A (compareOp op va vb) Q E s
noncomputable def cmpN (op:CmpOp) (x y:Int):Option Bool:=match op with
 | .Lt=>some (decide (x<y))
 | .LtE=>some (decide (x<=y))
 | .Gt=>some (decide (y<x))
 | .GtE=>some (decide (y<=x))
 | .Eq=>some (decide (x=y))
 | .NotEq=>some (!decide (x=y))
 | _=>none
noncomputable def cmpQ (op:CmpOp) (e:Bool):Option Bool:=match op with
 | .Eq=>some e
 | .NotEq=>some (!e)
 | _=>none
noncomputable def cmpZ (op:CmpOp) (e:Bool):Option Bool:=match op with
 | .Is=>some e
 | .IsNot=>some (!e)
 | _=>none
noncomputable def cmpV (op:CmpOp):MV->MV->Option Bool
 | .int x,.int y=>cmpN op x y
 | .str x,.str y=>cmpQ op (decide (x=y))
 | .bool x,.bool y=>cmpQ op (x==y)
 | .none,.none=>cmpZ op true
 | .ref _,.none=>cmpZ op false
 | _,_=>none
def Cmp (op:CmpOp) (a b:MV) (r:Bool):Prop:=match cmpV op a b with
 | some s=>r=s
 | none=>False
section
variable {c:Cx} {m:ML} {H:MH} {G:Gx} {d:Nat}
theorem yem {op:CmpOp} {a b:MV} {r:Bool} (h:Cmp op a b r):Cq c op H a b r:=by
 intro mr ρ s Q E va vb S ha hb k;haveI k':=k s.heap s.toks S;cases a with
 | int x=>
   cases b with
   | int y=>
     obtain ⟨t,rfl⟩:=ha;obtain ⟨u,rfl⟩:=hb;cases op with
     | Lt=>haveI e:r=_:=h;subst e;exact lt_int k'
     | LtE=>haveI e:r=_:=h;subst e;exact le_int k'
     | Gt=>haveI e:r=_:=h;subst e;exact gt_int k'
     | GtE=>haveI e:r=_:=h;subst e;exact ge_int k'
     | Eq=>haveI e:r=_:=h;subst e;exact PyProof.Rows.eq_int (by rw [show (x==y)=decide (x=y) from rfl];exact k')
     | NotEq=>haveI e:r=_:=h;subst e;exact PyProof.Rows.ne_int (by rw [show (x != y)=!decide (x=y) from rfl];exact k')
     | _=>exact False.elim h
   | _=>exact False.elim h
 | str x=>
   cases b with
   | str y=>
     obtain ⟨t,rfl⟩:=ha;obtain ⟨u,rfl⟩:=hb;cases op with
     | Eq=>haveI e:r=_:=h;subst e;exact PyProof.Rows.eq_str (by rw [show (x==y)=decide (x=y) from rfl];exact k')
     | NotEq=>haveI e:r=_:=h;subst e;exact PyProof.Rows.ne_str (by rw [show (x != y)=!decide (x=y) from rfl];exact k')
     | _=>exact False.elim h
   | _=>exact False.elim h
 | bool x=>
   cases b with
   | bool y=>
     subst ha;subst hb;cases op with
     | Eq=>haveI e:r=_:=h;subst e;exact PyProof.Rows.eq_bool k'
     | NotEq=>haveI e:r=_:=h;subst e;exact PyProof.Rows.ne_bool k'
     | _=>exact False.elim h
   | _=>exact False.elim h
 | none=>
   cases b with
   | none=>
     subst ha;subst hb;cases op with
     | Is=>haveI e:r=_:=h;subst e;exact is_none_none k'
     | IsNot=>haveI e:r=_:=h;subst e;exact isnot_none_none k'
     | _=>exact False.elim h
   | _=>exact False.elim h
 | ref i=>
   cases b with
   | none=>
     obtain ⟨x,_,rfl⟩:=ha;subst hb;cases op with
     | Is=>haveI e:r=_:=h;subst e;exact is_none_ne (by intro q;cases q) k'
     | IsNot=>haveI e:r=_:=h;subst e;exact isnot_none_ne (by intro q;cases q) k'
     | _=>exact False.elim h
   | _=>exact False.elim h
 | glob i=>exact False.elim h
theorem yeq {a:CE} {nm:List Str} {sc:Scope} {e:PySem.Expr} {op:CmpOp} (h:wfE a nm sc e=true):behindInMarks op (reE a nm e)=false:=by
 cases a with
 | tst t=>
   have h1:(yc5 t && wfT t nm sc e)=true:=h;have h2:=(and2 h1).1;cases t <;> first | rfl | exact nb h2
 | _=>rfl
inductive qCq1 (c:Cx) (op:CmpOp) (post:Bool->MH->Prop) (x y:MV) (H:MH):Prop where
 | mk (r:Bool) (h:Cq c op H x y r) (k:post r H)
theorem qCq1.of {c:Cx} {op:CmpOp} {post:Bool->MH->Prop} {x y:MV} {H:MH} (h:∃r,Cq c op H x y r/\post r H):qCq1 c op post x y H:=h.elim fun r q=>⟨r,q.1,q.2⟩
abbrev qCq (c:Cx) (m:ML) (op:CmpOp) (b:CE) (post:Bool->MH->Prop) (x:MV) (H:MH):Prop:=TE c m b H (qCq1 c op post x)
theorem TT.cq {op:CmpOp} {a b:CE} {post:Bool->MH->Prop} (h:TE c m a H (qCq c m op b post)):TT c m (.cmp op a b) H post:=by
 intro e he;obtain ⟨h2,h3⟩:=and2 he;intro wh mr ρ s Q E _ S l k kx;refine wpAny_isTrue_Compare1 ?_ (yeq h3);refine h _ h2 mr ρ s _ E S l ?_ kx;intro t x xr H1 hp1 tk1 hr hx S1;refine hr _ h3 mr (ρ++t) _ _ E S1 l.mono ?_ kx.mono;rintro t' y yr H2 hp2 tk2 ⟨r,hq,hp⟩ hy S2;refine hq mr _ _ _ E _ _ S2 hx.mono hy ?_;intro h' tk S3;refine wpAny_truthy_bool ?_;rw [append_assoc] at S3;exact k (t++t') r H2 h' tk hp S3
inductive qCmp1 (op:CmpOp) (post:Bool->MH->Prop) (x y:MV) (H:MH):Prop where
 | mk (r:Bool) (h:Cmp op x y r) (k:post r H)
abbrev qCmp (c:Cx) (m:ML) (op:CmpOp) (b:CE) (post:Bool->MH->Prop) (x:MV) (H:MH):Prop:=TE c m b H (qCmp1 op post x)
theorem TT.cmp {op:CmpOp} {a b:CE} {post:Bool->MH->Prop} (h:TE c m a H (qCmp c m op b post)):TT c m (.cmp op a b) H post:=
 TT.cq (h.mono fun x H1 h1=>h1.mono fun y H2 ⟨r,hr,hp⟩=>⟨r,yem hr,hp⟩)
theorem TV.cq {op:CmpOp} {a b:CE} {post:MV->MH->Prop} (h:TE c m a H (fun x H1=>TE c m b H1 (fun y H2=>∃r,Cq c op H2 x y r/\post (.bool r) H2))):TV c m (.cmp op a b) H post:=by
 intro e _ he;obtain ⟨h2,h3⟩:=and2 he;intro mr ρ s Q E S l k kx;refine wpAny_Compare1 ?_ (yeq h3);refine h _ h2 mr ρ s _ E S l ?_ kx;intro t x xr H1 hp1 tk1 hr hx S1;refine hr _ h3 mr (ρ++t) _ _ E S1 l.mono ?_ kx.mono;rintro t' y yr H2 hp2 tk2 ⟨r,hq,hp⟩ hy S2;refine hq mr _ _ _ E _ _ S2 hx.mono hy ?_;intro h' tk S3;rw [append_assoc] at S3;exact k (t++t') (.bool r) _ H2 h' tk hp rfl S3
theorem TV.cmp {op:CmpOp} {a b:CE} {post:MV->MH->Prop} (h:TE c m a H (fun x H1=>TE c m b H1 (fun y H2=>∃r,Cmp op x y r/\post (.bool r) H2))):TV c m (.cmp op a b) H post:=
 TV.cq (h.mono fun x H1 h1=>h1.mono fun y H2 ⟨r,hr,hp⟩=>⟨r,yem hr,hp⟩)
theorem TE.tst {t:CT} {post:MV->MH->Prop} (h:TV c m t H post):TE c m (.tst t) H post:=by
 intro e he;exact h e (and2 he).1 (and2 he).2
theorem ynt {a:CE} {nm:List Str} {sc:Scope} {e r₁:PySem.Expr} {o₁ o₂:CmpOp} (h:wfE a nm sc e=true):lastMarks [o₁,o₂] [r₁,reE a nm e]=false:=by
 have:=yeq (op:=o₂) h;simpa [lastMarks] using this
theorem TT.cmp2 {o1 o2:CmpOp} {a b e3:CE} {post:Bool->MH->Prop} (h:TE c m a H (fun x H1=>TE c m b H1 (fun y H2=>∃r,Cmp o1 x y r/\(r=false->post false H2)/\
     (r=true->TE c m e3 H2 (fun z H3=>∃r2,Cmp o2 y z r2/\post r2 H3))))):TT c m (.cmp2 a o1 b o2 e3) H post:=by
 intro e he;haveI Z1:=and3 he;haveI h3:=(zl Z1);haveI h4:=(zl (zr Z1));haveI h5:=(zr (zr Z1));clear Z1;intro wh mr ρ s Q E _ S l k kx;refine isTrue_chain ?_ (ynt h5);refine h _ h3 mr ρ s _ E S l ?_ kx;intro t x xr H1 hp1 tk1 hr hx S1;refine test_link ?_;refine hr _ h4 mr (ρ++t) _ _ E S1 l.mono ?_ kx.mono;rintro t' y yr H2 hp2 tk2 ⟨r,hq,hf,ht⟩ hy S2;refine yem hq mr _ _ _ E _ _ S2 hx.mono hy ?_;intro h' tk S3;refine wpAny_truthy_bool ?_;cases r with
 | false=>
   rw [append_assoc] at S3;exact k (t++t') false H2 h' tk (hf rfl) S3
 | true=>
   refine test_last ?_;refine ht rfl _ h5 mr _ _ _ E S3 l.mono.mono ?_ kx.mono.mono;rintro t'' z zr H3 hp3 tk3 ⟨r2,hq2,hp⟩ hz S4;refine yem hq2 mr _ _ _ E _ _ S4 hy.mono hz ?_;intro h'' tk'' S5;refine wpAny_truthy_bool ?_;haveI e1:ρ++t++t'++t''=ρ++(t++(t'++t'')):=by simp only [append_assoc]
   rw [e1] at S5;exact k _ r2 H3 h'' tk'' hp S5
theorem TV.cmp2 {o1 o2:CmpOp} {a b e3:CE} {post:MV->MH->Prop} (h:TE c m a H (fun x H1=>TE c m b H1 (fun y H2=>∃r,Cmp o1 x y r/\(r=false->post (.bool false) H2)/\
     (r=true->TE c m e3 H2 (fun z H3=>∃r2,Cmp o2 y z r2/\post (.bool r2) H3))))):TV c m (.cmp2 a o1 b o2 e3) H post:=by
 intro e _ he;obtain ⟨h3,h4,h5⟩:=and3 he;intro mr ρ s Q E S l k kx;refine Compare_chain ?_ (ynt h5);refine h _ h3 mr ρ s _ E S l ?_ kx;intro t x xr H1 hp1 tk1 hr hx S1;refine chain_link ?_;refine hr _ h4 mr (ρ++t) _ _ E S1 l.mono ?_ kx.mono;rintro t' y yr H2 hp2 tk2 ⟨r,hq,hf,ht⟩ hy S2;refine yem hq mr _ _ _ E _ _ S2 hx.mono hy ?_;intro h' tk S3;refine wpAny_truthy_bool ?_;cases r with
 | false=>
   rw [append_assoc] at S3;exact k (t++t') (.bool false) _ H2 h' tk (hf rfl) rfl S3
 | true=>
   refine chain_last ?_;refine ht rfl _ h5 mr _ _ _ E S3 l.mono.mono ?_ kx.mono.mono;rintro t'' z zr H3 hp3 tk3 ⟨r2,hq2,hp⟩ hz S4;refine yem hq2 mr _ _ _ E _ _ S4 hy.mono hz ?_;intro h'' tk'' S5;have e1:ρ++t++t'++t''=ρ++(t++(t'++t'')):=by simp only [append_assoc]
   rw [e1] at S5;exact k _ (.bool r2) _ H3 h'' tk'' hp rfl S5
theorem TT.not {t:CT} {post:Bool->MH->Prop} (h:TT c m t H (fun b H1=>post (!b) H1)):TT c m (.not t) H post:=by
 intro e he;intro wh mr ρ s Q E _ S l k kx;refine isTrue_not ?_;refine h _ he _ mr ρ s _ E (fun _=>rfl) S l ?_ kx;intro t b H1 h1 tk1 hp S1;exact k t (!b) H1 h1 tk1 hp S1
theorem TTs.andNil {post:Bool->MH->Prop} (h:post true H):TTs c m .And .nil H post:=by
 intro es he;intro mr ρ s Q E S l k kx;refine wpAny_pure ?_;exact k [] true H s.heap s.toks h (yac S)
theorem TTs.orNil {post:Bool->MH->Prop} (h:post false H):TTs c m .Or .nil H post:=by
 intro es he;intro mr ρ s Q E S l k kx;refine wpAny_pure ?_;exact k [] false H s.heap s.toks h (yac S)
abbrev qAnd (c:Cx) (m:ML) (r:CTs) (post:Bool->MH->Prop) (b:Bool) (H:MH):Prop:=(b=false->post false H)/\(b=true->TTs c m .And r H post)
theorem TTs.and {t:CT} {r:CTs} {post:Bool->MH->Prop} (h:TT c m t H (qAnd c m r post)):TTs c m .And (.cons t r) H post:=by
 intro es he;have he:=and2 he;intro mr ρ s Q E S l k kx;refine isTrue_and (whole:=Sem.pure .none) (pos:=⟨0,0,0,0⟩) ?_;refine h _ he.1 _ mr ρ s _ E (fun _=>rfl) S l ?_ kx;intro t b H1 h1 tk1 hp S1;cases b with
 | false=>exact k t false H1 h1 tk1 (hp.1 rfl) S1
 | true=>
   refine hp.2 rfl _ he.2 mr (ρ++t) _ _ E S1 l.mono ?_ kx.mono;intro t' b H2 h2 tk2 hp2 S2;rw [append_assoc] at S2;exact k (t++t') b H2 h2 tk2 hp2 S2
abbrev qOr (c:Cx) (m:ML) (r:CTs) (post:Bool->MH->Prop) (b:Bool) (H:MH):Prop:=(b=true->post true H)/\(b=false->TTs c m .Or r H post)
theorem TTs.or {t:CT} {r:CTs} {post:Bool->MH->Prop} (h:TT c m t H (qOr c m r post)):TTs c m .Or (.cons t r) H post:=by
 intro es he;have he:=and2 he;intro mr ρ s Q E S l k kx;refine isTrue_or (whole:=Sem.pure .none) (pos:=⟨0,0,0,0⟩) ?_;refine h _ he.1 _ mr ρ s _ E (fun _=>rfl) S l ?_ kx;intro t b H1 h1 tk1 hp S1;cases b with
 | true=>exact k t true H1 h1 tk1 (hp.1 rfl) S1
 | false=>
   refine hp.2 rfl _ he.2 mr (ρ++t) _ _ E S1 l.mono ?_ kx.mono;intro t' b H2 h2 tk2 hp2 S2;rw [append_assoc] at S2;exact k (t++t') b H2 h2 tk2 hp2 S2
theorem TT.and {ts:CTs} {post:Bool->MH->Prop} (h:TTs c m .And ts H post):TT c m (.and ts) H post:=by
 intro e he;intro wh mr ρ s Q E _ S l k kx;exact h _ he mr ρ s Q E S l k kx
theorem TT.or {ts:CTs} {post:Bool->MH->Prop} (h:TTs c m .Or ts H post):TT c m (.or ts) H post:=by
 intro e he;intro wh mr ρ s Q E _ S l k kx;exact h _ he mr ρ s Q E S l k kx
def Tru (H:MH):MV->Bool->Prop
 | .bool b,r=>r=b
 | .int i,r=>r=!decide (i=0)
 | .none,r=>r=false
 | _,_=>False
theorem yng {e:PySem.Expr} {env:Env} {wh:Sem Value} (h:yjw e=true):isTrue e env wh=(do let v <-wh;standAt e.pos;holding [v] (truthy v)):=by
 cases e with
 | UnaryOp op x pos=>cases op <;> first | rfl | exact nb h
 | BoolOp _ _ _=>exact nb h
 | IfExp _ _ _ _=>exact nb h
 | Compare _ _ _ _=>exact nb h
 | _=>rfl
inductive qPl (post:Bool->MH->Prop) (v:MV) (H:MH):Prop where
 | mk (r:Bool) (h:Tru H v r) (k:post r H)
theorem qPl.of {post:Bool->MH->Prop} {v:MV} {H:MH} (h:∃r,Tru H v r/\post r H):qPl post v H:=h.elim fun r q=>⟨r,q.1,q.2⟩
theorem TT.plain {a:CE} {post:Bool->MH->Prop} (h:TE c m a H (qPl post)):TT c m (.plain a) H post:=by
 intro e he;have he:=and2 he;have hpl:yjw (reE a c.nm e)=true:=by
   have h0:=he.1;cases a <;> first | rfl | exact nb h0
 intro wh mr ρ s Q E hw S l k kx;rw [hw hpl];refine isTrue_plain ?_ (yng hpl);refine h _ he.2 mr ρ s _ E S l ?_ kx;rintro t v vr H1 h1 tk1 ⟨r,hr,hp⟩ hv S1;cases v with
 | bool b=>
   have e1:vr=.bool b:=hv;have e2:r=b:=hr;subst e1 e2;exact wpAny_truthy_bool (k t r H1 h1 tk1 hp S1)
 | int i=>
   obtain ⟨u,rfl⟩:=hv;have e2:r=!decide (i=0):=hr;subst e2;exact truthy_int (k t _ H1 h1 tk1 hp S1)
 | none=>
   have e1:vr=.none:=hv;have e2:r=false:=hr;subst e1 e2;exact truthy_none (k t _ H1 h1 tk1 hp S1)
 | _=>exact hr.elim
abbrev qTe (c:Cx) (m:ML) (a b:CE) (post:MV->MH->Prop) (r:Bool) (H:MH):Prop:=(r=true->TE c m a H post)/\(r=false->TE c m b H post)
theorem TE.ite {t:CT} {a b:CE} {post:MV->MH->Prop} (h:TT c m t H (qTe c m a b post)):TE c m (.ite t a b) H post:=by
 intro e he;haveI he:=and3 he;intro mr ρ s Q E S l k kx;refine wpAny_IfExp ?_;refine h _ he.1 _ mr ρ s _ E (fun _=>rfl) S l ?_ kx;intro t b' H1 h1 tk1 hp S1;haveI fin:∀e,EV c m e H1 post->wpAny (model c.prog c.w) c.A (eval e c.env) Q E { s with heap:=h1,toks:=tk1 }:=by
   intro e he;refine he mr (ρ++t) _ _ E S1 l.mono ?_ kx.mono;intro t' v vr H2 h2 tk2 hp2 hv S2;rw [append_assoc] at hv S2;exact k (t++t') v vr H2 h2 tk2 hp2 hv S2
 cases b' with
 | true=>exact fin _ (hp.1 rfl _ he.2.1)
 | false=>exact fin _ (hp.2 rfl _ he.2.2)
end
section
variable {c:Cx} {m:ML} {H:MH} {G:Gx} {d:Nat}
theorem yav {e:PySem.Expr} {es:List PySem.Expr} {env:Env} (h:yln e=true):starEach (e :: es) env=(false,eval e env) :: starEach es env:=by
 cases e with
 | Starred _ _=>exact nb h
 | _=>rfl
theorem yef {t:CT} {nm:List Str} {sc:Scope} {e:PySem.Expr} (h:wfE (.tst t) nm sc e=true):yc5 t=true:=by
 have h1:(yc5 t && wfT t nm sc e)=true:=h;exact (and2 h1).1
theorem ybi {a:CE} {nm:List Str} {sc:Scope} {e:PySem.Expr} (h:wfE a nm sc e=true):yln (reE a nm e)=true:=by
 cases a with
 | tst t=>have h2:=yef h;cases t <;> first | rfl | exact nb h2
 | _=>rfl
theorem yot {a:CE} {nm:List Str} {sc:Scope} {e:PySem.Expr} (h:wfE a nm sc e=true):yf3 (reE a nm e)=true:=by
 cases a with
 | tst t=>have h2:=yef h;cases t <;> first | rfl | exact nb h2
 | _=>rfl
theorem yhy {a:CE} {nm:List Str} {sc:Scope} {e:PySem.Expr} (h:wfE a nm sc e=true) (hn:yfd a=false):yll (reE a nm e)=true:=by
 cases a with
 | tst t=>have h2:=yef h;cases t <;> first | rfl | exact nb h2
 | comp _ _ _ _=>exact nt hn
 | _=>rfl
theorem ya0 {nm:List Str} {sc:Scope} {pos:Pos} {env:Env}:∀{as:CEs} {es:List PySem.Expr},wfEs as nm sc es=true->(backTo pos (starEach (reEs as nm es) env)).any (·.1)=false:=@fun zd1=>@(match zd1 with
 | .nil=>fun {es} h=>rfl
 | .cons a r=>fun {es} h=>by
   haveI h:=and2 h;haveI:=ya0 (pos:=pos) (env:=env) h.2;show (backTo pos (starEach (reE a nm (nth 0 es) :: reEs r nm es.tail) env)).any (·.1)=false;rw [yav (ybi h.1)];unfold backTo at this ⊢;simp only [map_cons,any_cons,Bool.false_or];exact this)
theorem TEs.nil {post:List MV->MH->Prop} (h:post [] H):TEs c m .nil H post:=by
 intro es pos he;intro mr ρ s Q E S l k kx;refine args_nil ?_;exact k [] [] [] H s.heap s.toks h rfl (yac S)
abbrev ytw (post:List MV->MH->Prop) (v:MV) (vs:List MV) (H:MH):Prop:=post (v :: vs) H
abbrev yvf (c:Cx) (m:ML) (r:CEs) (post:List MV->MH->Prop) (v:MV) (H:MH):Prop:=TEs c m r H (ytw post v)
theorem TEs.cons {a:CE} {r:CEs} {post:List MV->MH->Prop} (h:TE c m a H (yvf c m r post)):TEs c m (.cons a r) H post:=by
 intro es pos he;obtain ⟨h2,h3⟩:=and2 he;intro mr ρ s Q E S l k kx;refine args_cons ?_ (yav (ybi h2));refine h _ h2 mr ρ s _ E S l ?_ kx;intro t v vr H1 hp1 tk1 hr hv S1;refine hr _ pos h3 mr (ρ++t) _ _ E S1 l.mono ?_ kx.mono;intro t' vs vrs H2 hp2 tk2 hp hvs S2;have hv':=hv.mono (t:=t');rw [append_assoc] at hvs S2 hv';exact k (t++t') (v :: vs) (vr :: vrs) H2 hp2 tk2 hp ⟨vr,vrs,rfl,hv',hvs⟩ S2
structure qList (post:MV->MH->Prop) (vs:List MV) (H:MH):Prop where
 h:vs.length<=1000
 k:post (.ref H.length) (H++[.list vs])
theorem TE.list {as:CEs} {post:MV->MH->Prop} (h:TEs c m as H (qList post)):TE c m (.list as) H post:=by
 intro e he;intro mr ρ s Q E S lr k kx;refine List_ ?_;refine h _ _ he mr ρ s _ E S lr ?_ kx;rintro t vs vrs H1 h1 tk1 ⟨hsz,hp⟩ hvs S1;refine S1.op fun ml xs os F a1 a2 a3 N a5 back=>?_;refine newList_K F N ?_ (by rw [hvs.length];exact Nat.le_trans hsz (by decide));intro l h' F' N' hl;haveI:=k (t++[l]) (.ref H1.length) (.ref l) _ h' tk1 hp;rw [<-append_assoc] at this;exact this ⟨l,yag a2,rfl⟩ (back _ _ _ (Led.alloc a1 a2 a3 a5 F' N' (fun p hp=>Nat.ne_of_lt (hl p hp)) ⟨vrs,0,hvs.mono,rfl⟩))
structure qTup (post:MV->MH->Prop) (vs:List MV) (H:MH):Prop where
 h:vs.length<=1000
 k:post (.ref H.length) (H++[.tup vs])
theorem TE.tup {as:CEs} {post:MV->MH->Prop} (h:TEs c m as H (qTup post)):TE c m (.tup as) H post:=by
 intro e he;intro mr ρ s Q E S lr k kx;refine Tuple_ ?_;refine h _ _ he mr ρ s _ E S lr ?_ kx;rintro t vs vrs H1 h1 tk1 ⟨hsz,hp⟩ hvs S1;refine S1.op fun ml xs os F a1 a2 a3 N a5 back=>?_;refine newTuple_N F N ?_ (by rw [hvs.length];exact Nat.le_trans hsz (by decide));intro h' F' N';haveI:=k (t++[h1.objs.size]) (.ref H1.length) (.ref h1.objs.size) _ h' tk1 hp;rw [<-append_assoc] at this;exact this ⟨_,yag a2,rfl⟩ (back _ _ _ (Led.alloc a1 a2 a3 a5 F' N' (fun p hp=>Nat.ne_of_lt (Heap.lt_size (N p hp).1)) ⟨vrs,0,hvs.mono,rfl⟩))
theorem yad {h₀ h:Heap} {L a:Addr} {vs:List Value} {n:Nat} (N:News h₀ L h [(a,listOf vs.toArray n)]):h.IsList a vs.toArray:=⟨_,(N _ (.head _)).1,rfl,n,rfl⟩
theorem St.list {mr:Str->Option Value} {ρ:List Addr} {h:Heap} (S:St c mr ρ H h) {i:Nat} {xs:List MV} (hi:H[i]?=some (.list xs)) {x:Addr} (hx:ρ[i]?=some x) :
   ∃vs n,VRs ρ xs vs/\News c.h₀ c.L h [(x,listOf vs.toArray n)]:=by
 obtain ⟨y,o,hy,⟨vs,n,hvs,rfl⟩,No⟩:=S.get hi;rw [hx] at hy
 (replace hy:=si hy;subst hy)
 exact ⟨vs,n,hvs,No⟩
theorem St.tup {mr:Str->Option Value} {ρ:List Addr} {h:Heap} (S:St c mr ρ H h) {i:Nat} {xs:List MV} (hi:H[i]?=some (.tup xs)) {x:Addr} (hx:ρ[i]?=some x) :
   ∃vs,VRs ρ xs vs/\IsTup h x vs.toArray:=by
 obtain ⟨y,o,hy,⟨vs,n,hvs,rfl⟩,No⟩:=S.get hi;rw [hx] at hy
 (replace hy:=si hy;subst hy)
 exact ⟨vs,hvs,_,(No _ (.head _)).1,rfl,n,rfl⟩
def At (xs:List MV) (n:Int) (v:MV):Prop:=xs.length<=1000000/\((0<=n/\xs[n.toNat]?=some v)\/(n<0/\-(xs.length:Int)<=n/\xs[(n+xs.length).toNat]?=some v))
theorem ybe {nm:List Str} {sc:Scope} {i:PySem.Expr} (h:yf3 i=true) (a:Value) (k:Value):subscripted i false a k=operate [a,k] (getItem a k):=by
 cases i with
 | Slice _ _ _ _=>exact nb h
 | _=>rfl
def Sq (c:Cx) (H:MH) (o i v:MV):Prop:=
 ∀(mr:Str->Option Value) (ρ:List Addr) (s:Shared) (Q:Value->Shared->Prop) (E:Value->Shared->Prop) (vo vi:Value) (base sl:PySem.Expr),yf3 sl=true->St c mr ρ H s.heap->VR ρ o vo->VR ρ i vi->
   (∀vr tk,VR ρ v vr->Q vr { s with toks:=tk })->wpAny (model c.prog c.w) c.A (subscriptTail base sl vo vi) Q E s
inductive qSq1 (c:Cx) (post:MV->MH->Prop) (x y:MV) (H:MH):Prop where
 | mk (v:MV) (h:Sq c H x y v) (k:post v H)
theorem qSq1.of {c:Cx} {post:MV->MH->Prop} {x y:MV} {H:MH} (h:∃v,Sq c H x y v/\post v H):qSq1 c post x y H:=h.elim fun v q=>⟨v,q.1,q.2⟩
abbrev qSq (c:Cx) (m:ML) (i:CE) (post:MV->MH->Prop) (x:MV) (H:MH):Prop:=TE c m i H (qSq1 c post x)
theorem TE.sq {o i:CE} {post:MV->MH->Prop} (h:TE c m o H (qSq c m i post)):TE c m (.sub o i) H post:=by
 intro e he;obtain ⟨h2,h3⟩:=and2 he;have h1:=yot h3;intro mr ρ s Q E S lr k kx;refine Subscript_ ?_;refine h _ h2 mr ρ s _ E S lr ?_ kx;intro t x xr H1 hp1 tk1 hr hx S1;refine hr _ h3 mr (ρ++t) _ _ E S1 lr.mono ?_ kx.mono;rintro t' y yr H2 hp2 tk2 ⟨v,hq,hp⟩ hy S2;refine hq mr _ _ _ E _ _ _ _ h1 S2 hx.mono hy ?_;intro vr tk hv;rw [append_assoc] at hv S2;exact k (t++t') v vr H2 hp2 tk hp hv S2
theorem Sq.list {a:Nat} {xs:List MV} {n:Int} {v:MV} (ha:H[a]?=some (.list xs)) (hn:At xs n v):Sq c H (.ref a) (.int n) v:=by
 rintro mr ρ s Q E _ _ base sl hsl S ⟨x,hx,rfl⟩ ⟨u,rfl⟩ k;obtain ⟨vs,ep,Z1⟩:=S.list ha hx;haveI hvs:=(zl Z1);haveI No:=(zr Z1);clear Z1;haveI L:=yad No;haveI Z2:=hn;clear hn;haveI hsz:=(zl Z2);haveI hn:=(zr Z2);clear Z2;rcases hn with ⟨h0,hv⟩ | ⟨h0,h3,hv⟩
 . obtain ⟨vr,Z3⟩:=hvs.get hv;haveI e1:=(zl Z3);haveI e2:=(zr Z3);clear Z3;haveI hlt:=(zgs hv).1;exact tail_any L.typeIs slot_list_getitem.lookup (wpAny_getItem_list L h0 (by lia) (by simpa using e1) (k vr _ e2)) (ybe (nm:=[]) (sc:=c.sc) hsl _ _)
 . obtain ⟨vr,Z4⟩:=hvs.get hv;haveI e1:=(zl Z4);haveI e2:=(zr Z4);clear Z4;haveI hlen:vs.toArray.size=xs.length:=by rw [size_toArray,hvs.length]
   exact tail_any L.typeIs slot_list_getitem.lookup (wpAny_getItem_list_neg L h0 (by rw [hlen];exact h3) (by lia) (by rw [hlen];simpa using e1) (k vr _ e2)) (ybe (nm:=[]) (sc:=c.sc) hsl _ _)
theorem Sq.glob {a:Addr} {vs:List Value} {n:Int} {i:Int} {t:Tok} (ha:c.h₀.IsList a vs.toArray) (h0:0<=n) (hsz:vs.length<=1000000) (hv:vs[n.toNat]?=some (.int i t)):Sq c H (.glob a) (.int n) (.int i):=by
 rintro mr ρ s Q E _ _ base sl hsl S rfl ⟨u,rfl⟩ k;have L:s.heap.IsList a vs.toArray:=ha.at fun o e=>S.keep _ o e;have hlt:=(zgs hv).1;exact tail_any L.typeIs slot_list_getitem.lookup (wpAny_getItem_list L h0 (by lia) (by simpa using hv) (k _ _ ⟨t,rfl⟩)) (ybe (nm:=[]) (sc:=c.sc) hsl _ _)
theorem TB.nil {post:Fl->ML->MH->Prop} (h:post .next m H):TB c m .nil H post:=by
 intro ss hs;intro mr ρ s Q E S l k kx;refine wpAny_execs_nil ?_;exact k [] .next .next m mr H s.heap s.toks h rfl (yac S) (by rw [append_nil];exact l)
abbrev yvh (c:Cx) (r:CSs) (post:Fl->ML->MH->Prop) (f:Fl) (m:ML) (H:MH):Prop:=match f with | .next=>TB c m r H post | f=>post f m H
theorem TB.cons {a:CS} {r:CSs} {post:Fl->ML->MH->Prop} (h:TS c m a H (yvh c r post)):TB c m (.cons a r) H post:=by
 intro ss hs;haveI hs:=and2 hs;intro mr ρ s Q E S l k kx;refine wpAny_execs_cons ?_;refine h _ hs.1 mr ρ s _ E S l ?_ kx;intro t f fr m1 mr1 H1 h1 tk1 hp hf S1 l1;cases f with
 | next=>
   subst hf;refine hp _ hs.2 mr1 (ρ++t) _ _ E S1 l1 ?_ kx.mono;intro t' f fr m2 mr2 H2 h2 tk2 hp2 hf2 S2 l2;rw [append_assoc] at hf2 S2 l2;exact k (t++t') f fr m2 mr2 H2 h2 tk2 hp2 hf2 S2 l2
 | brk=>subst hf;exact k t .brk .brk m1 mr1 H1 h1 tk1 hp rfl S1 l1
 | cont=>subst hf;exact k t .cont .cont m1 mr1 H1 h1 tk1 hp rfl S1 l1
 | ret v=>
   obtain ⟨vr,Z1⟩:=hf;haveI Z2:=(zl Z1);subst Z2;haveI hv:=(zr Z1);clear Z1;exact k t (.ret v) (.ret vr) m1 mr1 H1 h1 tk1 hp ⟨vr,rfl,hv⟩ S1 l1
abbrev qRet (m:ML) (post:Fl->ML->MH->Prop) (v:MV) (H:MH):Prop:=post (.ret v) m H
theorem TS.ret {a:CE} {post:Fl->ML->MH->Prop} (h:TE c m a H (qRet m post)):TS c m (.ret a) H post:=by
 intro st hs;intro mr ρ s Q E S l k kx;refine wpAny_Return_some ?_;refine h _ hs mr ρ s _ E S l ?_ kx;intro t v vr H1 h1 tk1 hp hv S1;exact k t (.ret v) (.ret vr) m mr H1 h1 tk1 hp ⟨vr,rfl,hv⟩ S1 l.mono
theorem TS.ret0 {post:Fl->ML->MH->Prop} (h:post (.ret .none) m H):TS c m .ret0 H post:=by
 intro st hs;intro mr ρ s Q E S l k kx;refine wpAny_Return_none ?_;exact k [] (.ret .none) (.ret .none) m mr H s.heap s.toks h ⟨_,rfl,rfl⟩ (yac S) (by rw [append_nil];exact l)
theorem TS.pass {post:Fl->ML->MH->Prop} (h:post .next m H):TS c m .pass H post:=by
 intro st hs;intro mr ρ s Q E S l k kx;refine wpAny_Pass ?_;exact k [] .next .next m mr H s.heap s.toks h rfl (yac S) (by rw [append_nil];exact l)
theorem TS.brk {post:Fl->ML->MH->Prop} (h:post .brk m H):TS c m .brk H post:=by
 intro st hs;intro mr ρ s Q E S l k kx;refine wpAny_Break ?_;exact k [] .brk .brk m mr H s.heap s.toks h rfl (yac S) (by rw [append_nil];exact l)
theorem TS.cont {post:Fl->ML->MH->Prop} (h:post .cont m H):TS c m .cont H post:=by
 intro st hs;intro mr ρ s Q E S l k kx;refine wpAny_Continue ?_;exact k [] .cont .cont m mr H s.heap s.toks h rfl (yac S) (by rw [append_nil];exact l)
theorem yfb {v:PySem.Expr} {t:Option PySem.Expr} {n:Nat} {env:Env} (h:yll v=true):swapsWith v t n env=pure false:=by
 cases v <;> first | rfl | exact nb h
abbrev qAsg (m:ML) (i:Nat) (post:Fl->ML->MH->Prop) (v:MV) (H:MH):Prop:=post .next (m.set i (some v)) H
theorem TS.assign (ok:Ok G c d) (hfm:c.fm=none) {i:Nat} {a:CE} {post:Fl->ML->MH->Prop} (hn:yfd a=false) (h:TE c m a H (qAsg m i post)):TS c m (.assign i a) H post:=by
 intro st hs;haveI Z1:=and3 hs;haveI h1:=(zl Z1);haveI h2:=(zl (zr Z1));haveI h3:=(zr (zr Z1));clear Z1;haveI h1:=beq_iff_eq.mp h1;intro mr ρ s Q E S l k kx;refine wpAny_Assign_Name ?_ (yfb (yhy h3 hn));refine h _ h3 mr ρ s _ E S l ?_ kx;intro t v vr H1 hp1 tk1 hp hv S1;refine yhk ok S1 hfm h2 ?_;intro h' tk S2;exact k t .next .next _ _ H1 h' tk hp rfl S2 (l.mono.set h1 hv)
abbrev qIte (c:Cx) (m:ML) (a b:CSs) (post:Fl->ML->MH->Prop) (r:Bool) (H:MH):Prop:=(r=true->TB c m a H post)/\(r=false->TB c m b H post)
theorem TS.ite {t:CT} {a b:CSs} {post:Fl->ML->MH->Prop} (h:TT c m t H (qIte c m a b post)):TS c m (.ite t a b) H post:=by
 intro st hs;haveI hs:=and3 hs;intro mr ρ s Q E S l k kx;refine wpAny_If ?_;refine h _ hs.1 _ mr ρ s _ E (fun _=>rfl) S l ?_ kx;intro t b H1 h1 tk1 hp S1;haveI fin:∀ss,EX c m ss H1 post->wpAny (model c.prog c.w) c.A (execs ss c.env) Q E { s with heap:=h1,toks:=tk1 }:=by
   intro ss hss;refine hss mr (ρ++t) _ _ E S1 l.mono ?_ kx.mono;intro t' f fr m2 mr2 H2 h2 tk2 hp2 hf2 S2 l2;rw [append_assoc] at hf2 S2 l2;exact k (t++t') f fr m2 mr2 H2 h2 tk2 hp2 hf2 S2 l2
 cases b with
 | true=>exact fin _ (hp.1 rfl _ hs.2.1)
 | false=>exact fin _ (hp.2 rfl _ hs.2.2)
abbrev yvb (m:ML) (post:Fl->ML->MH->Prop) (_:MV) (H:MH):Prop:=post .next m H
theorem TS.expr (hi:interactive c.env=false) {a:CE} {post:Fl->ML->MH->Prop} (h:TE c m a H (yvb m post)):TS c m (.expr a) H post:=by
 intro st hs;have hs:=and2 hs;intro mr ρ s Q E S l k kx;refine wpAny_Expr_any ?_ hi (yfb (yhy hs.2 (by simpa using hs.1)));refine h _ hs.2 mr ρ s _ E S l ?_ kx;intro t v vr H1 h1 tk1 hp hv S1;exact k t .next .next m mr H1 h1 tk1 hp rfl S1 l.mono
theorem yo1 {v o i:PySem.Expr} {p:Pos} {n:Nat} {env:Env}:swapsWith v (some (.Subscript o i p)) n env=pure false:=by
 cases v <;> rfl
theorem ymg {v o:PySem.Expr} {x:Str} {p:Pos} {n:Nat} {env:Env}:swapsWith v (some (.Attribute o x p)) n env=pure false:=by
 cases v <;> rfl
def Uq (c:Cx) (H:MH) (o i v:MV) (H':MH):Prop:=
 ∀(mr:Str->Option Value) (ρ:List Addr) (s:Shared) (Q:Unit->Shared->Prop) (E:Value->Shared->Prop) (vo vi vv:Value),St c mr ρ H s.heap->VR ρ o vo->VR ρ i vi->VR ρ v vv->
   (∀t h' tk,St c mr (ρ++t) H' h'->Q () { s with heap:=h',toks:=tk })->wpAny (model c.prog c.w) c.A (setItem vo vi vv) Q E s
inductive qSet2 (c:Cx) (m:ML) (post:Fl->ML->MH->Prop) (v x y:MV) (H:MH):Prop where
 | mk (H4:MH) (h:Uq c H x y v H4) (k:post .next m H4)
theorem qSet2.of {c:Cx} {m:ML} {post:Fl->ML->MH->Prop} {v x y:MV} {H:MH} (h:∃H4,Uq c H x y v H4/\post .next m H4):qSet2 c m post v x y H:=h.elim fun v q=>⟨v,q.1,q.2⟩
abbrev yvr (c:Cx) (m:ML) (i:CE) (post:Fl->ML->MH->Prop) (v x:MV) (H:MH):Prop:=TE c m i H (qSet2 c m post v x)
abbrev qSet (c:Cx) (m:ML) (o i:CE) (post:Fl->ML->MH->Prop) (v:MV) (H:MH):Prop:=TE c m o H (yvr c m i post v)
theorem TS.setItem {o i a:CE} {post:Fl->ML->MH->Prop} (h:TE c m a H (qSet c m o i post)):TS c m (.setItem o i a) H post:=by
 intro st hs;haveI Z1:=and3 hs;haveI h2:=(zl Z1);haveI h3:=(zl (zr Z1));haveI h4:=(zr (zr Z1));clear Z1;intro mr ρ s Q E S l k kx;refine wpAny_Assign_Subscript ?_ yo1;refine h _ h4 mr ρ s _ E S l ?_ kx;intro t v vr H1 hp1 tk1 h12 hv S1;refine h12 _ h2 mr _ _ _ E S1 l.mono ?_ kx.mono;intro t' x xr H2 hp2 tk2 h23 hx S2;refine h23 _ h3 mr _ _ _ E S2 l.mono.mono ?_ kx.mono.mono;rintro t'' y yr H3 hp3 tk3 ⟨H4,hq,hp⟩ hy S3;refine hq mr _ _ _ E _ _ _ S3 hx.mono hy (hv.mono).mono ?_;intro t3 h' tk S4;haveI e1:ρ++t++t'++t''++t3=ρ++(t++(t'++(t''++t3))):=by simp only [append_assoc]
 rw [e1] at S4;exact k _ .next .next m mr H4 h' tk hp rfl S4 l.mono
theorem Uq.list {a:Nat} {xs:List MV} {n:Int} {v:MV} (ha:H[a]?=some (.list xs)) (hsz:xs.length<=1000000) (h0:0<=n) (hlt:n<xs.length):Uq c H (.ref a) (.int n) v (H.set a (.list (xs.set n.toNat v))):=by
 rintro mr ρ s Q E _ _ vv S ⟨x,hx,rfl⟩ ⟨u,rfl⟩ hv k;obtain ⟨vs,ep,Z1⟩:=S.list ha hx;haveI hvs:=(zl Z1);haveI No:=(zr Z1);clear Z1;haveI hlen:vs.toArray.size=xs.length:=by rw [size_toArray,hvs.length]
 haveI ho:=(No _ (.head _)).1;refine ki_setAt ho h0 (by lia) (by rw [hlen];exact hlt) ?_;haveI hS:=S.upd (h':=s.heap.update x (Obj.mapSeq (·.setIfInBounds n.toNat vv))) (o':=.list (xs.set n.toNat v)) ha hx (Heap.SameBut.update ..)
   (x':=listOf (vs.set n.toNat vv).toArray ep) ?_ ⟨vs.set n.toNat vv,ep,hvs.set hv,rfl⟩
 . exact k [] _ _ (yac hS)
 . haveI e:Obj.mapSeq (·.setIfInBounds n.toNat vv) (listOf vs.toArray ep)=listOf (vs.set n.toNat vv).toArray ep:=by
     haveI e1:vs.toArray.setIfInBounds n.toNat vv=(vs.set n.toNat vv).toArray:=by
       apply Array.toList_inj.mp;simp
     simp [Obj.mapSeq,e1]
   rw [Heap.get?_update_self _ ho (by rw [e];rfl),e]
end
noncomputable def Cx.wx (c:Cx) (xt:List (Addr×Obj)):Cx:={ c with xt:=xt }
theorem Ok.wx {G:Gx} {c:Cx} {d:Nat} (ok:Ok G c d) (xt:List (Addr×Obj)):Ok G (c.wx xt) d:=
 ⟨ok.frames,ok.kin,ok.top,ok.hh,ok.dep,ok.uni,ok.fn,ok.gl,ok.bi,ok.ap,ok.kd,ok.fs,ok.ex⟩
section
variable {c:Cx} {m:ML} {H:MH} {G:Gx} {d:Nat}
inductive LwK (c:Cx) (I:Nat->ML->MH->Prop) (s:Shared) (ρ:List Addr) (n:Nat):Shared->Prop where
 | mk (t:List Addr) (m1:ML) (mr1:Str->Option Value) (H1:MH) (h':Heap) (tk:Nat) (hI:I n m1 H1) (S:St c mr1 (ρ++t) H1 h') (l:LR mr1 c.nm (ρ++t) m1):LwK c I s ρ n { s with heap:=h',toks:=tk }
theorem TS.while (ok:Ok G c d) (hfm:c.fm=none) {t:CT} {b:CSs} {post:Fl->ML->MH->Prop} (I:Nat->ML->MH->Prop) (n:Nat) (h0:I n m H)
   (turn:∀k m1 H1,I k m1 H1->TT c m1 t H1 (fun r H2=>(r=true->TB c m1 b H2 (fun f m3 H3=>match f with
       | .next=>∃j,j<k/\I j m3 H3
       | .cont=>∃j,j<k/\I j m3 H3
       | .brk=>post .next m3 H3
       | .ret v=>post (.ret v) m3 H3))/\(r=false->post .next m1 H2))):TS c m (.while t b) H post:=by
 intro st hs;haveI hs:=and2 hs;intro mr ρ s Q E S lr k kx;refine wpAny_While ?_;refine codeAny_whileLoop (LwK c I s ρ) ?_ n (.mk [] m mr H s.heap s.toks h0 (yac S) (by rw [append_nil];exact lr));rintro j _ ⟨t,m1,mr1,H1,h1,tk1,hI,S1,l1⟩;haveI kx1:=(kx.mono (t:=t) (h:=h1) (tk:=tk1)).pass (M:=model c.prog c.w) (A:=c.A) (A':=c.A) ok hfm rfl;refine turn j m1 H1 hI _ hs.1 _ mr1 (ρ++t) _ _ _ (fun _=>rfl) S1 l1 ?_ kx1;intro t' b H2 h2 tk2 hb S2;haveI l2:=l1.mono (t:=t');cases b with
 | false=>
   refine wpAny_execs_nil ?_;haveI:=k (t++t') .next .next m1 mr1 H2 h2 tk2 (hb.2 rfl) rfl;rw [<-append_assoc] at this;exact this S2 l2
 | true=>
   refine hb.1 rfl _ hs.2 mr1 (ρ++t++t') _ _ _ S2 l2 ?_ kx1.mono;intro t'' f fr m3 mr3 H3 h3 tk3 hp hf S3 l3;have e:ρ++t++t'++t''=ρ++(t++(t'++t'')):=by simp only [append_assoc]
   rw [e] at S3 l3 hf;cases f with
   | next=>
     subst hf;obtain ⟨i,hi,hI'⟩:=hp;exact ⟨i,hi,.mk _ m3 mr3 H3 h3 tk3 hI' S3 l3⟩
   | cont=>
     subst hf;obtain ⟨i,hi,hI'⟩:=hp;exact ⟨i,hi,.mk _ m3 mr3 H3 h3 tk3 hI' S3 l3⟩
   | brk=>
     subst hf;exact k _ .next .next m3 mr3 H3 h3 tk3 hp rfl S3 l3
   | ret v=>
     obtain ⟨vr,rfl,hv⟩:=hf;exact k _ (.ret v) (.ret vr) m3 mr3 H3 h3 tk3 hp ⟨vr,rfl,hv⟩ S3 l3
theorem Led.addX {h₀ h:Heap} {L:Addr} {prog:Program} {w:World} {ml:Str->Option Value} {fr xt ex:List (Addr×Obj)} {ρ:List Addr} {o:Obj} (S:Led h₀ L prog w ml (fr++(xt++ex)) ρ H h) (ho:o.isFreed=false) :
   Led h₀ L prog w ml (fr++(((h.objs.size,o) :: xt)++ex)) ρ H (h.push o):=by
 refine S.oq fun os F a1 a2 a3 N a5=>?_;have hn:h.objs.size ∉ (fr++(xt++ex)).map (·.1)++ρ:=fun q=>by
   obtain ⟨p,hp,e⟩:=ybs (os:=os) a1 a2 q;have:=Heap.lt_size (N p hp).1;rw [e] at this;exact Nat.lt_irrefl _ this
 refine ⟨F.push o,os,a1,a2,a3,fun p hp=>N.push F o ho p ?_,?_⟩
 . simp only [cons_append,mem_append,mem_cons] at hp ⊢;rcases hp with (hp | hp | hp | hp) | hp <;> simp [hp]
 . have hp:((fr++(((h.objs.size,o) :: xt)++ex)).map (·.1)++ρ).Perm (h.objs.size :: ((fr++(xt++ex)).map (·.1)++ρ)):=by
     simp only [map_append,map_cons,cons_append,append_assoc];exact perm_middle
   rw [hp.nodup_iff];exact nodup_cons.mpr ⟨hn,a5⟩
theorem St.addX {mr:Str->Option Value} {ρ:List Addr} {h:Heap} {o:Obj} (S:St c mr ρ H h) (ho:o.isFreed=false):St (c.wx ((h.objs.size,o) :: c.xt)) mr ρ H (h.push o):=by
 obtain ⟨ml,fr,ex,Z1⟩:=S;haveI own:=(zl Z1);haveI u:=(zl (zr Z1));haveI l:=(zr (zr Z1));clear Z1;exact ⟨ml,fr,ex,own,u,l.addX ho⟩
theorem St.dropX {mr:Str->Option Value} {ρ:List Addr} {h:Heap} {p:Addr×Obj} (S:St (c.wx (p :: c.xt)) mr ρ H h):St c mr ρ H h:=by
 refine S.oq fun ml fr ex os own u F a1 a2 a3 N a5=>?_;refine ⟨ml,fr,ex,?_,u,F,os,a1,a2,a3,fun q hq=>N q ?_,?_⟩
 . exact own
 . show q ∈ (fr++((p :: c.xt)++ex))++ρ.zip os;simp only [cons_append,mem_append,mem_cons] at hq ⊢;rcases hq with (hp | hp | hp) | hp <;> simp [hp]
 . replace a5:((fr++((p :: c.xt)++ex)).map (·.1)++ρ).Nodup:=a5;refine List.Nodup.sublist ?_ a5;simp only [map_append,map_cons,cons_append,append_assoc];exact List.Sublist.append (List.Sublist.refl _) (List.sublist_cons_self _ _)
theorem St.itr {mr:Str->Option Value} {ρ:List Addr} {h:Heap} {p:Addr×Obj} (S:St (c.wx (p :: c.xt)) mr ρ H h):h.get? p.1=some p.2/\p.1≠c.L/\c.h₀.get? p.1=none:=by
 refine S.oq fun ml fr ex os own u F a1 a2 a3 N a5=>?_;exact N p (mem_append_left _ (mem_append_right _ (mem_append_left _ (.head _))))
theorem St.turnX {mr:Str->Option Value} {ρ:List Addr} {h h':Heap} {I:Addr} {o o':Obj} (S:St (c.wx ((I,o) :: c.xt)) mr ρ H h) (hI:h'.get? I=some o')
   (hk:∀b x,b≠I->h.get? b=some x->h'.get? b=some x):St (c.wx ((I,o') :: c.xt)) mr ρ H h':=by
 haveI nI:=S.itr;refine S.oq fun ml fr ex os own u F a1 a2 a3 N a5=>?_;replace N:News c.h₀ c.L h ((fr++(((I,o) :: c.xt)++ex))++ρ.zip os):=N;replace a5:((fr++(((I,o) :: c.xt)++ex)).map (·.1)++ρ).Nodup:=a5;haveI hne:∀b x,c.h₀.get? b=some x->b≠I:=fun b x e q=>by
   haveI:=nI.2.2;rw [q] at e;haveI e':c.h₀.get? I=none:=this;rw [e'] at e;exact no e
 refine ⟨ml,fr,ex,?_,u,⟨F.ns.at' fun x e=>hk _ x (fun q=>nI.2.1 q.symm) e,fun b x e=>hk b x (hne b x e) (F.keep b x e),F.above⟩,os,a1,a2,a3,?_,(by show ((fr++(((I,o') :: c.xt)++ex)).map (·.1)++ρ).Nodup;simpa [map_append] using a5)⟩
 . exact own
 . show News c.h₀ c.L h' ((fr++(((I,o') :: c.xt)++ex))++ρ.zip os);haveI hp:((fr++(((I,o) :: c.xt)++ex)).map (·.1)++ρ).Perm (I :: ((fr++(c.xt++ex)).map (·.1)++ρ)):=by
     simp only [map_append,map_cons,cons_append,append_assoc];exact perm_middle
   haveI hnd:=nodup_cons.mp (hp.nodup_iff.mp a5);intro p hp;haveI hsplit:p=(I,o')\/p ∈ (fr++(c.xt++ex))++ρ.zip os:=by
     simp only [cons_append,mem_append,mem_cons] at hp ⊢;rcases hp with (hp | hp | hp | hp) | hp <;> simp [hp]
   rcases hsplit with rfl | hq
   . exact ⟨hI,nI.2⟩
   . haveI P:=N p (by
       simp only [cons_append,mem_append,mem_cons] at hq ⊢;rcases hq with (hp | hp | hp) | hp <;> simp [hp])
     refine ⟨hk _ _ (fun e=>?_) P.1,P.2⟩;refine hnd.1 ?_;rw [<-e];rcases zma hq with hq | hq
     . exact mem_append_left _ (mem_map_of_mem hq)
     . exact mem_append_right _ (of_mem_zip (show (p.1,p.2) ∈ _ from hq)).1
theorem St.endX {mr:Str->Option Value} {ρ:List Addr} {h h':Heap} {I:Addr} {o:Obj} (S:St (c.wx ((I,o) :: c.xt)) mr ρ H h)
   (hk:∀b x,b≠I->h.get? b=some x->h'.get? b=some x):St c mr ρ H h':=by
 have nI:=S.itr;refine S.oq fun ml fr ex os own u F a1 a2 a3 N a5=>?_;replace N:News c.h₀ c.L h ((fr++(((I,o) :: c.xt)++ex))++ρ.zip os):=N;replace a5:((fr++(((I,o) :: c.xt)++ex)).map (·.1)++ρ).Nodup:=a5;have hne:∀b x,c.h₀.get? b=some x->b≠I:=fun b x e q=>by
   have:=nI.2.2;rw [q] at e;have e':c.h₀.get? I=none:=this;rw [e'] at e;exact no e
 have hp:((fr++(((I,o) :: c.xt)++ex)).map (·.1)++ρ).Perm (I :: ((fr++(c.xt++ex)).map (·.1)++ρ)):=by
   simp only [map_append,map_cons,cons_append,append_assoc];exact perm_middle
 have hnd:=nodup_cons.mp (hp.nodup_iff.mp a5);refine ⟨ml,fr,ex,?_,u,⟨F.ns.at' fun x e=>hk _ x (fun q=>nI.2.1 q.symm) e,fun b x e=>hk b x (hne b x e) (F.keep b x e),F.above⟩,os,a1,a2,a3,?_,hnd.2⟩
 . exact own
 . intro p hq;have P:=N p (by
     simp only [cons_append,mem_append,mem_cons] at hq ⊢;rcases hq with (hp | hp | hp) | hp <;> simp [hp])
   refine ⟨hk _ _ (fun e=>?_) P.1,P.2⟩;refine hnd.1 ?_;rw [<-e];rcases zma hq with hq | hq
   . exact mem_append_left _ (mem_map_of_mem hq)
   . exact mem_append_right _ (of_mem_zip (show (p.1,p.2) ∈ _ from hq)).1
theorem Fly.dropX {mr:Str->Option Value} {ρ:List Addr} {h:Heap} {p:Addr×Obj} {C:Addr} {as:List MV} {e:Addr} (f:Fly (c.wx (p :: c.xt)) mr ρ H C as e h):Fly c mr ρ H C as e h:=by
 obtain ⟨hB,t,vs,Z1⟩:=f.split;haveI b:=(zl Z1);haveI x:=(zr Z1);clear Z1;exact FlyB.fly (c:=c) ⟨b.st.dropX,b.vr,b.en,b.tn,b.tup,b.up,b.stay⟩ x
theorem Kx.addX {ρ:List Addr} {s:Shared} {E:Value->Shared->Prop} {p:Addr×Obj} (k:Kx c ρ s E):Kx (c.wx (p :: c.xt)) ρ s E:=
 fun t C as e m' mr' H' h' tk hX hF hL=>k t C as e m' mr' H' h' tk hX (hF.dropX) hL
end
noncomputable def ybk:List Nat->List MV->ML->ML
 | i :: is,v :: vs,m=>ybk is vs (m.set i (some v))
 | _,_,m=>m
def ydm (H:MH):List Nat->MV->List MV->Prop
 | [_],v,vs=>vs=[v]
 | is,v,vs=>1<is.length/\vs.length=is.length/\∃a,v=.ref a/\H[a]?=some (.tup vs)
noncomputable def okT (nm:List Str) (sc:Scope) (is:List Nat):Bool:=is.all (fun i=>ydg nm i && stb sc (nm.getD i ""))
section
variable {c:Cx} {m:ML} {H:MH} {G:Gx} {d:Nat}
theorem yk0 {nm:List Str} {env:Env}:∀(is:List Nat) (es:List PySem.Expr),(assignEach (yau (atNm nm is) es) env).length=is.length/\(assignEach (yau (atNm nm is) es) env).findIdx? (·.1)=none:=by
 intro zd
 induction zd with
 | nil=>
  exact fun zz=>⟨rfl,rfl⟩
 | cons i is zih=>
  exact fun es=>by
   haveI Z1:=zih es.tail;haveI h1:=(zl Z1);haveI h2:=(zr Z1);clear Z1;refine ⟨?_,?_⟩
   . show ((false,_) :: assignEach (yau (atNm nm is) es.tail) env).length=_;simp [h1]
   . show ((false,_) :: assignEach (yau (atNm nm is) es.tail) env).findIdx? (·.1)=none;rw [List.findIdx?_cons];simp [h2]
theorem ypc (ok:Ok G c d) (hfm:c.fm=none) {Q:Unit->Shared->Prop} {E:Value->Shared->Prop} {ρ:List Addr}:∀{is:List Nat} {ts:List PySem.Expr} {vs:List MV} {vrs:List Value} {m:ML} {mr:Str->Option Value} {s:Shared},
   okT c.nm c.sc is=true->VRs ρ vs vrs->vs.length=is.length->St c mr ρ H s.heap->LR mr c.nm ρ m->
   (∀mr' h' tk,St c mr' ρ H h'->LR mr' c.nm ρ (ybk is vs m)->Q () { s with heap:=h',toks:=tk })->
   wpAny (model c.prog c.w) c.A (assignInOrder ((assignEach (yau (atNm c.nm is) ts) c.env).map (·.2)) vrs) Q E s:=by
 intro zd
 induction zd with
 | nil=>
  exact fun {ts} {vs} {vrs} {m} {mr} {s} zz hv hl S l k=>by
   cases vs with
   | nil=>
     haveI e:vrs=[]:=hv;subst e;exact wpAny_pure (k mr s.heap s.toks S l)
   | cons _ _=>cases hl
 | cons i is zih=>
  exact fun {ts} {vs} {vrs} {m} {mr} {s} h hv hl S l k=>by
   haveI h1:(ydg c.nm i && stb c.sc (c.nm.getD i "") && okT c.nm c.sc is)=true:=h;haveI Z1:=and3 h1;haveI h1:=(zl Z1);haveI h2:=(zl (zr Z1));haveI h3:=(zr (zr Z1));clear Z1;cases vs with
   | nil=>cases hl
   | cons v vs=>
     obtain ⟨vr,r,Z2⟩:=hv;haveI Z3:=(zl Z2);subst Z3;haveI hv1:=(zl (zr Z2));haveI hv2:=(zr (zr Z2));clear Z2;show wpAny _ _ (do holding r (assign (.Name (c.nm.getD i "") (nth 0 ts).pos) c.env vr);assignInOrder ((assignEach (yau (atNm c.nm is) ts.tail) c.env).map (·.2)) r) Q E s;refine wpAny_bind (wpAny_holding (wpAny_assign_Name ?_));refine yhk ok S hfm h2 ?_;intro h' tk S2;refine zih (s:={ s with heap:=h',toks:=tk }) h3 hv2 (by exact Nat.succ.inj hl) S2 (l.set (beq_iff_eq.mp h1) hv1) ?_;intro mr' h'' tk' S3 l3;exact k mr' h'' tk' S3 l3
theorem ykn {h h':Heap} (he:Heap.ExtBut h.objs.size h h'):∀b o,h.get? b=some o->h'.get? b=some o:=fun b o e=>he b o (Nat.ne_of_lt (Heap.lt_size e)) e
theorem yib (ok:Ok G c d) (hfm:c.fm=none) {Q:Unit->Shared->Prop} {E:Value->Shared->Prop} {ρ:List Addr} {is:List Nat} {ts:List PySem.Expr} {n:Nat} {p:Pos} {v:MV} {vr:Value} {vs:List MV} {mr:Str->Option Value} {s:Shared}
   (ht:okT c.nm c.sc is=true) (h1:1<is.length) (hv:VR ρ v vr) (hp:ydm H is v vs) (S:St c mr ρ H s.heap) (l:LR mr c.nm ρ m)
   (k:∀mr' h' tk,St c mr' ρ H h'->LR mr' c.nm ρ (ybk is vs m)->Q () { s with heap:=h',toks:=tk }):wpAny (model c.prog c.w) c.A (assign (.Tuple (yau (atNm c.nm is) ts) n p) c.env vr) Q E s:=by
 have hp':1<is.length/\vs.length=is.length/\∃a,v=.ref a/\H[a]?=some (.tup vs):=by
   cases is with
   | nil=>exact absurd h1 (Nat.not_lt_zero _)
   | cons i r=>
     cases r with
     | nil=>exact absurd h1 (Nat.lt_irrefl _)
     | cons _ _=>exact hp
 obtain ⟨_,hl,a,rfl,ha⟩:=hp';obtain ⟨x,hx,rfl⟩:=hv;obtain ⟨ws,hws,T⟩:=S.tup ha hx;obtain ⟨q1,q2⟩:=yk0 (nm:=c.nm) (env:=c.env) is ts;refine assign_Tuple_tuple ok.hh T (by rw [q1,size_toArray,hws.length,hl]) q2 ?_;intro h' he;refine ypc ok hfm (s:={ s with heap:=h' }) ht (by exact hws) hl (S.grow (ykn he)) l ?_;intro mr' h'' tk' S3 l3;exact k mr' h'' tk' S3 l3
theorem ypi (ok:Ok G c d) (hfm:c.fm=none) {Q:Unit->Shared->Prop} {E:Value->Shared->Prop} {ρ:List Addr} {is:List Nat} {e:PySem.Expr} {v:MV} {vr:Value} {vs:List MV} {mr:Str->Option Value} {s:Shared}
   (h0:is.isEmpty=false) (ht:okT c.nm c.sc is=true) (hv:VR ρ v vr) (hp:ydm H is v vs) (S:St c mr ρ H s.heap) (l:LR mr c.nm ρ m)
   (k:∀mr' h' tk,St c mr' ρ H h'->LR mr' c.nm ρ (ybk is vs m)->Q () { s with heap:=h',toks:=tk }):wpAny (model c.prog c.w) c.A (assign (reTg (atNm c.nm is) e) c.env vr) Q E s:=by
 cases is with
 | nil=>exact nt h0
 | cons i r=>
   cases r with
   | nil=>
     haveI h1:(ydg c.nm i && stb c.sc (c.nm.getD i "") && true)=true:=ht;haveI Z1:=and3 h1;haveI h1:=(zl Z1);haveI h2:=(zl (zr Z1));clear Z1;haveI e:vs=[v]:=hp;subst e;refine wpAny_assign_Name (yhk ok S hfm h2 ?_);intro h' tk S2;exact k _ h' tk S2 (l.set (beq_iff_eq.mp h1) hv)
   | cons j r=>
     haveI q:reTg (atNm c.nm (i :: j :: r)) e=.Tuple (yau (atNm c.nm (i :: j :: r)) (kids e)) (ycm e) e.pos:=rfl;rw [q];exact yib ok hfm ht (by simp) hv hp S l k
def NX (c:Cx) (I:Addr) (T:Nat->Obj->Prop) (good:MH->Prop) (item:Nat->MH->Option MV) (ρ₀:List Addr):Prop:=
 ∀(i:Nat) (oI:Obj) (mr:Str->Option Value) (t:List Addr) (H:MH) (s:Shared) (Q:Option Value->Shared->Prop) (E:Value->Shared->Prop),T i oI->good H->St (c.wx ((I,oI) :: c.xt)) mr (ρ₀++t) H s.heap->
   (∀mv vr oI' h' tk,item i H=some mv->VR (ρ₀++t) mv vr->T (i+1) oI'->h'.get? I=some oI'->(∀b o,b≠I->s.heap.get? b=some o->h'.get? b=some o)->Q (some vr) { s with heap:=h',toks:=tk })->
   (∀h' tk,item i H=none->(∀b o,b≠I->s.heap.get? b=some o->h'.get? b=some o)->Q none { s with heap:=h',toks:=tk })->
   wpAny (model c.prog c.w) c.A (pyNext (.ref I)) Q E s
def GoOk (T:Nat->Obj->Prop):Prop:=∀i o,T i o->∃n vs,o.cls=.type n/\o.data=.fields vs/\["enumerate","zip","dict_itemiterator","dict_reverseitemiterator","odict_iterator","itertools.zip_longest","itertools.pairwise"].contains n=false
theorem yjb {T:Nat->Obj->Prop} (g:GoOk T) {i:Nat} {o:Obj} (hT:T i o) {I:Addr} {target:PySem.Expr} {v:Value} {s:Shared} {Q:Unit->Shared->Prop} {E:Value->Shared->Prop} {M:Model} {A:Around} (hI:s.heap.get? I=some o) (h:Q () s) :
   wpAny M A (letOwnedTupleGo target (.ref I) v) Q E s:=by
 obtain ⟨n,vs,h1,h2,h3⟩:=g i o hT;have key:wpAny M A (do
   let (.ref r,.ref a):=(Value.ref I,v) | return
   let o <-load r
   match o.cls,o.data with
   | .type n,.fields vs=>
     if ["enumerate","zip","dict_itemiterator","dict_reverseitemiterator","odict_iterator","itertools.zip_longest","itertools.pairwise"].contains n && vs[0]?==some (rawInt a) then
       rule "for.unpacks-the-owned-tuple"
       updateField r 0 .none
   | _,_=>pure ()) Q E s:=by
   cases v with
   | ref a=>
     refine wpAny_bind (wpAny_load hI ?_);simp only [h1,h2,h3,Bool.false_and,Bool.false_eq_true,if_false];exact wpAny_pure h
   | _=>exact wpAny_pure h
 cases target with
 | Tuple _ _ _=>exact key
 | List _ _=>exact key
 | _=>exact wpAny_pure h
inductive LfK (c:Cx) (I:Addr) (T:Nat->Obj->Prop) (J:Nat->ML->MH->Prop) (B:Nat) (s:Shared) (ρ:List Addr) (n:Nat):Shared->Prop where
 | mk (i:Nat) (t:List Addr) (m1:ML) (mr1:Str->Option Value) (H1:MH) (h':Heap) (tk:Nat) (o:Obj) (e:n=B+1 - i) (hJ:J i m1 H1) (hT:T i o) (S:St (c.wx ((I,o) :: c.xt)) mr1 (ρ++t) H1 h') (l:LR mr1 c.nm (ρ++t) m1):LfK c I T J B s ρ n { s with heap:=h',toks:=tk }
theorem ydo (ok:Ok G c d) (hfm:c.fm=none) {is:List Nat} {e:PySem.Expr} {b:CSs} {body:List Stmt} {post:Fl->ML->MH->Prop} (he:is.isEmpty=false) (ht:okT c.nm c.sc is=true) (hb:wfSs b c.nm c.sc body=true)
   {I:Addr} {T:Nat->Obj->Prop} {good:MH->Prop} {item:Nat->MH->Option MV} {ρ:List Addr} (nx:NX c I T good item ρ) (go:GoOk T)
   (J:Nat->ML->MH->Prop) (B:Nat) (h0:J 0 m H) (hB:∀i m H,J i m H->i<=B/\good H)
   (turn:∀i m1 H1 v xt,J i m1 H1->item i H1=some v->∃vs,ydm H1 is v vs/\TB (c.wx xt) (ybk is vs m1) b H1 (fun f m2 H2=>match f with
     | .next=>J (i+1) m2 H2
     | .cont=>J (i+1) m2 H2
     | .brk=>post .next m2 H2
     | .ret v=>post (.ret v) m2 H2))
   (done:∀i m1 H1,J i m1 H1->item i H1=none->post .next m1 H1)
   {mr:Str->Option Value} {s:Shared} {Q:Flow->Shared->Prop} {E:Value->Shared->Prop} {oI:Obj} (hT:T 0 oI) (S:St (c.wx ((I,oI) :: c.xt)) mr ρ H s.heap) (lr:LR mr c.nm ρ m)
   (k:∀t f fr m' mr' H' h' tk,post f m' H'->FlR (ρ++t) f fr->St c mr' (ρ++t) H' h'->LR mr' c.nm (ρ++t) m'->Q fr { s with heap:=h',toks:=tk }) (kx:Kx c ρ s E) :
   codeAny (model c.prog c.w) c.A (.forLoop (reTg (atNm c.nm is) e) (.ref I) (reSs b c.nm body) [] c.env) (fun r s'=>match r with | .ok f=>Q f s' | .error e=>cameBackBy (model c.prog c.w) c.A c.env E e s') s:=by
 refine codeAny_forLoop_any (LfK c I T J B s ρ) ?_ (B+1) (.mk 0 [] m mr H s.heap s.toks oI rfl h0 hT (yac S) (by rw [append_nil];exact lr));rintro n _ ⟨i,t,m1,mr1,H1,h1,tk1,o,rfl,hJ,hTi,S1,l1⟩;haveI kx1:=(kx.mono (t:=t) (h:=h1) (tk:=tk1)).pass (M:=model c.prog c.w) (A:=c.A) (A':=c.A) ok hfm rfl;refine nx i o mr1 t H1 _ _ _ hTi (hB i m1 H1 hJ).2 S1 ?_ ?_
 . intro mv vr oI' h2 tk2 hi hv hT' hI hkeep;haveI S2:=S1.turnX hI hkeep;refine yjb go hT' hI ?_;obtain ⟨vs,Z1⟩:=turn i m1 H1 mv ((I,oI') :: c.xt) hJ hi;haveI hp:=(zl Z1);haveI hturn:=(zr Z1);clear Z1;refine ypi (c:=c.wx ((I,oI') :: c.xt)) (s:={ s with heap:=h2,toks:=tk2 }) (ok.wx _) hfm he ht hv hp S2 l1 ?_;intro mr3 h3 tk3 S3 l3;refine hturn _ hb mr3 (ρ++t) { s with heap:=h3,toks:=tk3 } _ _ S3 l3 ?_ ?_
   . intro t' f fr m4 mr4 H4 h4 tk4 hp4 hf S4 l4;rw [append_assoc] at hf S4 l4;cases f with
     | next=>
       subst hf;haveI:=(hB _ _ _ hp4).1;exact ⟨B+1 - (i+1),by exact qf0 this,.mk (i+1) (t++t') m4 mr4 H4 h4 tk4 oI' rfl hp4 hT' S4 l4⟩
     | cont=>
       subst hf;haveI:=(hB _ _ _ hp4).1;exact ⟨B+1 - (i+1),by exact qf0 this,.mk (i+1) (t++t') m4 mr4 H4 h4 tk4 oI' rfl hp4 hT' S4 l4⟩
     | brk=>
       subst hf;exact k (t++t') .next .next m4 mr4 H4 h4 tk4 hp4 rfl (S4.dropX) l4
     | ret v=>
       obtain ⟨vr',Z2⟩:=hf;haveI Z3:=(zl Z2);subst Z3;haveI hv':=(zr Z2);clear Z2;exact k (t++t') (.ret v) (.ret vr') m4 mr4 H4 h4 tk4 hp4 ⟨vr',rfl,hv'⟩ (S4.dropX) l4
   . exact Kx.addX (c:=c) (p:=(I,oI')) fun t' C as e m' mr' H' h' tk hX hF hL=>kx1 t' C as e m' mr' H' h' tk hX hF hL
 . intro h2 tk2 hi hkeep;refine wpAny_execs_nil ?_;haveI S2:St c mr1 (ρ++t) H1 h2:=S1.endX hkeep;exact k t .next .next m1 mr1 H1 h2 tk2 (done i m1 H1 hJ hi) rfl S2 l1
end
section
variable {c:Cx} {m:ML} {H:MH} {G:Gx} {d:Nat}
noncomputable def yb2 (a:Nat) (i:Nat) (H:MH):Option MV:=match H[a]? with
 | some (.list xs)=>xs[i]?
 | _=>none
theorem NX.list {I l:Addr} {a:Nat} {ρ:List Addr} (hh:c.A.handled=none) (hl:ρ[a]?=some l) :
   NX c I (fun i o=>o.cls=.type "list_iterator"/\o.data=.fields #[.ref l,.int i 0]) (fun H=>∃xs,H[a]?=some (.list xs)) (yb2 a) ρ:=by
 rintro i oI mr t H s Q E ⟨hc,hd⟩ ⟨xs,ha⟩ S k1 k2;obtain ⟨vs,ep,hvs,No⟩:=S.list ha (yam hl);have hit:s.heap.IsListIter I l i:=⟨oI,S.itr.1,hc,hd⟩;have L:=yad No;have hitem:yb2 a i H=xs[i]?:=by unfold yb2;rw [ha]
 cases hx:xs[i]? with
 | some mv=>
   obtain ⟨vr,e1,e2⟩:=hvs.get hx;refine wpAny_pyNext_list_item hit L (x:=vr) (by simpa using e1) fun h' hit' hs'=>?_;obtain ⟨o',ho',hc',hd'⟩:=hit';exact k1 mv vr o' h' s.toks (hitem.trans hx) e2 ⟨hc',hd'⟩ ho' fun b o hb e=>(hs'.2 b hb).trans e
 | none=>
   have hn:vs.toArray[i]?=none:=by
     have:xs.length<=i:=List.getElem?_eq_none_iff.mp hx;simp only [List.getElem?_toArray];exact List.getElem?_eq_none_iff.mpr (by rw [hvs.length];exact this)
   exact wpAny_pyNext_list_end hh hit L hn fun h' he'=>k2 h' s.toks (hitem.trans hx) fun b o hb e=>he' b o hb e
theorem and4 {a b c d:Bool} (h:(a && b && c && d)=true):a=true/\b=true/\c=true/\d=true:=⟨(and3 (and2 h).1).1,(and3 (and2 h).1).2.1,(and3 (and2 h).1).2.2,(and2 h).2⟩
theorem yhl {is:List Nat} (h:(!is.isEmpty)=true):is.isEmpty=false:=by simpa using h
theorem ycb {nm:List Str} {sc:Scope} {a:CE} {e:PySem.Expr} {env:Env} (h:wfE a nm sc e=true) (v:Value):foldedSetIterable (reE a nm e) env v=pure v:=by
 cases a with
 | tst t=>have h2:=yef h;cases t <;> first | rfl | exact nb h2
 | _=>rfl
theorem TS.forL (ok:Ok G c d) (hfm:c.fm=none) {is:List Nat} {it:CE} {b:CSs} {post:Fl->ML->MH->Prop}
   (h:TE c m it H (fun l H1=>∃a,l=.ref a/\∃(J:Nat->ML->MH->Prop) (B:Nat),J 0 m H1/\(∀i m2 H2,J i m2 H2->i<=B/\∃xs,H2[a]?=some (.list xs))/\
     (∀i m1 H2 v xt,J i m1 H2->yb2 a i H2=some v->∃vs,ydm H2 is v vs/\TB (c.wx xt) (ybk is vs m1) b H2 (fun f m2 H3=>match f with
       | .next=>J (i+1) m2 H3
       | .cont=>J (i+1) m2 H3
       | .brk=>post .next m2 H3
       | .ret v=>post (.ret v) m2 H3))/\
     (∀i m1 H2,J i m1 H2->yb2 a i H2=none->post .next m1 H2))):TS c m (.for is it b) H post:=by
 intro st hs;haveI Z1:=and4 hs;haveI h0:=(zl Z1);haveI h1:=(zl (zr Z1));haveI h2:=(zl (zr (zr Z1)));haveI h3:=(zr (zr (zr Z1)));clear Z1;haveI h0:=yhl h0;intro mr ρ s Q E S lr k kx;refine wpAny_For ?_ (ycb h2);refine h _ h2 mr ρ s _ E S lr ?_ kx;rintro t l lv H1 hp1 tk1 ⟨a,rfl,J,B,hJ0,hJ,turn,done⟩ hl S1;obtain ⟨y,Z2⟩:=hl;haveI Z3:=(zr Z2);subst Z3;haveI hy:=(zl Z2);clear Z2;obtain ⟨xs,ha⟩:=(hJ 0 m H1 hJ0).2;obtain ⟨vs,ep,Z4⟩:=S1.list ha hy;haveI hvs:=(zl Z4);haveI No:=(zr Z4);clear Z4;refine wpAny_pyIter_list (yad No) ?_;refine ydo ok hfm h0 h1 h3 (NX.list ok.hh hy) (fun i o hT=>⟨_,_,hT.1,hT.2,rfl⟩) J B hJ0 hJ turn done (mr:=mr) ⟨rfl,rfl⟩ (S1.addX rfl) lr.mono ?_ kx.mono;intro t' f fr m' mr' H' h' tk hp hf S' l';rw [append_assoc] at hf S' l';exact k (t++t') f fr m' mr' H' h' tk hp hf S' l'
abbrev ymm (J:Nat->ML->MH->Prop) (i:Nat) (post:Fl->ML->MH->Prop) (f:Fl) (m:ML) (H:MH):Prop:=match f with
 | .next=>J (i+1) m H
 | .cont=>J (i+1) m H
 | .brk=>post .next m H
 | .ret v=>post (.ret v) m H
inductive qForL (c:Cx) (is:List Nat) (b:CSs) (post:Fl->ML->MH->Prop) (m:ML) (l:MV) (H1:MH):Prop where
 | mk (a:Nat) (xs:List MV) (e:l=.ref a) (ha:H1[a]?=some (.list xs)) (J:Nat->ML->MH->Prop) (h0:J 0 m H1) (hJ:∀i m2 H2,J i m2 H2->H2[a]?=some (.list xs))
     (turn:∀i m1 H2 v xt,J i m1 H2->xs[i]?=some v->∃vs,ydm H2 is v vs/\TB (c.wx xt) (ybk is vs m1) b H2 (ymm J i post)) (done:∀m1 H2,J xs.length m1 H2->post .next m1 H2)
theorem TS.forL' (ok:Ok G c d) (hfm:c.fm=none) {is:List Nat} {it:CE} {b:CSs} {post:Fl->ML->MH->Prop}
   (h:TE c m it H (qForL c is b post m)):TS c m (.for is it b) H post:=by
 refine TS.forL ok hfm (h.mono fun l H1 h1=>?_);obtain ⟨a,xs,rfl,ha,J,h0,hJ,turn,done⟩:=h1;refine ⟨a,rfl,fun i m2 H2=>i<=xs.length/\J i m2 H2,xs.length,⟨Nat.zero_le _,h0⟩,fun i m2 H2 q=>⟨q.1,xs,hJ i m2 H2 q.2⟩,?_,?_⟩
 . intro i m1 H2 v xt q hi;haveI hx:xs[i]?=some v:=by unfold yb2 at hi;rw [hJ i m1 H2 q.2] at hi;exact hi
   haveI hlt:=(zgs hx).1;obtain ⟨vs,Z1⟩:=turn i m1 H2 v xt q.2 hx;haveI hp:=(zl Z1);haveI ht:=(zr Z1);clear Z1;refine ⟨vs,hp,ht.mono fun f m2 H3 hf=>?_⟩;cases f with
   | next=>exact ⟨hlt,hf⟩
   | cont=>exact ⟨hlt,hf⟩
   | brk=>exact hf
   | ret v=>exact hf
 . intro i m1 H2 q hi;haveI hx:xs[i]?=none:=by unfold yb2 at hi;rw [hJ i m1 H2 q.2] at hi;exact hi
   haveI:i=xs.length:=Nat.le_antisymm q.1 (List.getElem?_eq_none_iff.mp hx);exact done m1 H2 (this ▸ q.2)
noncomputable def itemR (a b:Int) (i:Nat) (_:MH):Option MV:=if a+i<b then some (.int (a+i)) else none
theorem NX.range {I:Addr} {a b:Int} {ρ:List Addr} (hh:c.A.handled=none) :
   NX c I (fun i o=>o={ cls:=.type "range_iterator",data:=.fields #[rawInt (a+i),rawInt (((b - a).toNat:Int) - i),rawInt 1] }) (fun _=>True) (itemR a b) ρ:=by
 rintro i oI mr t H s Q E rfl _ S k1 k2;haveI hI:IsRangeIter s.heap I (a+i) (((b - a).toNat:Int) - i) 1:=S.itr.1;by_cases hlt:a+i<b
 . refine wpAny_pyNext_range_item hI (by lia) fun h' hit' hs'=>?_;refine k1 (.int (a+i)) (.int (a+i) s.toks) _ h' _ (by unfold itemR;rw [if_pos hlt]) ⟨_,rfl⟩ ?_ hit' fun b o hb e=>(hs'.2 b hb).trans e;haveI e1:a+(i:Int)+1=a+((i+1:Nat):Int):=by lia
   haveI e2:((b - a).toNat:Int) - (i:Int) - 1=((b - a).toNat:Int) - ((i+1:Nat):Int):=by lia
   rw [e1,e2]
 . exact wpAny_pyNext_range_end hh hI (by lia) fun h' he'=>k2 h' s.toks (by unfold itemR;rw [if_neg hlt]) fun b o hb e=>he' b o hb e
def Rng (vs:List MV) (a b:Int):Prop:=((vs=[.int b]/\a=0)\/vs=[.int a,.int b])/\-(2 ^ 62)<=a/\a<2 ^ 62/\-(2 ^ 62)<=b/\b<2 ^ 62
theorem ygw {mr:Str->Option Value} {ρ:List Addr} {s:Shared} {vs:List MV} {vrs:List Value} {a b:Int} {Q E} (S:St c mr ρ H s.heap) (hr:Rng vs a b) (hv:VRs ρ vs vrs)
   (k:∀h' tk t₁ u₁ v₁,IsRange h' s.heap.objs.size a b 1 t₁ u₁ v₁->St c mr ρ H h'->s.heap.objs.size<h'.objs.size->Q (.ref s.heap.objs.size) { s with heap:=h',toks:=tk }) :
   wpAny (model c.prog c.w) c.A (call (.type "range") vrs) Q E s:=by
 refine S.op fun ml xs os F a1 a2 a3 N a5 back=>?_;obtain ⟨hvs,_⟩:=hr;have hlt:∀h' t₁ u₁ v₁,IsRange h' s.heap.objs.size a b 1 t₁ u₁ v₁->s.heap.objs.size<h'.objs.size:=fun h' t₁ u₁ v₁ hr=>by
   unfold IsRange at hr;exact Heap.lt_size hr
 rcases hvs with ⟨rfl,rfl⟩ | rfl
 . obtain ⟨v,r,rfl,⟨tt,rfl⟩,hr⟩:=hv;have hr':r=[]:=hr;subst hr';exact range1_rows F N fun h' tk t₁ u₁ v₁ hr _ _ hkeep=>k h' tk t₁ u₁ v₁ hr (S.grow hkeep) (hlt _ _ _ _ hr)
 . obtain ⟨v,r,rfl,⟨tt,rfl⟩,v2,r2,rfl,⟨uu,rfl⟩,hr⟩:=hv;have hr':r2=[]:=hr;subst hr';exact range2_rows F N fun h' tk t₁ u₁ v₁ hr _ _ hkeep=>k h' tk t₁ u₁ v₁ hr (S.grow hkeep) (hlt _ _ _ _ hr)
theorem ydw (ok:Ok G c d) {g:Str} {T:String} {as:CEs} {e:PySem.Expr} (hg:nsIn G.K mainGlobals g=some Option.none) (hb:bootBuiltins g=some (.type T)) (hn:g≠"__name__")
   (he:wfE (.call g as) c.nm c.sc e=true) (hne:as≠.nil) {mr:Str->Option Value} {ρ:List Addr} {s:Shared} {Q:Value->Shared->Prop} {E:Value->Shared->Prop} {p:List MV->MH->Prop} (S:St c mr ρ H s.heap) (l:LR mr c.nm ρ m) (kx:Kx c ρ s E)
   (h:TEs c m as H p) (k:∀t vs vrs H' h' tk,p vs H'->VRs (ρ++t) vs vrs->St c mr (ρ++t) H' h'->wpAny (model c.prog c.w) c.A (call (.type T) vrs) Q E { s with heap:=h',toks:=tk }) :
   wpAny (model c.prog c.w) c.A (eval (reE (.call g as) c.nm e) c.env) Q E s:=by
 obtain ⟨h2,h3⟩:=and2 he;refine Call_ ?_ rfl;refine yl4 ok S h2 hg hb hn ?_;cases as with
 | nil=>exact absurd rfl hne
 | cons a r=>
   have h4:=and2 h3;refine PyProof.Rows.callWith_type1 ?_ (yav (ybi h4.1)) (ya0 h4.2);refine h _ _ h3 mr ρ s _ E S l ?_ kx;intro t vs vrs H' h' tk hp hv S';exact k t vs vrs H' h' tk hp hv S'
theorem yky (ok:Ok G c d) {g:Str} {T:String} {as:CEs} {e:PySem.Expr} (hg:nsIn G.K mainGlobals g=some Option.none) (hb:bootBuiltins g=some (.builtin T)) (hn:g≠"__name__")
   (he:wfE (.call g as) c.nm c.sc e=true) (hne:as≠.nil) {mr:Str->Option Value} {ρ:List Addr} {s:Shared} {Q:Value->Shared->Prop} {E:Value->Shared->Prop} {p:List MV->MH->Prop} (S:St c mr ρ H s.heap) (l:LR mr c.nm ρ m) (kx:Kx c ρ s E)
   (h:TEs c m as H p) (k:∀t vs vrs H' h' tk,p vs H'->VRs (ρ++t) vs vrs->St c mr (ρ++t) H' h'->wpAny (model c.prog c.w) c.A (call (.builtin T) vrs) Q E { s with heap:=h',toks:=tk }) :
   wpAny (model c.prog c.w) c.A (eval (reE (.call g as) c.nm e) c.env) Q E s:=by
 obtain ⟨h2,h3⟩:=and2 he;refine Call_ ?_ rfl;refine yl4 ok S h2 hg hb hn ?_;cases as with
 | nil=>exact absurd rfl hne
 | cons a r=>
   have h4:=and2 h3;refine PyProof.Rows.callWith_builtin1 ?_ (yav (ybi h4.1)) (ya0 h4.2);refine h _ _ h3 mr ρ s _ E S l ?_ kx;intro t vs vrs H' h' tk hp hv S';exact k t vs vrs H' h' tk hp hv S'
inductive qForR (c:Cx) (is:List Nat) (b:CSs) (post:Fl->ML->MH->Prop) (m:ML) (vs:List MV) (H1:MH):Prop where
 | mk (lo hi:Int) (hr:Rng vs lo hi) (J:Nat->ML->MH->Prop) (h0:J 0 m H1) (turn:∀i m1 H2 xt,J i m1 H2->lo+i<hi->TB (c.wx xt) (ybk is [.int (lo+i)] m1) b H2 (ymm J i post)) (done:∀m1 H2,J (hi - lo).toNat m1 H2->post .next m1 H2)
theorem TS.forR (ok:Ok G c d) (hfm:c.fm=none) (hg:nsIn G.K mainGlobals "range"=some none) {is:List Nat} {as:CEs} {b:CSs} {post:Fl->ML->MH->Prop} (hne:as≠.nil)
   (h:TEs c m as H (qForR c is b post m)) (h1i:∃i,is=[i]):TS c m (.for is (.call "range" as) b) H post:=by
 obtain ⟨i0,rfl⟩:=h1i;intro st hs;haveI Z1:=and4 hs;haveI h0:=(zl Z1);haveI h1:=(zl (zr Z1));haveI h2:=(zl (zr (zr Z1)));haveI h3:=(zr (zr (zr Z1)));clear Z1;haveI h0:=yhl h0;intro mr ρ s Q E S lr k kx;refine wpAny_For ?_ (ycb h2);refine ydw ok (T:="range") hg boot_range (by decide) h2 hne S lr kx h ?_;rintro t vs vrs H1 hp1 tk1 ⟨a,b',hr,J,hJ0,turn,done⟩ hv S1;refine ygw S1 hr hv ?_;intro h' tk t₁ u₁ v₁ hR S2 _;refine wpAny_pyIter_range hR (small_one hr.2.1 hr.2.2.1 hr.2.2.2.1 hr.2.2.2.2) ?_;refine ydo (post:=post) ok hfm h0 h1 h3 (NX.range (a:=a) (b:=b') ok.hh) (fun i o hT=>by subst hT;exact ⟨_,_,rfl,rfl,rfl⟩) (fun i m2 H2=>i<=(b' - a).toNat/\J i m2 H2) (b' - a).toNat ⟨Nat.zero_le _,hJ0⟩ (fun i m2 H2 q=>⟨q.1,trivial⟩) ?_ ?_ (mr:=mr) ?_ (S2.addX rfl) lr.mono ?_ kx.mono
 . intro i m1 H2 v xt q hi;unfold itemR at hi;split at hi
   . rename_i hlt
     (replace hi:=si hi;subst hi)
     refine ⟨_,rfl,(turn i m1 H2 xt q.2 hlt).mono fun f m2 H3 hf=>?_⟩;cases f with
     | next=>exact ⟨by exact qf5 q hlt,hf⟩
     | cont=>exact ⟨by exact qf5 q hlt,hf⟩
     | brk=>exact hf
     | ret v=>exact hf
   . exact no hi
 . intro i m1 H2 q hi;unfold itemR at hi;split at hi
   . exact ns hi
   . rename_i hge;haveI:i=(b' - a).toNat:=by haveI:=q.1;exact qf6 q hge
     exact done m1 H2 (this ▸ q.2)
 . rw [rangeSize_nat];simp
 . intro t' f fr m' mr' H' h'' tk' hp hf S' l';rw [append_assoc] at hf S' l';exact k (t++t') f fr m' mr' H' h'' tk' hp hf S' l'
theorem TEs.one {a:CE} {p:MV->MH->Prop} (h:TE c m a H p):TEs c m (.cons a .nil) H (fun vs H1=>∃v,vs=[v]/\p v H1):=TEs.cons (h.mono fun v H1 h1=>TEs.nil ⟨v,rfl,h1⟩)
theorem NX.rev {I l:Addr} {a:Nat} {xs:List MV} {ρ:List Addr} (hh:c.A.handled=none) (hl:ρ[a]?=some l) :
   NX c I (fun i o=>o.cls=.type "list_reverseiterator"/\o.data=.fields #[.ref l,rawInt ((xs.length:Int) - 1 - i)]/\i<=xs.length) (fun H=>H[a]?=some (.list xs)) (fun i _=>xs.reverse[i]?) ρ:=by
 rintro i oI mr t H s Q E ⟨hc,hd,hle⟩ ha S k1 k2;obtain ⟨vs,ep,Z1⟩:=S.list ha (yam hl);haveI hvs:=(zl Z1);haveI No:=(zr Z1);clear Z1;haveI hI:=S.itr.1;haveI L:=yad No;by_cases hlt:i<xs.length
 . haveI hx:xs.reverse[i]?=some (xs[xs.length - 1 - i]'(by exact qf7 hle hlt)):=by
     rw [List.getElem?_reverse hlt];exact getElem?_eq_getElem (by exact qf7 hle hlt)
   haveI hx':xs[xs.length - 1 - i]?=some (xs[xs.length - 1 - i]'(by exact qf7 hle hlt)):=getElem?_eq_getElem (by exact qf7 hle hlt);obtain ⟨vr,Z2⟩:=hvs.get hx';haveI e1:=(zl Z2);haveI e2:=(zr Z2);clear Z2;haveI e0:(xs.length:Int) - 1 - i=((xs.length - 1 - i:Nat):Int):=by exact qf8 hle hlt
   haveI hit:s.heap.IsRevIter I l ((xs.length - 1 - i:Nat):Int):=⟨oI,hI,hc,by rw [hd,e0]⟩;refine wpAny_pyNext_rev_item hit L (x:=vr) (by simpa using e1) fun h' hit' hs'=>?_;obtain ⟨o',Z3⟩:=hit';haveI ho':=(zl Z3);haveI hc':=(zl (zr Z3));haveI hd':=(zr (zr Z3));clear Z3;refine k1 _ vr o' h' s.toks hx e2 ⟨hc',?_,hlt⟩ ho' fun b o hb e=>(hs'.2 b hb).trans e;rw [hd'];haveI e3:((xs.length - 1 - i:Nat):Int) - 1=(xs.length:Int) - 1 - ((i+1:Nat):Int):=by exact qf9 e0
   rw [e3]
 . haveI e0:(xs.length:Int) - 1 - i=-1:=by exact qf10 hle hlt
   haveI hit:s.heap.IsRevIter I l (-1):=⟨oI,hI,hc,by rw [hd,e0]⟩;refine wpAny_pyNext_rev_end hh hit fun h' he'=>k2 h' s.toks ?_ fun b o hb e=>he' b o hb e;exact List.getElem?_eq_none_iff.mpr (by rw [length_reverse];exact yv1 hle hlt)
theorem TS.forRev (ok:Ok G c d) (hfm:c.fm=none) (hg:nsIn G.K mainGlobals "reversed"=some none) {is:List Nat} {x:CE} {b:CSs} {post:Fl->ML->MH->Prop}
   (h:TE c m x H (fun v H1=>∃a xs,v=.ref a/\H1[a]?=some (.list xs)/\∃(J:Nat->ML->MH->Prop),J 0 m H1/\(∀i m2 H2,J i m2 H2->H2[a]?=some (.list xs))/\
     (∀i m1 H2 v xt,J i m1 H2->xs.reverse[i]?=some v->∃vs,ydm H2 is v vs/\TB (c.wx xt) (ybk is vs m1) b H2 (fun f m2 H3=>match f with
       | .next=>J (i+1) m2 H3
       | .cont=>J (i+1) m2 H3
       | .brk=>post .next m2 H3
       | .ret v=>post (.ret v) m2 H3))/\
     (∀m1 H2,J xs.length m1 H2->post .next m1 H2))):TS c m (.for is (.call "reversed" (.cons x .nil)) b) H post:=by
 intro st hs;haveI Z1:=and4 hs;haveI h0:=(zl Z1);haveI h1:=(zl (zr Z1));haveI h2:=(zl (zr (zr Z1)));haveI h3:=(zr (zr (zr Z1)));clear Z1;haveI h0:=yhl h0;intro mr ρ s Q E S lr k kx;refine wpAny_For ?_ (ycb h2);refine ydw ok (T:="reversed") hg boot_reversed (by decide) h2 CEs.ne S lr kx (TEs.one h) ?_;rintro t vs vrs H1 hp1 tk1 ⟨v,rfl,a,xs,rfl,ha,J,hJ0,hJ,turn,done⟩ ⟨vr,r,rfl,⟨y,hy,rfl⟩,hr⟩ S1;haveI hr':r=[]:=hr;subst hr';obtain ⟨ws,ep,Z2⟩:=S1.list ha hy;haveI hws:=(zl Z2);haveI No:=(zr Z2);clear Z2;haveI hlen:ws.toArray.size=xs.length:=by rw [size_toArray,hws.length]
 refine call_reversed_list (yad No) ?_;haveI S2:=S1.addX (o:=revObj y ((ws.toArray.size:Int) - 1)) rfl;refine wpAny_pyIter_revIter ⟨_,Heap.get?_push_size _ rfl,rfl,rfl⟩ ?_;refine ydo (post:=post) ok hfm h0 h1 h3 (NX.rev (xs:=xs) ok.hh hy) (fun i o hT=>⟨_,_,hT.1,hT.2.1,rfl⟩) (fun i m2 H2=>i<=xs.length/\J i m2 H2) xs.length ⟨Nat.zero_le _,hJ0⟩ (fun i m2 H2 q=>⟨q.1,hJ i m2 H2 q.2⟩) ?_ ?_ (mr:=mr) ⟨rfl,?_,Nat.zero_le _⟩ S2 lr.mono ?_ kx.mono
 . intro i m1 H2 v xt q hi;haveI hlt:=(zgs hi).1;rw [length_reverse] at hlt;obtain ⟨vs,Z3⟩:=turn i m1 H2 v xt q.2 hi;haveI hp:=(zl Z3);haveI ht:=(zr Z3);clear Z3;refine ⟨vs,hp,ht.mono fun f m2 H3 hf=>?_⟩;cases f with
   | next=>exact ⟨hlt,hf⟩
   | cont=>exact ⟨hlt,hf⟩
   | brk=>exact hf
   | ret v=>exact hf
 . intro i m1 H2 q hi;haveI h5:=List.getElem?_eq_none_iff.mp hi;rw [length_reverse] at h5;haveI:i=xs.length:=Nat.le_antisymm q.1 h5;exact done m1 H2 (this ▸ q.2)
 . show Data.fields #[.ref y,rawInt ((ws.toArray.size:Int) - 1)]=_;rw [hlen];simp
 . intro t' f fr m' mr' H' h'' tk' hp hf S' l';rw [append_assoc] at hf S' l';exact k (t++t') f fr m' mr' H' h'' tk' hp hf S' l'
end
theorem Ok.le {G:Gx} {c:Cx} {d d':Nat} (h:d<=d') (ok:Ok G c d'):Ok G c d:=
 ⟨ok.frames,ok.kin,ok.top,ok.hh,by have:=ok.dep;lia,by have:=ok.uni;lia,ok.fn,ok.gl,ok.bi,ok.ap,ok.kd,ok.fs,ok.ex⟩
theorem CL.le {G:Gx} {prog:Program} {w:World} {d d':Nat} {f:Addr} {args:List MV} {H:MH} {p:MV->MH->Prop} {xp:Addr->List MV->MH->Prop} (h:d<=d') (q:CL G prog w d f args H p xp):CL G prog w d' f args H p xp:=
 fun c mr ρ s Q E vs e1 e2 ok S l k kx=>q c mr ρ s Q E vs e1 e2 (ok.le h) S l k kx
structure GFn (G:Gx) (g:Str) (f:Addr):Prop where
 ns:nsIn G.K mainGlobals g=some (some (.ref f))
 keep:keepIn G.K (.ref f)=true
structure GCls (G:Gx) (g:Str) (C fI:Addr):Prop extends GFn G g C where
 makes:makesIn G.K C=true
 init:findIn G.K (.ref C) "__init__"=some (some (.ref fI))
 fn:isFn G.K (.ref fI)=true
structure GAtt (G:Gx) (C:Addr) (name:Str):Prop where
 plain:plainGet G.K C name=true
 dict:hasDictIn G.K C=true
 find:findIn G.K (.ref C) name=some none
structure GSto (G:Gx) (C:Addr) (name:Str):Prop where
 set:findIn G.K (.ref C) "__setattr__"=some (some (.builtin "object.__setattr__"))
 over:plainOver G.K C=true
 taker:takerIn G.K C name=some none
 dict:hasDictIn G.K C=true
structure GMth (G:Gx) (C:Addr) (name:Str) (f:Addr):Prop where
 plain:plainGet G.K C name=true
 find:findIn G.K (.ref C) name=some (some (.ref f))
 fn:isFn G.K (.ref f)=true
 keep:keepIn G.K (.ref f)=true
def GDef (G:Gx) (f:Addr) (names nm:List Str) (b:CSs) (dm:List MV):Prop:=
 ∃(name qual:Str) (params:Arguments) (body:List Stmt) (scope:Scope) (dV kV doc pm cdv ct oc:Value) (an od:Option Addr) (osl:Array (Option Value)) (dv:List Value),
   G.K.lookup f=some ⟨oc,od,.func (fnOf name qual params body scope dV kV doc pm an cdv ct),osl⟩/\codeIn G.K cdv qual=true/\
   (∀(s:Shared) (vs:List Value),G.K.In s.heap->vs.length+dm.length=names.length->BindsTo s (fnOf name qual params body scope dV kV doc pm an cdv ct) ⟨vs,[]⟩ (names.zip (vs++dv)))/\
   VRs [] dm dv/\fnb scope names nm=true/\wfSs b nm scope body=true/\reSs b nm body=body
theorem GDef.cl {G:Gx} {prog:Program} {w:World} {d:Nat} {f:Addr} {names nm:List Str} {b:CSs} {dm args:List MV} {H:MH} {post:MV->MH->Prop} {xp:Addr->List MV->MH->Prop}
   (D:GDef G f names nm b dm) (hl:args.length+dm.length=names.length)
   (h:∀c:Cx,c.prog=prog->c.w=w->Ok G c d->c.fm=none->interactive c.env=false->c.nm=nm->c.X=(fun C as _ H=>xp C as H)->TB c (start nm (args++dm)) b H (fun fl _ H'=>post (retv fl) H')) :
   CL G prog w (d+1) f args H post xp:=by
 obtain ⟨name,qual,params,body,scope,dV,kV,doc,pm,cdv,ct,oc,an,od,osl,dv,Z1⟩:=D;haveI h1:=(zl Z1);haveI h2:=(zl (zr Z1));haveI h3:=(zl (zr (zr Z1)));haveI h4:=(zl (zr (zr (zr Z1))));haveI h5:=(zl (zr (zr (zr (zr Z1)))));haveI h6:=(zl (zr (zr (zr (zr (zr Z1))))));haveI h7:=(zr (zr (zr (zr (zr (zr Z1))))));clear Z1;refine CL.body (names:=names) (nm:=nm) h1 h2 (fun s vs X hv=>h3 s vs X (by rw [hv];exact hl)) h4 (by rw [length_append];exact hl) h5 ?_;intro c e1 e2 ok e3 e4 e5 e6;haveI hb:=h c e1 e2 ok e3 ?_ e4 e6 body (by rw [e4,e5];exact h6)
 . rw [e4,h7] at hb;exact hb
 haveI:=ok.fn;unfold interactive;rw [this];rfl
section
variable {c:Cx} {m:ML} {H:MH} {G:Gx} {d:Nat}
theorem ymd {f:Addr} {vs:List MV} {vrs:List Value} {mr:Str->Option Value} {ρ t:List Addr} {s:Shared} {Q:Value->Shared->Prop} {E:Value->Shared->Prop} {H1:MH} {h1:Heap} {tk1:Nat} {post:MV->MH->Prop} (ok:Ok G c d)
   (hcl:CL G c.prog c.w d f vs H1 post (fun C as H'=>c.X C as m H')) (S1:St c mr (ρ++t) H1 h1) (hvs:VRs (ρ++t) vs vrs) (l:LR mr c.nm ρ m)
   (k:∀t v vr H' h' tk,post v H'->VR (ρ++t) v vr->St c mr (ρ++t) H' h'->Q vr { s with heap:=h',toks:=tk }) (kx:Kx c ρ s E) :
   wpAny (model c.prog c.w) c.A (call (.ref f) vrs) Q E { s with heap:=h1,toks:=tk1 }:=by
 refine wpAny_call ?_;refine hcl c mr (ρ++t) _ _ E vrs rfl rfl ok S1 hvs ?_ ?_
 . intro t' v vr H2 h2 tk2 hp hv S2;rw [append_assoc] at hv S2;exact k (t++t') v vr H2 h2 tk2 hp hv S2
 . intro t' C as e H2 h2 tk2 hx hF;rw [append_assoc] at hF;exact kx (t++t') C as e m mr H2 h2 tk2 hx hF l.mono
abbrev qX (c:Cx) (m:ML) (C:Addr) (as:List MV) (H:MH):Prop:=c.X C as m H
abbrev ywq (G:Gx) (c:Cx) (d:Nat) (m:ML) (f:Addr) (post:MV->MH->Prop) (vs:List MV) (H:MH):Prop:=CL G c.prog c.w d f vs H post (qX c m)
theorem TE.call (ok:Ok G c d) {g:Str} {f:Addr} {a:CE} {r:CEs} {post:MV->MH->Prop} (hg:GFn G g f) (h:TEs c m (.cons a r) H (ywq G c d m f post)):TE c m (.call g (.cons a r)) H post:=by
 intro e he;haveI Z1:=and2 he;haveI h2:=(zl Z1);haveI h3:=(zr Z1);clear Z1;intro mr ρ s Q E S l k kx;refine Call_ ?_ rfl;refine ymr ok S h2 hg.ns ?_;haveI h4:=and2 h3;refine callWith_K ok.kin hg.keep ?_ (yav (ybi h4.1)) (ya0 h4.2);refine h _ _ h3 mr ρ s _ E S l ?_ kx;intro t vs vrs H1 h1 tk1 hcl hvs S1;exact ⟨ok.kin.keeps S1.keep,ymd ok hcl S1 hvs l k kx⟩
theorem NR.find {P:Params} {ρ:List Addr} {x:Str} {mv:MV}:∀{fs:List (Str×MV)} {es:List DictEntry},NR P ρ fs es->fs.lookup x=some mv->
   ∃e:DictEntry,es.find? (·.key.isStr x)=some e/\VR ρ mv e.val:=@fun zd1 zd2 zd3=>@(match zd1,zd2,zd3 with
 | [],_,_=>fun h=>by exact no h
 | (y,m) :: fs,_,⟨t,v,r,e,h1,h2⟩=>fun h=>by
   subst e;by_cases hx:x=y
   . subst hx;simp only [List.lookup,beq_self_eq_true] at h;cases h;exact ⟨⟨PyData.keyHash P x,.str x t,v⟩,by simp [List.find?,Value.isStr],h1⟩
   . have hb:(x==y)=false:=by exact beq_eq_false_iff_ne.mpr hx
     have hb':(y==x)=false:=by simpa using fun e=>hx e.symm
     simp only [List.lookup,hb] at h;obtain ⟨e,h3,h4⟩:=h2.find h;exact ⟨e,by simp only [List.find?,Value.isStr,hb'];exact h3,h4⟩)
theorem NR.get {P:Params} {ρ:List Addr} {x:Str} {mv:MV} {fs:List (Str×MV)} {es:List DictEntry} (h:NR P ρ fs es) (hx:fs.lookup x=some mv) :
   ∃v,getL x es=some (some v)/\VR ρ mv v:=by
 obtain ⟨e,h1,h2⟩:=h.find hx;exact ⟨e.val,by unfold getL;rw [h1],h2⟩
theorem NR.miss {P:Params} {ρ:List Addr} {x:Str}:∀{fs:List (Str×MV)} {es:List DictEntry},NR P ρ fs es->fs.lookup x=none->es.find? (·.key.isStr x)=none/\es.any (·.refKey)=false:=@fun zd1 zd2 zd3=>@(match zd1,zd2,zd3 with
 | [],_,h=>fun zz=>by rw [h];exact ⟨rfl,rfl⟩
 | (y,m) :: fs,_,⟨t,v,r,e,h1,h2⟩=>fun h=>by
   subst e;by_cases hx:x=y
   . subst hx;simp only [List.lookup,beq_self_eq_true] at h;exact ns h
   . haveI hb:(x==y)=false:=by exact beq_eq_false_iff_ne.mpr hx
     haveI hb':(y==x)=false:=by simpa using fun e=>hx e.symm
     simp only [List.lookup,hb] at h;haveI Z1:=h2.miss h;haveI h3:=(zl Z1);haveI h4:=(zr Z1);clear Z1;refine ⟨by simp only [List.find?,Value.isStr,hb'];exact h3,?_⟩;rw [any_cons,h4,Bool.or_false];rfl)
theorem NR.none' {P:Params} {ρ:List Addr} {x:Str} {fs:List (Str×MV)} {es:List DictEntry} (h:NR P ρ fs es) (hx:fs.lookup x=none):getL x es=some none:=by
 obtain ⟨h1,h2⟩:=h.miss hx;unfold getL;rw [h1];simp only [h2];rfl
theorem NR.length {P:Params} {ρ:List Addr}:∀{fs:List (Str×MV)} {es:List DictEntry},NR P ρ fs es->es.length=fs.length
 | [],_,h=>by rw [h];rfl
 | (_,_) :: _,_,⟨_,_,_,e,_,h2⟩=>by rw [e,length_cons,length_cons,h2.length]
noncomputable def putF (x:Str) (v:MV):List (Str×MV)->List (Str×MV)
 | []=>[(x,v)]
 | p :: r=>if p.1=x then (x,v) :: r else p :: putF x v r
theorem NR.put {P:Params} {ρ:List Addr} {x:Str} {mv:MV} {v:Value} {t:Tok} (hv:VR ρ mv v):∀{fs:List (Str×MV)} {es:List DictEntry},NR P ρ fs es->
   NR P ρ (putF x mv fs) (putL x (PyData.keyHash P x) (.str x t) v es)
 | [],_,h=>by
   rw [h];exact ⟨t,v,[],rfl,hv,rfl⟩
 | (y,m) :: fs,_,⟨u,w,r,e,h1,h2⟩=>by
   subst e;dsimp only [putF,putL];by_cases hy:y=x
   . subst hy;haveI hb:Value.isStr (.str y u) y=true:=by simp [Value.isStr]
     simp only [hb,if_true];exact ⟨u,v,r,rfl,hv,h2⟩
   . haveI hb:Value.isStr (.str y u) x=false:=by simpa [Value.isStr] using hy
     simp only [if_neg hy,hb,Bool.false_eq_true,if_false];exact ⟨u,w,_,rfl,h1,h2.put hv⟩
theorem NR.some {P:Params} {ρ:List Addr} {x:Str} {fs:List (Str×MV)} {es:List DictEntry} (h:NR P ρ fs es):(getL x es).isSome=true:=by
 cases hx:fs.lookup x with
 | none=>rw [h.none' hx];rfl
 | some v=>obtain ⟨u,e,_⟩:=h.get hx;rw [e];rfl
theorem yk2 (x:Str) (v:MV):∀m:List (Str×MV),(putF x v m).length<=m.length+1:=by
 intro zd
 induction zd with
 | nil=>
  exact Nat.le_refl _
 | cons p r zih=>
   dsimp only [putF];split
   . simp
   . have:=zih;simp only [length_cons];exact Nat.succ_le_succ ‹_›
theorem VR.handed {ρ:List Addr} {m:MV} {v:Value} (h:VR ρ m v):handedIn v=true:=by
 cases m with
 | none=>rw [show v=.none from h];rfl
 | bool b=>rw [show v=.bool b from h];rfl
 | int i=>obtain ⟨t,rfl⟩:=h;rfl
 | str x=>obtain ⟨t,rfl⟩:=h;rfl
 | ref a=>obtain ⟨x,_,rfl⟩:=h;rfl
 | glob a=>rw [show v=.ref a from h];rfl
def Ins (H:MH) (i:Nat) (C:Addr) (k:Nat) (fs:List (Str×MV)):Prop:=H[i]?=some (.inst C k)/\H[k]?=some (.ns fs)
theorem St.inst {mr:Str->Option Value} {ρ:List Addr} {h:Heap} (S:St c mr ρ H h) {i k:Nat} {C:Addr} {fs:List (Str×MV)} (hi:Ins H i C k fs) :
   ∃x dx es n,ρ[i]?=some x/\ρ[k]?=some dx/\NR c.w.params ρ fs es/\InstAt h x (instObj C dx) C (some (dictOf es n))/\h.get? dx=some (dictOf es n):=by
 obtain ⟨x,o,Z1⟩:=S.get hi.1;obtain ⟨dx,Z2⟩:=(zl (zr Z1));haveI Z3:=(zr Z2);subst Z3;haveI hx:=(zl Z1);haveI hdx:=(zl Z2);haveI Nx:=(zr (zr Z1));clear Z2 Z1;obtain ⟨dx',o',Z4⟩:=S.get hi.2;obtain ⟨es,n,Z5⟩:=(zl (zr Z4));haveI Z6:=(zr Z5);subst Z6;haveI hdx':=(zl Z4);haveI hes:=(zl Z5);haveI Nd:=(zr (zr Z4));clear Z5 Z4;rw [hdx] at hdx'
 (replace hdx':=si hdx';subst hdx')
 exact ⟨x,dx,es,n,hx,hdx,hes,⟨(Nx _ (.head _)).1,rfl,rfl,(Nd _ (.head _)).1⟩,(Nd _ (.head _)).1⟩
theorem ylo {o:PySem.Expr} {name:Str} {env:Env} {wh:Sem Value} (h:yj3 o=true):attributeBase o name env wh=wh:=by
 cases o with
 | Call f as ks p=>
   cases f with
   | Name id q=>cases as with
     | nil=>cases ks with
       | nil=>exact nb h
       | cons _ _=>rfl
     | cons _ _=>rfl
   | _=>rfl
 | _=>rfl
theorem ynn {a:CE} {nm:List Str} {sc:Scope} {e:PySem.Expr} (h:wfE a nm sc e=true) (hs:nsup a=true):yj3 (reE a nm e)=true:=by
 cases a with
 | tst t=>have h2:=yef h;cases t <;> first | rfl | exact nb h2
 | call g as=>cases as <;> first | rfl | exact nb hs
 | _=>rfl
inductive qAttr (G:Gx) (name:Str) (post:MV->MH->Prop) (l:MV) (H:MH):Prop where
 | mk (a:Nat) (C:Addr) (kk:Nat) (fs:List (Str×MV)) (v:MV) (e:l=.ref a) (hi:Ins H a C kk fs) (hl:fs.lookup name=some v) (ga:GAtt G C name) (k:post v H)
theorem TE.attr (ok:Ok G c d) {o:CE} {name:Str} {post:MV->MH->Prop}
   (h:TE c m o H (qAttr G name post)):TE c m (.attr o name) H post:=by
 intro e he;haveI Z1:=and2 he;haveI h2':=(zl Z1);haveI h3:=(zr Z1);clear Z1;haveI h2:=ynn (nm:=c.nm) (e:=kid 0 e) h3 h2'
 let ob:=reE o c.nm (kid 0 e)
 let pos:=e.pos
 intro mr ρ s Q E S l k kx;haveI hev:eval (.Attribute ob name pos) c.env=(do
   let o <-eval ob c.env
   standAt pos.atName
   let r <-holding [o] (getAttr o name true)
   letTemporaryGo ob o r
   pure r):=by
   show (do
     let o <-attributeBase ob name c.env (eval ob c.env)
     standAt pos.atName
     let r <-holding [o] (getAttr o name true)
     letTemporaryGo ob o r
     pure r)=_
   rw [ylo h2]
 refine Attribute_any_ ?_ hev;refine h _ h3 mr ρ s _ E S l ?_ kx;rintro t lv lr H1 h1 tk1 ⟨a,C,kk,fs,v,rfl,hi,hv,ga,hp⟩ ⟨x,hx,rfl⟩ S1;obtain ⟨x',dx,es,n,Z2⟩:=S1.inst hi;haveI hx':=(zl Z2);haveI hdx:=(zl (zr Z2));haveI hes:=(zl (zr (zr Z2)));haveI I:=(zl (zr (zr (zr Z2))));clear Z2;rw [hx] at hx'
 (replace hx':=si hx';subst hx')
 obtain ⟨vr,Z3⟩:=hes.get hv;haveI hg:=(zl Z3);haveI hvr:=(zr Z3);clear Z3;obtain ⟨ml,xs,Z4⟩:=S1.open;haveI led:=(zl Z4);clear Z4;exact get_own led.1 ok.kin I ga.plain ga.dict ga.find rfl hg hvr.handed (k t v vr H1 h1 _ hp hvr S1)
theorem yi8 {nm:List Str} {sc:Scope} {pos:Pos} {env:Env}:∀{as:CEs} {es:List PySem.Expr},wfEs as nm sc es=true->(backTo pos (starEach (reEs as nm es) env)).all (!·.1)=true:=@fun zd1=>@(match zd1 with
 | .nil=>fun {es} h=>rfl
 | .cons a r=>fun {es} h=>by
   haveI h:=and2 h;haveI:=yi8 (pos:=pos) (env:=env) h.2;show (backTo pos (starEach (reE a nm (nth 0 es) :: reEs r nm es.tail) env)).all (!·.1)=true;rw [yav (ybi h.1)];unfold backTo at this ⊢;simp only [map_cons,List.all_cons,Bool.not_false,Bool.true_and];exact this)
theorem ynq {nm:List Str}:∀(as:CEs) (es:List PySem.Expr),(reEs as nm es).length=yix as:=@fun zd1=>@(match zd1 with
 | .nil=>fun zz=>rfl
 | .cons a r=>fun es=>by
   show (reE a nm (nth 0 es) :: reEs r nm es.tail).length=yix r+1;rw [length_cons,ynq r])
theorem ynw {ob:PySem.Expr} {name:Str} {apos pos:Pos} {args:List PySem.Expr} {as:CEs} {es:List PySem.Expr} (ha:args=reEs as c.nm es) (h1:yj3 ob=true) (h2:(apos.endLine==pos.line)=true) (h3:args.length<30) (h4:wfEs as c.nm c.sc es=true) :
   eval (.Call (.Attribute ob name apos) args [] pos) c.env=(do
     let ov <-eval ob c.env
     standAt apos.atName
     let (f,first) <-holding [ov] (getMethod ov name (do return (<-importBound ob c.env).getD true))
     callWith pos f first (backTo pos (starEach args c.env)) []):=by
 show (do
   let ov <-attributeBase ob name c.env (eval ob c.env)
   standAt apos.atName
   methodCall ob name apos pos c.env ov (args.length+0) (backTo pos (starEach args c.env)) [])=_
 rw [ylo h1];have hf:methodCallForm (args.length+0) (backTo pos (starEach args c.env)) []=true:=by
   unfold methodCallForm;rw [ha,yi8 h4,<-ha];exact decide_eq_true h3
 unfold methodCall methodCallPos calleeOf;simp only [hf,h2,Bool.not_true,Bool.false_or,if_true];rfl
end
section
variable {c:Cx} {m:ML} {H:MH} {G:Gx} {d:Nat}
def MCall (c:Cx) (m:ML) (H:MH) (l:MV) (name:Str) (as:CEs) (post:MV->MH->Prop):Prop:=
 ∀(mr:Str->Option Value) (ρ:List Addr) (s:Shared) (Q:Value->Shared->Prop) (E:Value->Shared->Prop) (vr:Value) (pl:Sem Bool) (pos:Pos) (args:List PySem.Expr),St c mr ρ H s.heap->LR mr c.nm ρ m->VR ρ l vr->
   wfEs as c.nm c.sc args=true->
   (∀t v vr H' h' tk,post v H'->VR (ρ++t) v vr->St c mr (ρ++t) H' h'->Q vr { s with heap:=h',toks:=tk })->Kx c ρ s E->
   wpAny (model c.prog c.w) c.A (getMethod vr name pl) (fun fx s₂=>wpAny (model c.prog c.w) c.A (callWith pos fx.1 fx.2 (backTo pos (starEach (reEs as c.nm args) c.env)) []) Q E s₂) E s
abbrev qMc (c:Cx) (m:ML) (name:Str) (as:CEs) (post:MV->MH->Prop) (l:MV) (H:MH):Prop:=MCall c m H l name as post
theorem TE.mcall {o:CE} {name:Str} {as:CEs} {post:MV->MH->Prop} (h:TE c m o H (qMc c m name as post)):TE c m (.meth o name as) H post:=by
 intro e he;haveI Z1:=and2 he;haveI he:=(zl Z1);haveI h6:=(zr Z1);clear Z1;haveI Z2:=and4 he;haveI h2:=(zl Z2);haveI h3:=(zl (zr Z2));haveI h4:=(zl (zr (zr Z2)));haveI h5:=(zr (zr (zr Z2)));clear Z2;intro mr ρ s Q E S l k kx;refine MethodCall_ ?_ (ynw rfl (ynn h5 h2) h3 (by rw [ynq];exact of_decide_eq_true h4) h6);refine h _ h5 mr ρ s _ E S l ?_ kx;intro t lv lr H1 hp1 tk1 hm hl S1;refine hm mr (ρ++t) { s with heap:=hp1,toks:=tk1 } Q E lr _ e.pos (kids e).tail S1 l.mono hl h6 ?_ kx.mono;intro t' v vr H2 h2 tk2 hp hv S2;rw [append_assoc] at hv S2;exact k (t++t') v vr H2 h2 tk2 hp hv S2
theorem MCall.own (ok:Ok G c d) {a:Nat} {C:Addr} {kk:Nat} {fs:List (Str×MV)} {name:Str} {f:Addr} {x:CE} {r:CEs} {post:MV->MH->Prop} (hi:Ins H a C kk fs) (hno:fs.lookup name=none) (gm:GMth G C name f)
   (h:TEs c m (.cons x r) H (fun vs H1=>CL G c.prog c.w d f (.ref a :: vs) H1 post (fun C as H'=>c.X C as m H'))):MCall c m H (.ref a) name (.cons x r) post:=by
 rintro mr ρ s Q E _ pl pos args S l ⟨y,hy,rfl⟩ hes k kx;obtain ⟨x',dx,ens,n,Z1⟩:=S.inst hi;haveI hx':=(zl Z1);haveI hdx:=(zl (zr Z1));haveI hen:=(zl (zr (zr Z1)));haveI I:=(zl (zr (zr (zr Z1))));clear Z1;rw [hy] at hx'
 (replace hx':=si hx';subst hx')
 obtain ⟨ml,xs,Z2⟩:=S.open;haveI led:=(zl Z2);clear Z2;refine method_inst led.1 ok.kin I gm.plain gm.find gm.fn (hen.none' hno) ?_;haveI h4:=and2 hes;refine callWith_K ok.kin gm.keep ?_ (yav (ybi h4.1)) (ya0 h4.2);refine h _ _ hes mr ρ s _ E S l ?_ kx;intro t vs vrs H1 h1 tk1 hcl hvs S1;refine ⟨ok.kin.keeps S1.keep,?_⟩;exact ymd ok hcl S1 ⟨_,_,rfl,VR.mono ⟨y,hy,rfl⟩,hvs⟩ l k kx
theorem MCall.own0 (ok:Ok G c d) {a:Nat} {C:Addr} {kk:Nat} {fs:List (Str×MV)} {name:Str} {f:Addr} {post:MV->MH->Prop} (hi:Ins H a C kk fs) (hno:fs.lookup name=none) (gm:GMth G C name f)
   (h:CL G c.prog c.w d f [.ref a] H post (fun C as H'=>c.X C as m H')):MCall c m H (.ref a) name .nil post:=by
 rintro mr ρ s Q E _ pl pos args S l ⟨y,hy,rfl⟩ hes k kx;obtain ⟨x',dx,ens,n,Z1⟩:=S.inst hi;haveI hx':=(zl Z1);haveI hdx:=(zl (zr Z1));haveI hen:=(zl (zr (zr Z1)));haveI I:=(zl (zr (zr (zr Z1))));clear Z1;rw [hy] at hx'
 (replace hx':=si hx';subst hx')
 obtain ⟨ml,xs,Z2⟩:=S.open;haveI led:=(zl Z2);clear Z2;refine method_inst led.1 ok.kin I gm.plain gm.find gm.fn (hen.none' hno) ?_
 . refine callWith_K0 (ok.kin.keeps S.keep) gm.keep ?_;exact ymd (t:=[]) (tk1:=s.toks) (h1:=s.heap) ok h (yac S) ⟨_,_,rfl,VR.mono ⟨y,hy,rfl⟩,rfl⟩ l k kx
abbrev yt7 (G:Gx) (c:Cx) (d:Nat) (m:ML) (f:Addr) (a:Nat) (post:MV->MH->Prop) (vs:List MV) (H:MH):Prop:=CL G c.prog c.w d f (.ref a :: vs) H post (qX c m)
inductive qMeth (G:Gx) (c:Cx) (d:Nat) (m:ML) (name:Str) (as:CEs) (post:MV->MH->Prop) (l:MV) (H:MH):Prop where
 | mk (a:Nat) (C:Addr) (kk:Nat) (fs:List (Str×MV)) (f:Addr) (e:l=.ref a) (hi:Ins H a C kk fs) (hl:fs.lookup name=Option.none) (gm:GMth G C name f) (k:TEs c m as H (yt7 G c d m f a post))
theorem TE.meth (ok:Ok G c d) {o:CE} {name:Str} {x:CE} {r:CEs} {post:MV->MH->Prop} (h:TE c m o H (qMeth G c d m name (.cons x r) post)):TE c m (.meth o name (.cons x r)) H post:=
 TE.mcall (h.mono fun l H1 ⟨a,C,kk,fs,f,e,hi,hno,gm,hA⟩=>e ▸ MCall.own ok hi hno gm hA)
inductive qMeth0 (G:Gx) (c:Cx) (d:Nat) (m:ML) (name:Str) (post:MV->MH->Prop) (l:MV) (H:MH):Prop where
 | mk (a:Nat) (C:Addr) (kk:Nat) (fs:List (Str×MV)) (f:Addr) (e:l=.ref a) (hi:Ins H a C kk fs) (hl:fs.lookup name=Option.none) (gm:GMth G C name f) (k:CL G c.prog c.w d f [.ref a] H post (qX c m))
theorem TE.meth0 (ok:Ok G c d) {o:CE} {name:Str} {post:MV->MH->Prop} (h:TE c m o H (qMeth0 G c d m name post)):TE c m (.meth o name .nil) H post:=
 TE.mcall (h.mono fun l H1 ⟨a,C,kk,fs,f,e,hi,hno,gm,hA⟩=>e ▸ MCall.own0 ok hi hno gm hA)
inductive qApp1 (a:Nat) (post:MV->MH->Prop) (v:MV) (H:MH):Prop where
 | mk (ys:List MV) (ha:H[a]?=some (.list ys)) (hl:ys.length<=1000000) (k:post .none (H.set a (.list (ys++[v]))))
inductive qApp (c:Cx) (m:ML) (x:CE) (post:MV->MH->Prop) (l:MV) (H:MH):Prop where
 | mk (a:Nat) (xs:List MV) (e:l=.ref a) (ha:H[a]?=some (.list xs)) (k:TE c m x H (qApp1 a post))
theorem TE.append {o x:CE} {post:MV->MH->Prop} (h:TE c m o H (qApp c m x post)):TE c m (.meth o "append" (.cons x .nil)) H post:=by
 refine TE.mcall (h.mono ?_);rintro l H1 ⟨a,xs,rfl,ha,hx⟩ mr ρ s Q E _ pl pos args S lr ⟨y,hy,rfl⟩ hes k kx;obtain ⟨vs,ep,Z1⟩:=S.list ha hy;haveI hvs:=(zl Z1);haveI No:=(zr Z1);clear Z1;refine PySem.Calls.getMethod_list_append (No _ (.head _)).1 rfl rfl ?_;haveI h4:=and2 hes;refine callWith_method1 ?_ (yav (ybi h4.1)) (ya0 h4.2);refine (TEs.one hx) _ _ hes mr ρ s _ E S lr ?_ kx;rintro t vs vrs H2 h2 tk2 ⟨v,rfl,ys,hy2,hsz,hp⟩ ⟨vr,r,rfl,hv,hr⟩ S2;haveI hr':r=[]:=hr;subst hr';obtain ⟨ws,ep2,Z2⟩:=S2.list hy2 (yam hy);haveI hws:=(zl Z2);haveI No2:=(zr Z2);clear Z2;refine append_at (No2 _ (.head _)).1 (fun h' hs' hg=>?_) (by rw [size_toArray,hws.length];exact Nat.le_trans hsz (by decide));haveI S3:=S2.upd (o':=.list (ys++[v])) hy2 (yam hy) hs' hg ⟨ws++[vr],ep2+1,hws.append ⟨vr,[],rfl,hv,rfl⟩,by simp⟩;exact k t .none .none _ h' tk2 hp rfl S3
theorem TE.pop {o:CE} {post:MV->MH->Prop} (h:TE c m o H (fun l H1=>∃a ys v,l=.ref a/\H1[a]?=some (.list (ys++[v]))/\ys.length<=1000000/\post v (H1.set a (.list ys)))):TE c m (.meth o "pop" .nil) H post:=by
 refine TE.mcall (h.mono ?_);rintro l H1 ⟨a,ys,v,rfl,ha,hsz,hp⟩ mr ρ s Q E _ pl pos args S lr ⟨y,hy,rfl⟩ hes k kx;obtain ⟨vs,ep,Z1⟩:=S.list ha hy;haveI hvs:=(zl Z1);haveI No:=(zr Z1);clear Z1;obtain ⟨ws,vr,Z2⟩:=hvs.concat;haveI Z3:=(zl Z2);subst Z3;haveI hws:=(zl (zr Z2));haveI hvr:=(zr (zr Z2));clear Z2;haveI ho:=(No _ (.head _)).1;refine getMethod_list_of PySem.F.slot_list_pop PySem.F.type_list_pop (yad No) ⟨_,ho,rfl⟩ ?_
 . refine callWith_method0 ?_;haveI hz':(ws++[vr]).toArray.size<=sizeLine:=by
     rw [size_toArray,length_append,hws.length];exact Nat.le_trans (Nat.add_le_add_right hsz 1) (by decide)
   haveI hk:(ws++[vr]).toArray.size - 1=ws.length:=by rw [size_toArray,length_append];rfl
   haveI hy':(ws++[vr]).toArray[(ws++[vr]).toArray.size - 1]?=some vr:=by rw [hk];simp
   refine call_meets PySem.F.slot_list_pop ⟨_,ho,rfl⟩ PySem.F.entry_list_pop (PySem.F.args_list_pop_1 _) (PySem.MeetsSeq.list_pop_last y _ ep vr hy' hz') ⟨ho,?_⟩;haveI e:Obj.mapSeq (·.eraseIdxIfInBounds ((ws++[vr]).toArray.size - 1)) (listOf (ws++[vr]).toArray ep)=listOf ws.toArray (ep+1):=by
     haveI e1:(ws++[vr]).toArray.eraseIdxIfInBounds ((ws++[vr]).toArray.size - 1)=ws.toArray:=by rw [hk,kl_erase,append_nil]
     simp only [Obj.mapSeq,e1];simp
   haveI S3:=S.upd (o':=.list ys) ha hy (Heap.SameBut.update ..) (h':=s.heap.update y (Obj.mapSeq (·.eraseIdxIfInBounds ((ws++[vr]).toArray.size - 1)))) (x':=listOf ws.toArray (ep+1))
     (by rw [Heap.get?_update_self _ ho (by rw [e];rfl)];exact congrArg some e) ⟨ws,ep+1,hws,rfl⟩
   exact k [] v vr _ _ _ hp (by rw [append_nil];exact hvr) (yac S3)
theorem ytz {d:Addr} {o o':Obj} {post:List (Addr×Obj)} (h2:∀p ∈ post,p.1≠d):∀{pre:List (Addr×Obj)},(∀p ∈ pre,p.1≠d)->Upd d o o' (pre++(d,o) :: post) (pre++(d,o') :: post):=by
 intro zd
 induction zd with
 | nil=>
  exact fun zz=>.head h2
 | cons p _ zih=>
  exact fun h=>.tail (h p (.head _)) (zih fun q hq=>h q (.tail _ hq))
theorem ysl {xt:List (Addr×Obj)} {ρ:List Addr} {os:List Obj} {i:Nat} {a:Addr} {x x':Obj} (hn:(xt.map (·.1)++ρ).Nodup) (ha:ρ[i]?=some a) (hx:os[i]?=some x) :
   Upd a x x' (xt++ρ.zip os) (xt++ρ.zip (os.set i x')):=by
 rw [nodup_append] at hn;haveI Z1:=hn;clear hn;haveI hn2:=(zl (zr Z1));haveI hn3:=(zr (zr Z1));clear Z1;haveI key:∀(ρ:List Addr) (os:List Obj) (i:Nat),ρ.Nodup->ρ[i]?=some a->os[i]?=some x->
     ∃pre post,ρ.zip os=pre++(a,x) :: post/\ρ.zip (os.set i x')=pre++(a,x') :: post/\(∀p ∈ pre,p.1≠a)/\∀p ∈ post,p.1≠a:=by
   intro ρ
   induction ρ with
   | nil=>intro os i _ h;exact no h
   | cons b ρ ih=>
     intro os i hnd h1 h2;cases os with
     | nil=>exact no h2
     | cons y os=>
       cases i with
       | zero=>
         simp at h1 h2;subst h1 h2;refine ⟨[],ρ.zip os,rfl,rfl,?_,?_⟩
         . intro p hp;cases hp
         . intro p hp e;exact (nodup_cons.mp hnd).1 (e ▸ (of_mem_zip (show (p.1,p.2) ∈ _ from hp)).1)
       | succ i=>
         simp at h1 h2;obtain ⟨pre,post,Z2⟩:=ih os i (nodup_cons.mp hnd).2 h1 h2;haveI e1:=(zl Z2);haveI e2:=(zl (zr Z2));haveI e3:=(zl (zr (zr Z2)));haveI e4:=(zr (zr (zr Z2)));clear Z2;refine ⟨(b,y) :: pre,post,by simp [e1],by simp [e2],?_,e4⟩;intro p hp;rcases zmc hp with rfl | hp
         . intro e;exact (nodup_cons.mp hnd).1 (by rw [show b=a from e];exact mem_of_getElem? h1)
         . exact e3 p hp
 obtain ⟨pre,post,Z3⟩:=key ρ os i hn2 ha hx;haveI e1:=(zl Z3);haveI e2:=(zl (zr Z3));haveI e3:=(zl (zr (zr Z3)));haveI e4:=(zr (zr (zr Z3)));clear Z3;rw [e1,e2,<-append_assoc,<-append_assoc];refine ytz e4 ?_;intro p hp;rcases zma hp with hp | hp
 . exact fun e=>hn3 p.1 (mem_map_of_mem hp) a (mem_of_getElem? ha) e
 . exact e3 p hp
inductive qSat1 (G:Gx) (m:ML) (name:Str) (post:Fl->ML->MH->Prop) (v l:MV) (H:MH):Prop where
 | mk (x:Nat) (C:Addr) (kk:Nat) (fs:List (Str×MV)) (e:l=.ref x) (hi:Ins H x C kk fs) (hl:fs.length<=900) (gs:GSto G C name) (k:post .next m (H.set kk (.ns (putF name v fs))))
abbrev qSat (G:Gx) (c:Cx) (m:ML) (o:CE) (name:Str) (post:Fl->ML->MH->Prop) (v:MV) (H:MH):Prop:=TE c m o H (qSat1 G m name post v)
theorem TS.setAttr (ok:Ok G c d) {o a:CE} {name:Str} {post:Fl->ML->MH->Prop} (h:TE c m a H (qSat G c m o name post)):TS c m (.setAttr o name a) H post:=by
 intro st hs;haveI Z1:=and2 hs;haveI h2:=(zl Z1);haveI h3:=(zr Z1);clear Z1;intro mr ρ s Q E S lr k kx;refine plainObj_wpAny_Assign_Attribute ?_ ymg;refine h _ h3 mr ρ s _ E S lr ?_ kx;intro t v vr H1 h1 tk1 h12 hv S1;refine h12 _ h2 mr _ _ _ E S1 lr.mono ?_ kx.mono;rintro t' l lv H2 h2 tk2 ⟨a,C,dd,fs,rfl,hi,hsz,gs,hp⟩ ⟨x,hx,rfl⟩ S2;obtain ⟨x',dx,es,n,Z2⟩:=S2.inst hi;haveI hx':=(zl Z2);haveI hdx:=(zl (zr Z2));haveI hes:=(zl (zr (zr Z2)));haveI I:=(zl (zr (zr (zr Z2))));haveI hdo:=(zr (zr (zr (zr Z2))));clear Z2;rw [hx] at hx'
 (replace hx':=si hx';subst hx')
 refine S2.op fun ml xs os F a1 a2 a3 N a5 back=>?_;haveI hv':=hv.mono (t:=t');obtain ⟨ob,Z3⟩:=a3 dd _ hi.2;haveI hob:=(zl Z3);haveI hor:=(zr Z3);clear Z3;haveI hobe:ob=dictOf es n:=by
   haveI h1:=(N _ (mem_append_right _ (ya2 hdx hob))).1;rw [hdo] at h1;exact (Option.some.inj h1).symm
 subst hobe;haveI hlen:(putL name (PyData.keyHash c.w.params name) (.str name (tk2+1)) vr es).length<=1000:=by
   rw [(hes.put (x:=name) (t:=tk2+1) hv').length];haveI:=yk2 name v fs;lia
 refine set_dict F ok.kin N I rfl gs.set gs.over gs.taker gs.dict hes.some (e:=rfl) (ysl a5 hdx hob) hlen ?_;intro h' F' N';haveI hlt:dd<H2.length:=(zgs hi.2).1;haveI S3:St c mr (ρ++t++t') (H2.set dd (.ns (putF name v fs))) h':=by
   refine back _ _ _ ⟨F',os.set dd _,by rw [length_set,length_set];exact a1,by rw [length_set];exact a2,?_,N',a5⟩;intro j o1 hj;by_cases ej:dd=j
   . subst ej;rw [getElem?_set_self hlt] at hj
     (replace hj:=si hj;subst hj)
     exact ⟨_,getElem?_set_self (by rw [a1];exact hlt),_,_,hes.put hv',rfl⟩
   . rw [getElem?_set_ne ej] at hj;obtain ⟨y,Z4⟩:=a3 j o1 hj;haveI hy:=(zl Z4);haveI hr:=(zr Z4);clear Z4;exact ⟨y,by rw [getElem?_set_ne ej];exact hy,hr⟩
 rw [append_assoc] at S3;exact k (t++t') .next .next m mr _ h' (tk2+2) hp rfl S3 lr.mono
theorem TE.new (ok:Ok G c (d+1)) {g:Str} {C fI:Addr} {a:CE} {r:CEs} {post:MV->MH->Prop} (hg:GCls G g C fI)
   (h:TEs c m (.cons a r) H (fun vs H1=>CL G c.prog c.w d fI (.ref (H1.length+1) :: vs) (H1++[.ns []]++[.inst C H1.length]) (fun v H2=>v=.none/\post (.ref (H1.length+1)) H2) (fun C as H'=>c.X C as m H'))) :
   TE c m (.call g (.cons a r)) H post:=by
 intro e he;haveI Z1:=and2 he;haveI h2:=(zl Z1);haveI h3:=(zr Z1);clear Z1;intro mr ρ s Q E S l k kx;refine Call_ ?_ rfl;refine ymr ok S h2 hg.ns ?_;haveI h4:=and2 h3
 . skip;refine callWith_K ok.kin hg.keep ?_ (yav (ybi h4.1)) (ya0 h4.2);refine h _ _ h3 mr ρ s _ E S l ?_ kx;intro t vs vrs H1 h1 tk1 hcl hvs S1;refine ⟨ok.kin.keeps S1.keep,?_⟩;refine S1.op fun ml xs os F a1 a2 a3 N a5 back=>?_;refine call_cls F ok.kin N hg.makes hg.init hg.fn ?_;intro x dx h' F' N' hlt hdx;haveI N1:News c.h₀ c.L h' ((dx,dictOf [] 0) :: (xs++(ρ++t).zip os)):=fun p hp=>N' p (.tail _ hp);haveI SA:Led c.h₀ c.L c.prog c.w ml xs (ρ++t++[dx]) (H1++[.ns []]) h':=Led.alloc a1 a2 a3 a5 F' N1 (fun p hp=>Nat.ne_of_lt (hlt p hp)) ⟨[],0,rfl,rfl⟩;haveI Z2:=id SA;obtain ⟨os2,Z3⟩:=(zr Z2);haveI b1:=(zl Z3);haveI b2:=(zl (zr Z3));haveI b3:=(zl (zr (zr Z3)));haveI NB:=(zl (zr (zr (zr Z3))));haveI b5:=(zr (zr (zr (zr Z3))));clear Z3 Z2;haveI NB':News c.h₀ c.L h' ((x,instObj C dx) :: (xs++(ρ++t++[dx]).zip os2)):=fun p hp=>by
     rcases zmc hp with rfl | hp
     . exact N' _ (.head _)
     . exact NB p hp
   haveI hltx:∀p ∈ xs++(ρ++t++[dx]).zip os2,p.1≠x:=by
     intro p hp;refine Nat.ne_of_lt ?_;rcases zma hp with hp | hp
     . exact Nat.lt_trans (hlt p (mem_append_left _ hp)) hdx
     . haveI hm:=(of_mem_zip (show (p.1,p.2) ∈ _ from hp)).1;rcases zma hm with hm | hm
       . obtain ⟨i,hi,e⟩:=List.getElem_of_mem hm;haveI hi':i<os.length:=by rw [a1,<-a2];exact hi
         haveI:=hlt ((ρ++t)[i],os[i]) (mem_append_right _ (ya2 (getElem?_eq_getElem hi) (getElem?_eq_getElem hi')));rw [<-e];exact Nat.lt_trans this hdx
       . rw [mem_singleton.mp hm];exact hdx
   haveI SB:=back _ _ _ (Led.alloc b1 b2 b3 b5 F' NB' hltx (o:=.inst C H1.length) ⟨dx,yam (yag a2),rfl⟩);haveI hself:(ρ++t++[dx]++[x])[H1.length+1]?=some x:=by
     haveI hl:(ρ++t++[dx]).length=H1.length+1:=by rw [length_append,a2];rfl
     rw [getElem?_append_right (by rw [hl];exact Nat.le_refl _),hl,Nat.sub_self];rfl
   let c':Cx:={ c with A:=c.A.under (.builtin "type.__call__" ⟨.ref C :: vrs,[]⟩) }
   haveI ok':Ok G c' d:=by
     refine ⟨ok.frames,ok.kin,ok.top,ok.hh,?_,?_,ok.fn,ok.gl,ok.bi,ok.ap,ok.kd,ok.fs,ok.ex⟩
     . haveI:=ok.dep;show c.A.depth+1+d<recursionLimit;exact qf16 this
     . haveI h9:=ok.uni;haveI hu:(c.A.under (.builtin "type.__call__" ⟨.ref C :: vrs,[]⟩)).units<=c.A.units+8:=by
         show c.A.units+Code.cUnits _<=c.A.units+8;exact Nat.add_le_add_left (zlb rfl) _
       show (c.A.under (.builtin "type.__call__" ⟨.ref C :: vrs,[]⟩)).units+8*d+64<cLine;lia
   haveI e0:∀t',ρ++t++[dx]++[x]++t'=ρ++(t++([dx]++([x]++t'))):=fun t'=>by simp only [append_assoc]
   refine codeAny_mono (hcl c' mr _ _ (fun v s'=>v=.none/\Q (.ref x) s') E (.ref x :: vrs) rfl rfl ok' SB ⟨_,_,rfl,⟨x,hself,rfl⟩,(hvs.mono).mono⟩ ?_ ?_) ?_
   . rintro t' v vr H2 h2 tk2 ⟨rfl,hp⟩ hv S2;refine ⟨hv,?_⟩;haveI S2':St c mr (ρ++t++[dx]++[x]++t') H2 h2:=S2;rw [e0] at S2';refine k _ (.ref (H1.length+1)) (.ref x) H2 h2 tk2 hp ⟨x,?_,rfl⟩ S2';rw [<-e0];exact yam hself
   . intro t' C' as e H2 h2 tk2 hx hF;haveI hF':Fly c mr (ρ++t++[dx]++[x]++t') H2 C' as e h2:=hF;rw [e0] at hF';exact kx _ C' as e m mr H2 h2 tk2 hx hF' l.mono
   . intro r s' hr;cases r with
     | error e=>exact hr
     | ok f=>
       cases f with
       | ret v=>exact hr
       | _=>exact hr
end
section
variable {c:Cx} {m:ML} {H:MH} {G:Gx} {d:Nat}
def BC (c:Cx) (f:Value) (args:List MV) (H:MH) (post:MV->MH->Prop):Prop:=
 ∀(mr:Str->Option Value) (ρ:List Addr) (s:Shared) (Q:Value->Shared->Prop) (E:Value->Shared->Prop) (vs:List Value),St c mr ρ H s.heap->VRs ρ args vs->
   (∀t v vr H' h' tk,post v H'->VR (ρ++t) v vr->St c mr (ρ++t) H' h'->Q vr { s with heap:=h',toks:=tk })->
   wpAny (model c.prog c.w) c.A (PySem.call f vs) Q E s
theorem TE.bc (ok:Ok G c d) {g:Str} {T:String} {a:CE} {r:CEs} {post:MV->MH->Prop} (hg:nsIn G.K mainGlobals g=some Option.none) (hb:bootBuiltins g=some (.builtin T)) (hn:g≠"__name__")
   (h:TEs c m (.cons a r) H (fun vs H1=>BC c (.builtin T) vs H1 post)):TE c m (.call g (.cons a r)) H post:=by
 intro e he mr ρ s Q E S l k kx;refine yky ok hg hb hn he CEs.ne S l kx h ?_;intro t vs vrs H1 h1 tk1 hbc hv S1;refine hbc mr (ρ++t) _ Q E vrs S1 hv ?_;intro t' v vr H2 h2 tk2 hp hv S2;rw [append_assoc] at hv S2;exact k (t++t') v vr H2 h2 tk2 hp hv S2
theorem TE.tc (ok:Ok G c d) {g:Str} {T:String} {a:CE} {r:CEs} {post:MV->MH->Prop} (hg:nsIn G.K mainGlobals g=some Option.none) (hb:bootBuiltins g=some (.type T)) (hn:g≠"__name__")
   (h:TEs c m (.cons a r) H (fun vs H1=>BC c (.type T) vs H1 post)):TE c m (.call g (.cons a r)) H post:=by
 intro e he mr ρ s Q E S l k kx;refine ydw ok hg hb hn he CEs.ne S l kx h ?_;intro t vs vrs H1 h1 tk1 hbc hv S1;refine hbc mr (ρ++t) _ Q E vrs S1 hv ?_;intro t' v vr H2 h2 tk2 hp hv S2;rw [append_assoc] at hv S2;exact k (t++t') v vr H2 h2 tk2 hp hv S2
theorem yaw {ρ:List Addr} {a:MV} {vs:List Value} (h:VRs ρ [a] vs):∃v,vs=[v]/\VR ρ a v:=by
 obtain ⟨v,r,rfl,h1,h2⟩:=h;have:r=[]:=h2;subst this;exact ⟨v,rfl,h1⟩
theorem yjd {ρ:List Addr} {a b:MV} {vs:List Value} (h:VRs ρ [a,b] vs):∃v u,vs=[v,u]/\VR ρ a v/\VR ρ b u:=by
 obtain ⟨v,r,rfl,h1,h2⟩:=h;obtain ⟨u,rfl,h3⟩:=yaw h2;exact ⟨v,u,rfl,h1,h3⟩
theorem BC.len {a:Nat} {xs:List MV} {post:MV->MH->Prop} (ha:H[a]?=some (.list xs)) (hsz:xs.length<=1000000) (h:post (.int xs.length) H):BC c (.builtin "len") [.ref a] H post:=by
 intro mr ρ s Q E vs S hv k;obtain ⟨v,Z1⟩:=yaw hv;haveI Z2:=(zl Z1);subst Z2;obtain ⟨x,Z3⟩:=(zr Z1);haveI Z4:=(zr Z3);subst Z4;haveI hx:=(zl Z3);clear Z3 Z1;obtain ⟨ws,ep,Z5⟩:=S.list ha hx;haveI hws:=(zl Z5);haveI No:=(zr Z5);clear Z5;haveI hlen:ws.toArray.size=xs.length:=by rw [size_toArray,hws.length]
 refine len_list (yad No) (by rw [hlen];exact qf18 hsz) ?_;rw [hlen];exact k [] (.int xs.length) (.int xs.length (s.toks+1)) H s.heap (s.toks+1+1) h ⟨_,rfl⟩ (yac S)
theorem BC.lenS {x:Str} {post:MV->MH->Prop} (hsz:x.length<=1000000) (h:post (.int x.length) H):BC c (.builtin "len") [.str x] H post:=by
 intro mr ρ s Q E vs S hv k;obtain ⟨v,rfl,t,rfl⟩:=yaw hv;refine PyProof.Rows.len_str (by lia) ?_;exact k [] (.int x.length) (.int x.length (s.toks+1)) H s.heap (s.toks+1+1) h ⟨_,rfl⟩ (yac S)
theorem BC.lenG {a:Addr} {vs:List Value} {post:MV->MH->Prop} (hl:c.h₀.IsList a vs.toArray) (hsz:vs.length<=1000000) (h:post (.int vs.length) H):BC c (.builtin "len") [.glob a] H post:=by
 intro mr ρ s Q E ws S hv k;obtain ⟨v,rfl,e⟩:=yaw hv;have e':v=.ref a:=e;subst e';have hlen:vs.toArray.size=vs.length:=size_toArray ..;refine len_list (hl.at fun o e=>S.keep _ o e) (by rw [hlen];exact qf18 hsz) ?_;rw [hlen];exact k [] (.int vs.length) (.int vs.length (s.toks+1)) H s.heap (s.toks+1+1) h ⟨_,rfl⟩ (yac S)
theorem BC.max (hh:c.A.handled=none) {a b:Int} {post:MV->MH->Prop} (h:post (.int (max a b)) H):BC c (.builtin "max") [.int a,.int b] H post:=by
 intro mr ρ s Q E vs S hv k;obtain ⟨v,u,rfl,⟨t1,rfl⟩,⟨t2,rfl⟩⟩:=yjd hv;refine max_two_ints hh fun h' tk hk=>?_;by_cases hq:b > a
 . rw [if_pos hq];exact k [] (.int (Max.max a b)) _ H h' tk h ⟨t2,by rw [Int.max_eq_right (by exact Int.le_of_lt ‹_›)]⟩ (yac (S.grow hk))
 . rw [if_neg hq];exact k [] (.int (Max.max a b)) _ H h' tk h ⟨t1,by rw [Int.max_eq_left (by exact Int.not_lt.mp ‹_›)]⟩ (yac (S.grow hk))
theorem BC.min (hh:c.A.handled=none) {a b:Int} {post:MV->MH->Prop} (h:post (.int (min a b)) H):BC c (.builtin "min") [.int a,.int b] H post:=by
 intro mr ρ s Q E vs S hv k;obtain ⟨v,u,rfl,⟨t1,rfl⟩,⟨t2,rfl⟩⟩:=yjd hv;refine min_two_ints hh fun h' tk hk=>?_;by_cases hq:b<a
 . rw [if_pos hq];exact k [] (.int (Min.min a b)) _ H h' tk h ⟨t2,by rw [Int.min_eq_right (by exact Int.le_of_lt ‹_›)]⟩ (yac (S.grow hk))
 . rw [if_neg hq];exact k [] (.int (Min.min a b)) _ H h' tk h ⟨t1,by rw [Int.min_eq_left (by exact Int.not_lt.mp ‹_›)]⟩ (yac (S.grow hk))
abbrev intL (ns:List Int):List MV:=ns.map MV.int
theorem yds {ρ:List Addr}:∀{ns:List Int} {vs:List Value},VRs ρ (intL ns) vs->IntsAre vs ns:=by
 intro ns
 induction ns with
 | nil=>intro vs h;rw [show vs=[] from h];exact .nil
 | cons n ns ih=>
   intro vs h;obtain ⟨v,r,e,⟨t,h1⟩,h2⟩:=h;subst e h1;exact .cons _ _ (ih h2)
theorem BC.sum (hh:c.A.handled=none) {a:Nat} {ns:List Int} {post:MV->MH->Prop} (ha:H[a]?=some (.list (intL ns))) (h:post (.int ns.sum) H):BC c (.builtin "sum") [.ref a] H post:=by
 intro mr ρ s Q E vs S hv k;obtain ⟨v,rfl,x,hx,rfl⟩:=yaw hv;obtain ⟨ws,ep,hws,No⟩:=S.list ha hx;have hi:=yds hws;obtain ⟨xs,hxs⟩:=hi.allInts.items;have hl:=yad No;rw [hxs] at hl;refine sum_intListG hh hl fun h' tk t' hk=>?_;have e:preSum (numAt xs) xs.size=ns.sum:=by
   have h1:numsOf (ws.toArray.toList)=ns:=by rw [show ws.toArray.toList=ws from rfl,hi.numsOf]
   rw [hxs,nums_intItems] at h1;rw [preSum_eq,take_of_length_le (by simp),h1]
 rw [e];exact k [] (.int ns.sum) _ H h' tk h ⟨_,rfl⟩ (yac (S.grow hk))
theorem BC.list {a:Nat} {xs:List MV} {post:MV->MH->Prop} (ha:H[a]?=some (.list xs)) (hsz:xs.length<=1000000) (h:post (.ref H.length) (H++[.list xs])):BC c (.type "list") [.ref a] H post:=by
 intro mr ρ s Q E vs S hv k;obtain ⟨v,rfl,x,hx,rfl⟩:=yaw hv;obtain ⟨ws,ep,hws,No⟩:=S.list ha hx;refine S.op fun ml xt os F a1 a2 a3 N a5 back=>?_;refine list_copyK F N (yad No) ?_ (by rw [size_toArray,hws.length];exact Nat.le_trans hsz (by decide));intro D n h' F' N' hlt;exact k [D] (.ref H.length) (.ref D) _ h' s.toks h ⟨D,yag a2,rfl⟩ (back _ _ _ (Led.alloc a1 a2 a3 a5 F' N' (fun p hp=>Nat.ne_of_lt (hlt p hp)) ⟨ws,n,hws.mono,rfl⟩))
theorem TE.binH {op:Operator} {a b:CE} {post:MV->MH->Prop} (h:TE c m a H (fun x H1=>TE c m b H1 (fun y H2=>∀(mr:Str->Option Value) (ρ:List Addr) (s:Shared) (Q:Value->Shared->Prop) (E:Value->Shared->Prop) (vx vy:Value),
     St c mr ρ H2 s.heap->VR ρ x vx->VR ρ y vy->(∀t v vr H' h' tk,post v H'->VR (ρ++t) v vr->St c mr (ρ++t) H' h'->Q vr { s with heap:=h',toks:=tk })->wpAny (model c.prog c.w) c.A (binaryOp op vx vy) Q E s))):TE c m (.bin op a b) H post:=by
 intro e he;obtain ⟨h2,h3⟩:=and2 he;intro mr ρ s Q E S l k kx;refine wpAny_BinOp ?_;refine h _ h2 mr ρ s _ E S l ?_ kx;intro t x xr H1 hp1 tk1 hr hx S1;refine hr _ h3 mr (ρ++t) _ _ E S1 l.mono ?_ kx.mono;intro t' y yr H2 hp2 tk2 hq hy S2;refine hq mr _ _ _ E _ _ S2 hx.mono hy ?_;intro t'' v vr H' h' tk hp hv S3;have e1:ρ++t++t'++t''=ρ++(t++(t'++t'')):=by simp only [append_assoc]
 rw [e1] at hv S3;exact k _ v vr H' h' tk hp hv S3
theorem TE.addL {a b:CE} {post:MV->MH->Prop} (h:TE c m a H (fun x H1=>TE c m b H1 (fun y H2=>∃i j xs ys,x=.ref i/\y=.ref j/\H2[i]?=some (.list xs)/\H2[j]?=some (.list ys)/\xs.length+ys.length<=1000000/\
     post (.ref H2.length) (H2++[.list (xs++ys)])))):TE c m (.bin .Add a b) H post:=by
 refine TE.binH (h.mono fun x H1 h1=>h1.mono ?_);rintro y H2 ⟨i,j,xs,ys,rfl,rfl,hi,hj,hsz,hp⟩ mr ρ s Q E _ _ S ⟨p,hp1,rfl⟩ ⟨q,hq1,rfl⟩ k;obtain ⟨vs,n1,Z1⟩:=S.list hi hp1;haveI hvs:=(zl Z1);haveI N1:=(zr Z1);clear Z1;obtain ⟨ws,n2,Z2⟩:=S.list hj hq1;haveI hws:=(zl Z2);haveI N2:=(zr Z2);clear Z2;refine S.op fun ml xt os F a1 a2 a3 N a5 back=>?_;refine add_lists F N (yad N1) (yad N2) (fun h' F' N'=>?_) (by rw [hvs.length,hws.length];exact Nat.le_trans hsz (by decide));exact k [s.heap.objs.size] (.ref H2.length) _ _ h' s.toks hp ⟨_,yag a2,rfl⟩ (back _ _ _ (Led.alloc a1 a2 a3 a5 F' N' (fun p hp=>Nat.ne_of_lt (Heap.lt_size (N p hp).1)) ⟨vs++ws,0,hvs.mono.append hws.mono,rfl⟩))
theorem VRs.rep {ρ:List Addr} {v:MV} {vr:Value} (h:VR ρ v vr):∀n:Nat,VRs ρ (List.replicate n v) (List.replicate n vr):=by
 intro zd
 induction zd with
 | zero=>
  exact rfl
 | succ n zih=>
  exact ⟨vr,List.replicate n vr,rfl,h,zih⟩
theorem yrz (v:Value):∀n:Nat,List.foldl (fun x1 x2=>x1++x2) (#[]:Array Value) (List.replicate n #[v])=(List.replicate n v).toArray:=by
 haveI key:∀(n:Nat) (acc:List Value),List.foldl (fun x1 x2=>x1++x2) acc.toArray (List.replicate n #[v])=(acc++List.replicate n v).toArray:=by
   intro n
   induction n with
   | zero=>intro acc;simp
   | succ n ih=>
     intro acc;rw [List.replicate_succ,foldl_cons];haveI:acc.toArray++#[v]=(acc++[v]).toArray:=by simp
     rw [this,ih];simp [List.replicate_succ]
 intro n;haveI:=key n [];exact this
noncomputable def tyOf:MV->Option String
 | .int _=>some "int"
 | .str _=>some "str"
 | .bool _=>some "bool"
 | _=>none
theorem tyIs {v:MV} {T:String} {ρ:List Addr} {vr:Value} {s:Shared} (h:tyOf v=some T) (hv:VR ρ v vr):s.TypeIs vr T:=by
 cases v <;> (first | exact no h | (replace h:=si h;subst h))
 . rw [show vr=_ from hv];exact PySem.typeIs_bool ..
 . obtain ⟨t,rfl⟩:=hv;exact typeIs_int ..
 . obtain ⟨t,rfl⟩:=hv;exact typeIs_str ..
theorem TT.tyAny (ok:Ok G c d) (hg:nsIn G.K mainGlobals "type"=some Option.none) {op:CmpOp} {neg:Bool} (hop:(op=.Is/\neg=false)\/(op=.IsNot/\neg=true)) {a:CE} {N:Str} {T':String} (hgN:nsIn G.K mainGlobals N=some Option.none) (hbN:bootBuiltins N=some (.type T')) (hnN:N≠"__name__") {post:Bool->MH->Prop}
   (h:TE c m a H (fun v H1=>∃T,tyOf v=some T/\post (if neg then !decide (T=T') else decide (T=T')) H1)):TT c m (.cmp op (.call "type" (.cons a .nil)) (.glob N)) H post:=by
 intro e he;haveI Z1:=and2 he;haveI h2:=(zl Z1);haveI h3:=(zr Z1);clear Z1;intro wh mr ρ s Q E _ S lr k kx;refine wpAny_isTrue_Compare1 ?_ (yeq h3);refine ydw ok (T:="type") hg PyProof.Rows.boot_type (by decide) h2 CEs.ne S lr kx (TEs.one h) ?_;rintro t vs vrs H1 hp1 tk1 ⟨v,rfl,T,hT,hp⟩ hv S1;obtain ⟨vr,Z2⟩:=yaw hv;haveI Z3:=(zl Z2);subst Z3;haveI hvr:=(zr Z2);clear Z2;refine call_type_of (tyIs hT hvr) ?_ ?_
 . cases v <;> (first | exact no hT | (replace hT:=si hT;subst hT)) <;> decide
 . refine yl4 (s:={ s with heap:=hp1,toks:=tk1 }) ok S1 h3 hgN hbN hnN ?_;haveI hbe:∀T T':String,(Value.type T==Value.type T')=decide (T=T'):=fun T T'=>by
     by_cases q:T=T'
     . subst q;simp
     . haveI:(Value.type T==Value.type T')=false:=by simpa using q
       rw [this,decide_eq_false q]
   rcases hop with ⟨rfl,rfl⟩ | ⟨rfl,rfl⟩
   . refine wpAny_pure (a:=Value.bool (Value.type T==Value.type T')) ?_;refine wpAny_truthy_bool ?_;rw [hbe];exact k t _ H1 hp1 tk1 hp S1
   . refine isnot_type ?_;refine wpAny_truthy_bool ?_;rw [hbe];exact k t _ H1 hp1 tk1 hp S1
end
noncomputable def isTgN (scope:Scope):List Str->List PySem.Expr->Bool
 | [],[]=>true
 | x :: xs,.Name y _ :: es=>x==y && scope.names.lookup x==some .local && !xs.contains x && isTgN scope xs es
 | _,_=>false
noncomputable def isTg (scope:Scope) (tg:List Str):PySem.Expr->Bool
 | .Name y p=>isTgN scope tg [.Name y p]
 | .Tuple ts _ _=>isTgN scope tg ts && decide (1<tg.length)
 | _=>false
theorem ynz {scope:Scope}:∀(tg:List Str) (es:List PySem.Expr),yei (fun x=>scope.names.lookup x==some .local) tg=true->isTgN scope tg (yau tg es)=true:=by
 intro zd
 induction zd with
 | nil=>
  exact fun zz zz=>rfl
 | cons x r zih=>
  exact fun es h=>by
   haveI h1:((scope.names.lookup x==some .local) && !r.contains x && yei (fun x=>scope.names.lookup x==some .local) r)=true:=h;haveI Z1:=and3 h1;haveI a:=(zl Z1);haveI b:=(zl (zr Z1));haveI e:=(zr (zr Z1));clear Z1;show (x==x && scope.names.lookup x==some .local && !r.contains x && isTgN scope r (yau r es.tail))=true;rw [a,b,zih es.tail e];simp
theorem yvv {scope:Scope} {tg:List Str} {e:PySem.Expr} (h0:(!tg.isEmpty)=true) (h:yei (fun x=>scope.names.lookup x==some .local) tg=true):isTg scope tg (reTg tg e)=true:=by
 cases tg with
 | nil=>exact nb h0
 | cons x r=>
   cases r with
   | nil=>exact ynz [x] [e] h
   | cons y r=>
     show (isTgN scope (x :: y :: r) (yau (x :: y :: r) (kids e)) && decide (1<(x :: y :: r).length))=true;rw [ynz _ _ h];simp
noncomputable def clF (env:Env):List (Str×NameKind)->List (Str×Addr)->List (Str×Addr)
 | [],acc=>acc
 | (n,k) :: r,acc=>if k==.free then clF env r ((n,(env.cells.lookup n).getD 0) :: acc) else clF env r acc
theorem ym1 {env:Env}:∀(names:List (Str×NameKind)) (acc:List (Str×Addr)),(∀p ∈ names,p.2=.free->(env.cells.lookup p.1).isSome=true)->
   (forIn names acc fun (x:Str×NameKind) cs=>if x.2==.free then do let a <-cellOf env x.1;pure (ForInStep.yield ((x.1,a) :: cs)) else pure (ForInStep.yield cs):Sem (List (Str×Addr)))=pure (clF env names acc):=by
 intro zd
 induction zd with
 | nil=>
  exact fun acc zz=>rfl
 | cons zp0 r zih=>
  obtain ⟨n,k⟩:=zp0;exact fun acc h=>by
   rw [List.forIn_cons];by_cases hk:(k==.free)=true
   . haveI hk':k=.free:=by exact of_decide_eq_true hk
     obtain ⟨a,ha⟩:=Option.isSome_iff_exists.mp (h _ (.head _) hk');haveI hc:cellOf env n=pure a:=by unfold cellOf;rw [ha]
     simp only [hk,if_true,hc];dsimp only [clF];rw [if_pos hk,ha];exact zih _ fun p hp=>h p (.tail _ hp)
   . dsimp only [clF];rw [if_neg hk];simp only [hk];exact zih _ fun p hp=>h p (.tail _ hp)
theorem ye2 {scope:Scope} {env:Env} (h:∀p ∈ scope.names,p.2=.free->(env.cells.lookup p.1).isSome=true):closureFor scope env=pure (clF env scope.names []):=by
 have:=ym1 (env:=env) scope.names [] h;show (forIn scope.names ([]:List (Str×Addr)) (fun (x:Str×NameKind) cs=>if x.2==.free then do let a <-cellOf env x.1;pure (ForInStep.yield ((x.1,a) :: cs)) else pure (ForInStep.yield cs)) >>= fun cs=>(pure cs:Sem (List (Str×Addr))))=_;rw [this];rfl
theorem ytx {env:Env} {x:Str}:∀{names:List (Str×NameKind)} {acc:List (Str×Addr)},(∀p ∈ acc,env.cells.lookup p.1=some p.2)->(∀p ∈ names,p.2=.free->(env.cells.lookup p.1).isSome=true)->
   ((x,NameKind.free) ∈ names\/(acc.lookup x).isSome=true)->(clF env names acc).lookup x=env.cells.lookup x:=by
 intro zd
 induction zd with
 | nil=>
  exact fun {acc} ha zz h=>by
   rcases h with h | h
   . cases h
   . obtain ⟨a,ea⟩:=Option.isSome_iff_exists.mp h;show acc.lookup x=_;rw [ea,ha _ (mem_of_lookup ea)]
 | cons zp0 r zih=>
  obtain ⟨n,k⟩:=zp0;exact fun {acc} ha hn h=>by
   dsimp only [clF];by_cases hk:(k==.free)=true
   . haveI hk':k=.free:=by exact of_decide_eq_true hk
     rw [if_pos hk];obtain ⟨a,ea⟩:=Option.isSome_iff_exists.mp (hn _ (.head _) hk');refine zih ?_ (fun p hp=>hn p (.tail _ hp)) ?_
     . intro p hp;rcases zmc hp with rfl | hp
       . rw [ea];rfl
       . exact ha p hp
     . rcases h with h | h
       . rcases zmc h with e | h
         . cases e;exact .inr (by rw [lookup_cons];simp)
         . exact .inl h
       . by_cases q:x=n
         . subst q;exact .inr (by rw [lookup_cons];simp)
         . haveI hb:(x==n)=false:=by exact beq_eq_false_iff_ne.mpr q
           exact .inr (by rw [lookup_cons,hb];exact h)
   . rw [if_neg hk];refine zih ha (fun p hp=>hn p (.tail _ hp)) ?_;rcases h with h | h
     . rcases zmc h with e | h
       . cases e;exact absurd rfl hk
       . exact .inl h
     . exact .inr h
theorem ydd {scope:Scope} {env:Env} (x:Str):kcl ((relabel scope env).names.lookup x)=kcl (scope.names.lookup x):=by
 unfold relabel;show kcl (List.lookup x (scope.names.map fun (n,k)=>if (k==.free && env.scope.kind==.function && env.kindOf n==some .cell) then (n,.cell) else (n,k)))=_;generalize scope.names=l
 induction l with
 | nil=>rfl
 | cons p r ih=>
   obtain ⟨n,k⟩:=p;rw [map_cons];by_cases hc:(k==NameKind.free && env.scope.kind==.function && env.kindOf n==some .cell)=true
   . haveI hk:k=.free:=by
       simp only [Bool.and_eq_true,beq_iff_eq] at hc;exact hc.1.1
     simp only [hc,if_true,lookup_cons];cases x==n with
     | true=>rw [hk];rfl
     | false=>exact ih
   . haveI e:(match (n,k) with | (n,k)=>if (k==NameKind.free && env.scope.kind==.function && env.kindOf n==some .cell)=true then (n,NameKind.cell) else (n,k))=(n,k):=if_neg hc;rw [e,lookup_cons,lookup_cons];cases x==n with
     | true=>rfl
     | false=>exact ih
theorem ykt {x:Str}:∀{l:List (Str×NameKind)},(∀p ∈ l,p.2≠.cell)->kcl (l.lookup x)=2->(x,NameKind.free) ∈ l:=by
 intro zd
 induction zd with
 | nil=>
  exact fun zz h=>by cases h
 | cons zp0 r zih=>
  obtain ⟨n,k⟩:=zp0;exact fun hc h=>by
   rw [lookup_cons] at h;by_cases q:x=n
   . subst q;simp at h;rcases kcl2 h with e | e
     . exact absurd (Option.some.inj e) (hc _ (.head _))
     . rw [Option.some.inj e];exact .head _
   . have hb:(x==n)=false:=by exact beq_eq_false_iff_ne.mpr q
     rw [hb] at h;exact .tail _ (zih (fun p hp=>hc p (.tail _ hp)) h)
structure Sub (G:Gx) (c c':Cx) (d:Nat):Prop where
 ok:Ok G c' d
 prog:c'.prog=c.prog
 w:c'.w=c.w
 h₀:c'.h₀=c.h₀
section
variable {c:Cx} {m:ML} {H:MH} {G:Gx} {d:Nat}
noncomputable def Cx.comp (c:Cx) (scope:Scope) (tg:List Str) (C:Addr) (ml:Str->Option Value) (ox fr xt:List (Addr×Obj)):Cx:=
 { c with env:=compEnvC scope (clF c.env scope.names []) C c.env,fm:=some (ml,ox),fr:=fr,xt:=xt,X:=fun _ _ _ _=>False,nm:=c.nm++tg,sc:=scope }
theorem ysq (ok:Ok G c d) {scope:Scope} {tg:List Str} {C:Addr} {ml:Str->Option Value} {ox fr xt:List (Addr×Obj)} (hk:scope.kind=.function) (hfr:TI.SameUp c.fr fr):Ok G (c.comp scope tg C ml ox fr xt) d:=by
 obtain ⟨env₀,outer,Z1⟩:=ok.frames;haveI h1:=(zl Z1);haveI h2:=(zl (zr Z1));haveI h3:=(zl (zr (zr Z1)));haveI h4:=(zl (zr (zr (zr Z1))));haveI h5:=(zr (zr (zr (zr Z1))));clear Z1;refine ⟨⟨env₀,outer,h1,h2,h3,h4.up hfr,fun q=>(by exact ns q)⟩,ok.kin,ok.top,ok.hh,ok.dep,ok.uni,hk,ok.gl,ok.bi,fun q=>(by exact ns q),fun x=>ydd x,fun q=>(by exact ns q),ok.ex⟩
theorem ynv {mr:Str->Option Value} {ρ:List Addr} {s:Shared} {x:Str} {v:Value} {f:Str->Option Value} {ox:List (Addr×Obj)} {Q E} (hfm:c.fm=some (f,ox)) (hk:c.env.scope.kind=.function) (S:St c mr ρ H s.heap) (hx:c.env.kindOf x=some .local)
   (h:∀h' tk,St c (fun y=>if y=x then some v else mr y) ρ H h'->Q () { s with heap:=h',toks:=tk }) :
   wpAny (model c.prog c.w) c.A (storeName c.env x v) Q E s:=by
 obtain ⟨ml,fr,ex,Z1⟩:=S;obtain ⟨os,Z2⟩:=(zr (zr (zr Z1)));haveI o:=(zl Z1);haveI u:=(zl (zr Z1));haveI F:=(zl (zr (zr Z1)));haveI a1:=(zl Z2);haveI a2:=(zl (zr Z2));haveI a3:=(zl (zr (zr Z2)));haveI N:=(zl (zr (zr (zr Z2))));haveI a5:=(zr (zr (zr (zr Z2))));clear Z2 Z1;unfold Own at o;rw [hfm] at o;haveI Z3:=o;clear o;obtain ⟨oC,mC,Z4⟩:=(zl (zr Z3));haveI e0:=(zl Z3);haveI q1:=(zl Z4);haveI q2:=(zl (zr Z4));haveI q3:=(zr (zr Z4));haveI o2:=(zr (zr Z3));clear Z4 Z3;subst q1;haveI hC:=N (c.env.locals,oC) (mem_append_left _ (mem_append_right _ (mem_append_right _ (.head _))));refine wpAny_storeName_local hx (q2.ns hC.1) (fun h' hn hs=>?_) (by rw [hk];rfl);obtain ⟨oC',Z5⟩:=LCg.ns_obj hn;haveI hC':=(zl Z5);haveI hoC':=(zr Z5);clear Z5;refine h h' _ ⟨ml,fr,(c.env.locals,oC') :: ox,?_,u,F.change hs hC.2.1 hC.2.2,os,a1,a2,a3,?_,(by simpa [map_append] using a5)⟩
 . unfold Own;rw [hfm];refine ⟨e0,⟨oC',_,rfl,hoC',fun y hy=>?_⟩,fun y hy=>?_⟩
   . by_cases e:y=x
     . simp [e]
     . simp [e,q3 y hy]
   . haveI hne:y≠x:=by
       rintro rfl;rw [hx] at hy;rcases hy with hy | hy <;> cases hy
     simp only [if_neg hne];exact o2 y hy
 . haveI hp:((fr++(c.xt++(c.env.locals,oC) :: ox)).map (·.1)++ρ).Perm (c.env.locals :: ((fr++(c.xt++ox)).map (·.1)++ρ)):=by
     simp only [map_append,map_cons,append_assoc];haveI h1:=perm_middle (a:=c.env.locals) (l₁:=fr.map (·.1)++c.xt.map (·.1)) (l₂:=ox.map (·.1)++ρ);simpa [append_assoc] using h1
   haveI hnd:=nodup_cons.mp (hp.nodup_iff.mp a5);intro p hp;haveI hsplit:p=(c.env.locals,oC')\/p ∈ (fr++(c.xt++ox))++ρ.zip os:=by
     simp only [mem_append,mem_cons] at hp ⊢;rcases hp with (hp | hp | hp | hp) | hp <;> simp [hp]
   rcases hsplit with rfl | hq
   . exact ⟨hC',hC.2⟩
   . haveI P:=N p (by
       simp only [mem_append,mem_cons] at hq ⊢;rcases hq with (hp | hp | hp) | hp <;> simp [hp])
     refine ⟨(hs.2 _ fun e=>?_).trans P.1,P.2⟩;refine hnd.1 ?_;rw [<-e];rcases zma hq with hq | hq
     . exact mem_append_left _ (mem_map_of_mem hq)
     . exact mem_append_right _ (of_mem_zip (show (p.1,p.2) ∈ _ from hq)).1
noncomputable def upd (mr:Str->Option Value):List Str->List Value->Str->Option Value
 | x :: xs,v :: vs=>upd (fun y=>if y=x then some v else mr y) xs vs
 | _,_=>mr
theorem isTgN.cs {scope:Scope} {x:Str} {xs:List Str} {t:PySem.Expr} {ts:List PySem.Expr} (h:isTgN scope (x :: xs) (t :: ts)=true):∃p,t=.Name x p/\scope.names.lookup x=some .local/\xs.contains x=false/\isTgN scope xs ts=true:=by
 cases t with
 | Name y p=>
   have h:(x==y && scope.names.lookup x==some .local && !xs.contains x && isTgN scope xs ts)=true:=h;simp only [Bool.and_eq_true,beq_iff_eq,Bool.not_eq_true'] at h;obtain ⟨⟨⟨e,h2⟩,h3⟩,h4⟩:=h;subst e;exact ⟨p,rfl,h2,h3,h4⟩
 | _=>exact nb h
theorem ykc {scope:Scope} {env:Env}:∀{tg:List Str} {ts:List PySem.Expr},isTgN scope tg ts=true->(assignEach ts env).length=tg.length/\(assignEach ts env).findIdx? (·.1)=none:=by
 intro tg
 induction tg with
 | nil=>intro ts h;cases ts with
   | nil=>exact ⟨rfl,rfl⟩
   | cons _ _=>exact nb h
 | cons i is ih=>intro ts h;cases ts with
   | nil=>exact nb h
   | cons t ts=>
     obtain ⟨p,e,_,_,h4⟩:=isTgN.cs h;subst e;obtain ⟨h1,h2⟩:=ih h4;refine ⟨?_,?_⟩
     . show ((false,_) :: assignEach ts env).length=_;simp [h1]
     . show ((false,_) :: assignEach ts env).findIdx? (·.1)=none;rw [List.findIdx?_cons];simp [h2]
theorem yos {f:Str->Option Value} {ox:List (Addr×Obj)} (hfm:c.fm=some (f,ox)) (hk:c.env.scope.kind=.function) (hkd:∀x,kcl (c.env.kindOf x)=kcl (c.sc.names.lookup x)) {Q:Unit->Shared->Prop} {E:Value->Shared->Prop} {ρ:List Addr} :
   ∀{tg:List Str} {ts:List PySem.Expr} {vrs:List Value} {mr:Str->Option Value} {s:Shared},
   isTgN c.sc tg ts=true->vrs.length=tg.length->St c mr ρ H s.heap->
   (∀h' tk,St c (upd mr tg vrs) ρ H h'->Q () { s with heap:=h',toks:=tk })->
   wpAny (model c.prog c.w) c.A (assignInOrder ((assignEach ts c.env).map (·.2)) vrs) Q E s:=by
 intro tg
 induction tg with
 | nil=>intro ts vrs mr s h hl S k;cases ts with
   | nil=>cases vrs with
     | nil=>exact wpAny_pure (k s.heap s.toks S)
     | cons _ _=>cases hl
   | cons _ _=>exact nb h
 | cons x xs ih=>intro ts vrs mr s h hl S k;cases ts with
   | nil=>exact nb h
   | cons t ts=>
     obtain ⟨px,e,h2,h3,h4⟩:=isTgN.cs h;subst e;cases vrs with
     | nil=>cases hl
     | cons v vs=>
       show wpAny _ _ (do holding vs (assign (.Name x px) c.env v);assignInOrder ((assignEach ts c.env).map (·.2)) vs) Q E s;refine wpAny_bind (wpAny_holding (wpAny_assign_Name ?_));refine ynv hfm hk S (kcl1 ((hkd x).trans (by rw [h2];rfl))) ?_;intro h' tk S2;refine ih (s:={ s with heap:=h',toks:=tk }) h4 (Nat.succ.inj hl) S2 ?_;intro h'' tk' S3;exact k h'' tk' S3
def ye9 (H:MH):List Str->MV->List MV->Prop
 | [_],v,vs=>vs=[v]
 | is,v,vs=>1<is.length/\vs.length=is.length/\∃a,v=.ref a/\H[a]?=some (.tup vs)
theorem yoq (hh:c.A.handled=none) {f:Str->Option Value} {ox:List (Addr×Obj)} (hfm:c.fm=some (f,ox)) (hk:c.env.scope.kind=.function) (hkd:∀x,kcl (c.env.kindOf x)=kcl (c.sc.names.lookup x)) {Q:Unit->Shared->Prop} {E:Value->Shared->Prop} {ρ:List Addr} {tg:List Str} {target:PySem.Expr} {v:MV} {vr:Value} {vs:List MV} {mr:Str->Option Value} {s:Shared}
   (ht:isTg c.sc tg target=true) (hv:VR ρ v vr) (hp:ye9 H tg v vs) (S:St c mr ρ H s.heap)
   (k:∀vrs h' tk,VRs ρ vs vrs->vrs.length=tg.length->St c (upd mr tg vrs) ρ H h'->Q () { s with heap:=h',toks:=tk }):wpAny (model c.prog c.w) c.A (assign target c.env vr) Q E s:=by
 cases target with
 | Name y p=>
   have ht:isTgN c.sc tg [.Name y p]=true:=ht;cases tg with
   | nil=>exact nb ht
   | cons x xs=>
     cases xs with
     | cons _ _=>dsimp only [isTgN] at ht;simp at ht
     | nil=>
       dsimp only [isTgN] at ht;simp only [Bool.and_eq_true,beq_iff_eq] at ht;obtain ⟨⟨⟨rfl,h2⟩,_⟩,_⟩:=ht;haveI e:vs=[v]:=hp;subst e;refine wpAny_assign_Name (ynv hfm hk S (kcl1 ((hkd x).trans (by rw [h2];rfl))) ?_);intro h' tk S2;exact k [vr] h' tk ⟨vr,[],rfl,hv,rfl⟩ rfl S2
 | Tuple ts k' px=>
   have ht:isTgN c.sc tg ts=true/\1<tg.length:=by
     have h:=zba ht;exact ⟨h.1,of_decide_eq_true h.2⟩
   have hp':1<tg.length/\vs.length=tg.length/\∃a,v=.ref a/\H[a]?=some (.tup vs):=by
     cases tg with
     | nil=>simp at ht
     | cons i r=>
       cases r with
       | nil=>simp at ht
       | cons _ _=>exact hp
   obtain ⟨_,hl,a,rfl,ha⟩:=hp';obtain ⟨x,hx,rfl⟩:=hv;obtain ⟨ws,hws,T⟩:=S.tup ha hx;obtain ⟨q1,q2⟩:=ykc (env:=c.env) ht.1;have hlen:ws.length=tg.length:=by rw [hws.length,hl]
   refine assign_Tuple_tuple hh T (by rw [q1,size_toArray,hlen]) q2 ?_;intro h' he;refine yos hfm hk hkd (s:={ s with heap:=h' }) ht.1 (by exact hlen) (S.grow (ykn he)) ?_;intro h'' tk' S3;exact k ws h'' tk' hws hlen S3
 | _=>exact nb ht
end
theorem ydt {x:Str}:∀{nm tg:List Str},x ∉ tg->slot (nm++tg) x=slot nm x:=@fun zd1 zd2=>@(match zd1,zd2 with
 | [],[]=>fun zz=>rfl
 | [],y :: r=>fun h=>by
   have h1:x ∉ r:=fun q=>h (.tail _ q);have h2:(y==x)=false:=by simpa using fun e:y=x=>h (e ▸ .head _)
   show slot (y :: r) x=none;dsimp only [slot];have:=ydt (nm:=[]) (tg:=r) h1;rw [nil_append] at this;rw [this];dsimp only [slot];simp [h2]
 | z :: nm,tg=>fun h=>by
   show slot (z :: (nm++tg)) x=slot (z :: nm) x;dsimp only [slot];rw [ydt h])
theorem yk4 {x:Str}:∀{nm tg:List Str},x ∈ tg->∃j,slot tg x=some j/\slot (nm++tg) x=some (nm.length+j):=by
 intro zd
 induction zd with
 | nil=>
  exact fun {tg} h=>by
   haveI key:∀{tg:List Str},x ∈ tg->∃j,slot tg x=some j:=by
     intro tg
     induction tg with
     | nil=>intro h;cases h
     | cons y r ih=>
       intro h;dsimp only [slot];cases e:slot r x with
       | some j=>exact ⟨j+1,rfl⟩
       | none=>
         rcases zmc h with rfl | h
         . exact ⟨0,by simp⟩
         . obtain ⟨j,hj⟩:=ih h;rw [hj] at e;exact ns e
   obtain ⟨j,hj⟩:=key h;exact ⟨j,hj,by simpa using hj⟩
 | cons z nm zih=>
  exact fun {tg} h=>by
   obtain ⟨j,Z1⟩:=zih h;haveI h1:=(zl Z1);haveI h2:=(zr Z1);clear Z1;refine ⟨j,h1,?_⟩;show slot (z :: (nm++tg)) x=_;dsimp only [slot];rw [h2];simp only [length_cons];congr 1;exact Nat.add_right_comm _ _ _
theorem yfl {x:Str}:∀{tg:List Str} {vrs:List Value} {mr:Str->Option Value},x ∉ tg->upd mr tg vrs x=mr x:=@fun zd1 zd2=>@(match zd1,zd2 with
 | [],_=>fun {zz} zz=>rfl
 | _ :: _,[]=>fun {zz} zz=>rfl
 | y :: r,v :: vs=>fun {mr} h=>by
   dsimp only [upd];rw [yfl fun q=>h (.tail _ q)];have:x≠y:=fun e=>h (e ▸ .head _);simp [this])
theorem yua {x:Str} {v:Value} {sc:Scope}:∀{tg:List Str} {ts:List PySem.Expr} {vrs:List Value} {mr:Str->Option Value} {j:Nat},isTgN sc tg ts=true->tg[j]?=some x->vrs[j]?=some v->upd mr tg vrs x=some v:=by
 intro tg
 induction tg with
 | nil=>intro ts vrs mr j _ h _;exact no h
 | cons y r ih=>
   intro ts vrs mr j ht h1 h2;cases vrs with
   | nil=>exact no h2
   | cons u us=>
     cases ts with
     | nil=>exact nb ht
     | cons t ts=>
       obtain ⟨p,e,_,hc,hr⟩:=isTgN.cs ht;have hc':y ∉ r:=by simpa using hc
       dsimp only [upd];cases j with
       | zero=>
         simp at h1 h2;subst h1 h2;rw [yfl hc'];simp
       | succ j=>exact ih hr (by simpa using h1) (by simpa using h2)
theorem yuf {scope:Scope} {tg:List Str} {target:PySem.Expr} (h:isTg scope tg target=true):∃ts,isTgN scope tg ts=true:=by
 cases target with
 | Name y p=>exact ⟨[.Name y p],h⟩
 | Tuple ts k p=>exact ⟨ts,(zba h).1⟩
 | _=>exact nb h
section
variable {c:Cx} {m:ML} {H:MH} {G:Gx} {d:Nat}
theorem yku {env:Env} {M:Model} {A:Around} {Q:Bool->Shared->Prop} {E:Value->Shared->Prop} {s:Shared}:∀{ifs:List PySem.Expr},Q false s->
   wpAny M A (forIn ifs false fun c r=>if r=true then do let ok <-isTrue c env (eval c env);pure (ForInStep.yield ok) else pure (ForInStep.yield r)) Q E s:=by
 intro zd
 induction zd with
 | nil=>
  exact fun h=>wpAny_pure h
 | cons _ _ zih=>
  exact fun h=>by
   rw [List.forIn_cons];simp only [Bool.false_eq_true,if_false];exact zih h
def TC (c:Cx) (m:ML):CTs->MH->(Bool->MH->Prop)->Prop
 | .nil,H,post=>post true H
 | .cons t r,H,post=>TT c m t H (fun b H1=>(b=false->post false H1)/\(b=true->TC c m r H1 post))
theorem ykj {post:Bool->MH->Prop} {mr:Str->Option Value} {Q:Bool->Shared->Prop} {E:Value->Shared->Prop}:∀{cs:CTs} {ifs:List PySem.Expr} {H:MH} {ρ:List Addr} {s:Shared},TC c m cs H post->wfTs cs c.nm c.sc ifs=true->St c mr ρ H s.heap->LR mr c.nm ρ m->
   (∀t b H' h' tk,post b H'->St c mr (ρ++t) H' h'->Q b { s with heap:=h',toks:=tk })->Kx c ρ s E->
   wpAny (model c.prog c.w) c.A (forIn (reTs cs c.nm ifs) true fun x r=>if r=true then do let ok <-isTrue x c.env (eval x c.env);pure (ForInStep.yield ok) else pure (ForInStep.yield r)) Q E s:=@fun zd1=>@(match zd1 with
 | .nil=>fun {ifs} {H} {ρ} {s} h hi S l k kx=>by
   exact wpAny_pure (k [] true H s.heap s.toks h (yac S))
 | .cons t r=>fun {ifs} {H} {ρ} {s} h hi S l k kx=>by
   haveI hi:=and2 hi;show wpAny _ _ (forIn (reT t c.nm (nth 0 ifs) :: reTs r c.nm ifs.tail) true _) _ _ _;rw [List.forIn_cons];simp only [if_true];refine wpAny_bind (wpAny_bind ?_);refine h _ hi.1 _ mr ρ s _ E (fun _=>rfl) S l ?_ kx;intro t' b H1 h1 tk1 hp S1;refine wpAny_pure ?_;cases b with
   | false=>exact yku (k t' false H1 h1 tk1 (hp.1 rfl) S1)
   | true=>
     refine ykj (ρ:=ρ++t') (s:={ s with heap:=h1,toks:=tk1 }) (hp.2 rfl) hi.2 S1 l.mono ?_ kx.mono;intro t'' b H2 h2 tk2 hp2 S2;rw [append_assoc] at S2;exact k (t'++t'') b H2 h2 tk2 hp2 S2)
theorem ycx {sc scope:Scope} {tg:List Str} (h:yel sc scope tg=true):scope.kind=.function/\(∀y ∈ scope.names,y.2≠.cell)/\(∀y ∈ scope.names,y.2=.local->scope.names.lookup y.1=some .local/\(y.1=(".0":Str)\/y.1 ∈ tg))/\
   (∀y ∈ scope.names,y.2=.free->kcl (sc.names.lookup y.1)=2/\y.1 ∉ tg):=by
 unfold yel at h;simp only [Bool.and_eq_true,beq_iff_eq,all_eq_true] at h;refine ⟨h.1,?_,?_,?_⟩
 . intro y hy e;have:=h.2 y hy;rw [e] at this;exact nb this
 . intro y hy e;have:=h.2 y hy;rw [e] at this;simp only [Bool.and_eq_true,Bool.or_eq_true,beq_iff_eq] at this;exact ⟨this.2,this.1.imp id fun q=>by simpa using q⟩
 . intro y hy e;have:=h.2 y hy;rw [e] at this;simp only [Bool.and_eq_true,beq_iff_eq,Bool.not_eq_true'] at this;exact ⟨this.1,by simpa using this.2⟩
theorem yna {x:Str}:∀{l:List (Str×NameKind)},l.lookup x=some .local->(x,NameKind.local) ∈ l:=by
 intro zd
 induction zd with
 | nil=>
  exact fun h=>by exact no h
 | cons zp0 r zih=>
  obtain ⟨n,k⟩:=zp0;exact fun h=>by
   rw [lookup_cons] at h;by_cases q:x=n
   . subst q;simp at h;rw [h];exact .head _
   . have hb:(x==n)=false:=by exact beq_eq_false_iff_ne.mpr q
     rw [hb] at h;exact .tail _ (zih h)
noncomputable abbrev Cx.at (c:Cx) (scope:Scope) (tg:List Str) (C:Addr) (ml:Str->Option Value) (ex fr:List (Addr×Obj)) (D:Addr) (yrs:List Value):Cx:=c.comp scope tg C ml ex fr ((D,LCg.lst yrs) :: c.xt)
theorem yrn {scope:Scope} {tg:List Str} {ts:List PySem.Expr} {mr mr':Str->Option Value} {ρ:List Addr} {vs:List MV} {vrs:List Value} (hcb:yel c.sc scope tg=true) (h0:c.nm.contains (".0":Str)=false) (ht:isTgN scope tg ts=true) (l:LR mr c.nm ρ m)
   (hm:∀x,x ∉ tg->scope.names.lookup x≠some .local->mr' x=mr x) (hv:VRs ρ vs vrs) (hl:vrs.length=tg.length):LR (upd mr' tg vrs) (c.nm++tg) ρ (m++vs.map some):=by
 haveI Z1:=ycx hcb;haveI hloc:=(zl (zr (zr Z1)));clear Z1;refine ⟨by rw [length_append,length_append,length_map,l.1,<-hv.length,hl],fun i x v e1 e2=>?_⟩;by_cases hx:x ∈ tg
 . obtain ⟨j,Z2⟩:=yk4 (nm:=c.nm) hx;haveI h1:=(zl Z2);haveI h2:=(zr Z2);clear Z2;rw [h2] at e1
   (replace e1:=si e1;subst e1)
   rw [getElem?_append_right (by rw [l.1];exact Nat.le_add_right _ _),l.1,Nat.add_sub_cancel_left,getElem?_map] at e2;cases q:vs[j]? with
   | none=>rw [q] at e2;exact no e2
   | some u=>
     rw [q] at e2;cases e2;obtain ⟨vr,Z3⟩:=hv.get q;haveI g1:=(zl Z3);haveI g2:=(zr Z3);clear Z3;exact ⟨vr,g2,yua ht (ycr h1) g1⟩
 . rw [ydt hx] at e1;haveI hi:i<m.length:=by rw [l.1];exact (zgs (ycr e1)).1
   rw [getElem?_append_left hi] at e2;obtain ⟨vr,Z4⟩:=l.2 i x v e1 e2;haveI g1:=(zl Z4);haveI g2:=(zr Z4);clear Z4;refine ⟨vr,g1,?_⟩;rw [yfl hx,hm x hx ?_,g2];intro q;rcases (hloc _ (yna q) rfl).2 with q | q
   . haveI hm0:=mem_of_getElem? (ycr e1);haveI:c.nm.contains (".0":Str)=true:=by
       rw [show x=(".0":Str) from q] at hm0;simpa using hm0
     rw [h0] at this;exact nb this
   . exact hx q
end
theorem yw3 {prog:Program} {w:World} {A:Around} {R:Result->Shared->Prop} {s:Shared} {elt target iter:PySem.Expr} {ifs:List PySem.Expr} {scope:Scope} {pos:Pos} {it acc:Value} {env:Env} (I:Nat->Shared->Prop)
   (turn:∀n s,I n s->∀E':Value->Shared->Prop,wpAny (model prog w) A (pyNext it) (fun r s₁=>match r with
     | none=>R (.ok .next) s₁
     | some v=>wpAny (model prog w) A (letOwnedTupleGo target it v) (fun _ s₁'=>wpAny (model prog w) A (assign target env v) (fun _ s₂=>
         wpAny (model prog w) A (forIn ifs true fun c r=>if r=true then do let ok <-isTrue c env (eval c env);pure (ForInStep.yield ok) else pure (ForInStep.yield r)) (fun ok s₃=>
           if ok=true then wpAny (model prog w) A (eval elt env) (fun x s₄=>
             wpAny (model prog w) A (call (.builtin "list.append") [acc,x]) (fun _ s₅=>∃m,m<n/\I m s₅) E' s₄) E' s₃
           else ∃m,m<n/\I m s₃) E' s₂) E' s₁') E' s₁) E' s)
   (n:Nat) (h:I n s):codeAny (model prog w) A (.compLoop (.ListComp elt [⟨target,iter,ifs,0⟩] scope pos) 0 it acc env) R s:=by
 refine codeAny_loop rfl I (fun n s hI=>?_) n h;show wpAny _ A ((compTurn (.ListComp elt [⟨target,iter,ifs,0⟩] scope pos) 0 it acc env).onRaise (fun x=>do noteFrame x env;theTreesLotGoes x)) _ _ s;refine wpAny_noted ?_;rw [compTurn_list];refine wpAny_bind (wpAny_standAt (wpAny_bind (wpAny_mono (turn n s hI _) (fun r s₁ h₁=>?_) fun _ _ h'=>h')));cases r with
 | none=>exact wpAny_pure h₁
 | some v=>
   refine wpAny_bind (wpAny_mono h₁ (fun _ s₁' h₁'=>?_) fun _ _ h'=>h');refine wpAny_bind (wpAny_mono h₁' (fun _ s₂ h₂=>wpAny_bind (wpAny_mono h₂ (fun ok s₃ h₃=>?_) fun _ _ h'=>h')) fun _ _ h'=>h');cases ok with
   | false=>exact wpAny_pure ⟨rfl,h₃⟩
   | true=>
     exact wpAny_bind (wpAny_bind (wpAny_mono h₃ (fun x s₄ h₄=>wpAny_bind (wpAny_mono h₄ (fun _ s₅ h₅=>wpAny_pure (wpAny_pure ⟨rfl,h₅⟩)) fun _ _ h'=>h')) fun _ _ h'=>h'))
section
variable {c:Cx} {m:ML} {H:MH} {G:Gx} {d:Nat}
theorem St.fact {mr:Str->Option Value} {ρ:List Addr} {h:Heap} (S:St c mr ρ H h) {p:Addr×Obj} (hp:p ∈ c.xt):h.get? p.1=some p.2/\p.1≠c.L/\c.h₀.get? p.1=none:=by
 obtain ⟨ml,fr,ex,Z1⟩:=S;obtain ⟨os,Z2⟩:=(zr (zr (zr Z1)));haveI own:=(zl Z1);haveI u:=(zl (zr Z1));haveI F:=(zl (zr (zr Z1)));haveI a1:=(zl Z2);haveI a2:=(zl (zr Z2));haveI a3:=(zl (zr (zr Z2)));haveI N:=(zl (zr (zr (zr Z2))));haveI a5:=(zr (zr (zr (zr Z2))));clear Z2 Z1;exact N p (mem_append_left _ (mem_append_right _ (mem_append_left _ hp)))
theorem St.growD {mr:Str->Option Value} {ρ:List Addr} {h h':Heap} {D:Addr} {o o':Obj} {p:Addr×Obj} {xt:List (Addr×Obj)} (S:St (c.wx (p :: (D,o) :: xt)) mr ρ H h) (hs:Heap.SameBut D h h') (hD:h'.get? D=some o') :
   St (c.wx (p :: (D,o') :: xt)) mr ρ H h':=by
 obtain ⟨ml,fr,ex,Z1⟩:=S;obtain ⟨os,Z2⟩:=(zr (zr (zr Z1)));haveI own:=(zl Z1);haveI u:=(zl (zr Z1));haveI F:=(zl (zr (zr Z1)));haveI a1:=(zl Z2);haveI a2:=(zl (zr Z2));haveI a3:=(zl (zr (zr Z2)));haveI N:=(zl (zr (zr (zr Z2))));haveI a5:=(zr (zr (zr (zr Z2))));clear Z2 Z1;replace N:News c.h₀ c.L h ((fr++((p :: (D,o) :: xt)++ex))++ρ.zip os):=N;replace a5:((fr++((p :: (D,o) :: xt)++ex)).map (·.1)++ρ).Nodup:=a5;haveI nD:=N (D,o) (by simp);haveI hp:((fr++((p :: (D,o) :: xt)++ex)).map (·.1)++ρ).Perm (D :: ((fr++((p :: xt)++ex)).map (·.1)++ρ)):=by
   simp only [map_append,map_cons,cons_append,append_assoc];haveI h1:=perm_middle (a:=D) (l₁:=fr.map (·.1)++[p.1]) (l₂:=xt.map (·.1)++(ex.map (·.1)++ρ));simpa [append_assoc] using h1
 haveI hnd:=nodup_cons.mp (hp.nodup_iff.mp a5);refine ⟨ml,fr,ex,own,u,F.change hs nD.2.1 nD.2.2,os,a1,a2,a3,?_,(by show ((fr++((p :: (D,o') :: xt)++ex)).map (·.1)++ρ).Nodup;simpa [map_append] using a5)⟩;show News c.h₀ c.L h' ((fr++((p :: (D,o') :: xt)++ex))++ρ.zip os);intro q hq;haveI hsplit:q=(D,o')\/q ∈ (fr++((p :: xt)++ex))++ρ.zip os:=by
   simp only [cons_append,mem_append,mem_cons] at hq ⊢;rcases hq with (hp | hp | hp | hp | hp) | hp <;> simp [hp]
 rcases hsplit with rfl | hq
 . exact ⟨hD,nD.2⟩
 . haveI P:=N q (by
     simp only [cons_append,mem_append,mem_cons] at hq ⊢;rcases hq with (hp | hp | hp | hp) | hp <;> simp [hp])
   refine ⟨(hs.2 _ fun e=>?_).trans P.1,P.2⟩;refine hnd.1 ?_;rw [<-e];rcases zma hq with hq | hq
   . exact mem_append_left _ (mem_map_of_mem hq)
   . exact mem_append_right _ (of_mem_zip (show (q.1,q.2) ∈ _ from hq)).1
theorem ypp {scope:Scope} {tg:List Str} {C D:Addr} {ml mr mr':Str->Option Value} {ex fr:List (Addr×Obj)} {yrs:List Value} {ys:List MV} {ρ:List Addr} {h:Heap} (own:Own c mr ml ex) (hfr:TI.SameUp c.fr fr)
   (S:St (c.at scope tg C ml ex fr D yrs) mr' ρ H h) (hy:VRs ρ ys yrs):∃oC mC,LCg.NsObj oC mC/\St (c.wx ((C,oC) :: c.xt)) mr (ρ++[D]) (H++[.list ys]) h/\(ρ++[D])[H.length]?=some D:=by
 obtain ⟨ml',fr',ex',Z1⟩:=S;obtain ⟨os,Z2⟩:=(zr (zr (zr Z1)));haveI own':=(zl Z1);haveI u:=(zl (zr Z1));haveI F:=(zl (zr (zr Z1)));haveI a1:=(zl Z2);haveI a2:=(zl (zr Z2));haveI a3:=(zl (zr (zr Z2)));haveI N:=(zl (zr (zr (zr Z2))));haveI a5:=(zr (zr (zr (zr Z2))));clear Z2 Z1;haveI Z3:=own';clear own';obtain ⟨oC,mC,Z4⟩:=(zl (zr Z3));haveI e0:=(zl Z3);haveI q1:=(zl Z4);haveI q2:=(zl (zr Z4));haveI q3:=(zr (zr Z4));haveI o2:=(zr (zr Z3));clear Z4 Z3;haveI e0':ml'=ml:=e0;subst e0' q1;replace N:News c.h₀ c.L h ((fr'++(((D,LCg.lst yrs) :: c.xt)++((C,oC) :: ex)))++ρ.zip os):=N;replace a5:((fr'++(((D,LCg.lst yrs) :: c.xt)++((C,oC) :: ex))).map (·.1)++ρ).Nodup:=a5;refine ⟨oC,mC,q2,?_,yag a2⟩;haveI hp:((fr'++(((D,LCg.lst yrs) :: c.xt)++((C,oC) :: ex))).map (·.1)++ρ).Perm (D :: ((fr'++(((C,oC) :: c.xt)++ex)).map (·.1)++ρ)):=by
   simp only [map_append,map_cons,cons_append,append_assoc];haveI h1:=perm_middle (a:=C) (l₁:=fr'.map (·.1)++D :: c.xt.map (·.1)) (l₂:=ex.map (·.1)++ρ);haveI h2:=perm_middle (a:=D) (l₁:=fr'.map (·.1)) (l₂:=c.xt.map (·.1)++(ex.map (·.1)++ρ));haveI h3:(fr'.map (·.1)++D :: (c.xt.map (·.1)++C :: (ex.map (·.1)++ρ))).Perm (C :: (fr'.map (·.1)++D :: (c.xt.map (·.1)++(ex.map (·.1)++ρ)))):=by simpa [append_assoc] using h1
   haveI h4:=perm_middle (a:=C) (l₁:=fr'.map (·.1)) (l₂:=c.xt.map (·.1)++(ex.map (·.1)++ρ));exact (h3.trans ((List.Perm.cons _ h2).trans (List.Perm.swap _ _ _))).trans (List.Perm.cons _ h4.symm)
 haveI hnd:=nodup_cons.mp (hp.nodup_iff.mp a5);haveI hN:News c.h₀ c.L h ((D,LCg.lst yrs) :: ((fr'++(((C,oC) :: c.xt)++ex))++ρ.zip os)):=fun q hq=>N q (by
   simp only [cons_append,mem_append,mem_cons] at hq ⊢;rcases hq with hp | (hp | hp | hp | hp) | hp <;> simp [hp])
 refine ⟨ml',fr',ex,own,hfr.trans u,Led.alloc (l:=D) (x:=LCg.lst yrs) (o:=.list ys) a1 a2 a3 hnd.2 F hN ?_ ⟨yrs,yrs.length,hy.mono,rfl⟩⟩;intro q hq e;refine hnd.1 ?_;rw [<-e];rcases zma hq with hq | hq
 . exact mem_append_left _ (mem_map_of_mem hq)
 . exact mem_append_right _ (of_mem_zip (show (q.1,q.2) ∈ _ from hq)).1
structure ItOk (c:Cx) (I:Addr) (T:Nat->Obj->Prop) (good:MH->Prop) (item:Nat->MH->Option MV) (ρ:List Addr):Prop where
 nx:∀c₁:Cx,c₁.A=c.A->NX c₁ I T good item ρ
 go:GoOk T
 slf:∀(s:Shared) (Q:Value->Shared->Prop) (E:Value->Shared->Prop) (i:Nat) (o:Obj),T i o->s.heap.get? I=some o->Q (.ref I) s->wpAny (model c.prog c.w) c.A (pyIter (.ref I)) Q E s
set_option tactic.hygienic true in
inductive LcK (cc:List Value->Cx) (I:Addr) (T:Nat->Obj->Prop) (J:Nat->List MV->MH->Prop) (B:Nat) (s:Shared) (ρ:List Addr) (scope:Scope) (tg:List Str) (mr:Str->Option Value) (n:Nat):Shared->Prop where
 | mk (i:Nat) (ys:List MV) (yrs:List Value) (t:List Addr) (mr':Str->Option Value) (H1:MH) (h':Heap) (tk:Nat) (o:Obj) (e:n=B+1 - i) (hJ:J i ys H1) (hT:T i o) (hy:VRs (ρ++t) ys yrs) (hmr:∀x,x ∉ tg->scope.names.lookup x≠some .local->mr' x=mr x) (S:St ((cc yrs).wx ((I,o) :: (cc yrs).xt)) mr' (ρ++t) H1 h'):LcK cc I T J B s ρ scope tg mr n { s with heap:=h',toks:=tk }
set_option tactic.hygienic true in
theorem yj2 (ok:Ok G c d) {tg:List Str} {elt:CE} {cs:CTs} {target iter el:PySem.Expr} {ifs:List PySem.Expr} {scope:Scope} {pos:Pos} {post:MV->MH->Prop}
   (h0:c.nm.contains (".0":Str)=false) (ht:isTg scope tg target=true) (hcb:yel c.sc scope tg=true) (hcs:wfTs cs (c.nm++tg) scope ifs=true) (hel:wfE elt (c.nm++tg) scope el=true)
   {I:Addr} {T:Nat->Obj->Prop} {good:MH->Prop} {item:Nat->MH->Option MV} {ρ:List Addr} (it:ItOk c I T good item ρ)
   (J:Nat->List MV->MH->Prop) (B:Nat) (hB:B<=1000000) (hJ0:J 0 [] H) (hJ:∀i ys H1,J i ys H1->i<=B/\ys.length<=i/\good H1)
   (turn:∀i ys H1 v,J i ys H1->item i H1=some v->∃vs,ye9 H1 tg v vs/\∀c',Sub G c c' d->c'.nm=c.nm++tg->
     TC c' (m++vs.map some) cs H1 (fun r H2=>(r=false->J (i+1) ys H2)/\(r=true->TE c' (m++vs.map some) elt H2 (fun y H3=>J (i+1) (ys++[y]) H3))))
   (done:∀i ys H1,J i ys H1->item i H1=none->post (.ref H1.length) (H1++[.list ys]))
   {mr:Str->Option Value} {s:Shared} {RR:Value->Addr->Result->Shared->Prop} {E:Value->Shared->Prop} {oI:Obj} (hT:T 0 oI) (S:St (c.wx ((I,oI) :: c.xt)) mr ρ H s.heap) (lr:LR mr c.nm ρ m)
   (k:∀C D t v H' h tk oC mC,post v H'->LCg.NsObj oC mC->St (c.wx ((C,oC) :: c.xt)) mr (ρ++t) H' h->VR (ρ++t) v (.ref D)->RR (.ref D) C (.ok .next) { s with heap:=h,toks:=tk }) :
   wpAny (model c.prog c.w) c.A (newList []) (fun acc s₃=>wpAny (model c.prog c.w) c.A (newFunctionEnv scope c.env.globals (clF c.env scope.names []) [] c.env.qual none .none (some c.env)) (fun cenv s₄=>
     codeAny (model c.prog c.w) c.A (.compStart (.ListComp (reE elt (c.nm++tg) el) [⟨target,iter,reTs cs (c.nm++tg) ifs,0⟩] scope pos) 0 (.ref I) acc { cenv with scope:=relabel scope c.env }) (RR acc cenv.locals) s₄) E s₃) E s:=by
 haveI Z1:=ycx hcb;haveI hkind:=(zl Z1);haveI hcell:=(zl (zr Z1));haveI hloc:=(zl (zr (zr Z1)));haveI hfree:=(zr (zr (zr Z1)));clear Z1;obtain ⟨ts,htn⟩:=yuf ht;obtain ⟨ml,fr,ex,Z2⟩:=S;obtain ⟨os,Z3⟩:=(zr (zr (zr Z2)));haveI own:=(zl Z2);haveI u:=(zl (zr Z2));haveI F:=(zl (zr (zr Z2)));haveI a1:=(zl Z3);haveI a2:=(zl (zr Z3));haveI a3:=(zl (zr (zr Z3)));haveI N:=(zl (zr (zr (zr Z3))));haveI a5:=(zr (zr (zr (zr Z3))));clear Z3 Z2;replace N:News c.h₀ c.L s.heap ((fr++(((I,oI) :: c.xt)++ex))++ρ.zip os):=N;replace a5:((fr++(((I,oI) :: c.xt)++ex)).map (·.1)++ρ).Nodup:=a5;replace own:Own c mr ml ex:=own;haveI hlt:∀a ∈ (fr++(((I,oI) :: c.xt)++ex)).map (·.1)++ρ,a<s.heap.objs.size:=fun a ha=>by
   obtain ⟨p,Z4⟩:=ybs (os:=os) a1 a2 ha;haveI hp:=(zl Z4);haveI e:=(zr Z4);clear Z4;rw [<-e];exact Heap.lt_size (N p hp).1
 refine wpAny_newObj_type (wpAny_newFunctionEnv hcell (by intro y hy;simp at hy) (fun h₁ hns₁ hsb₁=>?_) hkind);dsimp only at hns₁ hsb₁ ⊢;generalize hH2:s.heap.push { cls:=.type "list",dict:=none,data:=.seq ([]:List Value).toArray }=H2 at hns₁ hsb₁ ⊢;haveI hC:H2.objs.size=s.heap.objs.size+1:=by rw [<-hH2,Heap.size_push]
 haveI hDC:s.heap.objs.size≠H2.objs.size:=by rw [hC];exact Nat.ne_of_lt (Nat.lt_succ_self _)
 haveI old:∀b o,s.heap.get? b=some o->h₁.get? b=some o:=fun b o e=>hsb₁.extBut b o (by haveI:=Heap.lt_size e;rw [hC];exact Nat.ne_of_lt (Nat.lt_succ_of_lt this)) (Heap.get?_push_of_some _ (hH2 ▸ Heap.get?_push_of_some _ e));haveI hacc:h₁.get? s.heap.objs.size=some (LCg.lst []):=hsb₁.extBut _ _ hDC (Heap.get?_push_of_some _ (hH2 ▸ Heap.get?_push_size _ rfl));haveI fresh₀:∀a,s.heap.objs.size<=a->c.h₀.get? a=none:=fun a ha=>by
   cases e:c.h₀.get? a with
   | none=>rfl
   | some o'=>exact absurd (Heap.lt_size (F.keep a o' e)) (Nat.not_lt.mpr ha)
 haveI hLlt:c.L<s.heap.objs.size:=F.ns.lt;obtain ⟨oC,Z5⟩:=LCg.ns_obj hns₁;haveI hCo:=(zl Z5);haveI hoC:=(zr Z5);clear Z5
 let cc:List Value->Cx:=fun yrs=>c.at scope tg H2.objs.size ml ex fr s.heap.objs.size yrs
 let mr₀:Str->Option Value:=fun y=>if (relabel scope c.env).names.lookup y=some .local then none else mr y
 haveI hmap:∀y,(fun _=>none:Str->Option Value) y=none:=fun _=>rfl;haveI hkl:∀y,(relabel scope c.env).names.lookup y=some .local↔scope.names.lookup y=some .local:=fun y=>by
   constructor
   . intro q;exact kcl1 (by rw [<-ydd (env:=c.env),q];rfl)
   . intro q;exact kcl1 (by rw [ydd,q];rfl)
 haveI hcells:∀p ∈ scope.names,p.2=.free->(c.env.cells.lookup p.1).isSome=true:=fun p hp e=>by
   haveI h2:=(hfree p hp e).1;rw [<-ok.kd] at h2;unfold Own at own;split at own
   . haveI Z6:=own;clear own;haveI o2:=(zr (zr Z6));clear Z6;obtain ⟨a,o,Z7⟩:=o2 _ (kcl2 h2);haveI e1:=(zl Z7);clear Z7;rw [e1];rfl
   . haveI Z8:=own;clear own;haveI o2:=(zr (zr Z8));clear Z8;obtain ⟨a,o,Z9⟩:=o2 _ (kcl2 h2);haveI e1:=(zl Z9);clear Z9;rw [e1];rfl
 haveI hcelld:∀x,kcl (scope.names.lookup x)=2->∃a o,(clF c.env scope.names []).lookup x=some a/\(a,o) ∈ ex/\o.data=.cell (mr x):=fun x hx=>by
   haveI hm:=ykt hcell hx;haveI h2:=(hfree _ hm rfl).1;rw [<-ok.kd] at h2;rw [ytx (fun p hp=>(by cases hp)) hcells (.inl hm)];unfold Own at own;split at own
   . haveI Z10:=own;clear own;haveI o2:=(zr (zr Z10));clear Z10;exact o2 _ (kcl2 h2)
   . rename_i f ox hf;haveI Z11:=own;clear own;obtain ⟨oC',mC',Z12⟩:=(zl (zr Z11));haveI q1:=(zl Z12);haveI o2:=(zr (zr Z11));clear Z12 Z11;obtain ⟨a,o,Z13⟩:=o2 _ (kcl2 h2);haveI e1:=(zl Z13);haveI e2:=(zl (zr Z13));haveI e3:=(zr (zr Z13));clear Z13;exact ⟨a,o,e1,by rw [q1];exact .tail _ e2,e3⟩
 haveI S1:St ((cc []).wx ((I,oI) :: (cc []).xt)) mr₀ ρ H h₁:=by
   refine ⟨ml,fr,(H2.objs.size,oC) :: ex,?_,TI.SameUp.refl _,F.keeps old,os,a1,a2,a3,?_,?_⟩
   . refine ⟨rfl,⟨oC,_,rfl,hoC,fun x hx=>?_⟩,fun x hx=>?_⟩
     . haveI hx':(relabel scope c.env).names.lookup x=some .local:=hx;show _=if (relabel scope c.env).names.lookup x=some .local then none else mr x
       rw [if_pos hx'];rfl
     . haveI hx2:kcl (scope.names.lookup x)=2:=by
         rw [<-ydd (env:=c.env)];rcases hx with hx | hx
         . rw [show (relabel scope c.env).names.lookup x=some .cell from hx];rfl
         . rw [show (relabel scope c.env).names.lookup x=some .free from hx];rfl
       obtain ⟨a,o,Z14⟩:=hcelld x hx2;haveI e1:=(zl Z14);haveI e2:=(zl (zr Z14));haveI e3:=(zr (zr Z14));clear Z14;refine ⟨a,o,e1,e2,?_⟩;haveI hnl:¬(relabel scope c.env).names.lookup x=some .local:=by
         rw [hkl];intro q;rw [q] at hx2;cases hx2
       show _=Data.cell (if (relabel scope c.env).names.lookup x=some .local then none else mr x);rw [if_neg hnl];exact e3
   . show News c.h₀ c.L h₁ ((fr++(((I,oI) :: (s.heap.objs.size,LCg.lst []) :: c.xt)++((H2.objs.size,oC) :: ex)))++ρ.zip os);intro p hp;haveI hsplit:p=(s.heap.objs.size,LCg.lst [])\/p=(H2.objs.size,oC)\/p ∈ (fr++(((I,oI) :: c.xt)++ex))++ρ.zip os:=by
       simp only [cons_append,mem_append,mem_cons] at hp ⊢;rcases hp with (hp | hp | hp | hp | hp | hp) | hp <;> simp [hp]
     rcases hsplit with rfl | rfl | hq
     . exact ⟨hacc,Nat.ne_of_gt hLlt,fresh₀ _ (Nat.le_refl _)⟩
     . exact ⟨hCo,by show H2.objs.size≠c.L;rw [hC];exact Nat.ne_of_gt (Nat.lt_succ_of_lt hLlt),fresh₀ _ (by show s.heap.objs.size<=H2.objs.size;rw [hC];exact Nat.le_succ _)⟩
     . exact ⟨old _ _ (N p hq).1,(N p hq).2⟩
   . show ((fr++(((I,oI) :: (s.heap.objs.size,LCg.lst []) :: c.xt)++((H2.objs.size,oC) :: ex))).map (·.1)++ρ).Nodup;haveI hp:((fr++(((I,oI) :: (s.heap.objs.size,LCg.lst []) :: c.xt)++((H2.objs.size,oC) :: ex))).map (·.1)++ρ).Perm (H2.objs.size :: s.heap.objs.size :: ((fr++(((I,oI) :: c.xt)++ex)).map (·.1)++ρ)):=by
       simp only [map_append,map_cons,cons_append,append_assoc];haveI h1:=perm_middle (a:=H2.objs.size) (l₁:=fr.map (·.1)++I :: s.heap.objs.size :: c.xt.map (·.1)) (l₂:=ex.map (·.1)++ρ);haveI h2:=perm_middle (a:=s.heap.objs.size) (l₁:=fr.map (·.1)++[I]) (l₂:=c.xt.map (·.1)++(ex.map (·.1)++ρ));haveI h3:(fr.map (·.1)++I :: s.heap.objs.size :: (c.xt.map (·.1)++H2.objs.size :: (ex.map (·.1)++ρ))).Perm (H2.objs.size :: (fr.map (·.1)++I :: s.heap.objs.size :: (c.xt.map (·.1)++(ex.map (·.1)++ρ)))):=by simpa [append_assoc] using h1
       haveI h4:(fr.map (·.1)++I :: s.heap.objs.size :: (c.xt.map (·.1)++(ex.map (·.1)++ρ))).Perm (s.heap.objs.size :: (fr.map (·.1)++I :: (c.xt.map (·.1)++(ex.map (·.1)++ρ)))):=by simpa [append_assoc] using h2
       exact h3.trans (List.Perm.cons _ h4)
     rw [hp.nodup_iff,nodup_cons,nodup_cons];refine ⟨?_,?_,a5⟩
     . intro q;rcases zmc q with q | q
       . exact hDC q.symm
       . haveI h9:=hlt _ q;rw [hC] at h9;exact Nat.lt_irrefl _ (Nat.lt_of_succ_lt h9)
     . intro q;exact Nat.lt_irrefl _ (hlt _ q)
 haveI okc:∀yrs xt,Ok G ((cc yrs).wx xt) d:=fun yrs xt=>(ysq ok hkind u).wx xt;haveI hm0:∀x,x ∉ tg->scope.names.lookup x≠some .local->mr₀ x=mr x:=fun x _ hx=>by
   show (if (relabel scope c.env).names.lookup x=some .local then none else mr x)=_;rw [if_neg (by rw [hkl];exact hx)]
 haveI loop:∀s₃:Shared,(∃tk,s₃={ s with heap:=h₁,toks:=tk })->
     codeAny (model c.prog c.w) c.A (.compLoop (.ListComp (reE elt (c.nm++tg) el) [⟨target,iter,reTs cs (c.nm++tg) ifs,0⟩] scope pos) 0 (.ref I) (.ref s.heap.objs.size) (compEnvC scope (clF c.env scope.names []) H2.objs.size c.env)) (RR (.ref s.heap.objs.size) H2.objs.size) s₃:=by
   rintro s₃ ⟨tk₃,rfl⟩;refine yw3 (LcK cc I T J B s ρ scope tg mr) ?_ (B+1) (.mk 0 [] [] [] mr₀ H h₁ tk₃ oI rfl hJ0 hT rfl hm0 (yac S1));rintro n _ ⟨i,ys,yrs,t,mr',H1,h',tk,o,rfl,hJi,hTi,hy,hmr,S2⟩ E';haveI Z15:=hJ i ys H1 hJi;haveI b1:=(zl Z15);haveI b2:=(zl (zr Z15));haveI b3:=(zr (zr Z15));clear Z15;refine it.nx (cc yrs) rfl i o mr' t H1 { s with heap:=h',toks:=tk } _ E' hTi b3 S2 ?_ ?_
   . intro mv vr oI' h2 tk2 hi hv hT' hI hkeep;haveI S3:=S2.turnX hI hkeep;refine yjb it.go hT' hI ?_;obtain ⟨vs,Z16⟩:=turn i ys H1 mv hJi hi;haveI hp:=(zl Z16);haveI hturn:=(zr Z16);clear Z16;refine yoq (c:=(cc yrs).wx ((I,oI') :: (cc yrs).xt)) (s:={ s with heap:=h2,toks:=tk2 }) ok.hh rfl hkind (okc yrs _).kd ht hv hp S3 ?_;intro vrs h3 tk3 hvr hvl S4;haveI l4:LR (upd mr' tg vrs) (c.nm++tg) (ρ++t) (m++vs.map some):=yrn hcb h0 htn lr.mono hmr hvr hvl;haveI kxF:∀(ρ':List Addr) (s':Shared),Kx ((cc yrs).wx ((I,oI') :: (cc yrs).xt)) ρ' s' E':=fun ρ' s' t C as e m' mr' H' h' tk hX=>hX.elim;haveI sub:Sub G c ((cc yrs).wx ((I,oI') :: (cc yrs).xt)) d:=⟨okc yrs _,rfl,rfl,rfl⟩;haveI hnext:∀x,x ∉ tg->scope.names.lookup x≠some .local->upd mr' tg vrs x=mr x:=fun x hx hl=>by rw [yfl hx];exact hmr x hx hl
     refine ykj (c:=(cc yrs).wx ((I,oI') :: (cc yrs).xt)) (s:={ s with heap:=h3,toks:=tk3 }) (hturn _ sub rfl) hcs S4 l4 ?_ (kxF _ _);intro t5 b H5 h5 tk5 hb S5;rw [append_assoc] at S5;cases b with
     | false=>
       simp only [Bool.false_eq_true,if_false];haveI hJ':=hb.1 rfl;haveI:=(hJ _ _ _ hJ').1;refine ⟨B+1 - (i+1),by exact qf29 b1 this,.mk (i+1) ys yrs (t++t5) _ H5 h5 tk5 oI' rfl hJ' hT' ?_ hnext S5⟩;rw [<-append_assoc];exact hy.mono
     | true=>
       simp only [if_true];refine hb.2 rfl _ hel (upd mr' tg vrs) _ { s with heap:=h5,toks:=tk5 } _ E' S5 (by rw [<-append_assoc];exact l4.mono) ?_ (kxF _ _);intro t6 y yr H6 h6 tk6 hJ' hyr S6;simp only [append_assoc] at hyr S6;haveI nD:=S6.fact (p:=(s.heap.objs.size,LCg.lst yrs)) (.tail _ (.head _));haveI hlen:=(hJ i ys H1 hJi).2.1;refine append_at nD.1 (fun h7 hs7 hD7=>?_) (by show yrs.toArray.size<=sizeLine;rw [size_toArray,hy.length];exact Nat.le_trans (Nat.le_trans (Nat.le_trans hlen b1) hB) (by decide));haveI S7:=S6.growD (c:=cc yrs) hs7 (hD7.trans (congrArg some (LCg.lst_snoc yrs yr)));haveI:=(hJ _ _ _ hJ').1;refine ⟨B+1 - (i+1),by exact qf29 b1 this,.mk (i+1) (ys++[y]) (yrs++[yr]) (t++(t5++t6)) _ H6 h7 tk6 oI' rfl hJ' hT' ?_ hnext S7⟩;haveI e1:ρ++(t++(t5++t6))=ρ++t++(t5++t6):=by simp only [append_assoc]
       refine VRs.append ?_ ⟨yr,[],rfl,hyr,rfl⟩;rw [e1];exact hy.mono
   . intro h2 tk2 hi hkeep;haveI S3:=St.endX (c:=cc yrs) S2 hkeep;obtain ⟨oC',mC,Z17⟩:=ypp own u S3 hy;haveI hn:=(zl Z17);haveI g1:=(zl (zr Z17));haveI g2:=(zr (zr Z17));clear Z17;rw [append_assoc] at g1 g2;exact k H2.objs.size s.heap.objs.size (t++[s.heap.objs.size]) (.ref H1.length) _ h2 tk2 oC' mC (done i ys H1 hJi hi) hn g1 ⟨_,g2,rfl⟩
 exact codeAny_compStart_list (loop _ ⟨_,rfl⟩) (it.slf _ _ _ 0 oI hT (old _ _ (N (I,oI) (by simp)).1) (loop _ ⟨_,rfl⟩))
end
section
variable {c:Cx} {m:ML} {H:MH} {G:Gx} {d:Nat}
def Turns (G:Gx) (d:Nat) (c:Cx) (m:ML) (tg:List Str) (elt:CE) (cs:CTs) (item:Nat->MH->Option MV) (good:MH->Prop) (B:Nat) (H:MH) (post:MV->MH->Prop):Prop:=
 B<=1000000/\∃J:Nat->List MV->MH->Prop,J 0 [] H/\(∀i ys H1,J i ys H1->i<=B/\ys.length<=i/\good H1)/\
   (∀i ys H1 v,J i ys H1->item i H1=some v->∃vs,ye9 H1 tg v vs/\∀c',Sub G c c' d->c'.nm=c.nm++tg->
     TC c' (m++vs.map some) cs H1 (fun r H2=>(r=false->J (i+1) ys H2)/\(r=true->TE c' (m++vs.map some) elt H2 (fun y H3=>J (i+1) (ys++[y]) H3))))/\
   (∀i ys H1,J i ys H1->item i H1=none->post (.ref H1.length) (H1++[.list ys]))
def Src (G:Gx) (d:Nat) (c:Cx) (m:ML) (tg:List Str) (elt:CE) (cs:CTs) (it:CE) (H:MH) (post:MV->MH->Prop):Prop:=
 ∀(e:PySem.Expr) (mr:Str->Option Value) (ρ:List Addr) (s:Shared) (Q:Value->Shared->Prop) (E:Value->Shared->Prop),wfE it c.nm c.sc e=true->St c mr ρ H s.heap->LR mr c.nm ρ m->Kx c ρ s E->
   (∀t H' h' tk I T good item B oI,ItOk c I T good item (ρ++t)->Turns G d c m tg elt cs item good B H' post->T 0 oI->St (c.wx ((I,oI) :: c.xt)) mr (ρ++t) H' h'->Q (.ref I) { s with heap:=h',toks:=tk })->
   wpAny (model c.prog c.w) c.A (eval (reE it c.nm e) c.env) (fun x s₁=>wpAny (model c.prog c.w) c.A (pyIter x) Q E s₁) E s
theorem yg6 (ok:Ok G c d) {scope:Scope} {tg:List Str} (hcb:yel c.sc scope tg=true) {mr:Str->Option Value} {ρ:List Addr} {h:Heap} (S:St c mr ρ H h):∀p ∈ scope.names,p.2=.free->(c.env.cells.lookup p.1).isSome=true:=fun p hp e=>by
 haveI Z1:=ycx hcb;haveI hfree:=(zr (zr (zr Z1)));clear Z1;obtain ⟨ml,fr,ex,Z2⟩:=S;haveI own:=(zl Z2);clear Z2;haveI h2:=(hfree p hp e).1;rw [<-ok.kd] at h2;unfold Own at own;split at own
 . haveI Z3:=own;clear own;haveI o2:=(zr (zr Z3));clear Z3;obtain ⟨a,o,Z4⟩:=o2 _ (kcl2 h2);haveI e1:=(zl Z4);clear Z4;rw [e1];rfl
 . haveI Z5:=own;clear own;haveI o2:=(zr (zr Z5));clear Z5;obtain ⟨a,o,Z6⟩:=o2 _ (kcl2 h2);haveI e1:=(zl Z6);clear Z6;rw [e1];rfl
theorem St.same {mr:Str->Option Value} {ρ:List Addr} {h h':Heap} {C:Addr} {o:Obj} (S:St (c.wx ((C,o) :: c.xt)) mr ρ H h) (hs:Heap.SameBut C h h'):St c mr ρ H h':=S.endX fun b x hb e=>(hs.2 b hb).trans e
theorem ylh {elt:CE} {tg:List Str} {it:CE} {cs:CTs} {nm:List Str} {sc:Scope} {e:PySem.Expr} (he:wfE (.comp elt tg it cs) nm sc e=true) :
   nm.contains (".0":Str)=false/\isTg (scOf e) tg (reTg tg (kid 1 e))=true/\yel sc (scOf e) tg=true/\wfE it nm sc (kid 2 e)=true/\wfTs cs (nm++tg) (scOf e) ((kids e).drop 3)=true/\wfE elt (nm++tg) (scOf e) (kid 0 e)=true:=by
 haveI Z1:=and2 he;haveI he:=(zl Z1);haveI h5:=(zr Z1);clear Z1;haveI Z2:=and2 he;haveI he:=(zl Z2);haveI h4:=(zr Z2);clear Z2;haveI Z3:=and2 he;haveI he:=(zl Z3);haveI h3:=(zr Z3);clear Z3;haveI Z4:=and2 he;haveI he:=(zl Z4);haveI h2:=(zr Z4);clear Z4;haveI Z5:=and3 he;haveI h0:=(zl Z5);haveI h1:=(zl (zr Z5));haveI h1':=(zr (zr Z5));clear Z5;exact ⟨by simpa using h0,yvv h1 h1',h2,h3,h4,h5⟩
theorem TE.comp (ok:Ok G c d) {elt:CE} {tg:List Str} {it:CE} {cs:CTs} {post:MV->MH->Prop} (h:Src G d c m tg elt cs it H post):TE c m (.comp elt tg it cs) H post:=by
 intro e he;haveI Z1:=ylh he;haveI h0:=(zl Z1);haveI h1:=(zl (zr Z1));haveI h2:=(zl (zr (zr Z1)));haveI h3:=(zl (zr (zr (zr Z1))));haveI h4:=(zl (zr (zr (zr (zr Z1)))));haveI h5:=(zr (zr (zr (zr (zr Z1)))));clear Z1;haveI Z2:=ycx h2;haveI hkind:=(zl Z2);haveI hcell:=(zl (zr Z2));haveI hloc:=(zl (zr (zr Z2)));haveI hfree:=(zr (zr (zr Z2)));clear Z2;intro mr ρ s Q E S l k kx;show wpAny _ _ (eval (.ListComp (reE elt (c.nm++tg) (kid 0 e)) [⟨reTg tg (kid 1 e),reE it c.nm (kid 2 e),reTs cs (c.nm++tg) ((kids e).drop 3),0⟩] (scOf e) e.pos) c.env) _ _ _;rw [eval_ListComp];refine wpAny_comprehension_free (e:=.ListComp (reE elt (c.nm++tg) (kid 0 e)) [⟨reTg tg (kid 1 e),reE it c.nm (kid 2 e),reTs cs (c.nm++tg) ((kids e).drop 3),0⟩] (scOf e) e.pos) (g:=⟨reTg tg (kid 1 e),reE it c.nm (kid 2 e),reTs cs (c.nm++tg) ((kids e).drop 3),0⟩) (gs:=[]) (use:=Option.none) rfl (fun x=>ycb h3 x) (ye2 (yg6 ok h2 S)) hkind (fun x hx e=>(hloc x hx e).1) ?_;refine h _ mr ρ s _ E h3 S l kx ?_;rintro t H' h' tk I T good item B oI hit ⟨hB,J,j0,j1,j2,j3⟩ hT S1;refine yj2 (s:={ s with heap:=h',toks:=tk }) ok h0 h1 h2 h4 h5 hit J B hB j0 j1 j2 j3 hT S1 l.mono ?_;intro C D t' v H2 h2 tk2 oC mC hp hn S2 hv;refine ⟨mC,hn.ns S2.itr.1,fun h3 hs=>?_⟩;haveI S3:=S2.same hs;rw [append_assoc] at S3 hv;exact k (t++t') v _ H2 h3 tk2 hp hv S3
theorem TS.assignC (ok:Ok G c d) (hfm:c.fm=none) {i:Nat} {elt:CE} {tg:List Str} {it:CE} {cs:CTs} {post:Fl->ML->MH->Prop} (h:Src G d c m tg elt cs it H (fun v H1=>post .next (m.set i (some v)) H1)):TS c m (.assign i (.comp elt tg it cs)) H post:=by
 intro st hs;haveI Z1:=and3 hs;haveI hs1:=(zl Z1);haveI hs2:=(zl (zr Z1));haveI he:=(zr (zr Z1));clear Z1;haveI hs1:=beq_iff_eq.mp hs1;haveI hE:=TE.comp ok h _ he;haveI Z2:=ylh he;haveI h0:=(zl Z2);haveI h1:=(zl (zr Z2));haveI h2:=(zl (zr (zr Z2)));haveI h3:=(zl (zr (zr (zr Z2))));haveI h4:=(zl (zr (zr (zr (zr Z2)))));haveI h5:=(zr (zr (zr (zr (zr Z2)))));clear Z2;haveI Z3:=ycx h2;haveI hkind:=(zl Z3);haveI hcell:=(zl (zr Z3));haveI hloc:=(zl (zr (zr Z3)));haveI hfree:=(zr (zr (zr Z3)));clear Z3;generalize hx:c.nm.getD i ""=x at hs1 hs2;intro mr ρ s Q E S l k kx;show wpAny _ _ (exec (.Assign [.Name (c.nm.getD i "") (ex 1 st).pos] (.ListComp (reE elt (c.nm++tg) (kid 0 (ex 0 st))) [⟨reTg tg (kid 1 (ex 0 st)),reE it c.nm (kid 2 (ex 0 st)),reTs cs (c.nm++tg) ((kids (ex 0 st)).drop 3),0⟩] (scOf (ex 0 st)) (ex 0 st).pos) st.pos) c.env) _ _ _;rw [hx];by_cases hsw:swapsWith (.ListComp (reE elt (c.nm++tg) (kid 0 (ex 0 st))) [⟨reTg tg (kid 1 (ex 0 st)),reE it c.nm (kid 2 (ex 0 st)),reTs cs (c.nm++tg) ((kids (ex 0 st)).drop 3),0⟩] (scOf (ex 0 st)) (ex 0 st).pos) (some (.Name x (ex 1 st).pos)) st.pos.line c.env=pure true
 . rw [exec_Assign_Name_used _ _ _ _ hsw];refine wpAny_bind (wpAny_standAt (wpAny_bind ?_));show wpAny _ c.A (do let _ <-comprehension (.ListComp (reE elt (c.nm++tg) (kid 0 (ex 0 st))) [⟨reTg tg (kid 1 (ex 0 st)),reE it c.nm (kid 2 (ex 0 st)),reTs cs (c.nm++tg) ((kids (ex 0 st)).drop 3),0⟩] (scOf (ex 0 st)) (ex 0 st).pos) (scOf (ex 0 st)) c.env _ (newList []) false (eval (reE it c.nm (kid 2 (ex 0 st))) c.env) (some (PySem.assign (.Name x (ex 1 st).pos) c.env))) _ _ s;refine wpAny_bind (wpAny_mono (wpAny_comprehension_free (e:=.ListComp (reE elt (c.nm++tg) (kid 0 (ex 0 st))) [⟨reTg tg (kid 1 (ex 0 st)),reE it c.nm (kid 2 (ex 0 st)),reTs cs (c.nm++tg) ((kids (ex 0 st)).drop 3),0⟩] (scOf (ex 0 st)) (ex 0 st).pos) (g:=⟨reTg tg (kid 1 (ex 0 st)),reE it c.nm (kid 2 (ex 0 st)),reTs cs (c.nm++tg) ((kids (ex 0 st)).drop 3),0⟩) (gs:=[]) (use:=some (PySem.assign (.Name x (ex 1 st).pos) c.env)) (Q:=fun _ s'=>Q .next s') rfl (fun x=>ycb h3 x) (ye2 (yg6 ok h2 S)) hkind (fun x hx e=>(hloc x hx e).1) ?_) (fun _ s' hq=>wpAny_pure (wpAny_pure hq)) fun _ _ e=>e);refine h _ mr ρ s _ E h3 S l kx ?_;rintro t H' h' tk I T good item B oI hit ⟨hB,J,j0,j1,j2,j3⟩ hT S1;refine yj2 (post:=fun v H1=>post .next (m.set i (some v)) H1) (s:={ s with heap:=h',toks:=tk }) ok h0 h1 h2 h4 h5 hit J B hB j0 j1 j2 j3 hT S1 l.mono ?_;intro C D t' v H2 hp2 tk2 oC mC hp hn S2 hv;show wpAny _ _ (PySem.assign (.Name x (ex 1 st).pos) c.env (.ref D)) _ _ _;refine wpAny_assign_Name ?_;refine yhk (c:=c.wx ((C,oC) :: c.xt)) (s:={ s with heap:=hp2,toks:=tk2 }) (ok.wx _) S2 hfm hs2 ?_;intro h3 tk3 S3;refine ⟨mC,hn.ns S3.itr.1,fun h4 hs4=>?_⟩;haveI S4:=S3.same hs4;rw [append_assoc] at S4 hv;exact k (t++t') .next .next _ _ H2 h4 tk3 hp rfl S4 (l.mono.set hs1 hv)
 . haveI hsw':swapsWith (.ListComp (reE elt (c.nm++tg) (kid 0 (ex 0 st))) [⟨reTg tg (kid 1 (ex 0 st)),reE it c.nm (kid 2 (ex 0 st)),reTs cs (c.nm++tg) ((kids (ex 0 st)).drop 3),0⟩] (scOf (ex 0 st)) (ex 0 st).pos) (some (.Name x (ex 1 st).pos)) st.pos.line c.env=pure false:=by
     unfold swapsWith at hsw ⊢;simp only at hsw ⊢;generalize (c.env.blockKind==.function && c.env.kindOf x==some .local && (ex 1 st).pos.line==_ && _)=b at hsw ⊢;cases b with
     | false=>rfl
     | true=>exact absurd rfl hsw
   refine wpAny_Assign_Name ?_ hsw';refine hE mr ρ s _ E S l ?_ kx;intro t v vr H1 hp1 tk1 hp hv S1;refine yhk ok S1 hfm hs2 ?_;intro h' tk S2;exact k t .next .next _ _ H1 h' tk hp rfl S2 (l.mono.set hs1 hv)
end
section
variable {c:Cx} {m:ML} {H:MH} {G:Gx} {d:Nat}
theorem Src.list (ok:Ok G c d) {tg:List Str} {elt:CE} {cs:CTs} {it:CE} {post:MV->MH->Prop}
   (h:TE c m it H (fun l H1=>∃a xs B,l=.ref a/\H1[a]?=some (.list xs)/\Turns G d c m tg elt cs (yb2 a) (fun H=>∃xs,H[a]?=some (.list xs)) B H1 post)):Src G d c m tg elt cs it H post:=by
 intro e mr ρ s Q E he S l kx k;refine h _ he mr ρ s _ E S l ?_ kx;rintro t lv lr H1 h1 tk1 ⟨a,xs,B,rfl,ha,ht⟩ ⟨y,hy,rfl⟩ S1;obtain ⟨vs,ep,Z1⟩:=S1.list ha hy;haveI hvs:=(zl Z1);haveI No:=(zr Z1);clear Z1;refine wpAny_pyIter_list (yad No) ?_;refine k t H1 _ tk1 _ (fun i o=>o.cls=.type "list_iterator"/\o.data=.fields #[.ref y,.int i 0]) _ _ B _ ⟨fun c₁ e=>NX.list (by rw [e];exact ok.hh) hy,fun i o hT=>⟨_,_,hT.1,hT.2,rfl⟩,fun s' Q E i o hT hI hq=>?_⟩ ht ⟨rfl,rfl⟩ (S1.addX rfl);exact wpAny_pyIter_listiter ⟨o,hI,hT.1,hT.2⟩ hq
theorem Src.range (ok:Ok G c d) (hg:nsIn G.K mainGlobals "range"=some none) {tg:List Str} {elt:CE} {cs:CTs} {a:CE} {r:CEs} {post:MV->MH->Prop}
   (h:TEs c m (.cons a r) H (fun vs H1=>∃lo hi,Rng vs lo hi/\Turns G d c m tg elt cs (itemR lo hi) (fun _=>True) (hi - lo).toNat H1 post)):Src G d c m tg elt cs (.call "range" (.cons a r)) H post:=by
 intro e mr ρ s Q E he S l kx k;refine ydw ok (T:="range") hg boot_range (by decide) he CEs.ne S l kx h ?_;rintro t vs vrs H1 hp1 tk1 ⟨lo,hi,hr,ht⟩ hv S1;refine ygw S1 hr hv ?_;intro h' tk t₁ u₁ v₁ hR S2 _;refine wpAny_pyIter_range hR (small_one hr.2.1 hr.2.2.1 hr.2.2.2.1 hr.2.2.2.2) ?_;refine k t H1 _ tk _ (fun i o=>o={ cls:=.type "range_iterator",data:=.fields #[rawInt (lo+i),rawInt (((hi - lo).toNat:Int) - i),rawInt 1] }) _ _ _ _ ⟨fun c₁ e=>NX.range (a:=lo) (b:=hi) (by rw [e];exact ok.hh),fun i o hT=>(by subst hT;exact ⟨_,_,rfl,rfl,rfl⟩),fun s' Q E i o hT hI hq=>?_⟩ ht ?_ (S2.addX rfl)
 . subst hT;exact wpAny_pyIter_rangeiter (show IsRangeIter s'.heap _ _ _ _ from hI) hq
 . rw [rangeSize_nat];simp
theorem TC.mono {c:Cx} {m:ML}:∀{cs:CTs} {H:MH} {p q:Bool->MH->Prop},TC c m cs H p->(∀r H2,p r H2->q r H2)->TC c m cs H q:=@fun zd1=>@(match zd1 with
 | .nil=>fun {zz} {zz} {zz} h hpq=>hpq _ _ h
 | .cons t r=>fun {zz} {zz} {zz} h hpq=>TT.mono h fun b H1 hb=>⟨fun e=>hpq _ _ (hb.1 e),fun e=>TC.mono (hb.2 e) hpq⟩)
theorem Turns.range {tg:List Str} {x:Str} {elt:CE} {cs:CTs} {lo hi:Int} {post:MV->MH->Prop} (htg:tg=[x]) (hB:(hi - lo).toNat<=1000000) (J:Nat->List MV->MH->Prop) (j0:J 0 [] H) (jl:∀i ys H1,J i ys H1->ys.length<=i)
   (turn:∀i ys H1,J i ys H1->lo+i<hi->∀c',Sub G c c' d->c'.nm=c.nm++tg->
     TC c' (m++[some (.int (lo+i))]) cs H1 (fun r H2=>(r=false->J (i+1) ys H2)/\(r=true->TE c' (m++[some (.int (lo+i))]) elt H2 (fun y H3=>J (i+1) (ys++[y]) H3))))
   (done:∀ys H1,J (hi - lo).toNat ys H1->post (.ref H1.length) (H1++[.list ys])):Turns G d c m tg elt cs (itemR lo hi) (fun _=>True) (hi - lo).toNat H post:=by
 subst htg;refine ⟨hB,fun i ys H1=>i<=(hi - lo).toNat/\J i ys H1,⟨Nat.zero_le _,j0⟩,fun i ys H1 q=>⟨q.1,jl i ys H1 q.2,trivial⟩,?_,?_⟩
 . intro i ys H1 v q hi';unfold itemR at hi';split at hi'
   . rename_i hlt
     (replace hi':=si hi';subst hi')
     refine ⟨[.int (lo+i)],rfl,fun c' sub hn=>?_⟩;haveI h1:=turn i ys H1 q.2 hlt c' sub hn;refine h1.mono ?_;intro r H2 hr;exact ⟨fun e=>⟨by exact qf5 q hlt,hr.1 e⟩,fun e=>(hr.2 e).mono fun y H3 hy=>⟨by exact qf5 q hlt,hy⟩⟩
   . exact no hi'
 . intro i ys H1 q hi';unfold itemR at hi';split at hi'
   . exact ns hi'
   . haveI:i=(hi - lo).toNat:=by haveI:=q.1;exact qf6 q ‹_›
     exact done ys H1 (this ▸ q.2)
theorem Turns.list {tg:List Str} {elt:CE} {cs:CTs} {a:Nat} {xs:List MV} {post:MV->MH->Prop} (hB:xs.length<=1000000) (J:Nat->List MV->MH->Prop) (j0:J 0 [] H) (jl:∀i ys H1,J i ys H1->ys.length<=i/\H1[a]?=some (.list xs))
   (turn:∀i ys H1 v,J i ys H1->xs[i]?=some v->∃vs,ye9 H1 tg v vs/\∀c',Sub G c c' d->c'.nm=c.nm++tg->
     TC c' (m++vs.map some) cs H1 (fun r H2=>(r=false->J (i+1) ys H2)/\(r=true->TE c' (m++vs.map some) elt H2 (fun y H3=>J (i+1) (ys++[y]) H3))))
   (done:∀ys H1,J xs.length ys H1->post (.ref H1.length) (H1++[.list ys])):Turns G d c m tg elt cs (yb2 a) (fun H=>∃xs,H[a]?=some (.list xs)) xs.length H post:=by
 refine ⟨hB,fun i ys H1=>i<=xs.length/\J i ys H1,⟨Nat.zero_le _,j0⟩,fun i ys H1 q=>⟨q.1,(jl i ys H1 q.2).1,xs,(jl i ys H1 q.2).2⟩,?_,?_⟩
 . intro i ys H1 v q hi';haveI hx:xs[i]?=some v:=by unfold yb2 at hi';rw [(jl i ys H1 q.2).2] at hi';exact hi'
   haveI hlt:=(zgs hx).1;obtain ⟨vs,Z1⟩:=turn i ys H1 v q.2 hx;haveI hp:=(zl Z1);haveI ht:=(zr Z1);clear Z1;refine ⟨vs,hp,fun c' sub hn=>(ht c' sub hn).mono fun r H2 hr=>?_⟩;exact ⟨fun e=>⟨hlt,hr.1 e⟩,fun e=>(hr.2 e).mono fun y H3 hy=>⟨hlt,hy⟩⟩
 . intro i ys H1 q hi';haveI hx:xs[i]?=none:=by unfold yb2 at hi';rw [(jl i ys H1 q.2).2] at hi';exact hi'
   haveI:i=xs.length:=Nat.le_antisymm q.1 (List.getElem?_eq_none_iff.mp hx);exact done ys H1 (this ▸ q.2)
end
def GExc (G:Gx) (g:Str) (C:Addr) (bm:List Value):Prop:=
 nsIn G.K mainGlobals g=some (some (.ref C))/\∃(Bn newId inN:String) (bmN:List Value) (B nid initId:String),ExcBaseFacts Bn newId inN bmN/\bm.contains (.type Bn)=true/\ExcBaseFacts B nid initId bm/\excIn G.K C bm newId=true
section
variable {c:Cx} {m:ML} {H:MH} {G:Gx} {d:Nat}
end
theorem law_entry {G:Gx} (d:Nat) (hdd:d<=600) {prog:Program} {w:World} {s:Shared} {fa sa:Addr} {o:Obj} {fd:FuncData} {body:List Stmt} {x:Str} {nm:List Str} {k:CSs} {R:Result->Shared->Prop}
   (kin:G.K.In s.heap) (hex:G.ex s.heap) (T:Top G.p G.loose G.mean G.mg G.mb s.heap) (ho:s.heap.get? fa=some o) (hd:o.data=.func fd) (hcd:s.heap.CodeRec fd.code fd.qualname)
   (hbody:fd.body=.stmts body) (hgl:fd.globals=mainGlobals) (hcl:fd.closure=[]) (hbi:fd.builtins=builtinsNs)
   (hb:BindsTo s fd ⟨[.ref sa],[]⟩ [(x,.ref sa)]) (hfn:fnb fd.scope [x] nm=true) (hwf:wfSs k nm fd.scope body=true) (hre:reSs k nm body=body)
   (h:∀c:Cx,c.prog=prog->c.w=w->c.h₀=s.heap->Ok G c d->c.fm=none->interactive c.env=false->c.nm=nm->c.X=(fun _ _ _ _=>False)->TB c (start nm [.glob sa]) k [] (fun fl _ _=>retv fl=.bool true))
   (hR:∀L m h' tk,Fr s.heap L h' m->R (.ok (.ret (.bool true))) { s with heap:=h',toks:=tk }) :
   codeAny (model prog w) callerA (.call (.ref fa) ⟨[.ref sa],[]⟩) R s:=by
 unfold fnb at hfn;simp only [Bool.and_eq_true,beq_iff_eq,decide_eq_true_eq,Bool.not_eq_true',all_eq_true] at hfn;obtain ⟨⟨⟨⟨⟨⟨⟨hn1,hn2⟩,hn3⟩,hco⟩,hgen⟩,hk⟩,hnd⟩,hnf⟩:=hfn;haveI hnf':fd.scope.names.all (fun p=>p.2 != .free)=true:=all_eq_true.mpr hnf;have hmemn:∀y ∈ [(x,Value.ref sa)],fd.scope.names.lookup y.1=some .local\/fd.scope.names.lookup y.1=some .cell:=fun y hy=>by
   have:=hn3 y.1 (by rw [mem_singleton] at hy;subst hy;exact .head _);unfold stb at this;simpa using this
 refine codeAny_call_function (by decide) ho hd hco hgen hbody hcd (hb _ _ _ _ ?_);rw [hgl,hcl,hbi];refine wpAny_newFunctionEnv_cells hk (fun x hx=>(hmemn x hx).imp id fun q=>⟨q,cellsFrom_some _ _ _ (.inl q)⟩) fun env' he s' x'=>?_;subst he;refine ⟨T.nolimit.keeps x'.toInCall.keep,codeAny_func ?_⟩;obtain ⟨h₁,tk,rfl,hk₁⟩:=x'.done;obtain ⟨cells,NC,Y⟩:=Cl.news (h₀:=s.heap) (Nat.le_refl _) fun n c hm=>⟨x'.cell n c (lookup_of_mem_nodup (cellsFrom_names fd.scope.names 0 (s.heap.objs.size+1) [] [] rfl ▸ hnd) hm),x'.above n c hm⟩
 let env':Env:=envOfC fd.qualname fd.scope s.heap.objs.size fa fd.code
 let mr':Str->Option Value:=fun y=>if env'.kindOf y=some .local then bindL env'.kindOf [(x,.ref sa)] (fun _=>none) y else bindC env'.kindOf [(x,.ref sa)] (fun _=>none) y
 let c':Cx:={ prog:=prog,w:=w,A:=callerA.deeper env',env:=env',h₀:=s.heap,L:=s.heap.objs.size,fm:=none,fr:=[],xt:=[],X:=fun _ _ _ _=>False,nm:=nm,sc:=fd.scope }
 have ok':Ok G c' d:=by
   refine ⟨⟨env',[],Around.frames_deeper rfl,rfl,hk,trivial,fun _=>rfl⟩,kin,T,rfl,?_,?_,hk,rfl,rfl,fun _=>x'.apart,fun _=>rfl,fun _=>rfl,hex⟩
   . show 1+claimMargin+1+d<recursionLimit;exact Nat.lt_of_le_of_lt (Nat.add_le_add_left hdd _) (by decide)
   . show 4+3+8*d+64<cLine;exact Nat.lt_of_le_of_lt (Nat.add_le_add_right (Nat.add_le_add_left (Nat.mul_le_mul_left 8 hdd) _) 64) (by decide)
 have S':St c' mr' [] [] h₁:=by
   refine ⟨bindL env'.kindOf [(x,.ref sa)] (fun _=>none),[],cells,?_,trivial,⟨x'.toInCall.ns,fun b o e=>hk₁ b o e,Nat.le_refl _⟩,[],rfl,rfl,?_,?_,?_⟩
   . refine ⟨rfl,fun y hy=>?_,fun y hy=>?_⟩
     . show _=if env'.kindOf y=some .local then _ else _
       rw [if_pos hy]
     . rcases hy with hy | hy
       . haveI hs:((cellsFrom (s.heap.objs.size+1) fd.scope.names []).lookup y).isSome=true:=cellsFrom_some _ _ _ (.inl hy);obtain ⟨a,ha⟩:=Option.isSome_iff_exists.mp hs;obtain ⟨o,h1,h2⟩:=yie Y ha;refine ⟨a,o,ha,h1,h2.trans ?_⟩;have hnl:¬env'.kindOf y=some .local:=by
           intro q;haveI q':env'.kindOf y=some .cell:=hy;rw [q] at q';cases q'
         show _=Data.cell (if env'.kindOf y=some .local then _ else _);rw [if_neg hnl];rfl
       . exact absurd hy (yn2 hnf')
   . intro i o e;exact no e
   . intro p hp;replace hp:p ∈ (([]:List (Addr×Obj))++([]++cells))++([]:List Addr).zip []:=hp;simp only [nil_append,List.zip_nil_left,append_nil] at hp;exact NC p hp
   . have hcnd:(cells.map (·.1)).Nodup:=by
       rw [yfz Y];exact pairwise_map.mpr x'.apart
     show ((([]:List (Addr×Obj))++([]++cells)).map (fun p:Addr×Obj=>p.1)++([]:List Addr)).Nodup;exact (append_nil _).symm ▸ hcnd
 have l':LR mr' nm [] (start nm [.glob sa]):=by
   have hle:1<=nm.length:=by
     haveI:=congrArg List.length hn1;simp only [length_take,length_singleton] at this;lia
   refine ⟨by unfold start;rw [length_append,length_map,List.length_replicate,length_singleton];lia,fun i y v e1 e2=>?_⟩;unfold start at e2;by_cases hi:i<1
   . have h0:i=0:=by exact qf33 hi
     subst h0;simp at e2;subst e2;have hy:x=y:=by
       haveI:=ycr e1;cases nm with
       | nil=>exact no this
       | cons z zs=>
         simp at this hn1;rw [hn1,this]
     subst hy;refine ⟨.ref sa,rfl,?_⟩;show (if env'.kindOf x=some .local then _ else _)=_;split
     . rename_i q;exact ykb (names:=[x]) (vals:=[.ref sa]) (i:=0) q (by simp) rfl rfl
     . rename_i q;exact ykl (names:=[x]) (vals:=[.ref sa]) (i:=0) q (by simp) rfl rfl
   . rw [getElem?_append_right (by rw [length_map,length_singleton];exact Nat.not_lt.mp ‹_›),List.getElem?_replicate] at e2;split at e2 <;> (first | exact no e2 | cases e2)
 have hni:interactive env'=false:=by
   unfold interactive;rw [show env'.scope.kind=.function from hk];rfl
 haveI hb2:EX c' (start nm [.glob sa]) (reSs k nm body) [] (fun fl _ _=>retv fl=.bool true):=h c' rfl rfl rfl ok' rfl hni rfl rfl body hwf;rw [hre] at hb2;refine hb2 mr' [] { s with heap:=h₁,toks:=tk } _ _ S' l' ?_ ?_
 . intro t fl fr' m' mr'' H' h' tk' hp hfl S2 _;obtain ⟨ml,xs,led,_⟩:=S2.open;cases fl with
   | ret v=>
     obtain ⟨vr,rfl,hv⟩:=hfl;haveI e:v=.bool true:=hp;subst e;haveI e2:vr=.bool true:=hv;subst e2;exact hR _ ml h' tk' led.1
   | next=>cases hp
   | brk=>cases hp
   | cont=>cases hp
 . intro t C as e m' mr'' H' h' tk' hX hF hL';exact False.elim hX
theorem yg7 {x:Str} {v:Value}:∀{names:List Str} {vs:List Value},names.length=vs.length->x ∈ names->((names.zip vs).lookup x).isSome=true:=@fun zd1 zd2=>@(match zd1,zd2 with
 | [],_=>fun zz h=>by cases h
 | _ :: _,[]=>fun h zz=>by cases h
 | y :: ns,u :: us=>fun hl h=>by
   rw [zip_cons_cons,lookup_cons];by_cases e:x=y
   . subst e;simp
   . have hb:(x==y)=false:=by exact beq_eq_false_iff_ne.mpr e
     rw [hb];rcases zmc h with q | q
     . exact absurd q e
     . exact yg7 (v:=v) (by exact Nat.succ.inj hl) q)
theorem yph {α β:Type} {f g:α->Option β}:∀{l:List α},(∀x ∈ l,f x=g x)->l.filterMap f=l.filterMap g:=by
 intro zd
 induction zd with
 | nil=>
  exact fun zz=>rfl
 | cons a l zih=>
  exact fun h=>by rw [List.filterMap_cons,List.filterMap_cons,h a (.head _),zih fun x hx=>h x (.tail _ hx)]
theorem ye4:∀{names:List Str} {vs:List Value},names.Nodup->names.length=vs.length->(names.filterMap fun n=>((names.zip vs).lookup n).map (n,·))=names.zip vs:=@fun zd1 zd2=>@(match zd1,zd2 with
 | [],_=>fun zz zz=>rfl
 | _ :: _,[]=>fun zz h=>by cases h
 | y :: ns,u :: us=>fun hn hl=>by
   rw [nodup_cons] at hn;rw [zip_cons_cons,List.filterMap_cons];haveI h0:((y,u) :: ns.zip us).lookup y=some u:=by simp [List.lookup]
   rw [h0];simp only [Option.map_some];congr 1;haveI:(ns.filterMap fun n=>(((y,u) :: ns.zip us).lookup n).map (n,·))=(ns.filterMap fun n=>((ns.zip us).lookup n).map (n,·)):=by
     refine yph fun n hnm=>?_;haveI hb:(n==y)=false:=by
       haveI:n≠y:=fun e=>hn.1 (e ▸ hnm);exact beq_eq_false_iff_ne.mpr this
     rw [lookup_cons,hb]
   rw [this,ye4 hn.2 (by exact Nat.succ.inj hl)])
noncomputable def yf9 (p:Arguments):Bool:=p.posonlyargs.isEmpty && p.vararg.isNone && p.kwonlyargs.isEmpty && p.kwarg.isNone
theorem bind_plain {fd:FuncData} {vs:List Value} (hp:yf9 fd.params=true) (hdf:fd.defaults=.none) (hn:(fd.params.args.map (·.arg)).Nodup) (hl:vs.length=(fd.params.args.map (·.arg)).length) :
   bindArgs fd ⟨vs,[]⟩=pure ((fd.params.args.map (·.arg)).zip vs):=by
 haveI hmiss:((fd.params.args.map (·.arg)).filter fun n=>(((fd.params.args.map (·.arg)).zip vs).lookup n).isNone)=[]:=by
   rw [List.filter_eq_nil_iff];intro n hnm;haveI:=yg7 (v:=.none) hl.symm hnm;rw [Option.isSome_iff_ne_none] at this;simpa [Option.isNone_iff_eq_none] using this
 haveI hz:=ye4 hn hl.symm;clear hn;unfold yf9 at hp;simp only [Bool.and_eq_true,isEmpty_iff,Option.isNone_iff_eq_none] at hp;haveI Z1:=hp;clear hp;haveI h1:=(zl (zl (zl Z1)));haveI h2:=(zr (zl (zl Z1)));haveI h3:=(zr (zl Z1));haveI h4:=(zr Z1);clear Z1;obtain ⟨nm,qn,⟨po,as,va,ko,kd,kw,de⟩,bd,sc,gl,cl,dfs,kdf,_,_,_,_,_,_⟩:=fd;dsimp only at *;subst h1 h2 h3 h4 hdf;unfold bindArgs;dsimp only [map_nil,nil_append,append_nil];generalize as.map (·.arg)=N at *;haveI hc:¬((decide (vs.length > N.length) && (none:Option Arg).isNone)=true):=by
   rw [decide_eq_false (by rw [hl];exact Nat.lt_irrefl _)];exact Bool.false_ne_true
 rw [List.forIn_nil,pure_bind,show seqItems? Value.none=pure none from rfl,pure_bind];dsimp only [map_nil,nil_append,append_nil,Option.getD_none,Array.toList_empty,List.drop_nil,length_nil,Nat.sub_zero,List.filter_nil];haveI hm:List.map (fun x:Arg=>x.arg) ([]:List Arg)=[]:=rfl;rw [hm,nil_append,if_neg hc];simp only [List.drop_nil,length_nil,Nat.sub_zero,take_length,hmiss,List.zip_nil_right,List.forIn_nil,pure_bind,append_nil,hz,List.isEmpty_nil,Bool.not_true,Bool.false_eq_true,if_false]
noncomputable def yca (K:Frag) (f:Addr):List Stmt:=match K.lookup f with
 | some ⟨_,_,.func fd,_⟩=>match fd.body with
   | .stmts body=>body
   | _=>[]
 | _=>[]
noncomputable def defb (K:Frag) (f:Addr) (names nm:List Str) (b:CSs):Bool:=
 match K.lookup f with
 | some ⟨_,_,.func fd,_⟩=>
   (match fd.body with
   | .stmts body=>wfSs b nm fd.scope body
   | _=>false) && fd.globals==mainGlobals && fd.closure.isEmpty && fd.builtins==builtinsNs && (match fd.defaults with | .none=>true | _=>false) &&
     yf9 fd.params && (names==fd.params.args.map (·.arg)) && codeIn K fd.code fd.qualname && fnb fd.scope names nm
 | _=>false
theorem GDef.of {G:Gx} {f:Addr} {names nm:List Str} {b:CSs} (h:defb G.K f names nm b=true) (hre:reSs b nm (yca G.K f)=yca G.K f):GDef G f names nm b []:=by
 unfold defb at h;unfold yca at hre;cases hk:G.K.lookup f with
 | none=>rw [hk] at h;exact nb h
 | some ob=>
   obtain ⟨oc,od,dat,osl⟩:=ob;rw [hk] at h hre;cases dat with
   | func fd=>
     simp only [Bool.and_eq_true,beq_iff_eq,isEmpty_iff] at h hre;haveI Z1:=h;clear h;haveI h1:=(zl (zl (zl (zl (zl (zl (zl (zl Z1))))))));haveI h2:=(zr (zl (zl (zl (zl (zl (zl (zl Z1))))))));haveI h3:=(zr (zl (zl (zl (zl (zl (zl Z1)))))));haveI h4:=(zr (zl (zl (zl (zl (zl Z1))))));haveI h5:=(zr (zl (zl (zl (zl Z1)))));haveI h6:=(zr (zl (zl (zl Z1))));haveI h7:=(zr (zl (zl Z1)));haveI h8:=(zr (zl Z1));haveI h9:=(zr Z1);clear Z1;obtain ⟨name,qual,params,bd,scope,gl,cl,df,kd,doc,pm,an,cd,ct,bi⟩:=fd;cases bd with
     | stmts body=>
       simp only at h1 h2 h3 h4 h5 h6 h7 h8 h9 hre;subst h2 h3 h4;cases df with
       | none=>
         refine ⟨name,qual,params,body,scope,.none,kd,doc,pm,cd,ct,oc,an,od,osl,[],hk,h8,?_,rfl,h9,h1,hre⟩;intro s vs X hl;refine BindsTo.of_eq ?_;rw [append_nil];haveI hnn:names.Nodup:=by
           unfold fnb at h9;simp only [Bool.and_eq_true,beq_iff_eq,decide_eq_true_eq] at h9;rw [h9.1.1.1.1.1.1.1];exact (List.take_sublist _ _).nodup h9.1.1.1.1.1.1.2
         subst h7;exact bind_plain (fd:=fnOf name qual params body scope .none kd doc pm an cd ct) h6 rfl hnn (by exact hl)
       | _=>exact nb h5
     | _=>exact nb h1
   | _=>exact nb h
noncomputable def ydi (f:Addr):Option (Option Value)->Bool
 | some (some (.ref g))=>g==f
 | _=>false
theorem yc3 {f:Addr} {o:Option (Option Value)} (h:ydi f o=true):o=some (some (.ref f)):=by
 cases o with
 | none=>exact nb h
 | some o=>cases o with
   | none=>exact nb h
   | some v=>cases v with
     | ref g=>rw [beq_iff_eq.mp (show (g==f)=true from h)]
     | _=>exact nb h
noncomputable def yeu:Option (Option Value)->Bool
 | some none=>true
 | _=>false
theorem ye3 {o:Option (Option Value)} (h:yeu o=true):o=some none:=by
 cases o with
 | none=>exact nb h
 | some o=>cases o with
   | none=>rfl
   | some _=>exact nb h
noncomputable def fnk (K:Frag) (g:Str) (f:Addr):Bool:=ydi f (nsIn K mainGlobals g) && keepIn K (.ref f)
theorem GFn.of {G:Gx} {g:Str} {f:Addr} (h:fnk G.K g f=true):GFn G g f:=by
 unfold fnk at h;simp only [Bool.and_eq_true] at h;exact ⟨yc3 h.1,h.2⟩
noncomputable def clsk (K:Frag) (g:Str) (C fI:Addr):Bool:=fnk K g C && makesIn K C && ydi fI (findIn K (.ref C) "__init__") && isFn K (.ref fI)
theorem GCls.of {G:Gx} {g:Str} {C fI:Addr} (h:clsk G.K g C fI=true):GCls G g C fI:=by
 unfold clsk at h;simp only [Bool.and_eq_true] at h;exact ⟨GFn.of h.1.1.1,h.1.1.2,yc3 h.1.2,h.2⟩
noncomputable def attk (K:Frag) (C:Addr) (name:Str):Bool:=plainGet K C name && hasDictIn K C && yeu (findIn K (.ref C) name)
theorem GAtt.of {G:Gx} {C:Addr} {name:Str} (h:attk G.K C name=true):GAtt G C name:=by
 unfold attk at h;simp only [Bool.and_eq_true] at h;exact ⟨h.1.1,h.1.2,ye3 h.2⟩
noncomputable def stok (K:Frag) (C:Addr) (name:Str):Bool:=
 (match findIn K (.ref C) "__setattr__" with | some (some (.builtin x))=>x=="object.__setattr__" | _=>false) && plainOver K C && yeu (takerIn K C name) && hasDictIn K C
set_option tactic.hygienic true in
theorem GSto.of {G:Gx} {C:Addr} {name:Str} (h:stok G.K C name=true):GSto G C name:=by
 unfold stok at h;simp only [Bool.and_eq_true] at h;obtain ⟨⟨⟨h1,h2⟩,h3⟩,h4⟩:=h;split at h1
 . rename_i x hx;rw [beq_iff_eq] at h1;subst h1;exact ⟨hx,h2,ye3 h3,h4⟩
 . exact nb h1
noncomputable def mthk (K:Frag) (C:Addr) (name:Str) (f:Addr):Bool:=plainGet K C name && ydi f (findIn K (.ref C) name) && isFn K (.ref f) && keepIn K (.ref f)
theorem GMth.of {G:Gx} {C:Addr} {name:Str} {f:Addr} (h:mthk G.K C name f=true):GMth G C name f:=by
 unfold mthk at h;simp only [Bool.and_eq_true] at h;exact ⟨h.1.1.1,yc3 h.1.1.2,h.1.2,h.2⟩
section
variable {c:Cx} {m:ML} {H:MH} {G:Gx} {d:Nat}
theorem yk5 {v:PySem.Expr} {ts:List PySem.Expr} {n:Nat} {p:Pos} {env:Env} (h:yjs v=true):swappedStores [.Tuple ts n p] v env=pure none:=by
 cases v <;> first | ((first | exact nb h | cases h);done) | rfl
theorem TS.assignT (ok:Ok G c d) (hfm:c.fm=none) {is:List Nat} {a:CE} {post:Fl->ML->MH->Prop} (h:TE c m a H (fun v H1=>∃vs,ydm H1 is v vs/\post .next (ybk is vs m) H1)):TS c m (.assignT is a) H post:=by
 intro st hs;obtain ⟨hs,h5⟩:=and2 hs;obtain ⟨h1,h2,h3,h4⟩:=and4 hs;have h2:=of_decide_eq_true h2;intro mr ρ s Q E S l kk kx;have ht:yjs (reE a c.nm (ex 0 st))=true:=by
   cases a with
   | tup _=>exact nb h3
   | tst t=>have h2:=yef h5;cases t <;> first | rfl | exact nb h2
   | _=>rfl
 refine wpAny_Assign_stores ?_ (show swapsWith (reE a c.nm (ex 0 st)) (some (.Tuple (yau (atNm c.nm is) (kids (ex 1 st))) (ycm (ex 1 st)) (ex 1 st).pos)) st.pos.line c.env=pure false from yfb (yhy h5 (by simpa using h4))) (yk5 ht);refine h _ h5 mr ρ s _ E S l ?_ kx;rintro t v vr H1 hp1 tk1 ⟨vs,hp,hq⟩ hv S1;show wpAny _ _ (PySem.assign (.Tuple (yau (atNm c.nm is) (kids (ex 1 st))) (ycm (ex 1 st)) (ex 1 st).pos) c.env vr) _ _ _;refine yib ok hfm (is:=is) (s:={ s with heap:=hp1,toks:=tk1 }) h1 h2 hv hp S1 l.mono ?_;intro mr' h' tk S2 l2;exact kk t .next .next _ _ H1 h' tk hq rfl S2 l2
end
def Ext (H H':MH):Prop:=∀(i:Nat) (o:MO),H[i]?=some o->H'[i]?=some o
theorem Ext.refl (H:MH):Ext H H:=fun _ _ h=>h
theorem Ext.trans {A B C:MH} (h:Ext A B) (g:Ext B C):Ext A C:=fun i o e=>g i o (h i o e)
theorem ya7 {H t:MH} {i:Nat} {o:MO} (h:H[i]?=some o):(H++t)[i]?=some o:=by
 rw [getElem?_append_left (zgs h).1];exact h
theorem Ext.app {H H':MH} (h:Ext H H') (t:MH):Ext H (H'++t):=fun i o e=>ya7 (h i o e)
theorem Ext.set {H H':MH} {a:Nat} {o:MO} (h:Ext H H') (ha:H.length<=a):Ext H (H'.set a o):=fun i x e=>by
 have:=(zgs e).1;rw [getElem?_set_ne (by lia)];exact h i x e
theorem Ext.ins {H H':MH} (h:Ext H H') {i k:Nat} {C:Addr} {fs:List (Str×MV)} (x:Ins H i C k fs):Ins H' i C k fs:=⟨h _ _ x.1,h _ _ x.2⟩
theorem yaf {H:MH} {o:MO}:(H++[o])[H.length]?=some o:=by simp
theorem mulL {a b:Int} (h1:-(2 ^ 64)<a) (h2:a<2 ^ 64):IntMulOk a b:=IntMulOk.of_left (intBits_le_64 h1 h2)
theorem mulR {a b:Int} (h1:-(2 ^ 64)<b) (h2:b<2 ^ 64):IntMulOk a b:=IntMulOk.of_right (intBits_le_64 h1 h2)
theorem CL.use {G:Gx} {prog:Program} {w:World} {d d':Nat} {f:Addr} {args:List MV} {H:MH} {p q:MV->MH->Prop} {xp:Addr->List MV->MH->Prop} (h:CL G prog w d f args H p xp) (hd:d<=d') (hp:∀v H',p v H'->q v H') :
   CL G prog w d' f args H q xp:=(h.le hd).mono hp fun _ _ _ x=>x
theorem CL.useE {G:Gx} {prog:Program} {w:World} {d d':Nat} {f:Addr} {args:List MV} {H H1:MH} {v1:MV} {q:MV->MH->Prop} {xp:Addr->List MV->MH->Prop} (h:CL G prog w d f args H (fun v H'=>v=v1/\H'=H1) xp) (hd:d<=d') (hp:q v1 H1) :
   CL G prog w d' f args H q xp:=h.use hd fun _ _ e=>by rw [e.1,e.2];exact hp
theorem ytq {H:MH} {a b:MO}:(H++[a]).set H.length b=H++[b]:=by simp
theorem yhc:bootBuiltins "len"=some (.builtin "len"):=by kernel_rfl
theorem yuq:bootBuiltins "max"=some (.builtin "max"):=by kernel_rfl
theorem yuz:bootBuiltins "min"=some (.builtin "min"):=by kernel_rfl
theorem yux:bootBuiltins "sum"=some (.builtin "sum"):=by kernel_rfl
theorem yls:bootBuiltins "list"=some (.type "list"):=by kernel_rfl
theorem ynd:bootBuiltins "int"=some (.type "int"):=by kernel_rfl
structure Bs (G:Gx):Prop where
 len:nsIn G.K mainGlobals "len"=some none
 max:nsIn G.K mainGlobals "max"=some none
 min:nsIn G.K mainGlobals "min"=some none
 sum:nsIn G.K mainGlobals "sum"=some none
 list:nsIn G.K mainGlobals "list"=some none
 range:nsIn G.K mainGlobals "range"=some none
 reversed:nsIn G.K mainGlobals "reversed"=some none
 type:nsIn G.K mainGlobals "type"=some none
 int:nsIn G.K mainGlobals "int"=some none
 str:nsIn G.K mainGlobals "str"=some none
theorem ypl {ns:List Int} {i:Nat} {v:MV} (h:(intL ns)[i]?=some v):∃a,v=.int a/\ns[i]?=some a:=by
 unfold intL at h;rw [getElem?_map] at h;cases e:ns[i]? with
 | none=>rw [e] at h;exact no h
 | some a=>rw [e] at h;(replace h:=si h;subst h);exact ⟨a,rfl,rfl⟩
theorem yn5 {α β:Type} {f:β->α->β} {b:β} {l:List α} {i:Nat} {a:α} (h:l[i]?=some a):(l.take (i+1)).foldl f b=f ((l.take i).foldl f b) a:=by
 rw [List.take_add_one,h,List.foldl_append];rfl
noncomputable def bmV:List Value:=[.type "ValueError",.type "Exception",.type "BaseException",.type "object"]
noncomputable def excK (K:Frag) (g:Str) (C:Addr):Bool:=ydi C (nsIn K mainGlobals g) && excIn K C bmV "ValueError.__new__"
theorem GExc.of {G:Gx} {g:Str} {C:Addr} (h:excK G.K g C=true):GExc G g C bmV:=by
 unfold excK at h;simp only [Bool.and_eq_true] at h;exact ⟨yc3 h.1,"ValueError","ValueError.__new__","ValueError.__init__",bmV,"ValueError","ValueError.__new__","ValueError.__init__",PySem.F.excBase_ValueError,by decide +kernel,PySem.F.excBase_ValueError,h.2⟩
def Scr (c:Cx) (a:Addr) (ns:List Int):Prop:=∃vs:List Value,c.h₀.IsList a vs.toArray/\IntsAre vs ns/\ns.length<=63
theorem yex {vs:List Value} {ns:List Int} (h:IntsAre vs ns):vs.length=ns.length:=by
 induction h with
 | nil=>rfl
 | cons _ _ _ ih=>simp [ih]
theorem yli {vs:List Value} {ns:List Int} (h:IntsAre vs ns):∀n,n<ns.length->∃t,vs[n]?=some (.int (ns.getD n 0) t):=by
 induction h with
 | nil=>intro n hn;exact absurd hn (Nat.not_lt_zero _)
 | cons i t _ ih=>
   intro n hn;cases n with
   | zero=>exact ⟨t,rfl⟩
   | succ n=>exact ih n (by exact Nat.lt_of_succ_lt_succ hn)
theorem Scr.len {c:Cx} {H:MH} {a:Addr} {ns:List Int} (S:Scr c a ns) {post:MV->MH->Prop} (h:post (.int ns.length) H):BC c (.builtin "len") [.glob a] H post:=by
 obtain ⟨vs,Z1⟩:=S;haveI h1:=(zl Z1);haveI h2:=(zl (zr Z1));haveI h3:=(zr (zr Z1));clear Z1;haveI:=yex h2;exact BC.lenG h1 (by exact qf39 h3 this) (by rw [this];exact h)
theorem Scr.at {c:Cx} {H:MH} {a:Addr} {ns:List Int} (S:Scr c a ns) {n:Int} (h0:0<=n) (h:n<ns.length):Sq c H (.glob a) (.int n) (.int (ns.getD n.toNat 0)):=by
 obtain ⟨vs,Z1⟩:=S;haveI h1:=(zl Z1);haveI h2:=(zl (zr Z1));haveI h3:=(zr (zr Z1));clear Z1;haveI hl:=yex h2;obtain ⟨t,ht⟩:=yli h2 n.toNat (by exact qf40 h0 h);exact Sq.glob h1 h0 (by exact qf39 h3 hl) ht
def ScrG (G:Gx) (a:Addr) (ns:List Int):Prop:=∀h,G.ex h->∃vs:List Value,h.IsList a vs.toArray/\IntsAre vs ns/\ns.length<=63
theorem ScrG.scr {G:Gx} {a:Addr} {ns:List Int} {c:Cx} {d:Nat} (S:ScrG G a ns) (ok:Ok G c d):Scr c a ns:=S _ ok.ex
section
variable {c:Cx} {m:ML} {H:MH} {G:Gx} {d:Nat}
theorem Sq.tup {a:Nat} {xs:List MV} {n:Nat} {v:MV} (ha:H[a]?=some (.tup xs)) (hn:xs.length<=1000000) (hv:xs[n]?=some v):Sq c H (.ref a) (.int (n:Nat)) v:=by
 rintro mr ρ s Q E _ _ base sl hsl S ⟨x,hx,rfl⟩ ⟨u,rfl⟩ k;obtain ⟨vs,Z1⟩:=S.tup ha hx;haveI hvs:=(zl Z1);haveI T:=(zr Z1);clear Z1;obtain ⟨vr,Z2⟩:=hvs.get hv;haveI e1:=(zl Z2);haveI e2:=(zr Z2);clear Z2;haveI hlt:=(zgs hv).1;haveI hlen:vs.toArray.size=xs.length:=by rw [size_toArray,hvs.length]
 refine tail_any T.typeIs slot_tuple_getitem.lookup (getItem_tuple (j:=n) T (by lia) (by lia) (by rw [hlen];unfold seqIndex?;simp;lia) (by simpa using e1) (k vr _ e2)) (ybe (nm:=[]) (sc:=c.sc) hsl _ _)
theorem BC.lenI {a:Nat} {ns:List Int} {post:MV->MH->Prop} (ha:H[a]?=some (.list (intL ns))) (hsz:ns.length<=1000000) (h:post (.int ns.length) H):BC c (.builtin "len") [.ref a] H post:=
 BC.len ha (by rw [length_map];exact hsz) (by rw [length_map];exact h)
theorem yrr {ns:List Int} {n:Nat} (h:n<ns.length):(intL ns)[n]?=some (.int (ns.getD n 0)):=by
 rw [getElem?_map,getElem?_eq_getElem h,getD_eq_getElem?_getD,getElem?_eq_getElem h];rfl
theorem Sq.listI {a:Nat} {ns:List Int} {n:Int} (ha:H[a]?=some (.list (intL ns))) (hsz:ns.length<=1000000) (h0:0<=n) (h1:n<ns.length):Sq c H (.ref a) (.int n) (.int (ns.getD n.toNat 0)):=
 Sq.list ha ⟨by rw [length_map];exact hsz,.inl ⟨h0,yrr (by exact qf40 h0 h1)⟩⟩
abbrev qLen (c:Cx) (post:MV->MH->Prop) (v:MV) (H:MH):Prop:=BC c (.builtin "len") [v] H post
theorem TE.len (ok:Ok G c d) (b:Bs G) {a:CE} {post:MV->MH->Prop} (h:TE c m a H (qLen c post)):TE c m (.call "len" (.cons a .nil)) H post:=
 TE.bc ok b.len yhc (by decide) (TEs.cons (h.mono fun _ _ x=>TEs.nil x))
theorem TE.blist (ok:Ok G c d) (b:Bs G) {a:CE} {post:MV->MH->Prop} (h:TE c m a H (fun v H1=>BC c (.type "list") [v] H1 post)):TE c m (.call "list" (.cons a .nil)) H post:=
 TE.tc ok b.list yls (by decide) (TEs.cons (h.mono fun _ _ x=>TEs.nil x))
end
theorem yfc:bootBuiltins "str"=some (.type "str"):=by kernel_rfl
section
variable {c:Cx} {m:ML} {H:MH} {G:Gx} {d:Nat}
theorem BC.strI {i:Int} {post:MV->MH->Prop} (hi:i.natAbs<2 ^ 1000) (h:∀x:Str,x=Str.ofString (toString i)->x.length<=2000->post (.str x) H):BC c (.type "str") [.int i] H post:=by
 intro mr ρ s Q E vs S hv k;obtain ⟨v,rfl,t,rfl⟩:=yaw hv;have hl:i.natAbs.log2<1920:=by
   rcases Nat.eq_zero_or_pos i.natAbs with e | e
   . rw [e];decide
   . exact (Nat.log2_lt (by exact Nat.ne_of_gt ‹_›)).mpr (Nat.lt_of_lt_of_le hi (Nat.pow_le_pow_right (by decide) (by decide)))
 refine P.str_of_int hl ?_;exact k [] _ _ H s.heap _ (h _ rfl (Nat.le_trans (int_text_len_1921 hl) (by decide))) ⟨_,rfl⟩ (yac S)
abbrev qStr (c:Cx) (post:MV->MH->Prop) (v:MV) (H:MH):Prop:=BC c (.type "str") [v] H post
theorem TE.bstr (ok:Ok G c d) (b:Bs G) {a:CE} {post:MV->MH->Prop} (h:TE c m a H (qStr c post)):TE c m (.call "str" (.cons a .nil)) H post:=
 TE.tc ok b.str yfc (by decide) (TEs.cons (h.mono fun _ _ x=>TEs.nil x))
noncomputable def fm' (ns:List Int):List Int:=firstMet (fun i=>ns.getD i 0) ns.length
theorem BC.set (hh:c.A.handled=none) {a:Nat} {ns:List Int} {post:MV->MH->Prop} (ha:H[a]?=some (.list (intL ns))) (hsz:ns.length<=1000) (h:post (.ref H.length) (H++[.setN (fm' ns).length])):BC c (.type "set") [.ref a] H post:=by
 intro mr ρ s Q E vs S hv k;obtain ⟨v,rfl,x,hx,rfl⟩:=yaw hv;obtain ⟨ws,ep,hws,No⟩:=S.list ha hx;have hi:=yds hws;have hlen:ws.toArray.size=ns.length:=by rw [size_toArray,hws.length,length_map]
 refine S.op fun ml xt os F a1 a2 a3 N a5 back=>?_;refine call_set_list hh (yad No) (ns:=ns) (by exact hi) (by rw [hlen];exact Nat.lt_of_le_of_lt (Nat.add_le_add_right hsz 1) (by decide)) ?_;intro h' tk hS hk;rw [hlen] at hS;obtain ⟨o,ho,hso⟩:=hS.objOf;have hk':∀b o,s.heap.get? b=some o->h'.get? b=some o:=fun b o e=>hk b o (Heap.lt_size e) e;have N':News c.h₀ c.L h' ((s.heap.objs.size,o) :: (xt++ρ.zip os)):=fun p hp=>by
   rcases zmc hp with rfl | hp
   . refine ⟨ho,Nat.ne_of_gt F.ns.lt,?_⟩;cases e:c.h₀.get? s.heap.objs.size with
     | none=>rfl
     | some o'=>exact absurd (Heap.lt_size (F.keep _ o' e)) (Nat.lt_irrefl _)
   . exact ⟨hk' _ _ (N p hp).1,(N p hp).2⟩
 exact k [s.heap.objs.size] (.ref H.length) _ _ h' tk h ⟨_,yag a2,rfl⟩ (back _ _ _ (Led.alloc a1 a2 a3 a5 (F.keeps hk') N' (fun p hp=>Nat.ne_of_lt (Heap.lt_size (N p hp).1)) ⟨_,hso⟩))
theorem BC.lenN {a n:Nat} {post:MV->MH->Prop} (ha:H[a]?=some (.setN n)) (hsz:n<=1000000) (h:post (.int n) H):BC c (.builtin "len") [.ref a] H post:=by
 intro mr ρ s Q E vs S hv k;obtain ⟨v,Z1⟩:=yaw hv;haveI Z2:=(zl Z1);subst Z2;obtain ⟨x,Z3⟩:=(zr Z1);haveI Z4:=(zr Z3);subst Z4;haveI hx:=(zl Z3);clear Z3 Z1;obtain ⟨y,o,Z5⟩:=S.get ha;obtain ⟨S',hso⟩:=(zl (zr Z5));haveI hy:=(zl Z5);haveI No:=(zr (zr Z5));clear Z5;rw [hx] at hy
 (replace hy:=si hy;subst hy)
 haveI Z6:=hso;clear hso;obtain ⟨es,ep,t,Z7⟩:=(zr Z6);haveI hex:=(zl Z6);haveI hd:=(zl Z7);haveI hn:=(zl (zr (zr (zr Z7))));haveI hf:=(zr (zr (zr (zr Z7))));clear Z7 Z6;subst hn;exact call_len_set (No _ (.head _)).1 hex hd hf (by exact qf18 hsz) (k [] _ _ H s.heap _ h ⟨_,rfl⟩ (yac S))
theorem Cq.inI {a:Nat} {ns:List Int} {k:Int} (ha:H[a]?=some (.list (intL ns))):Cq c .In H (.int k) (.ref a) (ns.any (·==k)):=by
 rintro mr ρ s Q E _ _ S ⟨t,rfl⟩ ⟨x,hx,rfl⟩ kk;obtain ⟨vs,n,hv,N⟩:=S.list ha hx;exact in_list_ints (yad N) (yds hv) (kk s.heap s.toks S)
theorem TT.cqIn {a b:CE} {post:Bool->MH->Prop} (h:TE c m a H (qCq c m .In b post)):TT c m (.cmp .In a b) H post:=TT.cq h
theorem TT.cqNI {a b:CE} {post:Bool->MH->Prop} (h:TE c m a H (qCq c m .NotIn b post)):TT c m (.cmp .NotIn a b) H post:=TT.cq h
theorem Cq.ninI {a:Nat} {ns:List Int} {k:Int} (ha:H[a]?=some (.list (intL ns))):Cq c .NotIn H (.int k) (.ref a) (!(ns.any (·==k))):=by
 rintro mr ρ s Q E _ _ S ⟨t,rfl⟩ ⟨x,hx,rfl⟩ kk;obtain ⟨vs,n,hv,N⟩:=S.list ha hx;exact notin_list_ints (yad N) (yds hv) (kk s.heap s.toks S)
end
abbrev strL (ys:List Str):List MV:=ys.map MV.str
theorem yj8 {ρ:List Addr}:∀{ys:List Str} {vs:List Value},VRs ρ (strL ys) vs->StrsAre vs ys:=by
 intro ns
 induction ns with
 | nil=>intro vs h;rw [show vs=[] from h];exact .nil
 | cons n ns ih=>
   intro vs h;obtain ⟨v,r,e,⟨t,h1⟩,h2⟩:=h;subst e h1;exact .cons _ _ (ih h2)
section
variable {c:Cx} {m:ML} {H:MH} {G:Gx} {d:Nat}
theorem Sq.str {x:Str} {n:Int} {ch:Nat} (h0:0<=n) (hl:x.length<=1000000) (hc:x.cps[n.toNat]?=some ch):Sq c H (.str x) (.int n) (.str ⟨#[ch]⟩):=by
 rintro mr ρ s Q E _ _ base sl hsl S ⟨t,rfl⟩ ⟨u,rfl⟩ k;haveI hlt:n.toNat<x.cps.size:=(Array.getElem?_eq_some_iff.mp hc).1;haveI hx:x.length=x.cps.size:=rfl;refine tail_any (typeIs_str s x t) PyProof.Rows.slot_str_getitem.lookup (PyProof.Rows.getItem_str (c:=ch) ?_ ?_ (k _ _ ⟨_,rfl⟩)) (ybe (nm:=[]) (sc:=c.sc) hsl _ _)
 . haveI h1:¬n < -(2 ^ 63:Int):=by lia
   haveI h2:¬n>=2 ^ 63:=by lia
   rw [decide_eq_false h1,decide_eq_false h2];rfl
 . unfold seqIndex?;haveI h1:¬n<0:=by exact Int.not_lt.mpr ‹_›
   haveI h2:(decide (0<=n) && decide (n<(x.length:Int)))=true:=by simp;lia
   simp only [if_neg h1,h2,if_true];exact hc
theorem Cq.inS {ch:Nat} {x:Str}:Cq c .In H (.str ⟨#[ch]⟩) (.str x) (decide (ch ∈ x.cps.toList)):=by
 rintro mr ρ s Q E _ _ S ⟨t,rfl⟩ ⟨u,rfl⟩ k;refine PyProof.Rows.in_str ?_;rw [empty_one];simpa using k s.heap s.toks S
theorem Cq.ninS {ch:Nat} {x:Str}:Cq c .NotIn H (.str ⟨#[ch]⟩) (.str x) (!decide (ch ∈ x.cps.toList)):=by
 rintro mr ρ s Q E _ _ S ⟨t,rfl⟩ ⟨u,rfl⟩ k;refine PyProof.Rows.notIn_str ?_;rw [empty_one];simpa using k s.heap s.toks S
theorem Cq.inTS {a:Nat} {ys:List Str} {x:Str} (ha:H[a]?=some (.tup (strL ys))):Cq c .In H (.str x) (.ref a) (ys.any (·==x)):=by
 rintro mr ρ s Q E _ _ S ⟨t,rfl⟩ ⟨y,hy,rfl⟩ k;obtain ⟨vs,hv,T⟩:=S.tup ha hy;exact in_tuple_strs T (by simpa using yj8 hv) (k s.heap s.toks S)
theorem NX.str {I:Addr} {x:Str} {t:Tok} {ρ:List Addr} (hh:c.A.handled=none) :
   NX c I (fun i o=>o.cls=.type "str_ascii_iterator"/\o.data=.fields #[.str x t,.int i 0]) (fun _=>True) (fun i _=>(x.cps[i]?).map fun ch=>.str ⟨#[ch]⟩) ρ:=by
 rintro i oI mr t' H s Q E ⟨hc,hd⟩ _ S k1 k2;haveI hit:s.heap.IsStrIter I "str_ascii_iterator" x t i:=⟨oI,S.itr.1,hc,hd⟩;cases hx:x.cps[i]? with
 | some ch=>
   refine wpAny_pyNext_ascii_item hit hx fun h' hit' hs'=>?_;obtain ⟨o',Z1⟩:=hit';haveI ho':=(zl Z1);haveI hc':=(zl (zr Z1));haveI hd':=(zr (zr Z1));clear Z1;exact k1 (.str ⟨#[ch]⟩) _ o' h' _ (by show Option.map _ x.cps[i]?=_;rw [hx];rfl) ⟨_,rfl⟩ ⟨hc',hd'⟩ ho' fun b o hb e=>(hs'.2 b hb).trans e
 | none=>exact wpAny_pyNext_ascii_end hh hit hx fun h' he'=>k2 h' s.toks (by show Option.map _ x.cps[i]?=_;rw [hx];rfl) fun b o hb e=>he' b o hb e
theorem TS.forS (ok:Ok G c d) (hfm:c.fm=none) {i0:Nat} {it:CE} {b:CSs} {post:Fl->ML->MH->Prop}
   (h:TE c m it H (fun v H1=>∃x:Str,v=.str x/\x.cps.all (·<128)=true/\∃(J:Nat->ML->MH->Prop),J 0 m H1/\
     (∀i m1 H2 ch xt,J i m1 H2->x.cps[i]?=some ch->TB (c.wx xt) (ybk [i0] [.str ⟨#[ch]⟩] m1) b H2 (fun f m2 H3=>match f with
       | .next=>J (i+1) m2 H3
       | .cont=>J (i+1) m2 H3
       | .brk=>post .next m2 H3
       | .ret v=>post (.ret v) m2 H3))/\
     (∀m1 H2,J x.cps.size m1 H2->post .next m1 H2))):TS c m (.for [i0] it b) H post:=by
 intro st hs;haveI Z1:=and4 hs;haveI h0:=(zl Z1);haveI h1:=(zl (zr Z1));haveI h2:=(zl (zr (zr Z1)));haveI h3:=(zr (zr (zr Z1)));clear Z1;haveI h0:=yhl h0;intro mr ρ s Q E S lr k kx;refine wpAny_For ?_ (ycb h2);refine h _ h2 mr ρ s _ E S lr ?_ kx;rintro t l lv H1 hp1 tk1 ⟨x,rfl,hasc,J,hJ0,turn,done⟩ ⟨u,rfl⟩ S1;refine wpAny_pyIter_ascii hasc ?_;refine ydo (post:=post) ok hfm h0 h1 h3 (NX.str (x:=x) (t:=u) ok.hh) (fun i o hT=>⟨_,_,hT.1,hT.2,rfl⟩) (fun i m2 H2=>i<=x.cps.size/\J i m2 H2) x.cps.size ⟨Nat.zero_le _,hJ0⟩ (fun i m2 H2 q=>⟨q.1,trivial⟩) ?_ ?_ (mr:=mr) ⟨rfl,rfl⟩ (S1.addX rfl) lr.mono ?_ kx.mono
 . intro i m1 H2 v xt q hi;cases hx:x.cps[i]? with
   | none=>replace hi:Option.map _ x.cps[i]?=_:=hi;rw [hx] at hi;exact no hi
   | some ch=>
     replace hi:Option.map _ x.cps[i]?=_:=hi;rw [hx] at hi
     (replace hi:=si hi;subst hi)
     haveI hlt:=(Array.getElem?_eq_some_iff.mp hx).1;refine ⟨[.str ⟨#[ch]⟩],rfl,(turn i m1 H2 ch xt q.2 hx).mono fun f m2 H3 hf=>?_⟩;cases f with
     | next=>exact ⟨hlt,hf⟩
     | cont=>exact ⟨hlt,hf⟩
     | brk=>exact hf
     | ret v=>exact hf
 . intro i m1 H2 q hi;cases hx:x.cps[i]? with
   | some ch=>replace hi:Option.map _ x.cps[i]?=_:=hi;rw [hx] at hi;exact ns hi
   | none=>
     haveI:i=x.cps.size:=Nat.le_antisymm q.1 (Array.getElem?_eq_none_iff.mp hx);exact done m1 H2 (this ▸ q.2)
 . intro t' f fr m' mr' H' h' tk hp hf S' l';rw [append_assoc] at hf S' l';exact k (t++t') f fr m' mr' H' h' tk hp hf S' l'
end
inductive RD (H:MH):MV->PyData->Prop where
 | none:RD H .none .none
 | bool {b:Bool}:RD H (.bool b) (.bool b)
 | int {i:Int}:RD H (.int i) (.int i)
 | str {x:Str}:RD H (.str x) (.str x)
 | list {a:Nat} {xs:List MV} {ds:List PyData} (h:H[a]?=some (.list xs)) (hl:xs.length=ds.length) (hd:∀(k:Nat) (v:MV) (d:PyData),xs[k]?=some v->ds[k]?=some d->RD H v d):RD H (.ref a) (.list ds)
 | tup {a:Nat} {xs:List MV} {ds:List PyData} (h:H[a]?=some (.tup xs)) (hl:xs.length=ds.length) (hd:∀(k:Nat) (v:MV) (d:PyData),xs[k]?=some v->ds[k]?=some d->RD H v d):RD H (.ref a) (.tuple ds)
theorem yd7 {h:Heap} {ρ:List Addr}:∀{xs:List MV} {vs:List Value} {ds:List PyData},VRs ρ xs vs->xs.length=ds.length->(∀(k:Nat) (v:MV) (d:PyData) (vr:Value),xs[k]?=some v->ds[k]?=some d->VR ρ v vr->∃as,Reads h vr d as)->∃as,ReadsAll h vs ds as:=@fun zd1 zd2 zd3 zd4=>@(match zd1,zd2,zd3,zd4 with
 | [],vs,[],hv=>fun zz zz=>⟨[],by rw [show vs=[] from hv];exact .nil⟩
 | [],_,_ :: _,_=>fun hl zz=>by cases hl
 | _ :: _,_,[],_=>fun hl zz=>by cases hl
 | x :: xs,_,d :: ds,⟨v,r,e,h1,h2⟩=>fun hl hk=>by
   subst e;obtain ⟨as,ha⟩:=hk 0 x d v rfl rfl h1;obtain ⟨bs,hb⟩:=yd7 h2 (by exact Nat.succ.inj hl) fun k v d vr e1 e2 h3=>hk (k+1) v d vr (by exact e1) (by exact e2) h3;exact ⟨_,.cons ha hb⟩)
section
variable {c:Cx} {m:ML} {H:MH} {G:Gx} {d:Nat}
theorem RD.reads {v:MV} {dt:PyData} (hr:RD H v dt) {mr:Str->Option Value} {ρ:List Addr} {h:Heap} (S:St c mr ρ H h):∀{vr:Value},VR ρ v vr->∃as,Reads h vr dt as:=by
 induction hr with
 | none=>intro vr hv;rw [show vr=_ from hv];exact ⟨_,.none⟩
 | bool=>intro vr hv;rw [show vr=_ from hv];exact ⟨_,.bool _⟩
 | int=>rintro _ ⟨t,rfl⟩;exact ⟨_,.int _ _⟩
 | str=>rintro _ ⟨t,rfl⟩;exact ⟨_,.str _ _⟩
 | list ha hl hd ih=>
   rintro _ ⟨x,hx,rfl⟩;obtain ⟨vs,n,Z1⟩:=S.list ha hx;haveI hvs:=(zl Z1);haveI No:=(zr Z1);clear Z1;obtain ⟨as,hA⟩:=yd7 (h:=h) hvs hl fun k v d vr e1 e2 h3=>ih k v d e1 e2 h3;exact ⟨_,.list (No _ (.head _)).1 rfl rfl hA⟩
 | tup ha hl hd ih=>
   rintro _ ⟨x,hx,rfl⟩;obtain ⟨vs,Z2⟩:=S.tup ha hx;obtain ⟨o,Z3⟩:=(zr Z2);obtain ⟨n,hdat⟩:=(zr (zr Z3));haveI hvs:=(zl Z2);haveI ho:=(zl Z3);haveI hc:=(zl (zr Z3));clear Z3 Z2;obtain ⟨as,hA⟩:=yd7 (h:=h) hvs hl fun k v d vr e1 e2 h3=>ih k v d e1 e2 h3;exact ⟨_,.tuple ho hc hdat hA⟩
theorem Cq.eqD (ok:Ok G c d) {a b:MV} {da db:PyData} (ha:RD H a da) (hb:RD H b db) (sa:PySem.SeqAt.shaped da=true) (sb:PySem.SeqAt.shaped db=true):Cq c .Eq H a b (PyData.eqv da db):=by
 intro mr ρ s Q E va vb S h1 h2 k;obtain ⟨as,r1⟩:=ha.reads S h1;obtain ⟨bs,r2⟩:=hb.reads S h2;exact eq_dataH r1 r2 sa sb (by have:=ok.uni;exact qf44 this) (k s.heap s.toks S)
theorem Cq.neD (ok:Ok G c d) {a b:MV} {da db:PyData} (ha:RD H a da) (hb:RD H b db) (sa:PySem.SeqAt.shaped da=true) (sb:PySem.SeqAt.shaped db=true):Cq c .NotEq H a b (!PyData.eqv da db):=by
 intro mr ρ s Q E va vb S h1 h2 k;obtain ⟨as,r1⟩:=ha.reads S h1;obtain ⟨bs,r2⟩:=hb.reads S h2;exact ne_dataH r1 r2 sa sb (by have:=ok.uni;exact qf44 this) (k s.heap s.toks S)
def TO (c:Cx) (m:ML) (a:CO) (H:MH) (post:Option Int->MH->Prop):Prop:=match a with
 | .none=>post Option.none H
 | .some e=>TE c m e H (fun v H1=>∃i,v=.int i/\post (some i) H1)
theorem ylk {a:CO} {e:PySem.Expr} {post:Option Int->MH->Prop} {mr:Str->Option Value} {ρ:List Addr} {s:Shared} {Q:Value->Shared->Prop} {E:Value->Shared->Prop} (h:TO c m a H post) (he:wfO a c.nm c.sc e=true) (S:St c mr ρ H s.heap) (l:LR mr c.nm ρ m) (kx:Kx c ρ s E)
   (k:∀t o vr H' h' tk,post o H'->IsPart vr o->St c mr (ρ++t) H' h'->Q vr { s with heap:=h',toks:=tk }):wpAny (model c.prog c.w) c.A (evalPart (reO a c.nm e) c.env) Q E s:=by
 cases a with
 | none=>exact wpAny_pure (k [] Option.none _ H s.heap s.toks h .none (yac S))
 | some a=>
   refine h _ he mr ρ s _ E S l ?_ kx;rintro t _ _ H1 h1 tk1 ⟨i,rfl,hp⟩ ⟨u,rfl⟩ S1;exact k t (some i) _ H1 h1 tk1 hp (.int i u) S1
theorem TE.sliceQ {o:CE} {lo hi:CO} {post:MV->MH->Prop} (h:TE c m o H (fun x H1=>TO c m lo H1 (fun l H2=>TO c m hi H2 (fun u H3=>
     ∀(mr:Str->Option Value) (ρ:List Addr) (s:Shared) (Q:Value->Shared->Prop) (E:Value->Shared->Prop) (vo vl vu:Value) (base:PySem.Expr) (lw up:Option PySem.Expr) (p:Pos),St c mr ρ H3 s.heap->VR ρ x vo->IsPart vl l->IsPart vu u->
       (∀t v vr H' h' tk,post v H'->VR (ρ++t) v vr->St c mr (ρ++t) H' h'->Q vr { s with heap:=h',toks:=tk })->
       wpAny (model c.prog c.w) c.A (subscriptTail base (.Slice lw up Option.none p) vo (.ref s.heap.objs.size)) Q E { s with heap:=s.heap.push { cls:=.type "slice",data:=.fields #[vl,vu,.none] } })))):TE c m (.slice o lo hi) H post:=by
 intro e he;haveI Z1:=and3 he;haveI h1:=(zl Z1);haveI h2:=(zl (zr Z1));haveI h3:=(zr (zr Z1));clear Z1;intro mr ρ s Q E S l k kx;refine Subscript_ ?_;refine h _ h1 mr ρ s _ E S l ?_ kx;intro t x xr H1 hp1 tk1 h12 hx S1;refine wpAny_Slice ?_;refine ylk (s:={ s with heap:=hp1,toks:=tk1 }) h12 h2 S1 l.mono kx.mono ?_;intro t2 lo' vl H2 hp2 tk2 h23 pl S2;refine ylk (s:={ s with heap:=hp2,toks:=tk2 }) h23 h3 S2 l.mono.mono kx.mono.mono ?_;intro t3 hi' vu H3 hp3 tk3 h34 pu S3;refine wpAny_pure ?_;refine h34 mr _ { s with heap:=hp3,toks:=tk3 } _ E _ vl vu _ _ _ _ S3 hx.mono.mono pl pu ?_;intro t4 v vr H' h' tk hp hv S4;haveI e1:ρ++t++t2++t3++t4=ρ++(t++(t2++(t3++t4))):=by simp only [append_assoc]
 rw [e1] at hv S4;exact k _ v vr H' h' tk hp hv S4
end
theorem VRs.take {ρ:List Addr}:∀{ms:List MV} {vs:List Value} (k:Nat),VRs ρ ms vs->VRs ρ (ms.take k) (vs.take k)
 | [],_,k,h=>by rw [show _=[] from h];cases k <;> rfl
 | _ :: _,_,0,h=>rfl
 | _ :: _,_,k+1,⟨v,r,e,h1,h2⟩=>by subst e;exact ⟨v,r.take k,rfl,h1,h2.take k⟩
theorem VRs.drop {ρ:List Addr}:∀{ms:List MV} {vs:List Value} (k:Nat),VRs ρ ms vs->VRs ρ (ms.drop k) (vs.drop k)
 | [],_,k,h=>by rw [show _=[] from h];cases k <;> rfl
 | _ :: _,_,0,h=>h
 | _ :: _,_,k+1,⟨v,r,e,h1,h2⟩=>by subst e;exact h2.drop k
section
variable {c:Cx} {m:ML} {H:MH} {G:Gx} {d:Nat}
theorem ygl {mr:Str->Option Value} {ρ:List Addr} {s:Shared} {Q:Value->Shared->Prop} {E:Value->Shared->Prop} {a:Nat} {xs ys:List MV} {vo vl vu:Value} {lo hi:Option Int} {base:PySem.Expr} {lw up:Option PySem.Expr} {p:Pos} {post:MV->MH->Prop}
   (S:St c mr ρ H s.heap) (ho:VR ρ (.ref a) vo) (ha:H[a]?=some (.list xs)) (hl:xs.length<=1000000) (pl:IsPart vl lo) (pu:IsPart vu hi) (hy:∀vs:List Value,VRs ρ xs vs->VRs ρ ys (slicePick vs.toArray lo hi none).toList) (hp:post (.ref H.length) (H++[.list ys]))
   (k:∀t v vr H' h' tk,post v H'->VR (ρ++t) v vr->St c mr (ρ++t) H' h'->Q vr { s with heap:=h',toks:=tk }) :
   wpAny (model c.prog c.w) c.A (subscriptTail base (.Slice lw up Option.none p) vo (.ref s.heap.objs.size)) Q E { s with heap:=s.heap.push { cls:=.type "slice",data:=.fields #[vl,vu,.none] } }:=by
 obtain ⟨x,Z1⟩:=ho;haveI Z2:=(zr Z1);subst Z2;haveI hx:=(zl Z1);clear Z1;obtain ⟨vs,n,Z3⟩:=S.list ha hx;haveI hvs:=(zl Z3);haveI No:=(zr Z3);clear Z3;haveI L:=yad No;haveI S1:St c mr ρ H (s.heap.push { cls:=.type "slice",data:=.fields #[vl,vu,.none] }):=S.grow fun b o q=>Heap.get?_push_of_some _ q;refine S1.op fun ml xt os F a1 a2 a3 N a5 back=>?_;refine tail_any (Heap.IsList.typeIs (s:={ s with heap:=s.heap.push { cls:=.type "slice",data:=.fields #[vl,vu,.none] } }) (L.push _)) slot_list_getitem.lookup (wpAny_getItem_list_slice (L.push _) (Heap.IsSliceOf.new ..) pl pu .none (by exact fun h=>nomatch h) ?_ (by rw [size_toArray,hvs.length];exact Nat.le_trans hl (by decide))) rfl;haveI N1:=News.push F N { cls:=.type "list",data:=.seq (slicePick vs.toArray lo hi none) } rfl;haveI e1:(slicePick vs.toArray lo hi none)=(slicePick vs.toArray lo hi none).toList.toArray:=by rfl
 exact k [_] (.ref H.length) _ _ _ _ hp ⟨_,yag a2,rfl⟩ (back _ _ _ (Led.alloc a1 a2 a3 a5 (F.push _) N1 (fun p hp=>Nat.ne_of_lt (Heap.lt_size (N p hp).1)) ⟨_,0,(hy vs hvs).mono,by rw [<-e1]⟩))
end
theorem yko:typeLookup (.type "list") "keys"=pure none:=by rw [typeLookup_type,builtinLookup_eq_fast];kernel_rfl
theorem ygz:typeLookup (.type "list") "__getattr__"=pure none:=by rw [typeLookup_type,builtinLookup_eq_fast];kernel_rfl
theorem yjc:isSubtype (.type "AttributeError") (.type "AttributeError")=pure true:=by rw [isSubtype_type];kernel_rfl
noncomputable def excO (x:Value) (ms:Array Value):Obj:={ cls:=.type "AttributeError",data:=.fields (#[x,.none,.none,.none,.bool false,.none]++ms) }
section
variable {prog:Program} {w:World} {A:Around} {E:Value->Shared->Prop} {h:Heap} {g:Array GenState} {d:Drawn} {t:Nat} {os:OsState} {a:Addr} {vs:Array Value} {n:Nat}
theorem yn0 {e:Addr} {x o name:Value} {Q:Unit->Shared->Prop} (hx:h.get? e=some (excO x #[unsetMember,unsetMember]))
   (hq:∀h',Heap.SameBut e h h'->h'.get? e=some (excO x #[name,o])->Q () ⟨h',g,d,t,os⟩):wpAny (model prog w) A (noteAttr (.ref e) o name) Q E ⟨h,g,d,t,os⟩:=by
 have hT:(⟨h,g,d,t,os⟩:Shared).TypeIs (.ref e) "AttributeError":=⟨_,hx,rfl⟩;unfold noteAttr lacksNameAndObj;refine wpAny_bind (wpAny_bind (wpAny_isInstance hT yjc ?_));simp only [Bool.not_true,Bool.false_eq_true,if_false];refine wpAny_bind (wpAny_load hx ?_);simp only [excO];have e1:(#[x,Value.none,Value.none,Value.none,Value.bool false,Value.none]++#[unsetMember,unsetMember]:Array Value)[6]?=some unsetMember:=rfl;have e2:(#[x,Value.none,Value.none,Value.none,Value.bool false,Value.none]++#[unsetMember,unsetMember]:Array Value)[7]?=some unsetMember:=rfl;rw [e1,e2];rw [if_neg (by decide),if_neg (by decide)];refine wpAny_pure ?_;rw [if_pos rfl];refine wpAny_bind (wpAny_rule (wpAny_bind (wpAny_typeOf hT ?_)));show wpAny _ _ (layMembers e 6 #[name,o]) _ _ _;unfold layMembers;refine wpAny_bind (wpAny_load hx ?_);simp only [excO];refine wpAny_update hx ?_;refine hq _ (Heap.SameBut.update ..) ?_;rw [Heap.get?_update_self _ hx rfl];rfl
theorem ymq {Q:Fin->Shared->Prop} (hh:A.handled=none) {msg:Str} (hm:msg.length<=sizeLine)
   (hq:∀h' tk e oe,(∀b x,h.get? b=some x->h'.get? b=some x)->h'.get? e=some oe->oe.cls=.type "AttributeError"->E (.ref e) ⟨h',g,d,tk,os⟩) :
   wpAny (model prog w) A (raiseAttrError (Value.ref a) (Str.ofString "keys") msg) Q E ⟨h,g,d,t,os⟩:=by
 unfold raiseAttrError newExc newTuple raiseNew;refine wpAny_bind (wpAny_mkStr (wpAny_bind ?_) hm);refine wpAny_bind (wpAny_newObj_type ?_);refine wpAny_bind (m:=firstArgMember _ _) (wpAny_of_eq (a:=Value.none) (by kernel_rfl) ?_);refine wpAny_newObj_type ?_;refine wpAny_bind (wpAny_mkText (wpAny_bind ?_));refine yn0 (x:=.ref h.objs.size) (Heap.get?_push_size _ rfl) fun h' hs he=>?_;refine wpAny_bind (wpAny_handled ?_);rw [hh]
 first
   | refine wpAny_throw ?_
   | refine wpAny_bind (wpAny_pure (wpAny_throw ?_))
 refine hq h' _ _ _ (fun b x hb=>?_) he rfl;haveI h1:=Heap.get?_push_of_some (h:=h) { cls:=.type "tuple",data:=.seq #[.str msg t] } hb;haveI h2:=Heap.get?_push_of_some { cls:=.type "AttributeError",data:=.fields (#[.ref h.objs.size,.none,.none,.none,.bool false,.none]++#[unsetMember,unsetMember]) } h1;rw [hs.2 b]
 . exact h2
 . exact Nat.ne_of_lt (Heap.lt_size h1)
theorem yl1 {tk:Tok} {Q:Fin->Shared->Prop} (hh:A.handled=none) (hx:h.get? a=some (listOf vs n))
   (hq:∀h' tk e oe,(∀b x,h.get? b=some x->h'.get? b=some x)->h'.get? e=some oe->oe.cls=.type "AttributeError"->E (.ref e) ⟨h',g,d,tk,os⟩) :
   wpAny (model prog w) A (Builtin.«object.__getattribute__» ⟨[.ref a,.str "keys" tk],[]⟩) Q E ⟨h,g,d,t,os⟩:=by
 haveI hT:(⟨h,g,d,t,os⟩:Shared).TypeIs (.ref a) "list":=⟨_,hx,rfl⟩;haveI f4:=yko
 repeat (any_goals (first | assumption | wp_step))
 refine ymq hh ?_ hq;rw [sizeLine_eq];exact zlb (by kernel_rfl)
theorem yoi {tk:Tok} {R:Result->Shared->Prop} (hh:A.handled=none) (hx:h.get? a=some (listOf vs n))
   (hq:∀h' tk e oe,(∀b x,h.get? b=some x->h'.get? b=some x)->h'.get? e=some oe->oe.cls=.type "AttributeError"->R (.error (.ref e)) ⟨h',g,d,tk,os⟩) :
   codeAny (model prog w) A (.call (.builtin "list.__getattribute__") ⟨[.ref a,.str "keys" tk],[]⟩) R ⟨h,g,d,t,os⟩:=
 codeAny_call_builtin F.slot_list_getattribute.plain F.entry_list_ga (F.slot_list_getattribute.check _ _ _ _ _ _ _ _ (show (⟨h,g,d,t,os⟩:Shared).TypeIs (.ref a) "list" from ⟨_,hx,rfl⟩) (F.args_list_getattribute_2 _ _) (yl1 hh hx hq))
theorem yn6 {Q:Option Value->Shared->Prop} (hh:A.handled=none) (hx:h.get? a=some (listOf vs n))
   (hq:∀h' tk,(∀b x,h.get? b=some x->h'.get? b=some x)->Q none ⟨h',g,d,tk,os⟩):wpAny (model prog w) A (getAttr? (.ref a) "keys") Q E ⟨h,g,d,t,os⟩:=by
 haveI hT:(⟨h,g,d,t,os⟩:Shared).TypeIs (.ref a) "list":=⟨_,hx,rfl⟩;haveI f2:=F.slot_list_getattribute.lookup;haveI f3:=F.slot_list_getattribute.bind (.ref a);haveI f5:=ygz;unfold getAttr? getAttrBy?
 repeat (any_goals (first | assumption | wp_step))
 refine yoi hh hx fun h' tk e oe hk he hc=>?_;haveI hE:∀tk,(⟨h',g,d,tk,os⟩:Shared).TypeIs (.ref e) "AttributeError":=fun _=>⟨_,he,hc⟩;show wpAny _ _ (getattributeRaised (Value.ref a) (Value.str (Str.ofString "keys") t) (.type "list") (.ref e) none false false) _ _ _;unfold getattributeRaised hookBehind;refine wpAny_bind (wpAny_isInstance (hE _) yjc ?_);rw [if_pos rfl];show wpAny _ _ (typeLookup (.type "list") "__getattr__" >>= _) _ _ _;rw [f5];refine wpAny_bind (wpAny_pure ?_);show wpAny _ _ (attributeErrorLeaves _ _ _ false false) _ _ _;unfold attributeErrorLeaves;refine wpAny_throw ?_;show wpAny _ _ (isInstance (.ref e) (.type "AttributeError") >>= _) _ _ _;refine wpAny_bind (wpAny_isInstance (hE _) yjc ?_);rw [if_pos rfl];exact wpAny_pure (hq _ _ hk)
end
theorem yea:plainId "dict.update.loop"=true:=by decide +kernel
theorem yee:entryFor table "dict.update.loop"=some Builtin.«dict.update.loop»:=entryFor_of_fast (by kernel_rfl)
section
variable {prog:Program} {w:World} {K:Type} [DecidableEq K] {knd:KeyKind prog w K} {A:Around} {E:Value->Shared->Prop} {s:Shared} {d:Addr}
theorem yh6 {o:Obj} {kvs:List (K×Value)} {k:K} {key v:Value} {Q:Unit->Shared->Prop} (hkey:knd.is k key=true) (ho:s.heap.get? d=some o) (hD:IsD knd o kvs) (hsz:kvs.length<=sizeLine)
   (hQ:∀h' o',h'.get? d=some o'->IsD knd o' (stored kvs k v)->Heap.SameBut d s.heap h'->Q () { s with heap:=h',toks:=s.toks+1 }):wpAny (model prog w) A (dictSet d key v) Q E s:=by
 obtain ⟨es,hc,hd,hk,hp,hn⟩:=hD;haveI hl:es.toList.length=kvs.length:=hp.length;have hes:es.size<=sizeLine:=by rw [<-Array.length_toList,hl];exact hsz
 have hix:(es.findIdx? fun e=>knd.is k e.key)=kvs.findIdx? fun kv=>decide (kv.1=k):=by rw [<-hp.findIdx k];obtain ⟨l⟩:=es;simp
 unfold dictSet
 try with_reducible refine wpAny_holding ?_
 refine wpAny_bind (knd.pyHash hkey ?_);unfold dictSetHashed
 try with_reducible refine wpAny_holding ?_
 refine wpAny_bind (wpAny_dictFind_of (s:={ s with toks:=s.toks+1 }) hkey ho hd hk ?_);cases hi:es.findIdx? fun e=>knd.is k e.key with
 | none=>
   haveI hnot:k ∉ kvs.map (·.1):=not_mem_of_findIdx_none (hix ▸ hi);have hany:¬(kvs.any fun kv=>decide (kv.1=k))=true:=fun q=>by
     obtain ⟨kv,h1,h2⟩:=List.any_eq_true.mp q;exact hnot (mem_map.mpr ⟨kv,h1,of_decide_eq_true h2⟩)
   haveI e:stored kvs k v=kvs++[(k,v)]:=if_neg hany;refine wpAny_bind (wpAny_rule (wpAny_updateDictKeys (hz:=hes) (s:={ s with toks:=s.toks+1 }) ho hd (hQ _ _ (Heap.get?_update_self _ ho (Obj.isFreed_of_dict (Obj.data_mapDictKeys hd _))) ?_ (Heap.SameBut.update ..))));rw [e];refine ⟨es.push { hash:=knd.hash k,key:=key,val:=v },hc.mapDictKeys _,?_,hk.push hkey v,?_,?_⟩
   . rw [length_append];exact Obj.data_mapDictKeys hd _
   . haveI:=hp.append hkey (knd.hash k) v;obtain ⟨l⟩:=es;simpa using this
   . rw [map_append,nodup_append];exact ⟨hn,by simp,fun a ha b hb=>by simp at hb;subst hb;exact fun e=>hnot (e ▸ ha)⟩
 | some i=>
   haveI e:stored kvs k v=kvs.map (fun kv=>if kv.1=k then (kv.1,v) else kv):=if_pos (any_of_findIdx_some (hix ▸ hi));refine wpAny_bind (wpAny_rule (wpAny_bind (wpAny_updateDict (s:={ s with toks:=s.toks+1 }) ho hd (wpAny_point (hQ _ _ (Heap.get?_update_self _ ho (Obj.isFreed_of_dict (Obj.data_mapDict hd _))) ?_ (Heap.SameBut.update ..))))));rw [e];refine ⟨_,hc.mapDict _,by rw [length_map];exact Obj.data_mapDict hd _,?_,?_,by rw [keys_map_store];exact hn⟩
   . exact hk.modify _ _
   . have:=hp.modify hn (by rw [<-hi];obtain ⟨l⟩:=es;simp:(es.toList.findIdx? fun e=>knd.is k e.key)=some i) v;obtain ⟨l⟩:=es;simpa using this
theorem ynm {o:Obj} {kvs:List (K×Value)} {k:K} {key v:Value} {Q:Unit->Shared->Prop} (hkey:knd.is k key=true) (ho:s.heap.get? d=some o) (hD:IsD knd o kvs) (hsz:kvs.length<=sizeLine)
   (hQ:∀h' o',h'.get? d=some o'->IsD knd o' (stored kvs k v)->Heap.SameBut d s.heap h'->Q () { s with heap:=h',toks:=s.toks+1 }):wpAny (model prog w) A (setItem (.ref d) key v) Q E s:=by
 have hm:s.heap.DictOf knd d kvs:=Heap.dictOf_iff.mpr ⟨o,ho,hD.dict⟩;unfold setItem
 try with_reducible refine wpAny_holding ?_
 refine wpAny_bind (wpAny_sequenceKey hm.typeIs (by decide) ?_);refine wpAny_bind (wpAny_callSpecial?_slot (name:=Str.ofString "__setitem__") hm.typeIs slot_dict_setitem (wpAny_call_entry slot_dict_setitem hm.typeIs entry_dict_setitem ?_ (args_dict_setitem _ _ _)));show wpAny _ _ (Builtin.Dict.notOrdered "__setitem__" ⟨[.ref d,key,v],[]⟩ >>= _) _ _ s;refine wpAny_bind (wpAny_notOrdered_dict hm.typeIs ?_);show wpAny _ _ (dictSet d key v >>= _) _ _ s;exact wpAny_bind (yh6 hkey ho hD hsz fun h' o' h1 h2 h3=>wpAny_pure ⟨.none,rfl,wpAny_pure (hQ h' o' h1 h2 h3)⟩)
def Heap.DictG (knd:KeyKind prog w K) (h:Heap) (d:Addr) (kvs:List (K×Value)):Prop:=∃o,h.get? d=some o/\IsD knd o kvs
end
noncomputable def laid {K:Type} [DecidableEq K] (kvs:List (K×Value)) (ps:List (K×Value)):List (K×Value):=ps.foldl (fun m p=>stored m p.1 p.2) kvs
section
variable {prog:Program} {w:World} {K:Type} [DecidableEq K] {knd:KeyKind prog w K} {A:Around} {E:Value->Shared->Prop} {s:Shared} {d it l:Addr} {vs:List Value}
def yja (knd:KeyKind prog w K) (h:Heap) (x:Value) (p:K×Value):Prop:=∃t key o n,x=.ref t/\h.get? t=some o/\o.cls=.type "tuple"/\o.data=.seq #[key,p.2] n/\knd.is p.1 key=true
theorem yo4 {res:Value} {R:Result->Shared->Prop} (hh:A.handled=none) (hne:d≠it) (hdl:d≠l) (hil:it≠l):∀(ps:List (K×Value)) (i:Nat) (tk:Tok) (s:Shared) (kvs:List (K×Value)),
   Heap.DictG knd s.heap d kvs->s.heap.IsListIter it l i->s.heap.IsList l vs.toArray->i+ps.length=vs.length->(kvs.length+ps.length<=1000000)->
   (∀(j:Nat) p,ps[j]?=some p->∃x,vs[i+j]?=some x/\yja knd s.heap x p/\∀t,x=.ref t->t≠d/\t≠it)->
   (∀h' tk',Heap.DictG knd h' d (laid kvs ps)->(∀b o,b≠d->b≠it->s.heap.get? b=some o->h'.get? b=some o)->R (.ok (.ret res)) { s with heap:=h',toks:=tk' })->
   codeAny (model prog w) A (.builtin "dict.update.loop" ⟨[.ref d,.ref it,.int i tk,res],[]⟩) R s:=by
 intro zd
 induction zd with
 | nil=>
  exact fun i tk s kvs hD hI hL hl hz hp hR=>by
   refine codeAny_builtin yee ?_;rw [Around.under_plainId yea];unfold Builtin.«dict.update.loop»;haveI hx:vs.toArray[i]?=none:=by simp at hl ⊢;exact Nat.le_of_eq (Eq.symm ‹_›)
   refine wpAny_bind (wpAny_pyNext_list_end (A:=A.in1) hh hI hL hx fun h' he=>?_);refine wpAny_bind (wpAny_pure (wpAny_pure ?_));obtain ⟨od,Z1⟩:=hD;haveI g1:=(zl Z1);haveI g2:=(zr Z1);clear Z1;exact hR h' s.toks ⟨od,he _ _ hne g1,g2⟩ fun b o h1 h2 h3=>he b o h2 h3
 | cons p ps zih=>
  exact fun i tk s kvs hD hI hL hl hz hp hR=>by
   refine codeAny_builtin yee ?_;rw [Around.under_plainId yea];unfold Builtin.«dict.update.loop»;obtain ⟨x,Z2⟩:=hp 0 p rfl;obtain ⟨t,key,ob,n,Z3⟩:=(zl (zr Z2));haveI Z4:=(zl Z3);subst Z4;haveI hx:=(zl Z2);haveI ht:=(zl (zr Z3));haveI hc:=(zl (zr (zr Z3)));haveI hdt:=(zl (zr (zr (zr Z3))));haveI hk:=(zr (zr (zr (zr Z3))));haveI hne2:=(zr (zr Z2));clear Z3 Z2;haveI hx':vs.toArray[i]?=some (.ref t):=by simpa using hx
   haveI Z5:=hne2 t rfl;haveI hd2:=(zl Z5);haveI hi2:=(zr Z5);clear Z5;refine wpAny_bind (wpAny_pyNext_list_item hI hL hx' fun h1 hI1 hs1=>?_);haveI ht1:h1.get? t=some ob:=(hs1.2 t hi2).trans ht;refine wpAny_bind (wpAny_holding (wpAny_bind (wpAny_tryCatch ?_)));unfold Builtin.Dict.pairItems;refine wpAny_bind (wpAny_typeOf (s:={ s with heap:=h1 }) (T:="tuple") ⟨_,ht1,hc⟩ ?_);rw [if_pos (by decide)];refine wpAny_bind (wpAny_seqItems ht1 hdt (wpAny_pure ?_));show wpAny _ _ (holding [key,p.2] (dictSet d key p.2)) _ _ _;obtain ⟨od,Z6⟩:=hD;haveI g1:=(zl Z6);haveI g2:=(zr Z6);clear Z6;refine wpAny_holding (yh6 (s:={ s with heap:=h1 }) hk ((hs1.2 d hne).trans g1) g2 (by rw [sizeLine_eq];simp at hz;lia) (fun h2 od2 g3 g4 hs2=>?_));haveI hD2:Heap.DictG knd h2 d (stored kvs p.1 p.2):=⟨od2,g3,g4⟩;refine wpAny_pure ⟨Code.quiet_builtin _ (by decide +kernel),?_⟩;haveI e1:rawInt ((i:Int)+1)=.int ((i+1:Nat):Int) 0:=rfl;rw [e1];haveI hlen:=stored_length_le kvs p.1 p.2;refine zih (i+1) 0 { s with heap:=h2,toks:=s.toks+1 } (stored kvs p.1 p.2) hD2 ?_ ?_ (by simp at hl ⊢;exact qf75 hl) (by simp at hz;exact ywa hz hlen) ?_ ?_
   . obtain ⟨o,Z7⟩:=hI1;haveI ho:=(zl Z7);haveI r:=(zr Z7);clear Z7;exact ⟨o,(hs2.2 it (Ne.symm hne)).trans ho,r⟩
   . obtain ⟨o,Z8⟩:=hL;haveI ho:=(zl Z8);haveI r:=(zr Z8);clear Z8;exact ⟨o,(hs2.2 l (Ne.symm hdl)).trans ((hs1.2 l (Ne.symm hil)).trans ho),r⟩
   . intro j q hj;obtain ⟨x,Z9⟩:=hp (j+1) q (by exact hj);obtain ⟨t',key',o',n',Z10⟩:=(zl (zr Z9));haveI hx2:=(zl Z9);haveI e:=(zl Z10);haveI ht':=(zl (zr Z10));haveI hr':=(zr (zr Z10));haveI hn':=(zr (zr Z9));clear Z10 Z9;haveI Z11:=hn' t' e;haveI a1:=(zl Z11);haveI a2:=(zr Z11);clear Z11;exact ⟨x,by rw [show i+1+j=i+(j+1) by exact qf77];exact hx2,⟨t',key',o',n',e,(hs2.2 t' a1).trans ((hs1.2 t' a2).trans ht'),hr'⟩,hn'⟩
   . intro h' tk' hD' hk';exact hR h' tk' hD' fun b o h3 h4 h5=>hk' b o h3 h4 ((hs2.2 b h3).trans ((hs1.2 b h4).trans h5))
theorem ygn {Q:Value->Shared->Prop} {ps:List (K×Value)} {n:Nat} (hh:A.handled=none) (hL:s.heap.get? l=some (listOf vs.toArray n)) (hl:ps.length=vs.length) (hz:ps.length<=1000000)
   (hp:∀(j:Nat) p,ps[j]?=some p->∃x,vs[j]?=some x/\yja knd s.heap x p)
   (h:∀h' tk,Heap.DictG knd h' s.heap.objs.size (laid [] ps)->(∀b o,s.heap.get? b=some o->h'.get? b=some o)->Q (.ref s.heap.objs.size) { s with heap:=h',toks:=tk }) :
   wpAny (model prog w) A (call (.type "dict") [.ref l]) Q E s:=by
 refine callType_codes (Q₁:=fun obj s₁=>obj=.ref s.heap.objs.size/\s₁={ s with heap:=s.heap.push { cls:=.type "dict",data:=.dict #[] } }) F.kt_called_dict (F.kt_typeCall_dict_1 _) F.entry_dict_init (kt_code_dict_new _ ⟨rfl,rfl⟩) ?_;rintro obj s₁ ⟨rfl,rfl⟩;haveI hnew:(s.heap.push { cls:=.type "dict",data:=.dict #[] }).DictOf knd s.heap.objs.size []:=Heap.DictOf.new s.heap;haveI hL1:(s.heap.push { cls:=.type "dict",data:=.dict #[] }).get? l=some (listOf vs.toArray n):=Heap.get?_push_of_some _ hL;refine ⟨hnew.typeIs,F.args_dict_init_2 _ _,?_⟩;unfold Builtin.«dict.__init__»;refine wpAny_bind ?_;unfold Builtin.Dict.selfAndRest;refine wpAny_bind (wpAny_notOrdered_dict hnew.typeIs ?_);show wpAny _ _ (pure (s.heap.objs.size,[Value.ref l])) _ _ _;refine wpAny_pure ?_;show wpAny _ _ (Builtin.Dict.updateFrom "dict.__init__" s.heap.objs.size (.ref l) [] .none) _ _ _;unfold Builtin.Dict.updateFrom;refine wpAny_bind (wpAny_typeOf (T:="list") ⟨_,hL1,rfl⟩ ?_);rw [if_pos (by decide)];refine wpAny_bind (yn6 (A:=A.in1.in1) hh hL1 fun h2 tk2 hk2=>?_);rw [if_pos (show (none:Option Value).isNone=true from rfl)];refine wpAny_bind (wpAny_rule ?_);refine wpAny_bind (wpAny_pyIter_list (s:={ s with heap:=h2,toks:=tk2 }) ⟨_,hk2 _ _ hL1,rfl,n,rfl⟩ ?_);refine wpAny_pure ⟨Code.quiet_builtin _ (by decide +kernel),?_⟩;haveI hdn:s.heap.get? s.heap.objs.size=none:=Heap.get?_none_of_le (Nat.le_refl _);obtain ⟨od,es,ep,Z1⟩:=hnew;haveI q0:=(zl Z1);haveI q1:=(zl (zr Z1));haveI q2:=(zl (zr (zr Z1)));haveI q3:=(zl (zr (zr (zr Z1))));haveI q4:=(zl (zr (zr (zr (zr Z1)))));haveI q5:=(zr (zr (zr (zr (zr Z1)))));clear Z1;haveI q0':=q0;rw [Heap.get?_push_size _ rfl] at q0'
 (replace q0':=si q0';subst q0')
 cases q2;haveI g0:=hk2 _ _ q0;haveI gD:IsD knd { cls:=.type "dict",data:=.dict #[] } []:=⟨_,q1,rfl,q3,q4,q5⟩;haveI hlt:s.heap.objs.size<h2.objs.size:=Heap.lt_size g0;haveI hll:l<s.heap.objs.size:=Heap.lt_size hL;refine yo4 (A:=A.in1) (knd:=knd) (vs:=vs) (R:=_) hh (Nat.ne_of_lt hlt) (Nat.ne_of_gt hll) (Nat.ne_of_gt (Nat.lt_trans hll hlt)) ps 0 0 _ [] ⟨_,Heap.get?_push_of_some _ g0,gD⟩ ⟨_,Heap.get?_push_size _ rfl,rfl,rfl⟩ ⟨_,Heap.get?_push_of_some _ (hk2 _ _ hL1),rfl,n,rfl⟩ (by simpa using hl) (by simpa using hz) ?_ ?_
 . intro j p hj;obtain ⟨x,Z2⟩:=hp j p hj;obtain ⟨t,key,o',n',Z3⟩:=(zr Z2);haveI Z4:=(zl Z3);subst Z4;haveI hx:=(zl Z2);haveI ht:=(zl (zr Z3));haveI hkk:=(zr (zr Z3));clear Z3 Z2;refine ⟨_,by simpa using hx,⟨t,key,o',n',rfl,Heap.get?_push_of_some _ (hk2 _ _ (Heap.get?_push_of_some _ ht)),hkk⟩,?_⟩;rintro t' e;cases e;haveI:=Heap.lt_size ht;exact ⟨Nat.ne_of_lt this,Nat.ne_of_lt (Nat.lt_trans this hlt)⟩
 . intro h' tk' hD' hk';refine ⟨rfl,h h' tk' hD' fun b o hb=>?_⟩;haveI hb':=Heap.lt_size hb;exact hk' b o (Nat.ne_of_lt hb') (Nat.ne_of_lt (Nat.lt_trans hb' hlt)) (Heap.get?_push_of_some _ (hk2 _ _ (Heap.get?_push_of_some _ hb)))
end
def nthW (m:ML) (i:Nat) (k:MV->Prop):Prop:=
 List.rec (motive:=fun _=>Nat->Prop) (fun _=>False) (fun x _ ih i=>Nat.rec (motive:=fun _=>Prop) (Option.rec (motive:=fun _=>Prop) False k x) (fun j _=>ih j) i) m i
def setW (m:ML) (i:Nat) (v:MV) (k:ML->Prop):Prop:=
 List.rec (motive:=fun _=>Nat->(ML->Prop)->Prop) (fun _ k=>k []) (fun x r ih i k=>Nat.rec (motive:=fun _=>Prop) (k (some v :: r)) (fun j _=>ih j fun r'=>k (x :: r')) i) m i k
def setsW:List Nat->List MV->ML->(ML->Prop)->Prop
 | [],_,m,k=>k m
 | i :: is,vs,m,k=>match vs with
   | v :: r=>setW m i v (fun m'=>setsW is r m' k)
   | []=>False
def iteW (r:Bool) (A B:Prop):Prop:=match r with
 | true=>A
 | false=>B
structure Need (p P:Prop):Prop where
 h:p
 k:P
structure Bn (c:Cx) (op:Operator) (H:MH) (x y v:MV) (H':MH):Prop where
 out:∀(mr:Str->Option Value) (ρ:List Addr) (s:Shared) (Q:Value->Shared->Prop) (E:Value->Shared->Prop) (vx vy:Value),St c mr ρ H s.heap->VR ρ x vx->VR ρ y vy->
   (∀t vr h' tk,VR (ρ++t) v vr->St c mr (ρ++t) H' h'->Q vr { s with heap:=h',toks:=tk })->wpAny (model c.prog c.w) c.A (binaryOp op vx vy) Q E s
def truW (v:MV) (k:Bool->Prop):Prop:=match v with
 | .bool b=>k b
 | .int i=>k (!decide (i=0))
 | .none=>k false
 | _=>False
structure Fld (G:Gx) (H:MH) (l:MV) (n:Str) (v:MV):Prop where
 out:∃a C kk fs,l=.ref a/\Ins H a C kk fs/\fs.lookup n=some v/\GAtt G C n
structure Mth (c:Cx) (m:ML) (H:MH) (l:MV) (n:Str) (K:List MV->MH->(MV->MH->Prop)->Prop):Prop where
 out:∀(a:CE) (r:CEs) (post:MV->MH->Prop),TEs c m (.cons a r) H (fun vs H1=>K vs H1 post)->MCall c m H l n (.cons a r) post
structure Mth0 (c:Cx) (m:ML) (H:MH) (l:MV) (n:Str) (post:MV->MH->Prop):Prop where
 out:MCall c m H l n .nil post
structure Glb (G:Gx) (x:Str) (v:MV):Prop where
 out:∃vr,nsIn G.K mainGlobals x=some (some vr)/\VR [] v vr
structure Slc (c:Cx) (H:MH) (x:MV) (l u:Option Int) (v:MV) (H':MH):Prop where
 out:∀(mr:Str->Option Value) (ρ:List Addr) (s:Shared) (Q:Value->Shared->Prop) (E:Value->Shared->Prop) (vo vl vu:Value) (base:PySem.Expr) (lw up:Option PySem.Expr) (p:Pos),St c mr ρ H s.heap->VR ρ x vo->IsPart vl l->IsPart vu u->
       (∀t vr h' tk,VR (ρ++t) v vr->St c mr (ρ++t) H' h'->Q vr { s with heap:=h',toks:=tk })->
       wpAny (model c.prog c.w) c.A (subscriptTail base (.Slice lw up Option.none p) vo (.ref s.heap.objs.size)) Q E { s with heap:=s.heap.push { cls:=.type "slice",data:=.fields #[vl,vu,.none] } }
def boolW (v:MV) (k:Bool->Prop):Prop:=match v with
 | .bool b=>k b
 | _=>False
structure Emp (H:MH) (o:MO):Prop where
 out:o=.dI H.length []\/o=.dS H.length []
noncomputable def isIs:CmpOp->CE->Bool
 | .Is,.none=>false
 | .IsNot,.none=>false
 | .Is,_=>true
 | .IsNot,_=>true
 | _,_=>false
theorem nthW.out:∀{m:ML} {i:Nat} {k:MV->Prop},nthW m i k->∃v,m[i]?=some (some v)/\k v
 | x :: _,0,k,h=>by
   cases x with
   | none=>exact h.elim
   | some v=>exact ⟨v,rfl,h⟩
 | _ :: r,i+1,k,h=>nthW.out (m:=r) h
theorem setW.out {v:MV}:∀{m:ML} {i:Nat} {k:ML->Prop},setW m i v k->k (m.set i (some v)):=@fun zd1 zd2=>@(match zd1,zd2 with
 | [],_=>fun {zz} h=>h
 | _ :: _,0=>fun {zz} h=>h
 | x :: r,i+1=>fun {k} h=>setW.out (m:=r) (k:=fun r'=>k (x :: r')) h)
theorem setsW.out:∀{is:List Nat} {vs:List MV} {m:ML} {k:ML->Prop},setsW is vs m k->k (ybk is vs m)
 | [],_,_,_,h=>h
 | i :: is,v :: r,m,k,h=>setsW.out (is:=is) (setW.out (m:=m) h)
theorem iteW.out {r:Bool} {A B:Prop} (h:iteW r A B):(r=true->A)/\(r=false->B):=by
 cases r
 . exact ⟨(by nofun),fun _=>h⟩
 . exact ⟨fun _=>h,(by nofun)⟩
section
variable {c:Cx} {m:ML} {H:MH} {G:Gx} {d:Nat}
theorem truW.out {v:MV} {k:Bool->Prop} (h:truW v k):∃r,Tru H v r/\k r:=by
 cases v with
 | bool b=>exact ⟨b,rfl,h⟩
 | int i=>exact ⟨_,rfl,h⟩
 | none=>exact ⟨false,rfl,h⟩
 | _=>exact h.elim
def BinK (c:Cx) (op:Operator) (x y:MV) (H:MH) (post:MV->MH->Prop):Prop:=
 ∀(mr:Str->Option Value) (ρ:List Addr) (s:Shared) (Q:Value->Shared->Prop) (E:Value->Shared->Prop) (vx vy:Value),St c mr ρ H s.heap->VR ρ x vx->VR ρ y vy->
   (∀t v vr H' h' tk,post v H'->VR (ρ++t) v vr->St c mr (ρ++t) H' h'->Q vr { s with heap:=h',toks:=tk })->wpAny (model c.prog c.w) c.A (binaryOp op vx vy) Q E s
theorem BinK.of (hh:c.A.handled=none) {op:Operator} {x y v:MV} {post:MV->MH->Prop} (b:BinI op x y v) (h:post v H):BinK c op x y H post:=
 fun mr ρ s Q E vx vy S hx hy k=>ynp hh b hx hy fun z tk hz=>k [] v z H s.heap tk h (by rw [append_nil];exact hz) (yac S)
theorem TO.mono {a:CO} {p q:Option Int->MH->Prop} (h:TO c m a H p) (hp:∀o H1,p o H1->q o H1):TO c m a H q:=by
 cases a with
 | none=>exact hp _ _ h
 | some e=>exact TE.mono (a:=e) h fun v H1 ⟨i,e,k⟩=>⟨i,e,hp _ _ k⟩
theorem Turns.mono {tg:List Str} {elt:CE} {cs:CTs} {item:Nat->MH->Option MV} {good:MH->Prop} {B:Nat} {p q:MV->MH->Prop} (h:Turns G d c m tg elt cs item good B H p) (hp:∀v H1,p v H1->q v H1):Turns G d c m tg elt cs item good B H q:=by
 obtain ⟨h1,J,h2,h3,h4,h5⟩:=h;exact ⟨h1,J,h2,h3,h4,fun i ys H1 j e=>hp _ _ (h5 i ys H1 j e)⟩
theorem Src.mono {tg:List Str} {elt it:CE} {cs:CTs} {p q:MV->MH->Prop} (h:Src G d c m tg elt cs it H p) (hp:∀v H1,p v H1->q v H1):Src G d c m tg elt cs it H q:=
 fun e mr ρ s Q E he S l kx k=>h e mr ρ s Q E he S l kx fun t H' h' tk I T good item B oI i tu=>k t H' h' tk I T good item B oI i (tu.mono hp)
theorem TE.dict0 (ok:Ok G c d) {o:MO} {post:MV->MH->Prop} (ho:Emp H o) (h:post (.ref H.length) (H++[o])):TE c m .dict0 H post:=by
 intro e he mr ρ s Q E S l k kx;show wpAny _ _ (eval (.Dict [] [] e.pos) c.env) _ _ _;rw [eval_Dict_empty];refine S.op fun ml xt os F a1 a2 a3 N a5 back=>?_;refine wpAny_bind (wpAny_standAt (wpAny_newObj_type ?_));haveI lo:(s.heap.objs.size==sysModules)=false:=F.notModules (modules_low ok.top.nolimit);haveI al:∀(x:Obj),x.isFreed=false->OR c.prog c.w (ρ++[s.heap.objs.size]) o x->Led c.h₀ c.L c.prog c.w ml xt (ρ++[s.heap.objs.size]) (H++[o]) (s.heap.push x):=fun x hf hx=>
   Led.alloc a1 a2 a3 a5 (F.push _) (News.push F N x hf) (fun p hp=>Nat.ne_of_lt (Heap.lt_size (N p hp).1)) hx
 refine k [s.heap.objs.size] (.ref H.length) _ _ _ _ h ⟨_,yag a2,rfl⟩ (back _ _ _ (al _ rfl ?_));rcases ho.out with rfl | rfl
 . obtain ⟨x,Z1⟩:=Heap.dictOf_iff.mp (Heap.DictOf.new (knd:=intKind c.prog c.w) s.heap);obtain ⟨es,ep,Z2⟩:=(zr Z1);haveI hx:=(zl Z1);haveI h1:=(zl Z2);haveI h2:=(zl (zr Z2));haveI h3:=(zl (zr (zr Z2)));haveI h4:=(zl (zr (zr (zr Z2))));haveI h5:=(zr (zr (zr (zr Z2))));clear Z2 Z1;rw [Heap.get?_push_size _ rfl] at hx
   (replace hx:=si hx;subst hx)
   cases h2;exact ⟨_,[],yag a2,lo,rfl,_,h1,rfl,h3,h4,h5⟩
 . obtain ⟨x,Z3⟩:=Heap.dictOf_iff.mp (Heap.DictOf.new (knd:=strKind c.prog c.w) s.heap);obtain ⟨es,ep,Z4⟩:=(zr Z3);haveI hx:=(zl Z3);haveI h1:=(zl Z4);haveI h2:=(zl (zr Z4));haveI h3:=(zl (zr (zr Z4)));haveI h4:=(zl (zr (zr (zr Z4))));haveI h5:=(zr (zr (zr (zr Z4))));clear Z4 Z3;rw [Heap.get?_push_size _ rfl] at hx
   (replace hx:=si hx;subst hx)
   cases h2;exact ⟨_,[],yag a2,lo,rfl,_,h1,rfl,h3,h4,h5⟩
def TP (c:Cx) (m:ML) (t:CT) (H:MH) (post:MV->MH->Prop):Prop:=∀e,wfT t c.nm c.sc e=true->EV c m (reT t c.nm e) H post
theorem TP.of {t:CT} {post:MV->MH->Prop} (h:TV c m t H post) (hn:yc5 t=true):TP c m t H post:=fun e he=>h e hn he
theorem TP.mono {t:CT} {p q:MV->MH->Prop} (h:TP c m t H p) (hp:∀v H',p v H'->q v H'):TP c m t H q:=fun e he=>(h e he).mono hp
def TPs (c:Cx) (m:ML) (op:BoolOp) (ts:CTs) (H:MH) (post:MV->MH->Prop):Prop:=∀es pos,wfTs ts c.nm c.sc es=true->EV c m (.BoolOp op (reTs ts c.nm es) pos) H post
theorem TPs.one {op:BoolOp} {t:CT} {post:MV->MH->Prop} (h:TP c m t H post):TPs c m op (.cons t .nil) H post:=by
 intro es pos he mr ρ s Q E S l k kx;exact BoolOp_one (h _ (and2 he).1 mr ρ s Q E S l k kx)
theorem TPs.and {t u:CT} {r:CTs} {post:MV->MH->Prop} (h:TP c m t H (fun v H1=>∃b,v=.bool b/\(b=true->TPs c m .And (.cons u r) H1 post)/\(b=false->post (.bool false) H1))):TPs c m .And (.cons t (.cons u r)) H post:=by
 intro es pos he mr ρ s Q E S l k kx;obtain ⟨h1,h2⟩:=and2 he;refine BoolOp_and ?_;refine h _ h1 mr ρ s _ E S l ?_ kx;rintro t' _ vr H1 h1' tk1 ⟨b,rfl,ht,hf⟩ hv S1;have e:vr=.bool b:=hv;subst e;refine wpAny_truthy_bool ?_;cases b with
 | false=>exact k t' _ _ H1 h1' tk1 (hf rfl) rfl S1
 | true=>
   refine ht rfl es.tail pos h2 mr (ρ++t') { s with heap:=h1',toks:=tk1 } Q E S1 l.mono ?_ kx.mono;intro t2 v vr H2 h2' tk2 hp hv S2;rw [append_assoc] at hv S2;exact k (t'++t2) v vr H2 h2' tk2 hp hv S2
theorem TPs.or {t u:CT} {r:CTs} {post:MV->MH->Prop} (h:TP c m t H (fun v H1=>∃b,v=.bool b/\(b=true->post (.bool true) H1)/\(b=false->TPs c m .Or (.cons u r) H1 post))):TPs c m .Or (.cons t (.cons u r)) H post:=by
 intro es pos he mr ρ s Q E S l k kx;obtain ⟨h1,h2⟩:=and2 he;refine BoolOp_or ?_;refine h _ h1 mr ρ s _ E S l ?_ kx;rintro t' _ vr H1 h1' tk1 ⟨b,rfl,ht,hf⟩ hv S1;have e:vr=.bool b:=hv;subst e;refine wpAny_truthy_bool ?_;cases b with
 | true=>exact k t' _ _ H1 h1' tk1 (ht rfl) rfl S1
 | false=>
   refine hf rfl es.tail pos h2 mr (ρ++t') { s with heap:=h1',toks:=tk1 } Q E S1 l.mono ?_ kx.mono;intro t2 v vr H2 h2' tk2 hp hv S2;rw [append_assoc] at hv S2;exact k (t'++t2) v vr H2 h2' tk2 hp hv S2
theorem boolW.out {v:MV} {k:Bool->Prop} (h:boolW v k):∃b,v=.bool b/\k b:=by
 cases v with
 | bool b=>exact ⟨b,rfl,h⟩
 | _=>exact h.elim
end
def yvi (N:ML->MH->Prop) (post:Fl->ML->MH->Prop) (f:Fl) (m:ML) (H:MH):Prop:=match f with
 | .next=>N m H
 | .cont=>N m H
 | .brk=>post .next m H
 | .ret v=>post (.ret v) m H
structure CLw (G:Gx) (prog:Program) (w:World) (d:Nat) (f:Addr) (args:List MV) (H:MH) (post:MV->MH->Prop) (xp:Addr->List MV->MH->Prop):Prop where
 out:CL G prog w d f args H post xp
structure BCw (c:Cx) (f:Value) (args:List MV) (H:MH) (post:MV->MH->Prop):Prop where
 out:BC c f args H post
def appW (m n:ML) (k:ML->Prop):Prop:=
 List.rec (motive:=fun _=>(ML->Prop)->Prop) (fun k=>k n) (fun x _ ih k=>ih fun r'=>k (x :: r')) m k
theorem appW.out:∀{m n:ML} {k:ML->Prop},appW m n k->k (m++n):=by
 intro zd
 induction zd with
 | nil=>
  exact fun {zz} {zz} h=>h
 | cons x r zih=>
  exact fun {n} {k} h=>zih (k:=fun r'=>k (x :: r')) h
def noneW (nm:List Str) (k:ML->Prop):Prop:=
 List.rec (motive:=fun _=>(ML->Prop)->Prop) (fun k=>k []) (fun _ _ ih k=>ih fun r'=>k (none :: r')) nm k
theorem noneW.out:∀{nm:List Str} {k:ML->Prop},noneW nm k->k (List.replicate nm.length none):=by
 intro zd
 induction zd with
 | nil=>
  exact fun {zz} h=>h
 | cons _ r zih=>
  exact fun {k} h=>zih (k:=fun r'=>k (none :: r')) h
def startW:List Str->List MV->(ML->Prop)->Prop
 | nm,[],k=>noneW nm k
 | [],_ :: _,_=>False
 | _ :: nm,v :: vs,k=>startW nm vs (fun r=>k (some v :: r))
theorem startW.out:∀{vs:List MV} {nm:List Str} {k:ML->Prop},startW nm vs k->k (start nm vs):=@fun zd1 zd2=>@(match zd1,zd2 with
 | [],nm=>fun {k} h=>by
   have h:noneW nm k:=by cases nm <;> exact h
   exact h.out
 | v :: vs,[]=>fun {k} h=>h.elim
 | v :: vs,_ :: nm=>fun {k} h=>by
   have:=startW.out (vs:=vs) (nm:=nm) (k:=fun r=>k (some v :: r)) h;unfold start at this ⊢;simpa using this)
section
variable {c:Cx} {m:ML} {H:MH} {G:Gx} {d:Nat} {prog:Program} {w:World}
theorem Fld.of {a:Nat} {C:Addr} {kk:Nat} {fs:List (Str×MV)} {n:Str} {v:MV} (hi:Ins H a C kk fs) (hl:fs.lookup n=some v) (ga:GAtt G C n):Fld G H (.ref a) n v:=⟨a,C,kk,fs,rfl,hi,hl,ga⟩
theorem Bn.addL {i j:Nat} {xs ys:List MV} (hi:H[i]?=some (.list xs)) (hj:H[j]?=some (.list ys)) (hsz:xs.length+ys.length<=1000000):Bn c .Add H (.ref i) (.ref j) (.ref H.length) (H++[.list (xs++ys)]):=by
 refine ⟨?_⟩;rintro mr ρ s Q E _ _ S ⟨p,hp1,rfl⟩ ⟨q,hq1,rfl⟩ k;obtain ⟨vs,n1,Z1⟩:=S.list hi hp1;haveI hvs:=(zl Z1);haveI N1:=(zr Z1);clear Z1;obtain ⟨ws,n2,Z2⟩:=S.list hj hq1;haveI hws:=(zl Z2);haveI N2:=(zr Z2);clear Z2;refine S.op fun ml xt os F a1 a2 a3 N a5 back=>?_;refine add_lists F N (yad N1) (yad N2) (fun h' F' N'=>?_) (by rw [hvs.length,hws.length];exact Nat.le_trans hsz (by decide));exact k [s.heap.objs.size] _ h' s.toks ⟨_,yag a2,rfl⟩ (back _ _ _ (Led.alloc a1 a2 a3 a5 F' N' (fun p hp=>Nat.ne_of_lt (Heap.lt_size (N p hp).1)) ⟨vs++ws,0,hvs.mono.append hws.mono,rfl⟩))
theorem Bn.mulL {i:Nat} {v:MV} {n:Int} (hi:H[i]?=some (.list [v])) (hlo:-1000000<=n) (hhi:n<=1000000):Bn c .Mult H (.ref i) (.int n) (.ref H.length) (H++[.list (List.replicate n.toNat v)]):=by
 refine ⟨?_⟩;rintro mr ρ s Q E _ _ S ⟨p,hp1,rfl⟩ ⟨u,rfl⟩ k;obtain ⟨vs,n1,hvs,N1⟩:=S.list hi hp1;obtain ⟨vr,rfl,hvr⟩:=yaw hvs;refine S.op fun ml xt os F a1 a2 a3 N a5 back=>?_;refine mul_list F N (N1 _ (.head _)).1 (by exact qf24 hlo) (by exact Int.lt_of_le_of_lt ‹_› (by decide)) (by simp;exact Int.le_trans ‹_› (by decide)) ?_;intro h' F' N';have e:(List.foldl (fun x1 x2=>x1++x2) (#[]:Array Value) (List.replicate (if ([vr].toArray).isEmpty=true then 0 else n.toNat) [vr].toArray))=(List.replicate n.toNat vr).toArray:=yrz vr n.toNat;rw [e] at N';exact k [s.heap.objs.size] _ h' s.toks ⟨_,yag a2,rfl⟩ (back _ _ _ (Led.alloc a1 a2 a3 a5 F' N' (fun p hp=>Nat.ne_of_lt (Heap.lt_size (N p hp).1)) ⟨List.replicate n.toNat vr,0,VRs.rep hvr.mono _,rfl⟩))
theorem Slc.to {a:Nat} {xs:List MV} {j:Int} (ha:H[a]?=some (.list xs)) (hl:xs.length<=1000000) (h0:0<=j):Slc c H (.ref a) none (some j) (.ref H.length) (H++[.list (xs.take j.toNat)]):=by
 refine ⟨?_⟩;intro mr ρ s Q E vo vl vu base lw up p S ho pl pu k;refine ygl S ho ha hl pl pu (ys:=xs.take j.toNat) (post:=fun v H'=>v=.ref H.length/\H'=H++[.list (xs.take j.toNat)]) (fun vs hvs=>?_) ⟨rfl,rfl⟩ (by rintro t v vr H' h' tk ⟨rfl,rfl⟩ h1 h2;exact k t vr h' tk h1 h2);have e2:slicePick vs.toArray Option.none (Option.some j) Option.none=(vs.toArray.toList.take j.toNat).toArray:=by have:=slicePick_upto' vs.toArray j.toNat;rwa [Int.toNat_of_nonneg h0] at this
 rw [e2];simpa using hvs.take j.toNat
theorem Slc.from {a:Nat} {xs:List MV} {j:Int} (ha:H[a]?=some (.list xs)) (hl:xs.length<=1000000) (h0:0<=j):Slc c H (.ref a) (some j) none (.ref H.length) (H++[.list (xs.drop j.toNat)]):=by
 refine ⟨?_⟩;intro mr ρ s Q E vo vl vu base lw up p S ho pl pu k;refine ygl S ho ha hl pl pu (ys:=xs.drop j.toNat) (post:=fun v H'=>v=.ref H.length/\H'=H++[.list (xs.drop j.toNat)]) (fun vs hvs=>?_) ⟨rfl,rfl⟩ (by rintro t v vr H' h' tk ⟨rfl,rfl⟩ h1 h2;exact k t vr h' tk h1 h2);have e2:slicePick vs.toArray (Option.some j) Option.none Option.none=(vs.toArray.toList.drop j.toNat).toArray:=by have:=slicePick_from' vs.toArray j.toNat;rwa [Int.toNat_of_nonneg h0] at this
 rw [e2];simpa using hvs.drop j.toNat
theorem Mth.append {a:Nat} {xs:List MV} (ha:H[a]?=some (.list xs)):Mth c m H (.ref a) "append" (fun vs H2 post=>∃v ys,(vs=[v]/\H2[a]?=some (.list ys)/\ys.length<=1000000)/\post .none (H2.set a (.list (ys++[v])))):=by
 refine ⟨fun x r post h=>?_⟩;rintro mr ρ s Q E _ pl pos args S lr ⟨y,hy,rfl⟩ hes k kx;obtain ⟨vs,ep,Z1⟩:=S.list ha hy;haveI hvs:=(zl Z1);haveI No:=(zr Z1);clear Z1;refine PySem.Calls.getMethod_list_append (No _ (.head _)).1 rfl rfl ?_;haveI h4:=and2 hes;refine callWith_method1 ?_ (yav (ybi h4.1)) (ya0 h4.2);refine h _ _ hes mr ρ s _ E S lr ?_ kx;rintro t _ vrs H2 h2 tk2 ⟨v,ys,⟨rfl,hy2,hsz⟩,hp⟩ ⟨vr,r,rfl,hv,hr⟩ S2;haveI hr':r=[]:=hr;subst hr';obtain ⟨ws,ep2,Z2⟩:=S2.list hy2 (yam hy);haveI hws:=(zl Z2);haveI No2:=(zr Z2);clear Z2;refine append_at (No2 _ (.head _)).1 (fun h' hs' hg=>?_) (by rw [size_toArray,hws.length];exact Nat.le_trans hsz (by decide));haveI S3:=S2.upd (o':=.list (ys++[v])) hy2 (yam hy) hs' hg ⟨ws++[vr],ep2+1,hws.append ⟨vr,[],rfl,hv,rfl⟩,by simp⟩;exact k t .none .none _ h' tk2 hp rfl S3
end
noncomputable def putD {K:Type} [DecidableEq K] (es:List (K×MV)) (k:K) (v:MV):List (K×MV):=
 if es.any (fun kv=>kv.1=k) then es.map (fun kv=>if kv.1=k then (kv.1,v) else kv) else es++[(k,v)]
noncomputable def yas {K:Type} [DecidableEq K] (es:List (K×MV)) (k:K):Option MV:=(es.find? fun kv=>kv.1=k).map (·.2)
section
variable {K:Type} [DecidableEq K] {ρ:List Addr}
theorem PR.length:∀{es:List (K×MV)} {kvs:List (K×Value)},PR ρ es kvs->kvs.length=es.length:=by
 intro es
 induction es with
 | nil=>intro kvs h;rw [show kvs=[] from h];rfl
 | cons p es ih=>
   intro kvs h;obtain ⟨v,r,e,_,h2⟩:=h;rw [e,length_cons,length_cons,ih h2]
theorem PR.find {k:K}:∀{es:List (K×MV)} {kvs:List (K×Value)},PR ρ es kvs->(∀v,yas es k=some v->∃vr,valueAt kvs k=some vr/\VR ρ v vr)/\(yas es k=none->valueAt kvs k=none):=by
 intro es
 induction es with
 | nil=>intro kvs h;rw [show kvs=[] from h];exact ⟨(by intro v h;exact no h),fun _=>rfl⟩
 | cons p es zih=>
   intro kvs h;obtain ⟨k',v'⟩:=p;obtain ⟨v,r,e,h1,h2⟩:=h;subst e;have ih:=zih h2;unfold yas valueAt at *;by_cases q:k'=k
   . subst q;refine ⟨fun u hu=>?_,fun hu=>?_⟩
     . simp at hu;subst hu;exact ⟨v,by simp,h1⟩
     . simp at hu
   . haveI e1:List.find? (fun kv:K×MV=>decide (kv.1=k)) ((k',v') :: es)=es.find? (fun kv=>decide (kv.1=k)):=by rw [List.find?_cons];simp [q]
     haveI e2:List.find? (fun kv:K×Value=>decide (kv.1=k)) ((k',v) :: r)=r.find? (fun kv=>decide (kv.1=k)):=by rw [List.find?_cons];simp [q]
     rw [e1,e2];exact ih
theorem PR.any {p:K->Bool}:∀{es:List (K×MV)} {kvs:List (K×Value)},PR ρ es kvs->kvs.any (fun kv=>p kv.1)=es.any (fun kv=>p kv.1)
 | [],_,h=>by rw [h];rfl
 | _ :: _,_,⟨v,r,e,_,h2⟩=>by rw [e,any_cons,any_cons,h2.any]
theorem PR.over {k:K} {v:MV} {vr:Value} (hv:VR ρ v vr):∀{es:List (K×MV)} {kvs:List (K×Value)},PR ρ es kvs->PR ρ (es.map fun kv=>if kv.1=k then (kv.1,v) else kv) (kvs.map fun kv=>if kv.1=k then (kv.1,vr) else kv):=by
 intro es
 induction es with
 | nil=>intro kvs h;rw [show kvs=[] from h];rfl
 | cons p es zih=>
   intro kvs h;obtain ⟨k',v'⟩:=p;obtain ⟨u,r,e,h1,h2⟩:=h;subst e;simp only [map_cons];by_cases q:k'=k
   . simp only [q,if_true];exact ⟨vr,_,rfl,hv,zih h2⟩
   . simp only [q,if_false];exact ⟨u,_,rfl,h1,zih h2⟩
theorem PR.app {k:K} {v:MV} {vr:Value} (hv:VR ρ v vr):∀{es:List (K×MV)} {kvs:List (K×Value)},PR ρ es kvs->PR ρ (es++[(k,v)]) (kvs++[(k,vr)])
 | [],_,h=>by rw [h];exact ⟨vr,[],rfl,hv,rfl⟩
 | _ :: _,_,⟨u,r,e,h1,h2⟩=>by subst e;exact ⟨u,_,rfl,h1,h2.app hv⟩
theorem PR.put {k:K} {v:MV} {vr:Value} (hv:VR ρ v vr) {es:List (K×MV)} {kvs:List (K×Value)} (h:PR ρ es kvs):PR ρ (putD es k v) (stored kvs k vr):=by
 unfold putD stored;haveI e:=h.any (p:=fun x=>decide (x=k));rw [show kvs.any (fun kv=>decide (kv.1=k))=es.any (fun kv=>decide (kv.1=k)) from e];split
 . exact h.over hv
 . exact h.app hv
theorem PR.fold:∀{ps:List (K×MV)} {qs kvs:List (K×Value)} {es:List (K×MV)},PR ρ ps qs->PR ρ es kvs->PR ρ (ps.foldl (fun m p=>putD m p.1 p.2) es) (laid kvs qs):=by
 intro ps
 induction ps with
 | nil=>intro qs kvs es h h';rw [show qs=[] from h];exact h'
 | cons p ps ih=>
   intro qs kvs es h h';obtain ⟨u,r,e,h1,h2⟩:=h;subst e;exact ih (qs:=r) h2 (h'.put h1)
theorem PR.keys:∀{es:List (K×MV)} {kvs:List (K×Value)},PR ρ es kvs->kvs.map (·.1)=es.map (·.1)
 | [],_,h=>by rw [h];rfl
 | _ :: _,_,⟨v,r,e,_,h2⟩=>by rw [e,map_cons,map_cons,h2.keys]
end
section
variable {c:Cx} {m:ML} {H:MH} {G:Gx} {d:Nat}
theorem St.dG {mr:Str->Option Value} {ρ:List Addr} {h:Heap} (S:St c mr ρ H h) {a:Nat} {es:List (Int×MV)} (ha:H[a]?=some (.dI a es)) {x:Addr} (hx:ρ[a]?=some x) :
   ∃o kvs,h.get? x=some o/\IsD (intKind c.prog c.w) o kvs/\PR ρ es kvs/\(x==sysModules)=false:=by
 obtain ⟨y,o,Z1⟩:=S.get ha;obtain ⟨z,kvs,Z2⟩:=(zl (zr Z1));haveI hy:=(zl Z1);haveI hz:=(zl Z2);haveI lo:=(zl (zr Z2));haveI hp:=(zl (zr (zr Z2)));haveI hd:=(zr (zr (zr Z2)));haveI N:=(zr (zr Z1));clear Z2 Z1;rw [hx] at hy hz
 (replace hy:=si hy;subst hy);(replace hz:=si hz;subst hz)
 exact ⟨o,kvs,(N _ (.head _)).1,hd,hp,lo⟩
theorem St.dI {mr:Str->Option Value} {ρ:List Addr} {h:Heap} (S:St c mr ρ H h) {a:Nat} {es:List (Int×MV)} (ha:H[a]?=some (.dI a es)) {x:Addr} (hx:ρ[a]?=some x) :
   ∃o kvs,h.get? x=some o/\o.IsDictOf (intKind c.prog c.w) kvs/\PR ρ es kvs/\(x==sysModules)=false:=by
 obtain ⟨o,kvs,h1,h2,h3⟩:=S.dG ha hx;exact ⟨o,kvs,h1,h2.dict,h3⟩
theorem St.dGS {mr:Str->Option Value} {ρ:List Addr} {h:Heap} (S:St c mr ρ H h) {a:Nat} {es:List (Str×MV)} (ha:H[a]?=some (.dS a es)) {x:Addr} (hx:ρ[a]?=some x) :
   ∃o kvs,h.get? x=some o/\IsD (strKind c.prog c.w) o kvs/\PR ρ es kvs/\(x==sysModules)=false:=by
 obtain ⟨y,o,Z1⟩:=S.get ha;obtain ⟨z,kvs,Z2⟩:=(zl (zr Z1));haveI hy:=(zl Z1);haveI hz:=(zl Z2);haveI lo:=(zl (zr Z2));haveI hp:=(zl (zr (zr Z2)));haveI hd:=(zr (zr (zr Z2)));haveI N:=(zr (zr Z1));clear Z2 Z1;rw [hx] at hy hz
 (replace hy:=si hy;subst hy);(replace hz:=si hz;subst hz)
 exact ⟨o,kvs,(N _ (.head _)).1,hd,hp,lo⟩
theorem St.dS {mr:Str->Option Value} {ρ:List Addr} {h:Heap} (S:St c mr ρ H h) {a:Nat} {es:List (Str×MV)} (ha:H[a]?=some (.dS a es)) {x:Addr} (hx:ρ[a]?=some x) :
   ∃o kvs,h.get? x=some o/\o.IsDictOf (strKind c.prog c.w) kvs/\PR ρ es kvs/\(x==sysModules)=false:=by
 obtain ⟨o,kvs,h1,h2,h3⟩:=S.dGS ha hx;exact ⟨o,kvs,h1,h2.dict,h3⟩
theorem isI (k:Int) (t:Tok):(intKind c.prog c.w).is k (.int k t)=true:=by simp [PySem.intKind,Value.isInt]
theorem isS (k:Str) (t:Tok):(strKind c.prog c.w).is k (.str k t)=true:=by simp [PySem.strKind,Value.isStrOf]
theorem Sq.dS {a:Nat} {es:List (Str×MV)} {k:Str} {v:MV} (ha:H[a]?=some (.dS a es)) (hv:yas es k=some v):Sq c H (.ref a) (.str k) v:=by
 rintro mr ρ s Q E _ _ base sl hsl S ⟨x,hx,rfl⟩ ⟨u,rfl⟩ kk;obtain ⟨o,kvs,Z1⟩:=S.dS ha hx;haveI ho:=(zl Z1);haveI hd:=(zl (zr Z1));haveI hp:=(zl (zr (zr Z1)));haveI lo:=(zr (zr (zr Z1)));clear Z1;obtain ⟨vr,Z2⟩:=hp.find.1 v hv;haveI e1:=(zl Z2);haveI e2:=(zr Z2);clear Z2;haveI hD:s.heap.DictOf (strKind c.prog c.w) x kvs:=Heap.dictOf_iff.mpr ⟨o,ho,hd⟩;exact tail_any hD.typeIs slot_dict_getitem.lookup (wpAny_getItem_of (isS k u) hD.mapOf e1 (kk vr _ e2)) (ybe (nm:=[]) (sc:=c.sc) hsl _ _)
theorem Uq.dS {a:Nat} {es:List (Str×MV)} {k:Str} {v:MV} (ha:H[a]?=some (.dS a es)) (hsz:es.length<=1000000):Uq c H (.ref a) (.str k) v (H.set a (.dS a (putD es k v))):=by
 rintro mr ρ s Q E _ _ vv S ⟨x,hx,rfl⟩ ⟨u,rfl⟩ hv kk;obtain ⟨o,kvs,ho,hd,hp,lo⟩:=S.dGS ha hx;refine ynm (isS k u) ho hd (by rw [sizeLine_eq,hp.length];exact Nat.le_trans ‹_› (by decide)) fun h' o' ho' hd' hs=>?_;exact kk [] h' _ (yac (S.upd ha hx hs ho' ⟨x,_,hx,lo,hp.put hv,hd'⟩))
theorem PR.some? {K:Type} [DecidableEq K] {ρ:List Addr} {es:List (K×MV)} {kvs:List (K×Value)} (h:PR ρ es kvs) (k:K):(valueAt kvs k).isSome=(yas es k).isSome:=by
 haveI f:=h.find (k:=k);cases e:yas es k with
 | none=>rw [f.2 e];rfl
 | some v=>obtain ⟨vr,Z1⟩:=f.1 v e;haveI e1:=(zl Z1);clear Z1;rw [e1];rfl
theorem Cq.inDS {a:Nat} {es:List (Str×MV)} {k:Str} (ha:H[a]?=some (.dS a es)):Cq c .In H (.str k) (.ref a) (yas es k).isSome:=by
 rintro mr ρ s Q E _ _ S ⟨t,rfl⟩ ⟨x,hx,rfl⟩ kk;obtain ⟨o,kvs,Z1⟩:=S.dS ha hx;haveI ho:=(zl Z1);haveI hd:=(zl (zr Z1));haveI hp:=(zl (zr (zr Z1)));haveI lo:=(zr (zr (zr Z1)));clear Z1;exact wpAny_in_of (isS k t) lo (Heap.DictOf.mapOf (Heap.dictOf_iff.mpr ⟨o,ho,hd⟩)) (by rw [hp.some?];exact kk s.heap _ S)
theorem Cq.ninDS {a:Nat} {es:List (Str×MV)} {k:Str} (ha:H[a]?=some (.dS a es)):Cq c .NotIn H (.str k) (.ref a) (!(yas es k).isSome):=by
 rintro mr ρ s Q E _ _ S ⟨t,rfl⟩ ⟨x,hx,rfl⟩ kk;obtain ⟨o,kvs,Z1⟩:=S.dS ha hx;haveI ho:=(zl Z1);haveI hd:=(zl (zr Z1));haveI hp:=(zl (zr (zr Z1)));haveI lo:=(zr (zr (zr Z1)));clear Z1;exact wpAny_notIn_of (isS k t) lo (Heap.DictOf.mapOf (Heap.dictOf_iff.mpr ⟨o,ho,hd⟩)) (by rw [hp.some?];exact kk s.heap _ S)
theorem yf7 {ρ:List Addr}:∀{ns:List Int} {vs:List Value},IntsAre vs ns->VRs ρ (intL ns) vs:=@fun zd1 zd2=>@(match zd1,zd2 with
 | [],vs=>fun h=>by
   have:=yex h;exact eq_nil_of_length_eq_zero this
 | n :: ns,[]=>fun h=>by
   have:=yex h;cases this
 | n :: ns,v :: vs=>fun h=>by
   obtain ⟨t,e⟩:=yli h 0 (by exact Nat.succ_pos _);simp at e;subst e;exact ⟨_,vs,rfl,⟨t,rfl⟩,yf7 (by cases h;assumption)⟩)
def ysx (H:MH) (a:Nat) (ps:List (Int×MV)):Prop:=∃rs,H[a]?=some (.list rs)/\rs.length=ps.length/\∀(i:Nat) p,ps[i]?=some p->∃t,rs[i]?=some (.ref t)/\H[t]?=some (.tup [.int p.1,p.2])
theorem yma {mr:Str->Option Value} {ρ:List Addr} {h:Heap} (S:St c mr ρ H h):∀{ps:List (Int×MV)} {rs:List MV} {vs:List Value},VRs ρ rs vs->rs.length=ps.length->
   (∀(i:Nat) p,ps[i]?=some p->∃t,rs[i]?=some (.ref t)/\H[t]?=some (.tup [.int p.1,p.2]))->∃qs:List (Int×Value),PR ρ ps qs/\∀(j:Nat) q,qs[j]?=some q->∃x,vs[j]?=some x/\yja (intKind c.prog c.w) h x q:=by
 intro ps
 induction ps with
 | nil=>intro rs vs hv hl hp;exact ⟨[],rfl,fun j q e=>by exact no e⟩
 | cons p ps zih=>
   intro rs vs hv hl hp;obtain ⟨k,v⟩:=p;cases rs with
   | nil=>cases hl
   | cons r rs=>
     obtain ⟨x,xs,e,hx,hxs⟩:=hv;subst e;obtain ⟨t,Z1⟩:=hp 0 (k,v) rfl;haveI e1:=(zl Z1);haveI e2:=(zr Z1);clear Z1;simp at e1;subst e1;obtain ⟨y,Z2⟩:=hx;haveI Z3:=(zr Z2);subst Z3;haveI hy:=(zl Z2);clear Z2;obtain ⟨ws,Z4⟩:=S.tup e2 hy;obtain ⟨ob,Z5⟩:=(zr Z4);obtain ⟨n,q3⟩:=(zr (zr Z5));haveI hws:=(zl Z4);haveI q1:=(zl Z5);haveI q2:=(zl (zr Z5));clear Z5 Z4;obtain ⟨kv,vr,Z6⟩:=yjd hws;haveI Z7:=(zl Z6);subst Z7;obtain ⟨u,Z8⟩:=(zl (zr Z6));haveI Z9:=Z8;subst Z9;haveI hvr:=(zr (zr Z6));clear Z8 Z6;obtain ⟨qs,Z10⟩:=zih hxs (by exact Nat.succ.inj hl) (fun i p hi=>by simpa using hp (i+1) p (by exact hi));haveI h1:=(zl Z10);haveI h2:=(zr Z10);clear Z10;refine ⟨(k,vr) :: qs,⟨vr,qs,rfl,hvr,h1⟩,fun j q hj=>?_⟩;cases j with
     | zero=>
       simp at hj;subst hj;exact ⟨.ref y,rfl,y,.int k u,ob,n,rfl,q1,q2,q3,isI k u⟩
     | succ j=>simpa using h2 j q (by simpa using hj)
theorem BCw.dict (ok:Ok G c d) {a:Nat} {ps:List (Int×MV)} {post:MV->MH->Prop} (ha:ysx H a ps) (hz:ps.length<=1000000)
   (h:post (.ref H.length) (H++[.dI H.length (ps.foldl (fun m p=>putD m p.1 p.2) [])])):BCw c (.type "dict") [.ref a] H post:=by
 refine ⟨?_⟩;intro mr ρ s Q E vs S hv k;obtain ⟨v,Z1⟩:=yaw hv;haveI Z2:=(zl Z1);subst Z2;obtain ⟨x,Z3⟩:=(zr Z1);haveI Z4:=(zr Z3);subst Z4;haveI hx:=(zl Z3);clear Z3 Z1;obtain ⟨rs,Z5⟩:=ha;haveI h1:=(zl Z5);haveI h2:=(zl (zr Z5));haveI h3:=(zr (zr Z5));clear Z5;obtain ⟨ws,n,Z6⟩:=S.list h1 hx;haveI hws:=(zl Z6);haveI No:=(zr Z6);clear Z6;obtain ⟨qs,Z7⟩:=yma S hws h2 h3;haveI p1:=(zl Z7);haveI p2:=(zr Z7);clear Z7;refine S.op fun ml xt os F a1 a2 a3 N a5 back=>?_;refine ygn (knd:=intKind c.prog c.w) (ps:=qs) ok.hh (No _ (.head _)).1 (by rw [p1.length,hws.length,h2]) (by rw [p1.length];exact hz) p2 ?_;intro h' tk hD hk;obtain ⟨o,Z8⟩:=hD;haveI ho:=(zl Z8);haveI hd:=(zr Z8);clear Z8;haveI N':News c.h₀ c.L h' ((s.heap.objs.size,o) :: (xt++ρ.zip os)):=fun p hp=>by
   rcases zmc hp with rfl | hp
   . refine ⟨ho,Nat.ne_of_gt F.ns.lt,?_⟩;cases e:c.h₀.get? s.heap.objs.size with
     | none=>rfl
     | some o'=>exact absurd (Heap.lt_size (F.keep _ o' e)) (Nat.lt_irrefl _)
   . exact ⟨hk _ _ (N p hp).1,(N p hp).2⟩
 exact k [s.heap.objs.size] (.ref H.length) _ _ h' tk h ⟨_,yag a2,rfl⟩ (back _ _ _ (Led.alloc a1 a2 a3 a5 (F.keeps hk) N' (fun p hp=>Nat.ne_of_lt (Heap.lt_size (N p hp).1))
   ⟨_,_,yag a2,F.notModules (modules_low ok.top.nolimit),(PR.fold p1 (es:=[]) (kvs:=[]) rfl).mono,hd⟩))
theorem BCw.sortL {a:Nat} {ns:List Int} {post:MV->MH->Prop} (ha:H[a]?=some (.list (intL ns))) (hsz:ns.length<64)
   (h:∀ns':List Int,ns'.Perm ns->ns'.Pairwise (·<=·)->post (.ref H.length) (H++[.list (intL ns')])):BCw c (.builtin "sorted") [.ref a] H post:=by
 refine ⟨?_⟩;intro mr ρ s Q E vs S hv k;obtain ⟨v,Z1⟩:=yaw hv;haveI Z2:=(zl Z1);subst Z2;obtain ⟨x,Z3⟩:=(zr Z1);haveI Z4:=(zr Z3);subst Z4;haveI hx:=(zl Z3);clear Z3 Z1;obtain ⟨ws,n,Z5⟩:=S.list ha hx;haveI hws:=(zl Z5);haveI No:=(zr Z5);clear Z5;refine S.op fun ml xt os F a1 a2 a3 N a5 back=>?_;refine sorted_N F N (yad No) (yds hws) (by rw [hws.length,length_map];exact hsz) ?_;intro h' vs' ns' e F' N' b1 b2 b3;exact k [s.heap.objs.size+1] (.ref H.length) _ _ h' s.toks (h ns' b2 b3) ⟨_,yag a2,rfl⟩ (back _ _ _ (Led.alloc a1 a2 a3 a5 F' N' (fun p hp=>Nat.ne_of_lt (Nat.lt_succ_of_lt (Heap.lt_size (N p hp).1))) ⟨vs',e,yf7 b1,rfl⟩))
theorem yrw {ks:List Int}:∀{vs:List Value},vs.length=ks.length->(∀(j:Nat) v,vs[j]?=some v->∃k t,ks[j]?=some k/\v=.int k t)->IntsAre vs ks:=by
 induction ks with
 | nil=>intro vs hl _;rw [eq_nil_of_length_eq_zero hl];exact .nil
 | cons k ks ih=>
   intro vs hl hv;cases vs with
   | nil=>cases hl
   | cons v vs=>
     obtain ⟨k',t,e1,rfl⟩:=hv 0 v rfl;simp at e1;subst e1;exact .cons _ _ (ih (by exact Nat.succ.inj hl) fun j u hu=>by simpa using hv (j+1) u (by exact hu))
theorem BCw.sortD (ok:Ok G c d) {a:Nat} {es:List (Int×MV)} {post:MV->MH->Prop} (ha:H[a]?=some (.dI a es)) (hsz:es.length<64)
   (h:∀ns':List Int,ns'.Perm (es.map (·.1))->ns'.Pairwise (·<=·)->post (.ref H.length) (H++[.list (intL ns')])):BCw c (.builtin "sorted") [.ref a] H post:=by
 refine ⟨?_⟩;intro mr ρ s Q E vs S hv k;obtain ⟨v,Z1⟩:=yaw hv;haveI Z2:=(zl Z1);subst Z2;obtain ⟨x,Z3⟩:=(zr Z1);haveI Z4:=(zr Z3);subst Z4;haveI hx:=(zl Z3);clear Z3 Z1;obtain ⟨o,kvs,Z5⟩:=S.dI ha hx;haveI ho:=(zl Z5);haveI hd:=(zl (zr Z5));haveI hp:=(zl (zr (zr Z5)));haveI lo:=(zr (zr (zr Z5)));clear Z5;refine S.op fun ml xt os F a1 a2 a3 N a5 back=>?_;haveI hD:s.heap.DictOf (intKind c.prog c.w) x kvs:=Heap.dictOf_iff.mpr ⟨o,ho,hd⟩;obtain ⟨ep,hat⟩:=hD.dictAt;refine kdu_sorted (kdl_dict (knd:=intKind c.prog c.w) (kvs:=kvs) (ep:=ep) lo) ok.hh F N hat (by rw [sizeLine_eq,hp.length];exact Nat.le_of_lt (Nat.lt_of_lt_of_le ‹_› (by decide))) ?_;intro D h1 tk ws F1 N1 l1 hl hw;haveI hkeys:kvs.map (·.1)=es.map (·.1):=hp.keys;haveI hI:IntsAre ws (es.map (·.1)):=yrw (by rw [hl,length_map,hp.length]) fun j u hu=>by
   obtain ⟨kk,y,Z6⟩:=hw j u hu;haveI e1:=(zl Z6);haveI e2:=(zr Z6);clear Z6;obtain ⟨t,rfl⟩:=Value.isInt_shape e2;exact ⟨kk,t,by rw [<-hkeys,getElem?_map,e1];rfl,rfl⟩
 haveI z:=N1 _ (.head _);refine wpAny_call_entry PyProof.Rows.slot_list_sort ⟨_,z.1,rfl⟩ PyProof.Rows.entry_list_sort (list_sort_tree (n:=0) (vs:=ws) z.1 hI (by rw [hl,hp.length];exact hsz) fun out ns' b1 b2 b3=>⟨.none,rfl,?_⟩) (PyProof.Rows.args_list_sort _);obtain ⟨e,he⟩:=sortedHeap_at (out:=out) z.1;haveI hk:∀b o,b≠D->h1.get? b=some o->(sortedHeap h1 D ws out).get? b=some o:=fun b o hb q=>(sortedHeap_old hb (Heap.lt_size q)).trans q;haveI N2:News c.h₀ c.L (sortedHeap h1 D ws out) ((D,listOf out.toList.toArray e) :: (xt++ρ.zip os)):=fun p hp=>by
   rcases zmc hp with rfl | hp
   . exact ⟨by rw [Array.toArray_toList];exact he,z.2⟩
   . haveI P:=N1 p (.tail _ hp);exact ⟨hk _ _ (Nat.ne_of_lt (l1 p hp)) P.1,P.2⟩
 haveI F2:Fr c.h₀ c.L (sortedHeap h1 D ws out) ml:=by
   obtain ⟨oL,es',eP,Z7⟩:=F1.ns;haveI q1:=(zl Z7);haveI q2:=(zr Z7);clear Z7;exact ⟨⟨oL,es',eP,hk _ _ (Ne.symm z.2.1) q1,q2⟩,fun b o q=>hk b o (fun e=>by rw [e,z.2.2] at q;exact no q) (F1.keep b o q),F1.above⟩
 exact k [D] (.ref H.length) _ _ _ _ (h ns' b2 b3) ⟨_,yag a2,rfl⟩ (back _ _ _ (Led.alloc a1 a2 a3 a5 F2 N2 (fun p hp=>Nat.ne_of_lt (l1 p hp)) ⟨out.toList,e,yf7 b1,rfl⟩))
end
section
variable {c:Cx} {m:ML} {H:MH} {G:Gx} {d:Nat}
end
section
variable {c:Cx} {m:ML} {H:MH} {G:Gx} {d:Nat}
end
section
variable {c:Cx} {m:ML} {H:MH} {G:Gx} {d:Nat}
theorem Mth0.itemsI {a:Nat} {es:List (Int×MV)} {post:MV->MH->Prop} (ha:H[a]?=some (.dI a es)) (hp:post (.ref H.length) (H++[.view "dict_items" a])):Mth0 c m H (.ref a) "items" post:=by
 refine ⟨?_⟩;rintro mr ρ s Q E _ pl pos args S lr ⟨x,hx,rfl⟩ hes k kx;obtain ⟨o,kvs,Z1⟩:=S.dI ha hx;haveI ho:=(zl Z1);haveI hd:=(zl (zr Z1));haveI hpr:=(zl (zr (zr Z1)));haveI lo:=(zr (zr (zr Z1)));clear Z1;haveI hD:s.heap.DictOf (intKind c.prog c.w) x kvs:=Heap.dictOf_iff.mpr ⟨o,ho,hd⟩;refine S.op fun ml xt os F a1 a2 a3 N a5 back=>?_;refine getMethod_builtin hD.typeIs PySem.F.plainAttrs_dict PySem.F.slot_dict_items PySem.F.type_dict_items hD.mapOf.noDict ?_;refine callWith_method0 ?_;refine call_meetsIn PySem.F.slot_dict_items hD.typeIs PySem.F.entry_dict_items (PySem.F.args_dict_items_1 _) (meets_dict_items (intKind c.prog c.w) x lo) ⟨⟨kvs,hD⟩,?_⟩;exact k [s.heap.objs.size] (.ref H.length) _ _ _ _ hp ⟨_,yag a2,rfl⟩ (back _ _ _ (Led.alloc a1 a2 a3 a5 (F.push _) (News.push F N _ rfl) (fun p hp=>Nat.ne_of_lt (Heap.lt_size (N p hp).1)) ⟨x,yam hx,rfl⟩))
theorem ytb {prog:Program} {w:World} {A:Around} {E:Value->Shared->Prop} {s:Shared} {x y:Addr} {i j:Int} {t u:Tok} {v v':Value} {Q:Bool->Shared->Prop} (hx:s.heap.get? x=some { cls:=.type "tuple",data:=.seq #[.int i t,v] })
   (hy:s.heap.get? y=some { cls:=.type "tuple",data:=.seq #[.int j u,v'] }) (hne:i≠j) (h:Q (decide (i<j)) s):wpAny (model prog w) A (keyLt' (tuples' true) (.ref x) (.ref y)) Q E s:=by
 refine kat_lt hx rfl hy rfl ?_;refine kat_cons ?_;refine wpAny_eqBool_int ?_;rw [show (i==j)=false from beq_eq_false_iff_ne.mpr hne];refine kat_no ?_;exact oneLt_int h
theorem yta {n:Nat} {cmp:Nat->Nat->(Bool->Shared->Prop)->Shared->Prop} {Q:Nat->Shared->Prop} {s:Shared}:∀(f k:Nat),k+f=n->1<=k->(∀i,k<=i->i<n->∀C:Bool->Shared->Prop,C false s->cmp i (i - 1) C s)->Q n s->
   (kas_asc (List.toArray (List.range n)) f k).kasWp cmp Q s:=by
 intro zd
 induction zd with
 | zero=>
  exact fun k e zz zz q=>by
   haveI:k=n:=by assumption
   subst this;exact q
 | succ f zih=>
  exact fun k e h1 hc q=>by
   haveI e1:(List.toArray (List.range n)).getD k 0=k:=by simp [Array.getD];lia
   haveI e2:(List.toArray (List.range n)).getD (k - 1) 0=k - 1:=by simp [Array.getD];lia
   unfold kas_asc;rw [e1,e2];exact hc k (Nat.le_refl _) (by exact qf82 e) _ (zih (k+1) (by exact qf75 e) (by exact Nat.le_add_left _ _) (fun i hi hn=>hc i (by exact qf47 hi) hn) q)
theorem ypg {n:Nat} {cmp:Nat->Nat->(Bool->Shared->Prop)->Shared->Prop} {Q:Array Nat->Shared->Prop} {s:Shared} (h2:2<=n) (hc:∀i,1<=i->i<n->∀C:Bool->Shared->Prop,C false s->cmp i (i - 1) C s)
   (q:Q (List.toArray (List.range n)) s):(kas_sort n).kasWp cmp Q s:=by
 unfold kas_sort kas_count;rw [KasT.kasWp_bind,KasT.kasWp_bind];refine yta (n - 1) 1 (by lia) (by exact Nat.le_refl _) hc ?_;rw [if_pos (by simp)];show ((if n<n then _ else _:KasT (Array Nat))).kasWp cmp Q s;rw [if_neg (by lia)];exact q
theorem yfy {lo:Addr} {news:List (Addr×Obj)}:∀(ps:List ((Tok->Value)×Value)) (vs:List Value) (tups:List (Addr×Obj)) (C:List Value->List (Addr×Obj)->Prop),
   (∀(as:List Addr) (tups':List (Addr×Obj)),as.length=ps.length->as.Pairwise (· < ·)->(∀a ∈ as,(∀q ∈ news,q.1<a)/\∀q ∈ tups,q.1<a)->
     (∀(j:Nat) p,ps[j]?=some p->∃a t,as[j]?=some a/\(a,({ cls:=.type "tuple",data:=.seq #[p.1 t,p.2] }:Obj)) ∈ tups')->(∀q ∈ tups,q ∈ tups')->C (vs++as.map Value.ref) tups')->KdxOpen lo news ps vs tups C:=by
 intro zd
 induction zd with
 | nil=>
  exact fun vs tups C h=>by
   haveI:=h [] tups rfl List.Pairwise.nil (fun a ha=>nomatch ha) (fun j p e=>by exact no e) (fun q hq=>hq);rw [map_nil,append_nil] at this;exact this
 | cons p ps zih=>
  exact fun vs tups C h=>by
   intro a t _ h2 h3;refine zih _ _ C fun as tups' hl hp hb hj ht=>?_;haveI:=h (a :: as) tups' (by simp [hl]) (pairwise_cons.mpr ⟨fun b hb'=>(hb b hb').2 _ (.head _),hp⟩) ?_ ?_ fun q hq=>ht q (.tail _ hq)
   . simpa using this
   . intro b hb';rcases zmc hb' with rfl | hb'
     . exact ⟨h2,h3⟩
     . exact ⟨(hb b hb').1,fun q hq=>(hb b hb').2 q (.tail _ hq)⟩
   . intro j p' e;cases j with
     | zero=>
       (replace e:=si e;subst e)
       exact ⟨a,t,rfl,ht _ (.head _)⟩
     | succ j=>
       obtain ⟨a',t',Z1⟩:=hj j p' (by simpa using e);haveI e1:=(zl Z1);haveI e2:=(zr Z1);clear Z1;exact ⟨a',t',by exact e1,e2⟩
theorem Led.alloc1 {h₀ h:Heap} {L:Addr} {prog:Program} {w:World} {ml:Str->Option Value} {xs:List (Addr×Obj)} {ρ:List Addr} {H:MH} (S:Led h₀ L prog w ml xs ρ H h) {l:Addr} {x:Obj} {o:MO} (hx:h.get? l=some x/\l≠L/\h₀.get? l=none) (hl:l ∉ xs.map (·.1)++ρ) (ho:OR prog w (ρ++[l]) o x) :
   Led h₀ L prog w ml xs (ρ++[l]) (H++[o]) h:=by
 refine S.oq fun os F a1 a2 a3 N a5=>?_;refine Led.alloc a1 a2 a3 a5 F (fun p hp=>?_) (fun p hp e=>?_) ho
 . rcases zmc hp with rfl | hp
   . exact hx
   . exact N p hp
 . subst e;refine hl ?_;rcases zma hp with hp | hp
   . exact mem_append_left _ (mem_map_of_mem hp)
   . exact mem_append_right _ (of_mem_zip (show (p.1,p.2) ∈ _ from hp)).1
theorem Led.tups {h₀ h:Heap} {L:Addr} {prog:Program} {w:World} {ml:Str->Option Value} {xs:List (Addr×Obj)}:∀{as:List Addr} {es:List (Int×MV)} {kvs:List (Int×Value)} {ρ:List Addr} {H:MH},Led h₀ L prog w ml xs ρ H h->as.length=kvs.length->PR ρ es kvs->as.Pairwise (· < ·)->
   (∀a ∈ as,a ∉ xs.map (·.1)++ρ)->(∀(j:Nat) p,kvs[j]?=some p->∃a t,as[j]?=some a/\h.get? a=some ({ cls:=.type "tuple",data:=.seq #[.int p.1 t,p.2] }:Obj)/\a≠L/\h₀.get? a=none)->
   Led h₀ L prog w ml xs (ρ++as) (H++es.map fun e=>.tup [.int e.1,e.2]) h:=by
 intro as
 induction as with
 | nil=>
   intro es kvs ρ H S hl hp _ _ _;cases kvs with
   | cons _ _=>cases hl
   | nil=>cases es with
     | nil=>simpa using S
     | cons e r=>obtain ⟨v,r',e',_⟩:=hp;cases e'
 | cons a as zih=>
   intro es kvs ρ H S hl hp hw hf hj;cases kvs with
   | nil=>cases hl
   | cons kv kvs=>
     cases es with
     | nil=>cases (show kv :: kvs=[] from hp)
     | cons e r=>
       obtain ⟨v,r',Z1⟩:=hp;haveI e':=(zl Z1);haveI hv:=(zl (zr Z1));haveI hr:=(zr (zr Z1));clear Z1;cases e';obtain ⟨a',t,Z2⟩:=hj 0 _ rfl;haveI e1:=(zl Z2);haveI e2:=(zl (zr Z2));haveI e3:=(zl (zr (zr Z2)));haveI e4:=(zr (zr (zr Z2)));clear Z2
       (replace e1:=si e1;subst e1)
       haveI hw:=pairwise_cons.mp hw;haveI S1:=S.alloc1 (l:=a) (o:=.tup [.int e.1,e.2]) ⟨e2,e3,e4⟩ (hf a (.head _)) ⟨[.int e.1 t,v],0,⟨_,_,rfl,⟨t,rfl⟩,⟨_,_,rfl,hv.mono,rfl⟩⟩,rfl⟩;haveI:=zih (es:=r) (kvs:=kvs) S1 (by exact Nat.succ.inj hl) hr.mono hw.2 (fun b hb q=>?_) (fun j p e=>?_)
       . simpa [append_assoc] using this
       . rw [<-append_assoc] at q;rcases zma q with q | q
         . exact hf b (.tail _ hb) q
         . haveI e:b=a:=by exact mem_singleton.mp q
           exact absurd (hw.1 b hb) (by rw [e];exact Nat.lt_irrefl _)
       . obtain ⟨a2,t2,Z3⟩:=hj (j+1) p (by exact e);haveI f1:=(zl Z3);haveI f2:=(zr Z3);clear Z3;exact ⟨a2,t2,by simpa using f1,f2⟩
theorem yjm {h:Heap}:∀{as:List Addr} {kvs:List (Int×Value)},as.length=kvs.length->(∀(j:Nat) p,kvs[j]?=some p->∃a t,as[j]?=some a/\h.get? a=some ({ cls:=.type "tuple",data:=.seq #[.int p.1 t,p.2] }:Obj))->
   ∃fs:List Value,KatTups h (as.map Value.ref) fs/\fs.length=as.length/\∀v ∈ fs,∃i t,v=.int i t:=by
 intro as
 induction as with
 | nil=>intro kvs hl _;cases kvs with
   | nil=>exact ⟨[],trivial,rfl,fun v hv=>nomatch hv⟩
   | cons _ _=>cases hl
 | cons a as zih=>intro kvs hl hj;cases kvs with
   | nil=>cases hl
   | cons kv kvs=>
     obtain ⟨a',t,e1,e2⟩:=hj 0 _ rfl
     (replace e1:=si e1;subst e1)
     obtain ⟨fs,h1,h2,h3⟩:=zih (kvs:=kvs) (by exact Nat.succ.inj hl) fun j p e=>by
       obtain ⟨a2,t2,f1,f2⟩:=hj (j+1) p (by exact e);exact ⟨a2,t2,by simpa using f1,f2⟩
     refine ⟨.int kv.1 t :: fs,KatTups.cons e2 rfl rfl rfl h1,by simp [h2],fun v hv=>?_⟩;rcases zmc hv with rfl | hv
     . exact ⟨_,_,rfl⟩
     . exact h3 v hv
theorem yf2 {ρ:List Addr} {n:Nat} (hn:ρ.length=n):∀(as bs:List Addr),VRs (ρ++as++bs) ((List.range as.length).map fun i=>MV.ref (n+i)) (as.map Value.ref):=@fun zd1=>@(match zd1 with
 | []=>fun zz=>rfl
 | a :: as=>fun bs=>by
   rw [length_cons,List.range_succ_eq_map,map_cons,map_map,map_cons];refine ⟨_,_,rfl,⟨a,by rw [append_assoc,getElem?_append_right (by exact Nat.le_of_eq ‹_›)];simp [hn],rfl⟩,?_⟩;haveI:=yf2 (ρ:=ρ++[a]) (n:=n+1) (by simp [hn]) as bs;haveI e:(fun i=>MV.ref (n+i)) ∘ Nat.succ=fun i=>MV.ref (n+1+i):=by
     funext i;show MV.ref (n+(i+1))=MV.ref (n+1+i);congr 1;exact qf88
   rw [e];simpa [append_assoc] using this)
theorem BCw.sortItems (ok:Ok G c d) {b a:Nat} {es:List (Int×MV)} {post:MV->MH->Prop} (hb:H[b]?=some (.view "dict_items" a)) (ha:H[a]?=some (.dI a es)) (hasc:es.Pairwise (fun x y=>x.1<y.1)) (h2:2<=es.length) (h64:es.length<64)
   (h:post (.ref (H.length+es.length)) ((H++es.map fun e=>MO.tup [.int e.1,e.2])++[.list ((List.range es.length).map fun i=>MV.ref (H.length+i))])):BCw c (.builtin "sorted") [.ref b] H post:=by
 refine ⟨?_⟩;intro mr ρ s Q E vs S hvs k;obtain ⟨v,rfl,y,hy,rfl⟩:=yaw hvs;obtain ⟨y',oV,hy',⟨x,hx,rfl⟩,NV⟩:=S.get hb;rw [hy] at hy'
 (replace hy':=si hy';subst hy')
 obtain ⟨xa,oa,hxa,ho',ND⟩:=S.get ha;rw [hx] at hxa
 (replace hxa:=si hxa;subst hxa)
 obtain ⟨o,kvs,ho,hd,hp,lo⟩:=S.dI ha hx;refine S.op fun ml xt os F a1 a2 a3 N a5 back=>?_;have hoa:oa=o:=by
   have:=(ND _ (.head _)).1;rw [ho] at this;cases this;rfl
 subst hoa;obtain ⟨x1,q1,q2⟩:=a3 _ _ hb;obtain ⟨x2,q3,q4⟩:=a3 _ _ ha;have m1:=mem_append_right xt (ya2 hy q1);have m2:=mem_append_right xt (ya2 hx q3);have e1:x1={ cls:=.type "dict_items",data:=.fields #[.ref x] }:=by
   have:=(N _ m1).1;rw [(NV _ (.head _)).1] at this;cases this;rfl
 have e2:x2=oa:=by
   have:=(N _ m2).1;rw [ho] at this;cases this;rfl
 subst e1 e2;refine kdx_sortedN (knd:=intKind c.prog c.w) (kvs:=kvs) (enc:=PyData.int) ok.hh F N m1 m2 hd (by rw [hp.length];exact Nat.le_of_lt (Nat.lt_of_lt_of_le ‹_› (by decide))) (fun kk v hk=>Value.isInt_shape hk) rfl ?_;intro lo' hlo;refine yfy _ _ _ _ fun as tups' hl hw hb' hj _=>?_;intro B h' tk hB F' N';rw [length_map] at hl;have hj':∀(j:Nat) p,kvs[j]?=some p->∃a t,as[j]?=some a/\h'.get? a=some ({ cls:=.type "tuple",data:=.seq #[.int p.1 t,p.2] }:Obj)/\a≠c.L/\c.h₀.get? a=none:=by
   intro j p e;obtain ⟨a',t,f1,f2⟩:=hj j _ (by rw [getElem?_map,e];rfl);have:=N' _ (.tail _ (mem_append_left _ f2));exact ⟨a',t,f1,this.1,this.2⟩
 rw [nil_append] at N';have hlen:(as.map Value.ref).length=es.length:=by rw [length_map,hl,hp.length]
 obtain ⟨fs,t1,t2,t3⟩:=yjm (h:=h') hl fun j p e=>let ⟨a',t,f1,f2,_⟩:=hj' j p e;⟨a',t,f1,f2⟩
 have hna:∀p ∈ tups'++(xt++ρ.zip os),p.1≠B:=fun p hp=>Nat.ne_of_lt (hB p hp);refine kat_lsort (vs:=as.map Value.ref) F' N' (UpdF.head hna) rfl (by exact qf89 h2 hlen) (by lia) ?_;intro e1 h2' F2 N2;have old:∀p ∈ tups'++(xt++ρ.zip os),h2'.get? p.1=some p.2/\p.1≠c.L/\c.h₀.get? p.1=none:=fun p hp=>N2 p (.tail _ hp);have hj2:∀(j:Nat) p,kvs[j]?=some p->∃a t,as[j]?=some a/\h2'.get? a=some ({ cls:=.type "tuple",data:=.seq #[.int p.1 t,p.2] }:Obj)/\a≠c.L/\c.h₀.get? a=none:=by
   intro j p e;obtain ⟨a',t,f1,f2⟩:=hj j _ (by rw [getElem?_map,e];rfl);have:=old _ (mem_append_left _ f2);exact ⟨a',t,f1,this.1,this.2⟩
 obtain ⟨fs,t1,t2,t3⟩:=yjm (h:=h2') hl fun j p e=>let ⟨a',t,f1,f2,_⟩:=hj2 j p e;⟨a',t,f1,f2⟩
 refine kat_kind (T:=.type "int") t1 (by rw [t2,hl,hp.length];lia) (fun v hv=>by obtain ⟨i,t,rfl⟩:=t3 v hv;exact Looks.of_pure rfl) rfl ?_;show (kas_sort (as.map Value.ref).length).kasWp _ _ _;have hget:∀j,j<as.length->∃a t p,(as.map Value.ref).getD j Value.none=.ref a/\kvs[j]?=some p/\h2'.get? a=some ({ cls:=.type "tuple",data:=.seq #[.int p.1 t,p.2] }:Obj):=by
   intro j hjl;have hjk:j<kvs.length:=by exact qf92 hl hjl
   obtain ⟨a',t,f1,f2,_⟩:=hj2 j kvs[j] (getElem?_eq_getElem hjk);exact ⟨a',t,kvs[j],by rw [getD_eq_getElem?_getD,getElem?_map,f1];rfl,getElem?_eq_getElem hjk,f2⟩
 refine ypg (by exact qf89 h2 hlen) (fun i i1 i2 C hC=>?_) ?_
 . rw [length_map] at i2;obtain ⟨ai,ti,pi,g1,g2,g3⟩:=hget i i2;obtain ⟨aj,tj,pj,g4,g5,g6⟩:=hget (i - 1) (by lia);unfold kas_ask;rw [g1,g4];have hlt:pj.1<pi.1:=by
     have hk:kvs.map (·.1)=es.map (·.1):=hp.keys;have w:(kvs.map (·.1)).Pairwise (· < ·):=by rw [hk];exact pairwise_map.mpr hasc
     have:=List.pairwise_iff_getElem.mp w (i - 1) i (by rw [length_map];omega) (by rw [length_map];omega) (by omega);rw [List.getElem_map,List.getElem_map] at this;rw [getElem?_eq_getElem (by omega)] at g2 g5
     (replace g2:=si g2;subst g2)
     (replace g5:=si g5;subst g5)
     exact this
   refine ytb g3 g6 (by omega) ?_;rw [decide_eq_false (by exact ywd hlt)];exact hC
 . refine KasFin.intro F2 N2 (UpdF.head hna) ?_;intro h3 cc F3 N3;have eout:((List.toArray (List.range (as.map Value.ref).length)).toList.map fun i=>(as.map Value.ref).getD i Value.none)=as.map Value.ref:=by
     refine List.ext_getElem? fun j=>?_;by_cases hjl:j<as.length
     . simp [hjl]
     . simp [hjl]
   rw [eout] at N3;have old3:∀p ∈ tups'++(xt++ρ.zip os),h3.get? p.1=some p.2/\p.1≠c.L/\c.h₀.get? p.1=none:=fun p hp=>N3 p (.tail _ hp);have S0:Led c.h₀ c.L c.prog c.w ml xt ρ H h3:=⟨F3,os,a1,a2,a3,fun p hp=>old3 p (mem_append_right _ hp),a5⟩;have hlow:∀a ∈ as,a ∉ xt.map (·.1)++ρ:=by
     intro a' ha' q;obtain ⟨p,p1,p2⟩:=ybs a1 a2 q;exact absurd ((hb' a' ha').1 p p1) (by rw [p2];exact Nat.lt_irrefl _)
   have S1:=S0.tups (as:=as) (es:=es) (kvs:=kvs) hl hp hw hlow fun j p e=>by
     obtain ⟨a',t,f1,f2⟩:=hj j _ (by rw [getElem?_map,e];rfl);have:=old3 _ (mem_append_left _ f2);exact ⟨a',t,f1,this.1,this.2⟩
   have hBn:B ∉ xt.map (·.1)++(ρ++as):=by
     intro q;rw [<-append_assoc] at q;rcases zma q with q | q
     . obtain ⟨p,p1,p2⟩:=ybs a1 a2 q;exact absurd (hB p (mem_append_right _ p1)) (by rw [p2];exact Nat.lt_irrefl _)
     . obtain ⟨j,hjl,ej⟩:=List.getElem_of_mem q;have hjk:j<kvs.length:=by exact qf92 hl hjl
       obtain ⟨a',t,f1,f2⟩:=hj j _ (by rw [getElem?_map,getElem?_eq_getElem hjk];rfl);rw [getElem?_eq_getElem hjl,ej] at f1
       (replace f1:=si f1;subst f1)
       exact absurd (hB _ (mem_append_left _ f2)) (Nat.lt_irrefl _)
   have S2:=S1.alloc1 (l:=B) (o:=.list ((List.range es.length).map fun i=>MV.ref (H.length+i))) (N3 _ (.head _)) hBn ⟨as.map Value.ref,cc,?_,rfl⟩
   . refine k (as++[B]) (.ref (H.length+es.length)) (.ref B) _ h3 _ h ⟨B,?_,rfl⟩ ?_
     . rw [<-append_assoc,getElem?_append_right (by simp;rw [hl,hp.length,a2];exact yvz)];simp [hl,hp.length,a2]
     . rw [<-append_assoc];exact back _ _ _ S2
   . rw [<-hp.length,<-hl];exact yf2 a2 as [B]
end
noncomputable def cloV (n:Nat):MV->Bool
 | .ref a=>Nat.ble (Nat.succ a) n
 | _=>true
noncomputable def cloVs (n:Nat):List MV->Bool
 | []=>true
 | v :: r=>match cloV n v with
   | true=>cloVs n r
   | false=>false
noncomputable def cloP {K:Type} (n:Nat):List (K×MV)->Bool
 | []=>true
 | p :: r=>match cloV n p.2 with
   | true=>cloP n r
   | false=>false
theorem VR.cut {n:Nat} {ρ:List Addr} {m:MV} {v:Value} (hc:cloV n m=true) (h:VR ρ m v):VR (ρ.take n) m v:=by
 cases m with
 | ref a=>
   obtain ⟨x,hx,e⟩:=h;have:a<n:=zlb hc;exact ⟨x,by rw [getElem?_take,if_pos this];exact hx,e⟩
 | _=>exact h
theorem cloVs.c {n:Nat} {v:MV} {r:List MV} (h:cloVs n (v :: r)=true):cloV n v=true/\cloVs n r=true:=by
 dsimp only [cloVs] at h;split at h
 . exact ⟨by assumption,h⟩
 . exact nb h
theorem cloP.c {K:Type} {n:Nat} {p:K×MV} {r:List (K×MV)} (h:cloP n (p :: r)=true):cloV n p.2=true/\cloP n r=true:=by
 dsimp only [cloP] at h;split at h
 . exact ⟨by assumption,h⟩
 . exact nb h
theorem VRs.cut {n:Nat} {ρ:List Addr}:∀{ms:List MV} {vs:List Value},cloVs n ms=true->VRs ρ ms vs->VRs (ρ.take n) ms vs:=by
 intro ms
 induction ms with
 | nil=>intro vs _ h;exact h
 | cons a ms ih=>
   intro vs hc h;obtain ⟨v,r,e,h1,h2⟩:=h;exact ⟨v,r,e,h1.cut (cloVs.c hc).1,ih (cloVs.c hc).2 h2⟩
theorem NR.cut {P:Params} {n:Nat} {ρ:List Addr}:∀{fs:List (Str×MV)} {es:List DictEntry},cloP n fs=true->NR P ρ fs es->NR P (ρ.take n) fs es:=by
 intro fs
 induction fs with
 | nil=>intro es _ h;exact h
 | cons p fs ih=>
   intro es hc h;obtain ⟨t,v,r,e,h1,h2⟩:=h;exact ⟨t,v,r,e,h1.cut (cloP.c hc).1,ih (cloP.c hc).2 h2⟩
theorem PR.cut {K:Type} {n:Nat} {ρ:List Addr}:∀{fs:List (K×MV)} {es:List (K×Value)},cloP n fs=true->PR ρ fs es->PR (ρ.take n) fs es:=by
 intro fs
 induction fs with
 | nil=>intro es _ h;exact h
 | cons p fs ih=>
   intro es hc h;obtain ⟨v,r,e,h1,h2⟩:=h;exact ⟨v,r,e,h1.cut (cloP.c hc).1,ih (cloP.c hc).2 h2⟩
section
variable {c:Cx} {m:ML} {H:MH} {G:Gx} {d:Nat}
def GLs (G:Gx) (a:Addr) (ys:List Str):Prop:=∃(vs:List Value) (n:Nat),G.K.lookup a=some (listOf vs.toArray n)/\StrsAre vs ys
theorem Cq.inG (ok:Ok G c d) {a:Addr} {ys:List Str} {x:Str} (g:GLs G a ys):Cq c .In H (.str x) (.glob a) (ys.any (·==x)):=by
 rintro mr ρ s Q E _ _ S ⟨t,rfl⟩ rfl k;obtain ⟨vs,n,Z1⟩:=g;haveI hk:=(zl Z1);haveI hi:=(zr Z1);clear Z1;haveI ho:=ok.kin.keeps S.keep a _ hk;exact in_list_strs ⟨_,ho,rfl,_,rfl⟩ hi (k s.heap s.toks S)
theorem Cq.ninG (ok:Ok G c d) {a:Addr} {ys:List Str} {x:Str} (g:GLs G a ys):Cq c .NotIn H (.str x) (.glob a) (!(ys.any (·==x))):=by
 rintro mr ρ s Q E _ _ S ⟨t,rfl⟩ rfl k;obtain ⟨vs,n,hk,hi⟩:=g;have ho:=ok.kin.keeps S.keep a _ hk;exact notin_list_strs ⟨_,ho,rfl,_,rfl⟩ hi (k s.heap s.toks S)
end
noncomputable def defd (K:Frag) (f:Addr) (names nm:List Str) (b:CSs):Bool:=
 match K.lookup f with
 | some ⟨_,_,.func fd,_⟩=>
   (match fd.body with
   | .stmts body=>wfSs b nm fd.scope body
   | _=>false) && fd.globals==mainGlobals && fd.closure.isEmpty && fd.builtins==builtinsNs && codeIn K fd.code fd.qualname && fnb fd.scope names nm
 | _=>false
noncomputable def yg4 (K:Frag) (f:Addr) (S:Setting) (vs:List Value):Option (List (Str×Value)):=match K.lookup f with
 | some ⟨_,_,.func fd,_⟩=>peek K S (bindArgs fd ⟨vs,[]⟩)
 | _=>none
theorem GDef.ofD {G:Gx} {f:Addr} {names nm:List Str} {b:CSs} {dm:List MV} {dv:List Value} (h:defd G.K f names nm b=true) (hre:reSs b nm (yca G.K f)=yca G.K f) (hd:VRs [] dm dv)
   (hb:∀S (vs:List Value),vs.length+dm.length=names.length->yg4 G.K f S vs=some (names.zip (vs++dv))):GDef G f names nm b dm:=by
 unfold defd at h;unfold yca at hre;unfold yg4 at hb;cases hk:G.K.lookup f with
 | none=>rw [hk] at h;cases h
 | some ob=>
   obtain ⟨oc,od,dat,osl⟩:=ob;rw [hk] at h hre hb;cases dat with
   | func fd=>
     simp only [Bool.and_eq_true,beq_iff_eq,isEmpty_iff] at h hre hb;haveI Z1:=h;clear h;haveI h1:=(zl (zl (zl (zl (zl Z1)))));haveI h2:=(zr (zl (zl (zl (zl Z1)))));haveI h3:=(zr (zl (zl (zl Z1))));haveI h4:=(zr (zl (zl Z1)));haveI h8:=(zr (zl Z1));haveI h9:=(zr Z1);clear Z1;obtain ⟨name,qual,params,bd,scope,gl,cl,df,kd,doc,pm,an,cd,ct,bi⟩:=fd;cases bd with
     | stmts body=>
       simp only at h1 h2 h3 h4 h8 h9 hre;subst h2 h3 h4;exact ⟨name,qual,params,body,scope,df,kd,doc,pm,cd,ct,oc,an,od,osl,dv,hk,h8,fun s vs X hl=>kp_binds X fun S=>hb S vs hl,hd,h9,h1,hre⟩
     | _=>cases h1
   | _=>cases h
noncomputable def strX:Int->Str
 | .ofNat n=>⟨((Nat.toDigits 10 n).map Char.toNat).toArray⟩
 | .negSucc n=>Str.ofString (toString (Int.negSucc n))
theorem strX.eq:∀{i:Int},strX i=Str.ofString (toString i)
 | .ofNat n=>by
   show (⟨((Nat.toDigits 10 n).map Char.toNat).toArray⟩:Str)=_;rw [<-KIN.signs_num n,Array.toArray_toList];rfl
 | .negSucc n=>rfl
section
variable {c:Cx} {m:ML} {H:MH} {G:Gx} {d:Nat}
theorem Mth.join {sep:Str}:Mth c m H (.str sep) "join" (fun vs H2 post=>∃a ys,(vs=[.ref a]/\H2[a]?=some (.list (strL ys)))/\(sep.length<=16/\(ys.map (·.length)).sum+ys.length<=1048576)/\post (.str (Txt.join sep ys)) H2):=by
 refine ⟨fun x r post h=>?_⟩;rintro mr ρ s Q E _ pl pos args S lr ⟨t0,rfl⟩ hes k kx;refine GM.join ?_;haveI h4:=and2 hes;refine callWith_method1 ?_ (yav (ybi h4.1)) (ya0 h4.2);refine h _ _ hes mr ρ s _ E S lr ?_ kx;rintro t _ vrs H2 h2 tk2 ⟨a,ys,⟨rfl,ha⟩,⟨l1,l2⟩,hp⟩ ⟨vr,r,rfl,⟨y,hy,rfl⟩,hr⟩ S2;haveI hr':r=[]:=hr;subst hr';obtain ⟨ws,n,Z1⟩:=S2.list ha hy;haveI hws:=(zl Z1);haveI No:=(zr Z1);clear Z1;exact join_listW (yad No) (by simpa using yj8 hws) l1 l2 fun t' tk=>k t _ _ H2 h2 tk hp ⟨_,rfl⟩ S2
theorem Cq.inD (ok:Ok G c d) {a b:MV} {ds:List PyData} {db:PyData} (ha:RD H a (.list ds)) (hb:RD H b db) (hxs:PyData.canLayAll0 ds=true) (hd:db.canLay0=true) (hn:db.depth<=50):Cq c .In H b a (ds.any fun y=>PyData.eqv y db):=by
 intro mr ρ s Q E va vb S h1 h2 k;obtain ⟨as,r1⟩:=ha.reads S h2;obtain ⟨bs,r2⟩:=hb.reads S h1;exact SeqAt.in_list_reads r1 r2 hxs hd (by haveI:=ok.uni;haveI:min (PyData.depthAll ds) db.depth<=db.depth:=Nat.min_le_right _ _;exact yu5 hn ‹_› this) (k s.heap s.toks S)
theorem VR.bd {ρ:List Addr} {v:MV} {vr:Value} (h:VR ρ v vr):cloV ρ.length v=true:=by
 cases v with
 | ref a=>
   obtain ⟨x,hx,_⟩:=h;exact Nat.ble_eq_true_of_le (zgs hx).1
 | _=>rfl
theorem VRs.bd {ρ:List Addr}:∀{ms:List MV} {vs:List Value},VRs ρ ms vs->cloVs ρ.length ms=true
 | [],_,_=>rfl
 | v :: r,_,⟨_,_,_,h1,h2⟩=>by dsimp only [cloVs];rw [h1.bd];exact h2.bd
theorem NR.bd {P:Params} {ρ:List Addr}:∀{fs:List (Str×MV)} {es:List DictEntry},NR P ρ fs es->cloP ρ.length fs=true:=by
 intro fs
 induction fs with
 | nil=>intro es _;rfl
 | cons p fs ih=>
   intro es h;obtain ⟨_,_,_,_,h1,h2⟩:=h;dsimp only [cloP];rw [h1.bd];exact ih h2
theorem PR.bd {K:Type} {ρ:List Addr}:∀{fs:List (K×MV)} {es:List (K×Value)},PR ρ fs es->cloP ρ.length fs=true:=by
 intro fs
 induction fs with
 | nil=>intro es _;rfl
 | cons p fs ih=>
   intro es h;obtain ⟨_,_,_,h1,h2⟩:=h;dsimp only [cloP];rw [h1.bd];exact ih h2
theorem OR.cutS {prog:Program} {w:World} {ρ t:List Addr} {o:MO} {x y:Obj} (h0:OR prog w ρ o y) (h:OR prog w (ρ++t) o x):OR prog w ρ o x:=by
 haveI tk:(ρ++t).take ρ.length=ρ:=List.take_left;haveI gt:∀{j:Nat} {y:Addr},j<ρ.length->(ρ++t)[j]?=some y->ρ[j]?=some y:=fun hj e=>by rw [getElem?_append_left hj] at e;exact e
 cases o with
 | list xs=>obtain ⟨vs,m,Z1⟩:=h;haveI h1:=(zl Z1);haveI h2:=(zr Z1);clear Z1;obtain ⟨_,_,Z2⟩:=h0;haveI q:=(zl Z2);clear Z2;exact ⟨vs,m,tk ▸ h1.cut q.bd,h2⟩
 | tup xs=>obtain ⟨vs,m,Z3⟩:=h;haveI h1:=(zl Z3);haveI h2:=(zr Z3);clear Z3;obtain ⟨_,_,Z4⟩:=h0;haveI q:=(zl Z4);clear Z4;exact ⟨vs,m,tk ▸ h1.cut q.bd,h2⟩
 | inst c d=>obtain ⟨x,Z5⟩:=h;haveI h1:=(zl Z5);haveI h2:=(zr Z5);clear Z5;obtain ⟨_,Z6⟩:=h0;haveI q:=(zl Z6);clear Z6;exact ⟨x,gt (zgs q).1 h1,h2⟩
 | ns fs=>obtain ⟨es,m,Z7⟩:=h;haveI h1:=(zl Z7);haveI h2:=(zr Z7);clear Z7;obtain ⟨_,_,Z8⟩:=h0;haveI q:=(zl Z8);clear Z8;exact ⟨es,m,tk ▸ h1.cut q.bd,h2⟩
 | dI j es=>obtain ⟨y,kvs,Z9⟩:=h;haveI h1:=(zl Z9);haveI h2:=(zl (zr Z9));haveI h3:=(zl (zr (zr Z9)));haveI h4:=(zr (zr (zr Z9)));clear Z9;obtain ⟨_,_,Z10⟩:=h0;haveI q:=(zl Z10);haveI q3:=(zl (zr (zr Z10)));clear Z10;exact ⟨y,kvs,gt (zgs q).1 h1,h2,tk ▸ h3.cut q3.bd,h4⟩
 | dS j es=>obtain ⟨y,kvs,Z11⟩:=h;haveI h1:=(zl Z11);haveI h2:=(zl (zr Z11));haveI h3:=(zl (zr (zr Z11)));haveI h4:=(zr (zr (zr Z11)));clear Z11;obtain ⟨_,_,Z12⟩:=h0;haveI q:=(zl Z12);haveI q3:=(zl (zr (zr Z12)));clear Z12;exact ⟨y,kvs,gt (zgs q).1 h1,h2,tk ▸ h3.cut q3.bd,h4⟩
 | view k d=>obtain ⟨x,Z13⟩:=h;haveI h1:=(zl Z13);haveI h2:=(zr Z13);clear Z13;obtain ⟨_,Z14⟩:=h0;haveI q:=(zl Z14);clear Z14;exact ⟨x,gt (zgs q).1 h1,h2⟩
 | exc c d=>obtain ⟨x,vs,Z15⟩:=h;haveI h1:=(zl Z15);haveI h2:=(zr Z15);clear Z15;obtain ⟨_,_,Z16⟩:=h0;haveI q:=(zl Z16);clear Z16;exact ⟨x,vs,gt (zgs q).1 h1,h2⟩
 | setN n=>exact h
 | lany k=>exact h
 | junk=>trivial
theorem St.cutS {mr mr':Str->Option Value} {ρ t:List Addr} {H':MH} {h h':Heap} (S0:St c mr ρ H h) (E:∀(i:Nat) o,H[i]?=some o->H'[i]?=some o) (S:St c mr' (ρ++t) H' h'):St c mr' ρ H h':=by
 obtain ⟨ml,fr,ex,Z1⟩:=S;obtain ⟨os,Z2⟩:=(zr (zr (zr Z1)));haveI h1:=(zl Z1);haveI h2:=(zl (zr Z1));haveI F:=(zl (zr (zr Z1)));haveI a1:=(zl Z2);haveI a2:=(zl (zr Z2));haveI a3:=(zl (zr (zr Z2)));haveI N:=(zl (zr (zr (zr Z2))));haveI a5:=(zr (zr (zr (zr Z2))));clear Z2 Z1;obtain ⟨_,_,_,Z3⟩:=S0;obtain ⟨os0,Z4⟩:=(zr (zr (zr Z3)));haveI b1:=(zl Z4);haveI b2:=(zl (zr Z4));haveI b3:=(zl (zr (zr Z4)));clear Z4 Z3;haveI tk:(ρ++t).take ρ.length=ρ:=List.take_left;haveI hle:H.length<=H'.length:=by
   refine Nat.not_lt.mp fun q=>?_;haveI:=(zgs (E H'.length _ (getElem?_eq_getElem q))).1;exact absurd ‹_› (Nat.lt_irrefl _)
 refine ⟨ml,fr,ex,h1,h2,F,os.take H.length,by rw [length_take];exact qf96 a1 hle,b2,?_,?_,?_⟩
 . intro i o e;haveI hi:i<H.length:=(zgs e).1;obtain ⟨x,Z5⟩:=a3 i o (E i o e);haveI e3:=(zl Z5);haveI e4:=(zr Z5);clear Z5;obtain ⟨y,Z6⟩:=b3 i o e;haveI e5:=(zr Z6);clear Z6;exact ⟨x,by rw [getElem?_take,if_pos hi];exact e3,e5.cutS e4⟩
 . intro p hp;refine N p ?_;rcases zma hp with hp | hp
   . exact mem_append_left _ hp
   . haveI e:ρ.zip (os.take H.length)=((ρ++t).zip os).take H.length:=by
       rw [<-b2,<-show ((ρ++t).take ρ.length).zip (os.take ρ.length)=((ρ++t).zip os).take ρ.length by simp [List.zip,List.take_zipWith],tk]
     rw [e] at hp;exact mem_append_right _ (List.mem_of_mem_take hp)
 . rw [<-tk];exact List.Sublist.nodup (List.Sublist.append (List.Sublist.refl _) (List.take_sublist _ _)) a5
end
section
variable {prog:Program} {w:World} {A:Around} {E:Value->Shared->Prop} {s:Shared}
theorem yog {a:Addr} {v:Value} {n:Nat} {P:PySem.Fin->Shared->Prop} (ho:s.heap.get? a=some (seqObj "list" #[v] n))
   (h:P (.done (.ret .none)) { s with heap:=sortedHeap s.heap a [v] #[v] }) :
   wpAny (model prog w) A (Builtin.«list.sort» ⟨[.ref a],[]⟩) P E s:=by
 rw [list_sort_plain];haveI ha:a<s.heap.objs.size:=Heap.lt_size ho;refine wpAny_bind (listItems_at ho rfl ?_);refine wpAny_bind (listUpdate_at ho rfl ?_);obtain ⟨e1,ho1⟩:∃e1,(s.heap.update a (Obj.mapSeq fun _=>#[])).get? a=some (seqObj "list" #[] e1):=⟨_,get?_update_seq ho (fun _=>#[])⟩;refine wpAny_bind (seqEpoch_at ho1 rfl ?_);refine wpAny_bind (wpAny_newTuple ?_);refine wpAny_bind (wpAny_newList ?_);refine wpAny_holding ?_;haveI ho6:(((s.heap.update a (Obj.mapSeq fun _=>#[])).push (seqObj "tuple" #[v] 0)).push (seqObj "list" #[] 0)).get? a=some (seqObj "list" #[] e1):=by
   rw [Heap.get?_push_ne _ _ _ (by rw [size_push',Heap.size_update];exact Nat.ne_of_lt (Nat.lt_succ_of_lt ha)),Heap.get?_push_ne _ _ _ (by rw [Heap.size_update];exact Nat.ne_of_lt ha)];exact ho1
 show wpAny (model prog w) A _ P E { s with heap:=((s.heap.update a (Obj.mapSeq fun _=>#[])).push (seqObj "tuple" #[v] 0)).push (seqObj "list" #[] 0) };dsimp only;haveI h2:(#[v]:Array Value).size<2:=by show 1<2;decide
 rw [if_pos h2,if_pos h2];refine wpAny_bind (wpAny_pure ?_);rw [StateT.run_pure];refine wpAny_bind (wpAny_pure ?_);dsimp only;refine wpAny_bind (seqEpoch_at ho6 rfl ?_);refine wpAny_bind (listUpdate_at ho6 rfl ?_ (hsz2:=by rw [Array.size_map];show (pairsOf [v]).size<=_;rw [pairsOf_size,sizeLine_eq];exact zlb rfl));simp only [bne_self_eq_false,Bool.false_eq_true,if_false];haveI hz:(arrOf (SortSt.mk' general' (#[v].zip #[v]) #[] 7 none)).map (·.2)=#[v]:=by
   show (#[v].zip #[v]).map (·.2)=#[v];simp
 rw [hz];exact wpAny_pure h
end
section
variable {c:Cx} {m:ML} {H:MH} {G:Gx} {d:Nat}
theorem BCw.sortItems1 (ok:Ok G c d) {b a:Nat} {es:List (Int×MV)} {post:MV->MH->Prop} (hb:H[b]?=some (.view "dict_items" a)) (ha:H[a]?=some (.dI a es)) (hasc:es.Pairwise (fun x y=>x.1<y.1)) (h1:1<=es.length) (h64:es.length<64)
   (h:post (.ref (H.length+es.length)) ((H++es.map fun e=>MO.tup [.int e.1,e.2])++[.list ((List.range es.length).map fun i=>MV.ref (H.length+i))])):BCw c (.builtin "sorted") [.ref b] H post:=by
 by_cases h2:2<=es.length
 . exact BCw.sortItems ok hb ha hasc h2 h64 h
 refine ⟨?_⟩;intro mr ρ s Q E vs S hvs k;obtain ⟨v,rfl,y,hy,rfl⟩:=yaw hvs;obtain ⟨y',oV,hy',⟨x,hx,rfl⟩,NV⟩:=S.get hb;rw [hy] at hy'
 (replace hy':=si hy';subst hy')
 obtain ⟨xa,oa,hxa,ho',ND⟩:=S.get ha;rw [hx] at hxa
 (replace hxa:=si hxa;subst hxa)
 obtain ⟨o,kvs,ho,hd,hp,lo⟩:=S.dI ha hx;refine S.op fun ml xt os F a1 a2 a3 N a5 back=>?_;have hoa:oa=o:=by
   have:=(ND _ (.head _)).1;rw [ho] at this;cases this;rfl
 subst hoa;obtain ⟨x1,q1,q2⟩:=a3 _ _ hb;obtain ⟨x2,q3,q4⟩:=a3 _ _ ha;have m1:=mem_append_right xt (ya2 hy q1);have m2:=mem_append_right xt (ya2 hx q3);have e1:x1={ cls:=.type "dict_items",data:=.fields #[.ref x] }:=by
   have:=(N _ m1).1;rw [(NV _ (.head _)).1] at this;cases this;rfl
 have e2:x2=oa:=by
   have:=(N _ m2).1;rw [ho] at this;cases this;rfl
 subst e1 e2;refine kdx_sortedN (knd:=intKind c.prog c.w) (kvs:=kvs) (enc:=PyData.int) ok.hh F N m1 m2 hd (by rw [hp.length];exact Nat.le_of_lt (Nat.lt_of_lt_of_le ‹_› (by decide))) (fun kk v hk=>Value.isInt_shape hk) rfl ?_;intro lo' hlo;refine yfy _ _ _ _ fun as tups' hl hw hb' hj _=>?_;intro B h' tk hB F' N';rw [length_map] at hl;rw [nil_append] at N';have n1:es.length=1:=by lia
 have n2:kvs.length=1:=by rw [hp.length];exact n1
 have n3:as.length=1:=by rw [hl];exact n2
 obtain ⟨a,rfl⟩:=length_eq_one_iff.mp n3;obtain ⟨kv,rfl⟩:=length_eq_one_iff.mp n2;obtain ⟨e0,rfl⟩:=length_eq_one_iff.mp n1;obtain ⟨a',t,f1,f2⟩:=hj 0 _ rfl
 (replace f1:=si f1;subst f1)
 have z:=N' (B,listOf [Value.ref a].toArray 0) (.head _);refine wpAny_call_entry PyProof.Rows.slot_list_sort ⟨_,z.1,rfl⟩ PyProof.Rows.entry_list_sort (yog (n:=0) z.1 ⟨.none,rfl,?_⟩) (PyProof.Rows.args_list_sort _);obtain ⟨e,he⟩:=sortedHeap_at (out:=#[Value.ref a]) z.1;have hk:∀b o,b≠B->h'.get? b=some o->(sortedHeap h' B [Value.ref a] #[Value.ref a]).get? b=some o:=fun b o hb q=>(sortedHeap_old hb (Heap.lt_size q)).trans q;have N2:News c.h₀ c.L (sortedHeap h' B [Value.ref a] #[Value.ref a]) ((B,listOf #[Value.ref a] e) :: (tups'++(xt++ρ.zip os))):=fun p hp=>by
   rcases zmc hp with rfl | hp
   . exact ⟨he,z.2⟩
   . have P:=N' p (.tail _ hp);exact ⟨hk _ _ (Nat.ne_of_lt (hB p hp)) P.1,P.2⟩
 have F2:Fr c.h₀ c.L (sortedHeap h' B [Value.ref a] #[Value.ref a]) ml:=by
   obtain ⟨oL,es',eP,q1,q2⟩:=F'.ns;exact ⟨⟨oL,es',eP,hk _ _ (Ne.symm z.2.1) q1,q2⟩,fun b o q=>hk b o (fun e=>by rw [e,z.2.2] at q;exact no q) (F'.keep b o q),F'.above⟩
 have old3:∀p ∈ tups'++(xt++ρ.zip os),(sortedHeap h' B [Value.ref a] #[Value.ref a]).get? p.1=some p.2/\p.1≠c.L/\c.h₀.get? p.1=none:=fun p hp=>N2 p (.tail _ hp);generalize sortedHeap h' B [Value.ref a] #[Value.ref a]=h3 at N2 F2 old3 ⊢;have S0:Led c.h₀ c.L c.prog c.w ml xt ρ H h3:=⟨F2,os,a1,a2,a3,fun p hp=>old3 p (mem_append_right _ hp),a5⟩;have hlow:∀a' ∈ [a],a' ∉ xt.map (·.1)++ρ:=by
   intro a' ha' q;obtain ⟨p,p1,p2⟩:=ybs a1 a2 q;exact absurd ((hb' a' ha').1 p p1) (by rw [p2];exact Nat.lt_irrefl _)
 have S1:=S0.tups (as:=[a]) (es:=[e0]) (kvs:=[kv]) hl hp hw hlow fun j p e=>by
   obtain ⟨a',t,f1,f2⟩:=hj j _ (by rw [getElem?_map,e];rfl);have:=old3 _ (mem_append_left _ f2);exact ⟨a',t,f1,this.1,this.2⟩
 have hBn:B ∉ xt.map (·.1)++(ρ++[a]):=by
   intro q;rw [<-append_assoc] at q;rcases zma q with q | q
   . obtain ⟨p,p1,p2⟩:=ybs a1 a2 q;exact absurd (hB p (mem_append_right _ p1)) (by rw [p2];exact Nat.lt_irrefl _)
   . obtain ⟨a',t,f1,f2⟩:=hj 0 _ rfl
     (replace f1:=si f1;subst f1)
     cases mem_singleton.mp q;exact absurd (hB _ (mem_append_left _ f2)) (Nat.lt_irrefl _)
 have S2:=S1.alloc1 (l:=B) (o:=.list ((List.range [e0].length).map fun i=>MV.ref (H.length+i))) (N2 _ (.head _)) hBn ⟨[Value.ref a],e,yf2 a2 [a] [B],rfl⟩;refine k ([a]++[B]) (.ref (H.length+[e0].length)) (.ref B) _ h3 _ h ⟨B,?_,rfl⟩ ?_
 . rw [<-append_assoc,getElem?_append_right (by simp;exact Nat.le_of_eq ‹_›)];simp [a2]
 . rw [<-append_assoc];exact back _ _ _ S2
end
noncomputable def ygk (a:Nat) (i:Nat) (H:MH):Option MV:=match H[a]? with
 | some (.tup xs)=>xs[i]?
 | _=>none
section
variable {c:Cx} {m:ML} {H:MH} {G:Gx} {d:Nat}
theorem yol {mr:Str->Option Value} {ρ:List Addr} {h:Heap} (S:St c mr ρ H h) {i:Nat} {xs:List MV} (hi:H[i]?=some (.tup xs)) {x:Addr} (hx:ρ[i]?=some x):∃vs:List Value,IsTup h x vs.toArray/\VRs ρ xs vs/\True:=by
 obtain ⟨a,o,ha,ho,N⟩:=S.get hi;rw [hx] at ha
 (replace ha:=si ha;subst ha)
 obtain ⟨vs,n,hv,rfl⟩:=ho;exact ⟨vs,⟨_,(N _ (.head _)).1,rfl,n,rfl⟩,hv,trivial⟩
theorem NX.tup {I l:Addr} {a:Nat} {ρ:List Addr} (hh:c.A.handled=none) (hl:ρ[a]?=some l) :
   NX c I (fun i o=>o.cls=.type "tuple_iterator"/\o.data=.fields #[.ref l,.int i 0]) (fun H=>∃xs,H[a]?=some (.tup xs)) (ygk a) ρ:=by
 rintro i oI mr t H s Q E ⟨hc,hd⟩ ⟨xs,ha⟩ S k1 k2;obtain ⟨vs,Z1⟩:=yol S ha (yam hl);haveI L:=(zl Z1);haveI hvs:=(zl (zr Z1));clear Z1;haveI hit:IsTupIter s.heap I l i:=⟨oI,S.itr.1,hc,hd⟩;haveI hitem:ygk a i H=xs[i]?:=by unfold ygk;rw [ha]
 cases hx:xs[i]? with
 | some mv=>
   obtain ⟨vr,Z2⟩:=hvs.get hx;haveI e1:=(zl Z2);haveI e2:=(zr Z2);clear Z2;refine next_tuple_item hit L (x:=vr) (by simpa using e1) fun h' hit' hs'=>?_;obtain ⟨o',Z3⟩:=hit';haveI ho':=(zl Z3);haveI hc':=(zl (zr Z3));haveI hd':=(zr (zr Z3));clear Z3;exact k1 mv vr o' h' s.toks (hitem.trans hx) e2 ⟨hc',hd'⟩ ho' fun b o hb e=>(hs'.2 b hb).trans e
 | none=>
   haveI hn:vs.toArray[i]?=none:=by
     haveI:xs.length<=i:=List.getElem?_eq_none_iff.mp hx;simp only [List.getElem?_toArray];exact List.getElem?_eq_none_iff.mpr (by rw [hvs.length];exact this)
   exact next_tuple_end hh hit L hn fun h' he'=>k2 h' s.toks (hitem.trans hx) fun b o hb e=>he' b o hb e
end
inductive BK where
 | len | sum | list | max | min | set | dict | sorted
 | str
 | int
structure Df where
 names:List Str
 nm:List Str
 b:CSs
 dm:List MV
structure Tb where
 fn:List (Str×Addr)
 df:List (Addr×Df)
 cl:List (Str×Addr×Addr)
 mt:List (Addr×Str×Addr)
 att:List (Addr×Str)
 xc:List (Str×Addr)
 tk:List (Str×Addr)
 vl:List (Str×MV)
 bi:List (Str×BK)
 ty:List (Str×String)
 ds:Bool
 gl:List (Addr×List Str)
 asm:CT->Bool
 lz:CE->Bool
 op:Nat
noncomputable def sLo:Nat:=1
noncomputable def hsL:List Nat->Nat->Nat
 | [],h=>h
 | a :: r,h=>hsL r (h*1114112+a)
noncomputable def hs (x:Str):Nat:=hsL x.cps.toList 0
noncomputable def eqK (a b:Str):Bool:=match Nat.beq (hs a) (hs b) with
 | true=>(a==b)
 | false=>false
noncomputable def lkS {α:Type} (l:List (Str×α)) (x:Str):Option α:=
 List.rec (motive:=fun _=>Option α) none (fun p _ ih=>Bool.rec (motive:=fun _=>Option α) ih (some p.2) (eqK p.1 x)) l
noncomputable def lkN {α:Type} (l:List (Nat×α)) (x:Nat):Option α:=
 List.rec (motive:=fun _=>Option α) none (fun p _ ih=>Bool.rec (motive:=fun _=>Option α) ih (some p.2) (Nat.beq p.1 x)) l
noncomputable def lkM {α:Type} (l:List (Nat×Str×α)) (x:Nat) (y:Str):Option α:=
 List.rec (motive:=fun _=>Option α) none (fun p _ ih=>Bool.rec (motive:=fun _=>Option α) ih (Bool.rec (motive:=fun _=>Option α) ih (some p.2.2) (eqK p.2.1 y)) (Nat.beq p.1 x)) l
noncomputable def hasM (l:List (Nat×Str)) (x:Nat) (y:Str):Bool:=
 List.rec (motive:=fun _=>Bool) false (fun p _ ih=>Bool.rec (motive:=fun _=>Bool) ih (Bool.rec (motive:=fun _=>Bool) ih true (eqK p.2 y)) (Nat.beq p.1 x)) l
abbrev Ep:=Addr->List MV->ML->MH->Prop
abbrev Hd:=Addr->List MV->MH->(MV->MH->Prop)->(Addr->List MV->MH->Prop)->Prop
def frN:Nat->(Nat->Prop)->Prop
 | 0,k=>k 0
 | n+1,k=>k (Nat.succ n)
def frI (i:Int) (k:Int->Prop):Prop:=match i with
 | .ofNat n=>frN n fun n=>k (.ofNat n)
 | .negSucc n=>frN n fun n=>k (.negSucc n)
def frV (f:Bool) (v:MV) (k:MV->Prop):Prop:=match f with
 | false=>k v
 | true=>match v with
   | .int i=>frI i fun i=>k (.int i)
   | v=>k v
def goB (b:Bool) (P:Prop):Prop:=match b with
 | true=>P
 | false=>False
def goO {α:Type} (o:Option α) (k:α->Prop):Prop:=match o with
 | some a=>k a
 | none=>False
def push (H:MH) (o:MO) (n:Nat) (k:MH->Nat->Prop):Prop:=
 List.rec (motive:=fun _=>Nat->(MH->Nat->Prop)->Prop) (fun n k=>k [o] n) (fun x _ ih n k=>ih (Nat.succ n) fun r' n'=>k (x :: r') n') H n k
def updX (H:MH) (i:Nat) (o:MO) (k:MH->Prop):Prop:=
 List.rec (motive:=fun _=>Nat->(MH->Prop)->Prop) (fun _ k=>k []) (fun x r ih i k=>Nat.rec (motive:=fun _=>Prop) (k (o :: r)) (fun j _=>ih j fun r'=>k (x :: r')) i) H i k
noncomputable def at' {α:Type} (l:List α) (i:Nat):Option α:=
 List.rec (motive:=fun _=>Nat->Option α) (fun _=>none) (fun x _ ih i=>Nat.rec (motive:=fun _=>Option α) (some x) (fun j _=>ih j) i) l i
noncomputable def lenX {α:Type} (l:List α):Nat:=List.rec (motive:=fun _=>Nat) 0 (fun _ _ n=>Nat.succ n) l
noncomputable def asL:MO->Option (List MV)
 | .list xs=>some xs
 | _=>none
noncomputable def asT:MO->Option (List MV)
 | .tup xs=>some xs
 | _=>none
noncomputable def asDI:MO->Option (Nat×List (Int×MV))
 | .dI j es=>some (j,es)
 | _=>none
noncomputable def asDS:MO->Option (Nat×List (Str×MV))
 | .dS j es=>some (j,es)
 | _=>none
noncomputable def asU:MO->Option Nat
 | .setN k=>some k
 | _=>none
noncomputable def asW:MO->Option Nat
 | .view k d=>match (k=="dict_items") with
   | true=>some d
   | false=>none
 | _=>none
noncomputable def asI:MO->Option (Addr×Nat)
 | .inst c k=>some (c,k)
 | _=>none
noncomputable def asN:MO->Option (List (Str×MV))
 | .ns fs=>some fs
 | _=>none
noncomputable def vInt:MV->Option Int
 | .int i=>some i
 | _=>none
noncomputable def vStr:MV->Option Str
 | .str i=>some i
 | _=>none
noncomputable def vRef:MV->Option Nat
 | .ref i=>some i
 | _=>none
noncomputable def intsOf:List MV->Option (List Int)
 | []=>some []
 | v :: r=>match vInt v with
   | some i=>match intsOf r with
     | some s=>some (i :: s)
     | none=>none
   | none=>none
noncomputable def strsOf:List MV->Option (List Str)
 | []=>some []
 | v :: r=>match vStr v with
   | some i=>match strsOf r with
     | some s=>some (i :: s)
     | none=>none
   | none=>none
noncomputable def objX {α:Type} (p:MO->Option α) (H:MH) (v:MV):Option (Nat×α):=match vRef v with
 | some a=>match at' H a with
   | some o=>match p o with
     | some x=>some (a,x)
     | none=>none
   | none=>none
 | none=>none
noncomputable def smal (a:Int):Bool:=Nat.ble a.natAbs 18446744073709551615
def opX (f:Bool) (op:Operator) (a b:Int) (k:Int->Prop):Prop:=match op with
 | .Add=>k (a+b)
 | .Sub=>k (a - b)
 | .Mult=>match f with
   | true=>goB (smal a || smal b) (k (a*b))
   | false=>Need (IntMulOk a b) (k (a*b))
 | .Mod=>match b with
   | .ofNat (n+1)=>k (a % .ofNat (n+1))
   | _=>False
 | .BitAnd=>k (Builtin.bitAnd a b)
 | .RShift=>match b with
   | .ofNat n=>k (a.fdiv (2 ^ n))
   | _=>False
 | .LShift=>match b with
   | .ofNat n=>goB (smal a && Nat.ble n 1000) (k (a*2 ^ n))
   | _=>False
 | _=>False
def binL (H:MH) (op:Operator) (x y:MV) (k:MV->MH->Prop):Prop:=match op with
 | .Add=>goO (objX asL H x) fun p=>goO (objX asL H y) fun q=>goB (Nat.ble (lenX p.2+lenX q.2) 1000000) (push H (.list (p.2++q.2)) 0 fun H' n=>k (.ref n) H')
 | .Mult=>goO (objX asL H x) fun p=>match p.2 with
   | [v]=>goO (vInt y) fun n=>match n with
     | .ofNat j=>goB (Nat.ble j 1000000) (push H (.list (List.replicate j v)) 0 fun H' n=>k (.ref n) H')
     | .negSucc _=>False
   | _=>False
 | _=>False
def binX (f:Bool) (H:MH) (op:Operator) (x y:MV) (k:MV->MH->Prop):Prop:=match vInt x with
 | some a=>goO (vInt y) fun b=>opX f op a b fun i=>frV f (.int i) fun v=>k v H
 | none=>binL H op x y k
noncomputable def andX (b c:Bool):Bool:=match b with
 | true=>c
 | false=>false
noncomputable def orX (b c:Bool):Bool:=match b with
 | true=>true
 | false=>c
noncomputable def okHs (f:MV->MV->Option Bool):List MV->Bool
 | []=>true
 | y :: r=>match f y y with
   | some _=>okHs f r
   | none=>false
noncomputable def noH (f:MV->MV->Option Bool) (r:List MV):Option Bool:=match okHs f r with
 | true=>some false
 | false=>none
noncomputable def eqHs (f:MV->MV->Option Bool):List MV->List MV->Option Bool
 | [],ys=>match ys with
   | []=>some true
   | y :: q=>noH f (y :: q)
 | x :: r,ys=>match ys with
   | []=>noH f (x :: r)
   | y :: q=>match f x y with
     | some b=>match eqHs f r q with
       | some e=>some (andX b e)
       | none=>none
     | none=>none
noncomputable def eqH (H:MH):Nat->MV->MV->Option Bool
 | 0,_,_=>none
 | n+1,x,y=>match vInt x with
   | some a=>match vInt y with
     | some b=>some (decide (a=b))
     | none=>none
   | none=>match vStr x with
     | some a=>match vStr y with
       | some b=>match PyData.strOk a && PyData.strOk b with
         | true=>some (a==b)
         | false=>none
       | none=>none
     | none=>match objX asL H x with
       | some p=>match objX asL H y with
         | some q=>eqHs (eqH H n) p.2 q.2
         | none=>none
       | none=>match objX asT H x with
         | some p=>match objX asT H y with
           | some q=>eqHs (eqH H n) p.2 q.2
           | none=>none
         | none=>none
noncomputable def vGlob:MV->Option Addr
 | .glob a=>some a
 | _=>none
noncomputable def yrf:CE->Option CEs
 | .tup as=>some as
 | _=>none
noncomputable def pureE (m:ML):CE->Option MV
 | .loc i=>match at' m i with
   | some o=>o
   | none=>none
 | .int i=>some (.int i)
 | .str s=>some (.str s)
 | _=>none
noncomputable def pureEs (m:ML):CEs->Option (List MV)
 | .nil=>some []
 | .cons a r=>match pureE m a with
   | some v=>match pureEs m r with
     | some vs=>some (v :: vs)
     | none=>none
   | none=>none
noncomputable def anyT (H:MH) (vs:List MV):List MV->Option Bool
 | []=>some false
 | e :: r=>match objX asT H e with
   | some q=>match eqHs (eqH H 4) q.2 vs with
     | some b=>match anyT H vs r with
       | some c=>some (orX b c)
       | none=>none
     | none=>none
   | none=>none
noncomputable def tupV (H:MH) (m:ML) (op:CmpOp) (vs:List MV) (b:CE):Option Bool:=match op with
 | .Eq=>match yrf b with
   | some bs=>match pureEs m bs with
     | some ws=>match Nat.ble (lenX ws) 1000 with
       | true=>eqHs (eqH H 4) vs ws
       | false=>none
     | none=>none
   | none=>none
 | .In=>match pureE m b with
   | some y=>match objX asL H y with
     | some p=>match okHs (eqH H 4) vs with
       | true=>anyT H vs p.2
       | false=>none
     | none=>none
   | none=>none
 | _=>none
noncomputable def tupR (H:MH) (m:ML) (op:CmpOp) (a b:CE):Option Bool:=match yrf a with
 | some as=>match pureEs m as with
   | some vs=>match Nat.ble (lenX vs) 1000 with
     | true=>tupV H m op vs b
     | false=>none
   | none=>none
 | none=>none
structure Cqx (G:Gx) (op:CmpOp) (H:MH) (x y:MV) (r:Bool):Prop where
 out:∀c d,Ok G c d->Cq c op H x y r
noncomputable def inR (T:Tb) (H:MH) (x y:MV):Option Bool:=match vInt x with
 | some i=>(objX asL H y).bind fun p=>(intsOf p.2).bind fun ns=>some (ns.any (·==i))
 | none=>(vStr x).bind fun s=>(vGlob y).bind fun a=>(lkN T.gl a).bind fun ys=>some (ys.any (·==s))
def cmpX (G:Gx) (T:Tb) (H:MH) (op:CmpOp) (x y:MV) (k:Bool->Prop):Prop:=match cmpV op x y with
 | some b=>k b
 | none=>match op with
   | .In=>goO (inR T H x y) k
   | .NotIn=>goO (inR T H x y) fun b=>k (!b)
   | .Eq=>match eqH H 5 x y with
     | some b=>k b
     | none=>∃r,Cqx G .Eq H x y r/\k r
   | .NotEq=>match eqH H 5 x y with
     | some b=>k (!b)
     | none=>∃r,Cqx G .NotEq H x y r/\k r
   | op=>∃r,Cqx G op H x y r/\k r
noncomputable def idxN:MV->Option Nat
 | .int (.ofNat j)=>some j
 | _=>none
noncomputable def subR (H:MH) (x y:MV):Option MV:=(idxN y).bind fun j=>match objX asL H x with
 | some p=>match Nat.ble (lenX p.2) 1000000 with
   | true=>at' p.2 j
   | false=>none
 | none=>(objX asT H x).bind fun p=>match Nat.ble (lenX p.2) 1000000 with
   | true=>at' p.2 j
   | false=>none
def subX (H:MH) (x y:MV) (k:MV->Prop):Prop:=match vStr y with
 | some s=>goO (objX asDS H x) fun p=>goB (Nat.beq p.1 p.2.1) (∃i:Int,yas p.2.2 s=some (.int i)/\k (.int i))
 | none=>goO (subR H x y) k
noncomputable def setR (H:MH) (x y v:MV):Option (Nat×MO):=(idxN y).bind fun j=>(objX asL H x).bind fun p=>match Nat.ble (lenX p.2) 1000000 && Nat.ble (Nat.succ j) (lenX p.2) with
 | true=>some (p.1,.list (p.2.set j v))
 | false=>none
def setX (H:MH) (x y v:MV) (k:MH->Prop):Prop:=match vStr y with
 | some s=>goO (objX asDS H x) fun p=>goB (Nat.beq p.1 p.2.1) (Need (p.2.2.length<=1000000) (updX H p.1 (.dS p.1 (putD p.2.2 s v)) k))
 | none=>goO (setR H x y v) fun p=>updX H p.1 p.2 k
noncomputable def insX (H:MH) (v:MV):Option (Nat×Addr×Nat×List (Str×MV)):=match objX asI H v with
 | some (a,C,kk)=>match at' H kk with
   | some o=>match asN o with
     | some fs=>some (a,C,kk,fs)
     | none=>none
   | none=>none
 | none=>none
noncomputable def fldR (T:Tb) (H:MH) (l:MV) (n:Str):Option MV:=match insX H l with
 | some (a,C,kk,fs)=>match hasM T.att C n with
   | true=>lkS fs n
   | false=>none
 | none=>none
inductive MK where
 | own (a:Nat) (f:Addr)
 | app (a:Nat)
 | appO (a:Nat)
 | items (a:Nat)
 | join (s:Str)
noncomputable def mthR (T:Tb) (H:MH) (l:MV) (n:Str):Option MK:=match insX H l with
 | some (a,C,kk,fs)=>match lkS fs n with
   | none=>match lkM T.mt C n with
     | some f=>some (.own a f)
     | none=>none
   | some _=>none
 | none=>match objX asL H l with
   | some p=>match (eqK n "append") with
     | true=>match Nat.beq p.1 T.op with
       | true=>some (.appO p.1)
       | false=>some (.app p.1)
     | false=>none
   | none=>match vStr l with
     | some t=>match (eqK n "join") with
       | true=>some (.join t)
       | false=>none
     | none=>none
noncomputable def mthR0 (T:Tb) (H:MH) (l:MV) (n:Str):Option MK:=match mthR T H l n with
 | some k=>some k
 | none=>match objX asDI H l with
   | some p=>match (eqK n "items") && Nat.beq p.1 p.2.1 with
     | true=>some (.items p.1)
     | false=>none
   | none=>none
noncomputable def slcR (H:MH) (x:MV) (l u:Option Int):Option (MV×Option MO):=match x with
 | .str _=>none
 | x=>match objX asL H x with
   | some p=>match Nat.ble (lenX p.2) 1000000 with
     | true=>match l with
       | none=>match u with
         | some (.ofNat j)=>some (.none,some (.list (p.2.take j)))
         | _=>none
       | some (.ofNat i)=>match u with
         | none=>some (.none,some (.list (p.2.drop i)))
         | _=>none
       | _=>none
     | false=>none
   | none=>none
def slcX (H:MH) (x:MV) (l u:Option Int) (k:MV->MH->Prop):Prop:=goO (slcR H x l u) fun r=>match r.2 with
 | none=>k r.1 H
 | some o=>push H o 0 fun H' n=>k (.ref n) H'
noncomputable def lenR (H:MH) (v:MV):Option Nat:=match objX asL H v with
 | some p=>some (lenX p.2)
 | none=>(objX asU H v).bind fun p=>some p.2
noncomputable def BK.nm:BK->Str
 | .len=>"len"
 | .sum=>"sum"
 | .list=>"list"
 | .max=>"max"
 | .min=>"min"
 | .str=>"str"
 | .int=>"int"
 | .set=>"set"
 | .dict=>"dict"
 | .sorted=>"sorted"
noncomputable def pairsR (H:MH):List MV->Option (List (Int×MV))
 | []=>some []
 | r :: rs=>match objX asT H r with
   | some p=>match p.2 with
     | [.int k,v]=>match pairsR H rs with
       | some l=>some ((k,v) :: l)
       | none=>none
     | _=>none
   | none=>none
noncomputable def ascB:List (Int×MV)->Bool
 | []=>true
 | e :: r=>match r.all (fun q=>decide (e.1<q.1)) with
   | true=>ascB r
   | false=>false
noncomputable def ascI:List Int->Bool
 | []=>true
 | a :: r=>match r.all (fun b=>decide (a<b)) with
   | true=>ascI r
   | false=>false
noncomputable def insI (x:Int):List Int->List Int
 | []=>[x]
 | y :: r=>match decide (x<=y) with
   | true=>x :: y :: r
   | false=>y :: insI x r
noncomputable def srtI:List Int->List Int
 | []=>[]
 | x :: r=>insI x (srtI r)
def one1 (vs:List MV) (k:MV->Prop):Prop:=match vs with
 | [v]=>k v
 | _=>False
def two2 (vs:List MV) (k:Int->Int->Prop):Prop:=match vs with
 | [v,u]=>goO (vInt v) fun a=>goO (vInt u) fun b=>k a b
 | _=>False
def blt (f:Bool) (g:BK) (vs:List MV) (H:MH) (post:MV->MH->Prop):Prop:=match g with
 | .len=>one1 vs fun v=>goO (lenR H v) fun n=>goB (Nat.ble n 1000000) (frN n fun n=>post (.int (.ofNat n)) H)
 | .sum=>one1 vs fun v=>goO (objX asL H v) fun p=>goO (intsOf p.2) fun ns=>frV f (.int ns.sum) fun v=>post v H
 | .list=>one1 vs fun v=>goO (objX asL H v) fun p=>goB (Nat.ble (lenX p.2) 1000000) (push H (.list p.2) 0 fun H' n=>post (.ref n) H')
 | .max=>match lenX vs with
   | 1=>False
   | _=>two2 vs fun a b=>frV f (.int (max a b)) fun v=>post v H
 | .min=>two2 vs fun a b=>frV f (.int (min a b)) fun v=>post v H
 | .str=>one1 vs fun v=>goO (vInt v) fun i=>goB (smal i) (post (.str (strX i)) H)
 | .set=>one1 vs fun v=>goO (objX asL H v) fun p=>goO (intsOf p.2) fun ns=>goB (Nat.ble (lenX ns) 1000) (frN (lenX (fm' ns)) fun j=>push H (.setN j) 0 fun H' n=>post (.ref n) H')
 | .dict=>one1 vs fun v=>goO (objX asL H v) fun p=>goO (pairsR H p.2) fun ps=>goB (Nat.ble (lenX ps) 1000000) (push H .junk 0 fun _ n=>push H (.dI n (ps.foldl (fun m p=>putD m p.1 p.2) [])) 0 fun H' n=>post (.ref n) H')
 | .sorted=>one1 vs fun v=>match objX asW H v with
   | some p=>goO (objX asDI H (.ref p.2)) fun q=>goB (Nat.beq q.1 q.2.1 && (Nat.ble sLo (lenX q.2.2) && Nat.ble (lenX q.2.2) 63)) (goB (ascB q.2.2) (post (.ref (H.length+q.2.2.length)) ((H++q.2.2.map fun e=>MO.tup [.int e.1,e.2])++[.list ((List.range q.2.2.length).map fun i=>MV.ref (H.length+i))])))
   | none=>match objX asL H v with
     | some p=>goO (intsOf p.2) fun ns=>goB (Nat.ble (lenX ns) 63 && ascI (srtI ns)) (push H (.list (intL (srtI ns))) 0 fun H' n=>post (.ref n) H')
     | none=>goO (objX asDI H v) fun q=>goB (Nat.beq q.1 q.2.1 && (Nat.ble (lenX q.2.2) 63 && ascB q.2.2)) (push H (.list (q.2.2.map fun e=>MV.int e.1)) 0 fun H' n=>post (.ref n) H')
 | .int=>one1 vs fun v=>goO (vStr v) fun s=>goB (Nat.ble s.length 640) (goO (PySem.intText? s) fun i=>frV true (.int i) fun v=>post v H)
noncomputable def ybc:List MV->List Int
 | []=>[]
 | v :: r=>(match v with
   | .int i=>i
   | _=>0) :: ybc r
noncomputable def yj5:CEs->Bool
 | .nil=>true
 | .cons _ _=>false
noncomputable def isZ:CE->Bool
 | .int i=>match i with
   | .ofNat n=>Nat.beq n 0
   | .negSucc _=>false
 | _=>false
noncomputable def isLoc:CE->Option Nat
 | .loc i=>some i
 | _=>none
noncomputable def hdE:CEs->Option CE
 | .cons a .nil=>some a
 | _=>none
noncomputable def isLn:CE->Option Nat
 | .call g as=>match eqK g "len" with
   | true=>match hdE as with
     | some a=>isLoc a
     | none=>none
   | false=>none
 | _=>none
noncomputable def isS0:CE->Option Nat
 | .sub a z=>match isZ z with
   | true=>isLoc a
   | false=>none
 | _=>none
noncomputable def isGt:CT->Option (CE×CE)
 | .cmp op a b=>match op with
   | .Gt=>some (a,b)
   | _=>none
 | _=>none
noncomputable def hd0 (T:Tb) (t:CT) (a b:CE):Option Nat:=match isGt t with
 | some (x,z)=>match isLn x with
   | some i=>match isS0 a with
     | some j=>match Nat.beq i j && (isZ z && isZ b) with
       | true=>match lkS T.bi "len" with
         | some _=>some i
         | none=>none
       | false=>none
     | none=>none
   | none=>none
 | none=>none
noncomputable def partsX (H:MH) (n:Nat) (v:MV):Option (List MV):=match n with
 | 0=>none
 | 1=>some [v]
 | n+2=>match objX asT H v with
   | some p=>match Nat.beq (lenX p.2) (n+2) with
     | true=>some p.2
     | false=>none
   | none=>none
noncomputable def itL (a:Nat) (i:Nat) (H:MH):Option MV:=match at' H a with
 | some o=>match asL o with
   | some xs=>at' xs i
   | none=>none
 | none=>none
noncomputable def gdL (a:Nat) (H:MH):Bool:=match at' H a with
 | some o=>match asL o with
   | some xs=>Nat.ble (lenX xs) 1000000
   | none=>false
 | none=>false
noncomputable def itR (lo n:Nat) (i:Nat) (_:MH):Option MV:=match Nat.ble (Nat.succ i) n with
 | true=>some (.int (.ofNat (lo+i)))
 | false=>none
noncomputable def gdT (_:MH):Bool:=true
noncomputable def itTp (a:Nat) (i:Nat) (H:MH):Option MV:=match at' H a with
 | some o=>match asT o with
   | some xs=>at' xs i
   | none=>none
 | none=>none
noncomputable def gdTp (a:Nat) (H:MH):Bool:=match at' H a with
 | some o=>match asT o with
   | some _=>true
   | none=>false
 | none=>false
def srcX (n:Nat) (H:MH) (v:MV) (k:(Nat->MH->Option MV)->(MH->Bool)->Prop):Prop:=match objX asL H v with
 | some p=>k (itL p.1) (gdL p.1)
 | none=>goO (objX asT H v) fun p=>k (itTp p.1) (gdTp p.1)
def srcL (H:MH) (v:MV) (k:(Nat->MH->Option MV)->(MH->Bool)->Prop):Prop:=match objX asL H v with
 | some p=>k (itL p.1) (gdL p.1)
 | none=>False
def ydc (itm:Nat->MH->Option MV) (good:MH->Bool) (is:List Nat) (body:ML->MH->(Fl->ML->MH->Prop)->Prop) (post:Fl->ML->MH->Prop):Nat->Nat->ML->MH->Prop
 | 0,_,_,_=>False
 | n+1,i,m,H=>goB (good H) (match itm i H with
   | none=>post .next m H
   | some v=>goO (partsX H (lenX is) v) fun vs=>setsW is vs m fun m1=>body m1 H fun f m2 H2=>match f with
     | .next=>frN (Nat.succ i) fun j=>ydc itm good is body post n j m2 H2
     | .cont=>frN (Nat.succ i) fun j=>ydc itm good is body post n j m2 H2
     | .brk=>post .next m2 H2
     | .ret v=>post (.ret v) m2 H2)
def appV (l:List MV) (v:MV) (k:List MV->Prop):Prop:=
 List.rec (motive:=fun _=>(List MV->Prop)->Prop) (fun k=>k [v]) (fun x _ ih k=>ih fun r'=>k (x :: r')) l k
def compX (itm:Nat->MH->Option MV) (good:MH->Bool) (tn:Nat) (m:ML) (tst:ML->MH->(Bool->MH->Prop)->Prop) (elt:ML->MH->(MV->MH->Prop)->Prop) (post:MV->MH->Prop):Nat->Nat->List MV->MH->Prop
 | 0,_,_,_=>False
 | n+1,i,ys,H=>goB (good H) (match itm i H with
   | none=>push H (.list ys) 0 fun H' n=>post (.ref n) H'
   | some v=>goO (partsX H tn v) fun vs=>appW m (vs.map some) fun m1=>tst m1 H fun b H1=>iteW b (elt m1 H1 fun y H2=>appV ys y fun ys'=>frN (Nat.succ i) fun j=>compX itm good tn m tst elt post n j ys' H2) (frN (Nat.succ i) fun j=>compX itm good tn m tst elt post n j ys H1))
def whileX (tst:ML->MH->(Bool->MH->Prop)->Prop) (body:ML->MH->(Fl->ML->MH->Prop)->Prop) (post:Fl->ML->MH->Prop):Nat->ML->MH->Prop
 | 0,_,_=>False
 | n+1,m,H=>tst m H fun b H1=>iteW b (body m H1 fun f m2 H2=>match f with
     | .next=>whileX tst body post n m2 H2
     | .cont=>whileX tst body post n m2 H2
     | .brk=>post .next m2 H2
     | .ret v=>post (.ret v) m2 H2) (post .next m H1)
noncomputable def natO (i:Int):Option Nat:=match i with
 | .ofNat n=>some n
 | .negSucc _=>none
noncomputable def rng1 (a b:MV):Option (Nat×Nat):=(vInt a).bind fun i=>(natO i).bind fun k=>(vInt b).bind fun j=>(natO j).bind fun n=>match Nat.ble n 1000000 && Nat.ble k 1000000 with
 | true=>some (k,n)
 | false=>none
noncomputable def rngOf (vs:List MV):Option (Nat×Nat):=match vs with
 | b :: r=>match r with
   | []=>rng1 (.int (.ofNat 0)) b
   | c :: q=>match q with
     | []=>rng1 b c
     | _ :: _=>none
 | []=>none
noncomputable def isRng:CE->Bool
 | .call g (.cons _ _)=>eqK g "range"
 | _=>false
def isNo:MV->Prop->Prop
 | .none,P=>P
 | _,_=>False
def callK (T:Tb) (f:Bool) (h:Hd) (g:Str) (vs:List MV) (m:ML) (H:MH) (ex:Ep) (post:MV->MH->Prop):Prop:=match lkS T.fn g with
 | some a=>h a vs H post fun C as H'=>ex C as m H'
 | none=>match lkS T.cl g with
   | some (C,fI)=>push H (.ns []) 0 fun H1 n=>push H1 (.inst C n) 0 fun H2 i=>h fI (.ref i :: vs) H2 (fun v H3=>isNo v (post (.ref i) H3)) fun C as H'=>ex C as m H'
   | none=>goO (lkS T.bi g) fun k=>blt f k vs H post
noncomputable def yi5 (T:Tb) (g:Str):Bool:=match lkS T.fn g with
 | some _=>true
 | none=>match lkS T.cl g with
   | some _=>true
   | none=>match lkS T.bi g with
     | some _=>true
     | none=>false
def ygm (h:Hd) (k:MK) (vs:List MV) (m:ML) (H:MH) (ex:Ep) (post:MV->MH->Prop):Prop:=match k with
 | .own a f=>h f (.ref a :: vs) H post fun C as H'=>ex C as m H'
 | .app a=>one1 vs fun v=>goO (objX asL H (.ref a)) fun p=>goB (Nat.ble (lenX p.2) 1000000) (appV p.2 v fun ys=>updX H a (.list ys) fun H'=>post .none H')
 | .appO a=>one1 vs fun v=>goO (objX asL H (.ref a)) fun p=>Need (p.2.length<=1000000) (updX H a (.list (p.2++[v])) fun H'=>post .none H')
 | .items a=>push H (.view "dict_items" a) 0 fun H' n=>post (.ref n) H'
 | .join t=>one1 vs fun v=>goO (objX asL H v) fun p=>goO (strsOf p.2) fun ys=>goB (Nat.ble t.length 16 && Nat.ble ((ys.map (·.length)).sum+lenX ys) 1048576) (post (.str (Txt.join t ys)) H)
noncomputable def fuel:Nat:=2000
mutual
def xE (G:Gx) (T:Tb) (f:Bool) (h:Hd):CE->ML->MH->Ep->(MV->MH->Prop)->Prop
 | .int i=>fun _ H _ post=>post (.int i) H
 | .str x=>fun _ H _ post=>post (.str x) H
 | .none=>fun _ H _ post=>post .none H
 | .bool b=>fun _ H _ post=>post (.bool b) H
 | .loc i=>fun m H _ post=>nthW m i fun v=>post v H
 | .glob x=>fun _ H _ post=>goO (lkS T.vl x) fun v=>post v H
 | .bin op a b=>fun m H ex post=>xE G T f h a m H ex fun x H1=>xE G T f h b m H1 ex fun y H2=>binX f H2 op x y post
 | .neg a=>fun m H ex post=>xE G T f h a m H ex fun x H1=>goO (vInt x) fun i=>frV f (.int (-i)) fun v=>post v H1
 | .tst t=>fun m H ex post=>xV G T f h t m H ex post
 | .ite t a b=>fun m H ex post=>match hd0 T t a b with
   | some i=>nthW m i fun v=>goO (objX asL H v) fun p=>Need (p.2=intL (ybc p.2)/\p.2.length<=1000000) (post (.int ((ybc p.2).headD 0)) H)
   | none=>xT G T f h t m H ex fun r H1=>iteW r (xE G T f h a m H1 ex post) (xE G T f h b m H1 ex post)
 | .call _ .nil=>fun _ _ _ _=>False
 | .call g (.cons a r)=>fun m H ex post=>match T.lz a with
   | true=>goB (eqK g "len" && yj5 r) (goO (lkS T.bi "len") fun _=>xE G T f h a m H ex fun v H1=>goO (objX asL H1 v) fun p=>Need (p.2.length<=1000000) (post (.int p.2.length) H1))
   | false=>goB (yi5 T g) (xE G T f h a m H ex fun v H1=>xEs G T f h r m H1 ex fun vs H2=>callK T f h g (v :: vs) m H2 ex post)
 | .meth o n .nil=>fun m H ex post=>xE G T f h o m H ex fun l H1=>goO (mthR0 T H1 l n) fun k=>ygm h k [] m H1 ex post
 | .meth o n (.cons a r)=>fun m H ex post=>xE G T f h o m H ex fun l H1=>goO (mthR T H1 l n) fun k=>xE G T f h a m H1 ex fun v H2=>xEs G T f h r m H2 ex fun vs H3=>ygm h k (v :: vs) m H3 ex post
 | .attr o n=>fun m H ex post=>xE G T f h o m H ex fun l H1=>goO (fldR T H1 l n) fun v=>post v H1
 | .sub o i=>fun m H ex post=>xE G T f h o m H ex fun x H1=>xE G T f h i m H1 ex fun y H2=>subX H2 x y fun v=>post v H2
 | .slice o lo hi=>fun m H ex post=>xE G T f h o m H ex fun x H1=>xO G T f h lo m H1 ex fun l H2=>xO G T f h hi m H2 ex fun u H3=>slcX H3 x l u post
 | .list as=>fun m H ex post=>xEs G T f h as m H ex fun vs H1=>goB (Nat.ble (lenX vs) 1000) (push H1 (.list vs) 0 fun H2 n=>post (.ref n) H2)
 | .tup as=>fun m H ex post=>xEs G T f h as m H ex fun vs H1=>goB (Nat.ble (lenX vs) 1000) (push H1 (.tup vs) 0 fun H2 n=>post (.ref n) H2)
 | .dict0=>fun _ H _ post=>push H .junk 0 fun _ n=>push H (match T.ds with | true=>.dS n [] | false=>.dI n []) 0 fun H1 n=>post (.ref n) H1
 | .comp elt tg it cs=>fun m H ex post=>match isRng it with
   | true=>xR G T f h it m H ex fun _ vs H1=>goO (rngOf vs) fun p=>compX (itR p.1 (p.2 - p.1)) gdT (lenX tg) m (fun m1 H2 k=>xA G T f h cs m1 H2 (fun _ _ _ _=>False) k) (fun m1 H2 k=>xE G T f h elt m1 H2 (fun _ _ _ _=>False) k) post fuel 0 [] H1
   | false=>xE G T f h it m H ex fun v H1=>srcL H1 v fun itm gd=>compX itm gd (lenX tg) m (fun m1 H2 k=>xA G T f h cs m1 H2 (fun _ _ _ _=>False) k) (fun m1 H2 k=>xE G T f h elt m1 H2 (fun _ _ _ _=>False) k) post fuel 0 [] H1
def xR (G:Gx) (T:Tb) (f:Bool) (h:Hd):CE->ML->MH->Ep->(Str->List MV->MH->Prop)->Prop
 | .call g (.cons a r)=>fun m H ex post=>xE G T f h a m H ex fun v H1=>xEs G T f h r m H1 ex fun vs H2=>post g (v :: vs) H2
 | _=>fun _ _ _ _=>False
def xEs (G:Gx) (T:Tb) (f:Bool) (h:Hd):CEs->ML->MH->Ep->(List MV->MH->Prop)->Prop
 | .nil=>fun _ H _ post=>post [] H
 | .cons a r=>fun m H ex post=>xE G T f h a m H ex fun v H1=>xEs G T f h r m H1 ex fun vs H2=>post (v :: vs) H2
def xO (G:Gx) (T:Tb) (f:Bool) (h:Hd):CO->ML->MH->Ep->(Option Int->MH->Prop)->Prop
 | .none=>fun _ H _ post=>post none H
 | .some a=>fun m H ex post=>xE G T f h a m H ex fun v H1=>goO (vInt v) fun i=>post (some i) H1
def xT (G:Gx) (T:Tb) (f:Bool) (h:Hd):CT->ML->MH->Ep->(Bool->MH->Prop)->Prop
 | .cmp op a b=>fun m H ex post=>match isIs op b with
   | true=>False
   | false=>match tupR H m op a b with
     | some r=>post r H
     | none=>xE G T f h a m H ex fun x H1=>xE G T f h b m H1 ex fun y H2=>cmpX G T H2 op x y fun r=>post r H2
 | .cmp2 a o1 b o2 e=>fun m H ex post=>xE G T f h a m H ex fun x H1=>xE G T f h b m H1 ex fun y H2=>goO (cmpV o1 x y) fun r=>iteW r (xE G T f h e m H2 ex fun z H3=>goO (cmpV o2 y z) fun r2=>post r2 H3) (post false H2)
 | .not t=>fun m H ex post=>xT G T f h t m H ex fun r H1=>post (!r) H1
 | .and ts=>fun m H ex post=>xA G T f h ts m H ex post
 | .or ts=>fun m H ex post=>xOr G T f h ts m H ex post
 | .plain e=>fun m H ex post=>xE G T f h e m H ex fun v H1=>truW v fun r=>post r H1
def xA (G:Gx) (T:Tb) (f:Bool) (h:Hd):CTs->ML->MH->Ep->(Bool->MH->Prop)->Prop
 | .nil=>fun _ H _ post=>post true H
 | .cons t r=>fun m H ex post=>xT G T f h t m H ex fun b H1=>iteW b (xA G T f h r m H1 ex post) (post false H1)
def xOr (G:Gx) (T:Tb) (f:Bool) (h:Hd):CTs->ML->MH->Ep->(Bool->MH->Prop)->Prop
 | .nil=>fun _ H _ post=>post false H
 | .cons t r=>fun m H ex post=>xT G T f h t m H ex fun b H1=>iteW b (post true H1) (xOr G T f h r m H1 ex post)
def xV (G:Gx) (T:Tb) (f:Bool) (h:Hd):CT->ML->MH->Ep->(MV->MH->Prop)->Prop
 | .cmp op a b=>fun m H ex post=>match isIs op b with
   | true=>False
   | false=>xE G T f h a m H ex fun x H1=>xE G T f h b m H1 ex fun y H2=>cmpX G T H2 op x y fun r=>post (.bool r) H2
 | .cmp2 a o1 b o2 e=>fun m H ex post=>xE G T f h a m H ex fun x H1=>xE G T f h b m H1 ex fun y H2=>goO (cmpV o1 x y) fun r=>iteW r (xE G T f h e m H2 ex fun z H3=>goO (cmpV o2 y z) fun r2=>post (.bool r2) H3) (post (.bool false) H2)
 | .and ts=>fun m H ex post=>xAV G T f h ts m H ex post
 | .or ts=>fun m H ex post=>xRV G T f h ts m H ex post
 | .not t=>fun _ _ _ _=>False
 | .plain e=>fun m H ex post=>xE G T f h e m H ex post
def xAV (G:Gx) (T:Tb) (f:Bool) (h:Hd):CTs->ML->MH->Ep->(MV->MH->Prop)->Prop
 | .nil=>fun _ _ _ _=>False
 | .cons t .nil=>fun m H ex post=>xV G T f h t m H ex post
 | .cons t (.cons u r)=>fun m H ex post=>xV G T f h t m H ex fun v H1=>boolW v fun b=>iteW b (xAV G T f h (.cons u r) m H1 ex post) (post (.bool false) H1)
def xRV (G:Gx) (T:Tb) (f:Bool) (h:Hd):CTs->ML->MH->Ep->(MV->MH->Prop)->Prop
 | .nil=>fun _ _ _ _=>False
 | .cons t .nil=>fun m H ex post=>xV G T f h t m H ex post
 | .cons t (.cons u r)=>fun m H ex post=>xV G T f h t m H ex fun v H1=>boolW v fun b=>iteW b (post (.bool true) H1) (xRV G T f h (.cons u r) m H1 ex post)
end
mutual
def xS (G:Gx) (T:Tb) (f:Bool) (h:Hd):CS->ML->MH->Ep->(Fl->ML->MH->Prop)->Prop
 | .assign i a=>fun m H ex post=>xE G T f h a m H ex fun v H1=>setW m i v fun m1=>post .next m1 H1
 | .assignT is a=>fun m H ex post=>xE G T f h a m H ex fun v H1=>goO (partsX H1 (lenX is) v) fun vs=>setsW is vs m fun m1=>post .next m1 H1
 | .setItem o i a=>fun m H ex post=>xE G T f h a m H ex fun v H1=>xE G T f h o m H1 ex fun x H2=>xE G T f h i m H2 ex fun y H3=>setX H3 x y v fun H4=>post .next m H4
 | .setAttr o n a=>fun m H ex post=>xE G T f h a m H ex fun v H1=>xE G T f h o m H1 ex fun l H2=>goO (insX H2 l) fun p=>goB (hasM T.att p.2.1 n) (goB (Nat.ble (lenX p.2.2.2) 900) (updX H2 p.2.2.1 (.ns (putF n v p.2.2.2)) fun H3=>post .next m H3))
 | .expr a=>fun m H ex post=>xE G T f h a m H ex fun _ H1=>post .next m H1
 | .ite t a b=>fun m H ex post=>match T.asm t with
   | true=>xT G T f h t m H ex fun r H1=>Need (r=false) (xB G T f h b m H1 ex post)
   | false=>xT G T f h t m H ex fun r H1=>iteW r (xB G T f h a m H1 ex post) (xB G T f h b m H1 ex post)
 | .ret a=>fun m H ex post=>xE G T f h a m H ex fun v H1=>post (.ret v) m H1
 | .ret0=>fun m H _ post=>post (.ret .none) m H
 | .brk=>fun m H _ post=>post .brk m H
 | .cont=>fun m H _ post=>post .cont m H
 | .pass=>fun m H _ post=>post .next m H
 | .raise g (.cons a r)=>fun _ _ _ _=>False
 | .raise g .nil=>fun _ _ _ _=>False
 | .swap ..=>fun _ _ _ _=>False
 | .while t b=>fun m H ex post=>whileX (fun m1 H1 k=>xT G T f h t m1 H1 ex k) (fun m1 H1 k=>xB G T f h b m1 H1 ex k) post fuel m H
 | .for is it b=>fun m H ex post=>match isRng it with
   | true=>goB (Nat.beq (lenX is) 1) (xR G T f h it m H ex fun _ vs H1=>goO (rngOf vs) fun p=>ydc (itR p.1 (p.2 - p.1)) gdT is (fun m1 H2 k=>xB G T f h b m1 H2 ex k) post fuel 0 m H1)
   | false=>xE G T f h it m H ex fun v H1=>srcX (lenX is) H1 v fun itm gd=>ydc itm gd is (fun m1 H2 k=>xB G T f h b m1 H2 ex k) post fuel 0 m H1
 | .raiseFrom g as e=>fun _ _ _ _=>False
 | .try ..=>fun _ _ _ _=>False
def xB (G:Gx) (T:Tb) (f:Bool) (h:Hd):CSs->ML->MH->Ep->(Fl->ML->MH->Prop)->Prop
 | .nil=>fun m H _ post=>post .next m H
 | .cons a r=>fun m H ex post=>xS G T f h a m H ex fun fl m1 H1=>match fl with
   | .next=>xB G T f h r m1 H1 ex post
   | .brk=>post .brk m1 H1
   | .cont=>post .cont m1 H1
   | .ret v=>post (.ret v) m1 H1
end
def retQ (post:MV->MH->Prop) (fl:Fl) (_:ML) (H:MH):Prop:=match fl with
 | .ret v=>post v H
 | .next=>post .none H
 | _=>False
inductive Md where
 | left
 | force
 | ora (k:List MV->MH->Option (Prop×MV))
 | orn (k:List MV->MH->(MO->Prop)->Prop)
noncomputable def callX (G:Gx) (prog:Program) (w:World) (T:Tb) (md:List (Addr×Md)):Nat->Bool->Hd
 | 0=>fun _ _ _ _ _ _=>False
 | n+1=>fun f a args H post xp=>match lkN md a with
   | some .left=>CLw G prog w (2*n+2) a args H post xp
   | some (.ora k)=>goB (Nat.ble 40 n) (goO (k args H) fun p=>Need p.1 (post p.2 H))
   | some (.orn k)=>goB (Nat.ble 40 n) (k args H fun o=>push H o 0 fun H' i=>post (.ref i) H')
   | some .force=>goO (lkN T.df a) fun D=>goB (Nat.beq (lenX args+lenX D.dm) (lenX D.names)) (startW D.nm (args++D.dm) fun m=>xB G T true (callX G prog w T md n true) D.b m H (fun C as _ H'=>xp C as H') (retQ post))
   | none=>goO (lkN T.df a) fun D=>goB (Nat.beq (lenX args+lenX D.dm) (lenX D.names)) (startW D.nm (args++D.dm) fun m=>xB G T f (callX G prog w T md n f) D.b m H (fun C as _ H'=>xp C as H') (retQ post))
noncomputable def yal:List Str:=["value","least","most","what"]
noncomputable def yao:CSs:=(.cons (.ite (.or (.cons (.cmp .IsNot (.call "type" (.cons (.loc 0) .nil)) (.glob "int")) (.cons (.cmp .Lt (.loc 0) (.loc 1)) (.cons (.cmp .Gt (.loc 0) (.loc 2)) .nil)))) (.cons (.raise "ShareError" (.cons (.bin .Add (.bin .Add (.bin .Add (.str "no ") (.loc 3)) (.str ": ")) (.call "shown" (.cons (.loc 0) .nil))) .nil))
 .nil) .nil)
 (.cons (.ret (.loc 0))
 .nil))
noncomputable def yby:List Str:=["n","k"]
noncomputable def ycg:CSs:=(.cons (.ite (.cmp .Lt (.loc 0) (.int 2)) (.cons (.ret (.bool false))
 .nil) .nil)
 (.cons (.assign 1 (.int 2))
 (.cons (.while (.cmp .LtE (.bin .Mult (.loc 1) (.loc 1)) (.loc 0)) (.cons (.ite (.cmp .Eq (.bin .Mod (.loc 0) (.loc 1)) (.int 0)) (.cons (.ret (.bool false))
 .nil) .nil)
 (.cons (.assign 1 (.bin .Add (.loc 1) (.int 1)))
 .nil)))
 (.cons (.ret (.bool true))
 .nil))))
noncomputable def yb1:List Str:=["self","prime"]
noncomputable def yb9:CSs:=(.cons (.expr (.call "need_number" (.cons (.loc 1) (.cons (.int 2) (.cons (.glob "GREATEST") (.cons (.str "prime") .nil))))))
 (.cons (.ite (.not (.plain (.call "is_prime" (.cons (.loc 1) .nil)))) (.cons (.raise "ShareError" (.cons (.bin .Add (.str "no prime: ") (.call "str" (.cons (.loc 1) .nil))) .nil))
 .nil) .nil)
 (.cons (.setAttr (.loc 0) "prime" (.loc 1))
 .nil)))
noncomputable def yf4:List Str:=["self","a","n","out"]
noncomputable def yil:CSs:=(.cons (.assign 3 (.int 1))
 (.cons (.assign 1 (.bin .Mod (.loc 1) (.attr (.loc 0) "prime")))
 (.cons (.while (.cmp .Gt (.loc 2) (.int 0)) (.cons (.ite (.plain (.bin .BitAnd (.loc 2) (.int 1))) (.cons (.assign 3 (.bin .Mod (.bin .Mult (.loc 3) (.loc 1)) (.attr (.loc 0) "prime")))
 .nil) .nil)
 (.cons (.assign 1 (.bin .Mod (.bin .Mult (.loc 1) (.loc 1)) (.attr (.loc 0) "prime")))
 (.cons (.assign 2 (.bin .RShift (.loc 2) (.int 1)))
 .nil))))
 (.cons (.ret (.loc 3))
 .nil))))
noncomputable def yff:List Str:=["self","a"]
noncomputable def yhn:CSs:=(.cons (.ite (.cmp .Eq (.bin .Mod (.loc 1) (.attr (.loc 0) "prime")) (.int 0)) (.cons (.raise "ShareError" (.cons (.str "nought has no inverse") .nil))
 .nil) .nil)
 (.cons (.ret (.meth (.loc 0) "power" (.cons (.loc 1) (.cons (.bin .Sub (.attr (.loc 0) "prime") (.int 2)) .nil))))
 .nil))
noncomputable def yho:List Str:=["self","a","b"]
noncomputable def yjf:CSs:=(.cons (.ret (.bin .Mod (.bin .Mult (.loc 1) (.meth (.loc 0) "inverse" (.cons (.loc 2) .nil))) (.attr (.loc 0) "prime")))
 .nil)
noncomputable def yet:List Str:=["field","row","x","out","a"]
noncomputable def yfn:CSs:=(.cons (.assign 3 (.int 0))
 (.cons (.for [4] (.call "reversed" (.cons (.loc 1) .nil)) (.cons (.assign 3 (.bin .Mod (.bin .Add (.bin .Mult (.loc 3) (.loc 2)) (.loc 4)) (.attr (.loc 0) "prime")))
 .nil))
 (.cons (.ret (.loc 3))
 .nil)))
noncomputable def ydx:List Str:=["row","out"]
noncomputable def yd0:CSs:=(.cons (.assign 1 (.call "list" (.cons (.loc 0) .nil)))
 (.cons (.while (.and (.cons (.cmp .Gt (.call "len" (.cons (.loc 1) .nil)) (.int 0)) (.cons (.cmp .Eq (.sub (.loc 1) (.neg (.int 1))) (.int 0)) .nil))) (.cons (.expr (.meth (.loc 1) "pop" .nil))
 .nil))
 (.cons (.ret (.loc 1))
 .nil)))
noncomputable def ynh:List Str:=["field","one","two","size"]
noncomputable def yt4:CSs:=(.cons (.assign 3 (.call "max" (.cons (.call "len" (.cons (.loc 1) .nil)) (.cons (.call "len" (.cons (.loc 2) .nil)) .nil))))
 (.cons (.ret (.comp (.bin .Mod (.bin .Add (.ite (.cmp .Lt (.loc 4) (.call "len" (.cons (.loc 1) .nil))) (.sub (.loc 1) (.loc 4)) (.int 0)) (.ite (.cmp .Lt (.loc 4) (.call "len" (.cons (.loc 2) .nil))) (.sub (.loc 2) (.loc 4)) (.int 0))) (.attr (.loc 0) "prime")) ["k"] (.call "range" (.cons (.loc 3) .nil)) .nil))
 .nil))
noncomputable def yj0:List Str:=["field","one","two","out","i","j"]
noncomputable def yn3:CSs:=(.cons (.ite (.or (.cons (.cmp .Eq (.call "len" (.cons (.loc 1) .nil)) (.int 0)) (.cons (.cmp .Eq (.call "len" (.cons (.loc 2) .nil)) (.int 0)) .nil))) (.cons (.ret (.list .nil))
 .nil) .nil)
 (.cons (.assign 3 (.bin .Mult (.list (.cons (.int 0) .nil)) (.bin .Sub (.bin .Add (.call "len" (.cons (.loc 1) .nil)) (.call "len" (.cons (.loc 2) .nil))) (.int 1))))
 (.cons (.for [4] (.call "range" (.cons (.call "len" (.cons (.loc 1) .nil)) .nil)) (.cons (.for [5] (.call "range" (.cons (.call "len" (.cons (.loc 2) .nil)) .nil)) (.cons (.setItem (.loc 3) (.bin .Add (.loc 4) (.loc 5)) (.bin .Mod (.bin .Add (.sub (.loc 3) (.bin .Add (.loc 4) (.loc 5))) (.bin .Mult (.sub (.loc 1) (.loc 4)) (.sub (.loc 2) (.loc 5)))) (.attr (.loc 0) "prime")))
 .nil))
 .nil))
 (.cons (.ret (.loc 3))
 .nil))))
noncomputable def yjz:List Str:=["field","points","out","i","row","lower","j","factor"]
noncomputable def yni:CSs:=(.cons (.assign 2 (.list .nil))
 (.cons (.for [3] (.call "range" (.cons (.call "len" (.cons (.loc 1) .nil)) .nil)) (.cons (.assign 4 (.list (.cons (.int 1) .nil)))
 (.cons (.assign 5 (.int 1))
 (.cons (.for [6] (.call "range" (.cons (.call "len" (.cons (.loc 1) .nil)) .nil)) (.cons (.ite (.cmp .NotEq (.loc 6) (.loc 3)) (.cons (.assign 4 (.call "product" (.cons (.loc 0) (.cons (.loc 4) (.cons (.list (.cons (.bin .Mod (.neg (.sub (.sub (.loc 1) (.loc 6)) (.int 0))) (.attr (.loc 0) "prime")) (.cons (.int 1) .nil))) .nil)))))
 (.cons (.assign 5 (.bin .Mod (.bin .Mult (.loc 5) (.bin .Sub (.sub (.sub (.loc 1) (.loc 3)) (.int 0)) (.sub (.sub (.loc 1) (.loc 6)) (.int 0)))) (.attr (.loc 0) "prime")))
 .nil)) .nil)
 .nil))
 (.cons (.assign 7 (.meth (.loc 0) "over" (.cons (.sub (.sub (.loc 1) (.loc 3)) (.int 1)) (.cons (.loc 5) .nil))))
 (.cons (.assign 2 (.call "plus" (.cons (.loc 0) (.cons (.loc 2) (.cons (.comp (.bin .Mod (.bin .Mult (.loc 8) (.loc 7)) (.attr (.loc 0) "prime")) ["a"] (.loc 4) .nil) .nil)))))
 .nil))))))
 (.cons (.ret (.call "trimmed" (.cons (.loc 2) .nil)))
 .nil)))
def isP (n:Int):Prop:=2<=n/\∀k:Int,2<=k->k*k<=n->n % k≠0
theorem TB.gen3 {c:Cx} {m:ML} {a:CSs} {H:MH} {q:Fl->ML->MH->Prop} (h:∀p:Fl->ML->MH->Prop,(∀f m H,q f m H->p f m H)->TB c m a H p):TB c m a H q:=h q (fun _ _ _ h=>h)
theorem ykx {G:Gx} {prog:Program} {w:World} {f:Addr} {n:Int} {H:MH} {xp:Addr->List MV->MH->Prop} (D:GDef G f ["n"] yby ycg []) (hn:n<2 ^ 60) :
   CL G prog w 1 f [.int n] H (fun v H'=>∃b,v=.bool b/\(b=true↔isP n)/\H'=H) xp:=by
 refine D.cl rfl ?_;intro c e1 e2 ok hfm hi hnm hX;show TB c [some (.int n),none] _ _ _;unfold ycg;with_reducible (refine TB.cons ?_;refine TS.ite ?_;refine TT.cmp ?_;refine TE.loc ‹_› (by with_unfolding_all rfl) ?_;refine TE.int ?_)
 refine ⟨_,rfl,fun h=>?_,fun h=>?_⟩
 . haveI h:n<2:=by exact of_decide_eq_true h
   with_reducible (refine TB.cons ?_;refine TS.ret ?_;refine TE.bool ?_)
   exact ⟨false,rfl,by simp [isP];omega,rfl⟩
 . haveI h:2<=n:=by simpa using h
   with_reducible (refine TB.nil ?_;refine TB.cons ?_;refine TS.assign ‹_› ‹_› (by with_unfolding_all rfl) ?_;refine TE.int ?_;refine TB.cons ?_)
   refine TS.while ok hfm (fun k m1 H1=>∃j:Int,2<=j/\j<=n/\(n - j).toNat=k/\m1=[some (.int n),some (.int j)]/\H1=H/\∀i:Int,2<=i->i<j->n % i≠0) (n - 2).toNat ⟨2,by exact Int.le_refl _,by assumption,rfl,rfl,rfl,fun i h1 h2=>by exact absurd ‹_› (Int.not_lt_of_ge ‹_›)⟩ ?_;rintro k m1 H1 ⟨j,h1,h2,hk,rfl,rfl,hno⟩;with_reducible (refine TT.cmp ?_;refine TE.op ‹_› ?_;refine TE.loc ‹_› (by with_unfolding_all rfl) ?_;refine TE.loc ‹_› (by with_unfolding_all rfl) ?_;refine ⟨_,BinI.mul (mulL (by lia) (by lia)),?_⟩;refine TE.loc ‹_› (by with_unfolding_all rfl) ?_)
   refine ⟨_,rfl,fun h=>?_,fun h=>?_⟩
   . refine TB.gen3 fun PP hPP=>?_;haveI h:j*j<=n:=by exact of_decide_eq_true h
     haveI hjn:j<n:=by
       haveI:j*2<=j*j:=Int.mul_le_mul_of_nonneg_left h1 (by exact ymo h1);lia
     with_reducible (refine TB.cons ?_;refine TS.ite ?_;refine TT.cmp ?_;refine TE.op ‹_› ?_;refine TE.loc ‹_› (by with_unfolding_all rfl) ?_;refine TE.loc ‹_› (by with_unfolding_all rfl) ?_;refine ⟨_,BinI.modP (by exact yc9 h1),?_⟩;refine TE.int ?_)
     refine ⟨_,rfl,fun h=>?_,fun h=>?_⟩
     . haveI h0:n % j=0:=by exact of_decide_eq_true h
       with_reducible (refine TB.cons ?_;refine TS.ret ?_;refine TE.bool ?_)
       refine hPP _ _ _ ⟨false,rfl,?_,rfl⟩;constructor
       . intro e;exact nb e
       . intro q;exact absurd h0 (q.2 j h1 ‹_›)
     . haveI h0:n % j≠0:=by simpa using h
       with_reducible (refine TB.nil ?_;refine TB.cons ?_;refine TS.assign ‹_› ‹_› (by with_unfolding_all rfl) ?_;refine TE.op ‹_› ?_;refine TE.loc ‹_› (by with_unfolding_all rfl) ?_;refine TE.int ?_;refine ⟨_,BinI.add,?_⟩;refine TB.nil ?_)
       refine hPP _ _ _ ⟨(n - (j+1)).toNat,by lia,j+1,by lia,by exact yv3 h2 hjn,rfl,rfl,rfl,fun i q1 q2=>?_⟩;by_cases e:i=j
       . subst e;exact h0
       . exact hno i q1 (by exact yvx q2 e)
   . haveI h:n<j*j:=by simpa using h
     with_reducible (refine TB.cons ?_;refine TS.ret ?_;refine TE.bool ?_)
     refine ⟨true,rfl,⟨fun _=>⟨by assumption,fun k q1 q2=>?_⟩,fun _=>rfl⟩,rfl⟩;by_cases e:k<j
     . exact hno k q1 e
     . exfalso;haveI h5:j*j<=k*k:=Int.mul_le_mul (by exact qf23 e) (by exact qf23 e) (by exact ymo h1) (by exact ymo q1);lia
theorem ycf {G:Gx} {prog:Program} {w:World} {f:Addr} {v lo hi:Int} {t:Str} {H:MH} {xp:Addr->List MV->MH->Prop} (D:GDef G f ["value","least","most","what"] yal yao [])
   (bs:Bs G) (h1:lo<=v) (h2:v<=hi) :
   CL G prog w 1 f [.int v,.int lo,.int hi,.str t] H (fun r H'=>r=.int v/\H'=H) xp:=by
 refine D.cl rfl ?_;intro c e1 e2 ok hfm hint hnm hX;show TB c [some (.int v),some (.int lo),some (.int _),some (.str t)] _ _ _;unfold yao;refine TB.cons (TS.ite (TT.or (TTs.or (TT.tyAny (N:="int") (T':="int") ok bs.type (.inr ⟨rfl,rfl⟩) bs.int rfl (by decide) ?_))));with_reducible (refine TE.loc ‹_› (by with_unfolding_all rfl) ?_)
 refine ⟨"int",rfl,dR (by first | exact nf1 | exact nf2) ?_⟩;with_reducible (refine TTs.or ?_;refine TT.cmp ?_;refine TE.loc ‹_› (by with_unfolding_all rfl) ?_;refine TE.loc ‹_› (by with_unfolding_all rfl) ?_)
 refine ⟨_,rfl,fun h=>(by simp at h;exact absurd ‹_› (Int.not_lt_of_ge ‹_›)),fun _=>?_⟩;with_reducible (refine TTs.or ?_;refine TT.cmp ?_;refine TE.loc ‹_› (by with_unfolding_all rfl) ?_;refine TE.loc ‹_› (by with_unfolding_all rfl) ?_)
 refine ⟨_,rfl,fun h=>(by simp at h;exact absurd ‹_› (Int.not_lt_of_ge ‹_›)),fun _=>?_⟩;with_reducible (refine TTs.orNil ?_)
 refine (dR (by first | exact nf1 | exact nf2) ?_);with_reducible (refine TB.nil ?_;refine TB.cons ?_;refine TS.ret ?_;refine TE.loc ‹_› (by with_unfolding_all rfl) ?_)
 exact ⟨rfl,rfl⟩
structure FieldK (G:Gx) (C:Addr):Prop where
 cls:∃fI,GCls G "Field" C fI/\GDef G fI ["self","prime"] yb1 yb9 []
 nn:∃f,GFn G "need_number" f/\GDef G f ["value","least","most","what"] yal yao []
 ip:∃f,GFn G "is_prime" f/\GDef G f ["n"] yby ycg []
 att:GAtt G C "prime"
 sto:GSto G C "prime"
 gr:∃t,nsIn G.K mainGlobals "GREATEST"=some (some (.int 1048576 t))
 bs:Bs G
theorem yio {G:Gx} {prog:Program} {w:World} {f C:Addr} {i kk:Nat} {p:Int} {H:MH} {xp:Addr->List MV->MH->Prop} (F:FieldK G C) (D:GDef G f ["self","prime"] yb1 yb9 [])
   (hi:Ins H i C kk []) (hp:isP p) (hp2:p<=1048576):CL G prog w 2 f [.ref i,.int p] H (fun v H'=>v=.none/\H'=H.set kk (.ns [("prime",.int p)])) xp:=by
 obtain ⟨fN,Z1⟩:=F.nn;haveI gN:=(zl Z1);haveI dN:=(zr Z1);clear Z1;obtain ⟨fP,Z2⟩:=F.ip;haveI gP:=(zl Z2);haveI dP:=(zr Z2);clear Z2;obtain ⟨t,gr⟩:=F.gr;haveI h2:=hp.1;refine D.cl rfl ?_;intro c e1 e2 ok hfm hint hnm hX;subst e1 e2;show TB c [some (.ref i),some (.int p)] _ _ _;unfold yb9;with_reducible (refine TB.cons ?_;refine TS.expr ‹_› ?_;refine TE.call ‹_› ‹_› ?_;refine TEs.cons ?_;refine TE.loc ‹_› (by with_unfolding_all rfl) ?_;refine TEs.cons ?_;refine TE.int ?_;refine TEs.cons ?_)
 refine TE.glob ok (v:=.int 1048576) gr ⟨t,rfl⟩ ?_;with_reducible (refine TEs.cons ?_;refine TE.str ?_;refine TEs.nil ?_)
 refine (ycf dN F.bs h2 hp2).useE (by decide) ?_;with_reducible (refine TB.cons ?_;refine TS.ite ?_;refine TT.not ?_;refine TT.plain ?_;refine TE.call ‹_› ‹_› ?_;refine TEs.cons ?_;refine TE.loc ‹_› (by with_unfolding_all rfl) ?_;refine TEs.nil ?_)
 refine (ykx dP (by exact Int.lt_of_le_of_lt ‹_› (by decide))).use (by decide) ?_;rintro _ _ ⟨b,rfl,hb,rfl⟩;haveI hb':b=true:=hb.mpr hp;subst hb';refine ⟨true,rfl,dR (by first | exact nf1 | exact nf2) ?_⟩;with_reducible (refine TB.nil ?_;refine TB.cons ?_;refine TS.setAttr ‹_› ?_;refine TE.loc ‹_› (by with_unfolding_all rfl) ?_;refine TE.loc ‹_› (by with_unfolding_all rfl) ?_)
 refine ⟨_,_,_,_,rfl,hi,by decide,F.sto,?_⟩;with_reducible (refine TB.nil ?_)
 exact ⟨rfl,rfl⟩
theorem TE.field {c:Cx} {m:ML} {H:MH} {G:Gx} {d:Nat} {C:Addr} (ok:Ok G c d) (hd:3<=d) (F:FieldK G C) {e:CE} {post:MV->MH->Prop}
   (h:TE c m e H (fun v H1=>∃p,v=.int p/\isP p/\p<=1048576/\post (.ref (H1.length+1)) (H1++[.ns [("prime",.int p)]]++[.inst C H1.length]))):TE c m (.call "Field" (.cons e .nil)) H post:=by
 obtain ⟨fI,Z1⟩:=F.cls;haveI gI:=(zl Z1);haveI dI:=(zr Z1);clear Z1;refine TE.new (d:=2) (ok.le hd) gI (TEs.cons (h.mono ?_));rintro _ H1 ⟨p,rfl,hp,hp2,hpost⟩;refine TEs.nil ?_;refine (yio (kk:=H1.length) F dI ⟨?_,?_⟩ hp hp2).use (Nat.le_refl _) ?_
 . simp
 . simp
 . rintro _ _ ⟨rfl,rfl⟩;refine ⟨rfl,?_⟩;haveI:(H1++[MO.ns []]++[MO.inst C H1.length]).set H1.length (.ns [("prime",.int p)])=H1++[.ns [("prime",.int p)]]++[.inst C H1.length]:=by simp
   rw [this];exact hpost
noncomputable def pval (p:Int) (row:List Int) (x:Int):Int:=row.foldr (fun a acc=>(acc*x+a) % p) 0
theorem ypf (p:Int) (row:List Int) (x:Int):pval p row x=row.reverse.foldl (fun acc a=>(acc*x+a) % p) 0:=by
 unfold pval;rw [List.foldl_reverse]
theorem yo7 {G:Gx} {prog:Program} {w:World} {f C:Addr} {i kk r:Nat} {x p:Int} {row:List Int} {H:MH} {xp:Addr->List MV->MH->Prop} (D:GDef G f ["field","row","x"] yet yfn [])
   (bs:Bs G) (ga:GAtt G C "prime") (hF:Ins H i C kk [("prime",.int p)]) (hr:H[r]?=some (.list (intL row))) (hp:2<=p) (hp2:p<2 ^ 60) :
   CL G prog w 1 f [.ref i,.ref r,.int x] H (fun v H'=>v=.int (pval p row x)/\H'=H) xp:=by
 refine D.cl rfl ?_;intro c e1 e2 ok hfm hint hnm hX;show TB c [some (.ref i),some (.ref r),some (.int x),none,none] _ _ _;unfold yfn;with_reducible (refine TB.cons ?_;refine TS.assign ‹_› ‹_› (by with_unfolding_all rfl) ?_;refine TE.int ?_;refine TB.cons ?_)
 refine TS.forRev ok hfm bs.reversed ?_;with_reducible (refine TE.loc ‹_› (by with_unfolding_all rfl) ?_)
 refine ⟨r,_,rfl,hr,fun j m1 H2=>∃out o4,m1=[some (.ref i),some (.ref r),some (.int x),some (.int out),o4]/\H2=H/\0<=out/\out<p/\out=(row.reverse.take j).foldl (fun acc a=>(acc*x+a) % p) 0,⟨0,none,rfl,rfl,by exact Int.le_refl _,by exact yc9 hp,rfl⟩,?_,?_,?_⟩
 . rintro _ _ _ ⟨_,_,_,rfl,_⟩;exact hr
 . rintro j m1 H2 v xt ⟨out,o4,rfl,rfl,o1,o2,o3⟩ hv;rw [<-List.map_reverse] at hv;obtain ⟨a,Z1⟩:=ypl hv;haveI Z2:=(zl Z1);subst Z2;haveI ha:=(zr Z1);clear Z1;refine ⟨[.int a],?_,?_⟩
   . exact rfl
   . haveI okx:=ok.wx xt;haveI hfx:(c.wx xt).fm=none:=hfm;show TB (c.wx xt) [some (.ref i),some (.ref r),some (.int x),some (.int out),some (.int a)] _ _ _;refine TB.gen3 fun PP hPP=>?_;with_reducible (refine TB.cons ?_;refine TS.assign ‹_› ‹_› (by with_unfolding_all rfl) ?_;refine TE.op ‹_› ?_;refine TE.op ‹_› ?_;refine TE.op ‹_› ?_;refine TE.loc ‹_› (by with_unfolding_all rfl) ?_;refine TE.loc ‹_› (by with_unfolding_all rfl) ?_;refine ⟨_,BinI.mul (mulL (by exact ywr o1) (by exact yu9 hp2 o2)),?_⟩;refine TE.loc ‹_› (by with_unfolding_all rfl) ?_;refine ⟨_,BinI.add,?_⟩;refine TE.attr ‹_› ?_;refine TE.loc ‹_› (by with_unfolding_all rfl) ?_;refine ⟨_,_,_,_,_,rfl,by (first | assumption | exact Ext.ins ‹_› ‹_›),by with_unfolding_all rfl,by assumption,?_⟩;refine ⟨_,BinI.modP (by exact Int.lt_of_le_of_lt ‹_› ‹_›),?_⟩;refine TB.nil ?_)
     exact hPP _ _ _ ⟨_,_,rfl,rfl,Int.emod_nonneg _ (by exact yv2 hp),Int.emod_lt_of_pos _ (by exact yc9 hp),by rw [yn5 ha,<-o3]⟩
 . rintro m1 H2 ⟨out,o4,rfl,rfl,o1,o2,o3⟩;with_reducible (refine TB.cons ?_;refine TS.ret ?_;refine TE.loc ‹_› (by with_unfolding_all rfl) ?_)
   refine ⟨?_,rfl⟩;rw [length_map,<-length_reverse,take_length] at o3;rw [ypf,<-o3];rfl
noncomputable def trim (l:List Int):List Int:=(l.reverse.dropWhile (·==0)).reverse
theorem ycv (l:List Int):trim (l++[0])=trim l:=by simp [trim]
theorem ybq {l:List Int} {a:Int} (h:a≠0):trim (l++[a])=l++[a]:=by simp [trim,h]
theorem ymb {G:Gx} {prog:Program} {w:World} {f:Addr} {r:Nat} {row:List Int} {H:MH} {xp:Addr->List MV->MH->Prop} (D:GDef G f ["row"] ydx yd0 [])
   (bs:Bs G) (hr:H[r]?=some (.list (intL row))) (hl:row.length<=1000000) :
   CL G prog w 1 f [.ref r] H (fun v H'=>v=.ref H.length/\H'=H++[.list (intL (trim row))]) xp:=by
 refine D.cl rfl ?_;intro c e1 e2 ok hfm hint hnm hX;show TB c [some (.ref r),none] _ _ _;unfold yd0;with_reducible (refine TB.cons ?_;refine TS.assign ‹_› ‹_› (by with_unfolding_all rfl) ?_;refine TE.blist ‹_› ‹_› ?_;refine TE.loc ‹_› (by with_unfolding_all rfl) ?_)
 refine BC.list hr (by rw [length_map];exact hl) ?_;with_reducible (refine TB.cons ?_)
 refine TS.while ok hfm (fun k m1 H1=>∃ys:List Int,ys.length=k/\ys.length<=1000000/\m1=[some (.ref r),some (.ref H.length)]/\H1=H++[.list (intL ys)]/\trim ys=trim row) row.length ⟨row,rfl,hl,rfl,rfl,rfl⟩ ?_;rintro k m1 H1 ⟨ys,hk,hy,rfl,rfl,ht⟩;haveI hg:(H++[MO.list (intL ys)])[H.length]?=some (.list (intL ys)):=yaf;with_reducible (refine TT.and ?_;refine TTs.and ?_;refine TT.cmp ?_;refine TE.len ‹_› ‹_› ?_;refine TE.loc ‹_› (by with_unfolding_all rfl) ?_;refine BC.lenI ‹_› ‹_› ?_;refine TE.int ?_)
 refine ⟨_,rfl,fun h=>?_,fun h=>?_⟩
 . haveI h:ys=[]:=by
     haveI:ys.length=0:=by simpa using h
     exact eq_nil_of_length_eq_zero this
   subst h;refine ⟨fun q=>(by exact nb q),fun _=>?_⟩;with_reducible (refine TB.cons ?_;refine TS.ret ?_;refine TE.loc ‹_› (by with_unfolding_all rfl) ?_)
   exact ⟨rfl,by rw [<-ht];rfl⟩
 . rcases List.eq_nil_or_concat ys with rfl | ⟨zs,a,rfl⟩
   . exact nb h
   . rw [List.concat_eq_append] at *;with_reducible (refine TTs.and ?_;refine TT.cmp ?_;refine TE.sq ?_;refine TE.loc ‹_› (by with_unfolding_all rfl) ?_;refine TE.negI ?_;refine TE.int ?_;refine ⟨_,NegI.mk,?_⟩)
     refine ⟨.int a,Sq.list hg ⟨by rw [length_map];exact hy,.inr ⟨by decide,by simp;lia,?_⟩⟩,?_⟩
     . haveI e:((-1:Int)+((intL (zs++[a])).length:Nat)).toNat=zs.length:=by simp [intL];lia
       rw [e];simp [intL]
     with_reducible (refine TE.int ?_)
     refine ⟨_,rfl,fun h=>?_,fun h=>?_⟩
     . haveI h:a≠0:=by simpa using h
       refine ⟨fun q=>(by exact nb q),fun _=>?_⟩;with_reducible (refine TB.cons ?_;refine TS.ret ?_;refine TE.loc ‹_› (by with_unfolding_all rfl) ?_)
       refine ⟨rfl,?_⟩;rw [<-ht,ybq h]
     . haveI h:a=0:=by exact of_decide_eq_true h
       subst h;with_reducible (refine TTs.andNil ?_)
       refine ⟨fun _=>?_,fun q=>(by exact nt q)⟩;with_reducible (refine TB.cons ?_;refine TS.expr ‹_› ?_;refine TE.pop ?_;refine TE.loc ‹_› (by with_unfolding_all rfl) ?_)
       refine ⟨_,intL zs,.int 0,rfl,by rw [hg];simp [intL],by simp at hy ⊢;exact Nat.le_succ_of_le ‹_›,?_⟩;with_reducible (refine TB.nil ?_)
       rw [ytq];exact ⟨zs.length,by simp at hk;lia,zs,rfl,by simp at hy;exact Nat.le_succ_of_le ‹_›,rfl,rfl,by rw [<-ht,ycv]⟩
noncomputable def padd (p:Int) (a b:List Int):List Int:=(List.range (max a.length b.length)).map fun k=>(a.getD k 0+b.getD k 0) % p
noncomputable def yer (p:Int) (a b:List Int) (i:Nat) (out:List Int) (j:Nat):List Int:=out.set (i+j) ((out.getD (i+j) 0+a.getD i 0*b.getD j 0) % p)
noncomputable def prow (p:Int) (a b:List Int) (out:List Int) (i:Nat):List Int:=(List.range b.length).foldl (yer p a b i) out
noncomputable def pmul (p:Int) (a b:List Int):List Int:=if a.length=0\/b.length=0 then [] else (List.range a.length).foldl (prow p a b) (List.replicate (a.length+b.length - 1) 0)
theorem yh5 {p:Int} {a b out:List Int} {i j:Nat}:(yer p a b i out j).length=out.length:=by simp [yer]
theorem yey {α:Type} {f:List Int->α->List Int} (h:∀o x,(f o x).length=o.length):∀(l:List α) (o:List Int),(l.foldl f o).length=o.length:=by
 intro zd
 induction zd with
 | nil=>
  exact fun zz=>rfl
 | cons x l zih=>
  exact fun o=>by rw [foldl_cons,zih,h]
theorem yjg {p:Int} {a b out:List Int} {i:Nat}:(prow p a b out i).length=out.length:=yey (fun _ _=>yh5) _ _
abbrev px (pts:List (Int×Int)) (k:Nat):Int:=(pts.getD k (0,0)).1
abbrev py (pts:List (Int×Int)) (k:Nat):Int:=(pts.getD k (0,0)).2
noncomputable def yd2 (p:Int) (pts:List (Int×Int)) (i:Nat) (r:List Int) (j:Nat):List Int:=if j=i then r else pmul p r [(-(px pts j)) % p,1]
noncomputable def trow (p:Int) (pts:List (Int×Int)) (i n:Nat):List Int:=(List.range n).foldl (yd2 p pts i) [1]
noncomputable def yi0 (p:Int) (pts:List (Int×Int)) (i:Nat) (l:Int) (j:Nat):Int:=if j=i then l else l*(px pts i - px pts j) % p
noncomputable def tlow (p:Int) (pts:List (Int×Int)) (i n:Nat):Int:=(List.range n).foldl (yi0 p pts i) 1
noncomputable def tfac (p:Int) (pts:List (Int×Int)) (i:Nat):Int:=py pts i*(tlow p pts i pts.length ^ (p - 2).toNat % p) % p
noncomputable def ymt (p:Int) (pts:List (Int×Int)) (out:List Int) (i:Nat):List Int:=padd p out ((trow p pts i pts.length).map fun a=>a*tfac p pts i % p)
noncomputable def tsum (p:Int) (pts:List (Int×Int)) (n:Nat):List Int:=(List.range n).foldl (ymt p pts) []
noncomputable def thr (p:Int) (pts:List (Int×Int)):List Int:=trim (tsum p pts pts.length)
theorem yah {β:Type} {f:β->Nat->β} {b:β} {n:Nat}:(List.range (n+1)).foldl f b=f ((List.range n).foldl f b) n:=by
 rw [range_succ,List.foldl_append];rfl
def Bd (p:Int) (l:List Int):Prop:=∀x ∈ l,0<=x/\x<p
theorem Bd.set {p:Int} {l:List Int} {i:Nat} {v:Int} (h:Bd p l) (hv:0<=v/\v<p):Bd p (l.set i v):=fun x hx=>by
 rcases List.mem_or_eq_of_mem_set hx with q | q
 . exact h x q
 . exact q ▸ hv
theorem md {a p:Int} (hp:0<p):0<=a % p/\a % p<p:=⟨Int.emod_nonneg _ (by exact Int.ne_of_gt ‹_›),Int.emod_lt_of_pos _ hp⟩
theorem yes {α β:Type} {f:β->α->β} {P:β->Prop} (h:∀b a,P b->P (f b a)):∀(l:List α) (b:β),P b->P (l.foldl f b):=by
 intro zd
 induction zd with
 | nil=>
  exact fun zz hb=>hb
 | cons a l zih=>
  exact fun b hb=>by rw [foldl_cons];exact zih _ (h b a hb)
theorem ysh {p:Int} {a b:List Int} (hp:0<p):Bd p (pmul p a b):=by
 unfold pmul;split
 . intro x hx;cases hx
 . refine yes (fun o i ho=>yes (fun o j ho=>ho.set (md hp)) _ _ ho) _ _ ?_;intro x hx;rw [List.eq_of_mem_replicate hx];exact yq9 hp
theorem yje {p:Int} {a b:List Int} (ha:a.length≠0) (hb:b.length≠0):(pmul p a b).length=a.length+b.length - 1:=by
 unfold pmul;rw [if_neg (by exact yw2 ha hb),yey (fun _ _=>yjg)];simp
theorem ytt {p:Int} {pts:List (Int×Int)} {i n:Nat} (hp:2<=p):Bd p (trow p pts i n):=by
 refine yes (P:=Bd p) (fun r j hr=>?_) _ _ ?_
 . unfold yd2;split
   . exact hr
   . exact ysh (by exact yc9 hp)
 . intro x hx;rw [mem_singleton] at hx;subst hx;lia
theorem you {p:Int} {pts:List (Int×Int)} {i:Nat}:∀n:Nat,1<=(trow p pts i n).length/\(trow p pts i n).length<=n+1:=by
 intro zd
 induction zd with
 | zero=>
  exact by simp [trow]
 | succ n zih=>
   have ih:=zih;unfold trow at ih ⊢;rw [yah];generalize (List.range n).foldl (yd2 p pts i) [1]=r at ih ⊢;unfold yd2;split
   . lia
   . rw [yje (by lia) (by exact fun h=>nomatch h)];simp;lia
theorem yrp {p:Int} {pts:List (Int×Int)} {i n:Nat} (hp:2<=p):0<=tlow p pts i n/\tlow p pts i n<p:=by
 refine yes (P:=fun l:Int=>0<=l/\l<p) (fun l j hl=>?_) _ _ ⟨by exact Int.natCast_nonneg _,by exact ymx hp⟩;unfold yi0;split
 . exact hl
 . exact md (by exact yc9 hp)
theorem yo6 {p:Int} {a b:List Int}:(padd p a b).length=max a.length b.length:=by simp [padd]
def Cg (p a b:Int):Prop:=a % p=b % p
theorem Cg.rfl {p a:Int}:Cg p a a:=Eq.refl _
theorem Cg.of {p a b:Int} (h:a=b):Cg p a b:=by rw [h];exact Cg.rfl
theorem Cg.symm {p a b:Int} (h:Cg p a b):Cg p b a:=Eq.symm h
theorem Cg.trans {p a b c:Int} (h:Cg p a b) (g:Cg p b c):Cg p a c:=Eq.trans h g
theorem Cg.md {p a:Int}:Cg p (a % p) a:=Int.emod_emod_of_dvd _ (Int.dvd_refl p)
theorem Cg.add {p a b c d:Int} (h:Cg p a b) (g:Cg p c d):Cg p (a+c) (b+d):=by
 unfold Cg at *;rw [Int.add_emod,h,g,<-Int.add_emod]
theorem Cg.mul {p a b c d:Int} (h:Cg p a b) (g:Cg p c d):Cg p (a*c) (b*d):=by
 unfold Cg at *;rw [Int.mul_emod,h,g,<-Int.mul_emod]
theorem Cg.neg {p a b:Int} (h:Cg p a b):Cg p (-a) (-b):=by
 have:=Cg.mul (Cg.rfl (p:=p) (a:=-1)) h;simpa using this
theorem Cg.sub {p a b c d:Int} (h:Cg p a b) (g:Cg p c d):Cg p (a - c) (b - d):=by
 rw [Int.sub_eq_add_neg,Int.sub_eq_add_neg];exact h.add g.neg
theorem Cg.pow {p a b:Int} (h:Cg p a b):∀n:Nat,Cg p (a ^ n) (b ^ n):=by
 intro zd
 induction zd with
 | zero=>
  exact Cg.of (by simp)
 | succ n zih=>
  exact by rw [Int.pow_succ,Int.pow_succ];exact (zih).mul h
theorem Cg.small {p a b:Int} (h:Cg p a b) (a1:0<=a/\a<p) (b1:0<=b/\b<p):a=b:=by
 unfold Cg at h;rwa [Int.emod_eq_of_lt a1.1 a1.2,Int.emod_eq_of_lt b1.1 b1.2] at h
theorem Cg.zero {p a:Int}:Cg p a 0↔a % p=0:=by unfold Cg;rw [Int.zero_emod]
noncomputable def pz (row:List Int) (x:Int):Int:=row.foldr (fun a acc=>acc*x+a) 0
theorem yuo (x:Int):pz [] x=0:=rfl
theorem yan (a:Int) (l:List Int) (x:Int):pz (a :: l) x=pz l x*x+a:=rfl
theorem ycs (p:Int):∀(row:List Int) (x:Int),Cg p (pval p row x) (pz row x):=by
 intro zd
 induction zd with
 | nil=>
  exact fun zz=>Cg.rfl
 | cons a l zih=>
  exact fun x=>Cg.md.trans ((Cg.mul (zih x) Cg.rfl).add Cg.rfl)
theorem ybh {p:Int} (hp:0<p):∀(row:List Int) (x:Int),0<=pval p row x/\pval p row x<p:=by
 intro zd;cases zd with
 | nil=>
  exact fun zz=>⟨Int.le_refl _,hp⟩
 | cons a l=>
  exact fun x=>md hp
theorem yjp (x:Int):∀(l:List Int) (a:Int),pz (l++[a]) x=pz l x+a*x ^ l.length:=by
 intro zd
 induction zd with
 | nil=>
  exact fun a=>by simp [pz]
 | cons b l zih=>
  exact fun a=>by
   rw [cons_append,yan,yan,zih a,length_cons,Int.pow_succ];grind
theorem yfq (x:Int) (l:List Int) (n:Nat):pz (l.take (n+1)) x=pz (l.take n) x+l.getD n 0*x ^ n:=by
 by_cases h:n<l.length
 . rw [List.take_add_one,getElem?_eq_getElem h];simp only [Option.toList_some];rw [yjp,length_take,Nat.min_eq_left (by exact Nat.le_of_lt ‹_›),getD_eq_getElem?_getD,getElem?_eq_getElem h];rfl
 . rw [take_of_length_le (by lia),take_of_length_le (by exact Nat.not_lt.mp ‹_›),getD_eq_getElem?_getD,List.getElem?_eq_none (by exact Nat.not_lt.mp ‹_›)];simp
theorem ynf (x:Int):∀(l:List Int) (t:Nat) (v:Int),t<l.length->pz (l.set t v) x=pz l x+(v - l.getD t 0)*x ^ t:=@fun zd1 zd2=>@(match zd1,zd2 with
 | [],_=>fun zz h=>by exact absurd h (Nat.not_lt_zero _)
 | a :: l,0=>fun v zz=>by
   rw [List.set_cons_zero,yan,yan];simp;lia
 | a :: l,t+1=>fun v h=>by
   rw [List.set_cons_succ,yan,yan,ynf x l t v (by exact Nat.lt_of_succ_lt_succ h),Int.pow_succ];simp only [List.getD_cons_succ];grind)
theorem yo2 (x:Int) (f:Nat->Int) (n:Nat):pz ((List.range (n+1)).map f) x=pz ((List.range n).map f) x+f n*x ^ n:=by
 rw [range_succ,map_append,List.map_singleton,yjp];simp
theorem ytu (p x:Int) (a b:List Int):Cg p (pz (padd p a b) x) (pz a x+pz b x):=by
 have key:∀n:Nat,Cg p (pz ((List.range n).map fun k=>(a.getD k 0+b.getD k 0) % p) x) (pz (a.take n) x+pz (b.take n) x):=by
   intro n
   induction n with
   | zero=>simp [pz];exact Cg.rfl
   | succ n ih=>
     rw [yo2,yfq,yfq];refine (ih.add (Cg.md.mul Cg.rfl)).trans (Cg.of ?_);grind
 have h:=key (max a.length b.length);rw [take_of_length_le (by lia),take_of_length_le (by lia)] at h;exact h
theorem yov (p x f:Int):∀l:List Int,Cg p (pz (l.map fun a=>a*f % p) x) (pz l x*f):=by
 intro zd
 induction zd with
 | nil=>
  exact by simp [pz];exact Cg.rfl
 | cons a l zih=>
   rw [map_cons,yan,yan];refine (((zih).mul Cg.rfl).add Cg.md).trans (Cg.of ?_);grind
theorem ys6 (p x:Int) (a b out:List Int) (i:Nat) (h:i+b.length<=out.length):Cg p (pz (prow p a b out i) x) (pz out x+a.getD i 0*x ^ i*pz b x):=by
 haveI key:∀n:Nat,n<=b.length->Cg p (pz ((List.range n).foldl (yer p a b i) out) x) (pz out x+a.getD i 0*x ^ i*pz (b.take n) x):=by
   intro n
   induction n with
   | zero=>intro _;simp [pz];exact Cg.rfl
   | succ n ih=>
     intro hn;haveI hl:((List.range n).foldl (yer p a b i) out).length=out.length:=yey (fun _ _=>yh5) _ _;haveI ih:=ih (by exact qf47 hn);rw [yah,yfq];generalize (List.range n).foldl (yer p a b i) out=o at ih hl ⊢;unfold yer;rw [ynf x o (i+n) _ (by exact yvo h hn hl)];refine (ih.add ((Cg.md.sub Cg.rfl).mul Cg.rfl)).trans (Cg.of ?_);rw [Int.pow_add];grind
 haveI h2:=key b.length (Nat.le_refl _);rw [take_length] at h2;exact h2
theorem yop (x:Int):∀n:Nat,pz (List.replicate n 0) x=0:=by
 intro zd
 induction zd with
 | zero=>
  exact rfl
 | succ n zih=>
  exact by rw [List.replicate_succ,yan,zih];simp
theorem ytl (p x:Int) (a b:List Int):Cg p (pz (pmul p a b) x) (pz a x*pz b x):=by
 unfold pmul;split
 . rename_i h;rcases h with h | h
   . rw [eq_nil_of_length_eq_zero h];simp [pz];exact Cg.rfl
   . rw [eq_nil_of_length_eq_zero h];simp [pz];exact Cg.rfl
 . rename_i h;haveI key:∀n:Nat,n<=a.length->Cg p (pz ((List.range n).foldl (prow p a b) (List.replicate (a.length+b.length - 1) 0)) x) (pz (a.take n) x*pz b x):=by
     intro n
     induction n with
     | zero=>intro _;simp [yop,yuo];exact Cg.rfl
     | succ n ih=>
       intro hn;haveI hl:((List.range n).foldl (prow p a b) (List.replicate (a.length+b.length - 1) 0)).length=a.length+b.length - 1:=by rw [yey (fun _ _=>yjg)];simp
       haveI ih:=ih (by exact qf47 hn);rw [yah,yfq];generalize (List.range n).foldl (prow p a b) (List.replicate (a.length+b.length - 1) 0)=o at ih hl ⊢;refine ((ys6 p x a b o n (by exact yvl h hn hl)).trans (ih.add Cg.rfl)).trans (Cg.of ?_);grind
   haveI h2:=key a.length (Nat.le_refl _);rw [take_length] at h2;exact h2
theorem yhr (x:Int):∀(n:Nat) (l:List Int),l.length=n->pz (trim l) x=pz l x:=by
 intro zd
 induction zd with
 | zero=>
  exact fun l h=>by rw [eq_nil_of_length_eq_zero h];rfl
 | succ n zih=>
  exact fun l h=>by
   rcases List.eq_nil_or_concat l with rfl | ⟨zs,a,rfl⟩
   . rfl
   . rw [List.concat_eq_append] at *;by_cases e:a=0
     . subst e;rw [ycv,yjp,zih zs (by simpa using h)];simp
     . rw [ybq e]
theorem yjl:∀(n:Nat) (l:List Int),l.length=n->(trim l).length<=l.length:=by
 intro zd
 induction zd with
 | zero=>
  exact fun l h=>by rw [eq_nil_of_length_eq_zero h];simp [trim]
 | succ n zih=>
  exact fun l h=>by
   rcases List.eq_nil_or_concat l with rfl | ⟨zs,a,rfl⟩
   . simp [trim]
   . rw [List.concat_eq_append] at *;by_cases e:a=0
     . subst e;rw [ycv];have:=zih zs (by simpa using h);simp;exact Nat.le_succ_of_le ‹_›
     . rw [ybq e];exact Nat.le_refl _
structure Fer (p:Int):Prop where
 two:2<=p
 inv:∀a:Int,a % p≠0->Cg p (a*a ^ (p - 2).toNat) 1
theorem Fer.mul {p a b:Int} (F:Fer p) (ha:a % p≠0) (hb:b % p≠0):a*b % p≠0:=by
 intro h;haveI h1:Cg p (a*b) 0:=Cg.zero.mpr h;haveI h2:=(h1.mul (Cg.rfl (a:=b ^ (p - 2).toNat)));haveI h3:Cg p (a*b*b ^ (p - 2).toNat) a:=by
   rw [Int.mul_assoc];haveI:=(Cg.rfl (p:=p) (a:=a)).mul (F.inv b hb);rwa [Int.mul_one] at this
 rw [Int.zero_mul] at h2;exact ha (Cg.zero.mp (h3.symm.trans h2))
theorem Fer.of {p:Int} (h2:2<=p) (h:∀a:Nat,a<p.toNat->a≠0->((a:Int)*(a:Int) ^ (p - 2).toNat) % p=1):Fer p:=by
 refine ⟨h2,fun a ha=>?_⟩;have hm:=md (a:=a) (p:=p) (by exact yc9 h2);have:=h (a % p).toNat (by lia) (by lia);have e:(((a % p).toNat:Nat):Int)=a % p:=by lia
 rw [e] at this;have h3:Cg p (a % p*(a % p) ^ (p - 2).toNat) 1:=by
   unfold Cg;rw [this,Int.emod_eq_of_lt (by exact Int.natCast_nonneg _) (by exact ymx h2)]
 exact ((Cg.md.mul (Cg.md.pow _)).symm).trans h3
noncomputable def tpr (pts:List (Int×Int)) (i:Nat) (x:Int) (n:Nat):Int:=(List.range n).foldl (fun l j=>if j=i then l else l*(x - px pts j)) 1
theorem ysz (p x:Int) (pts:List (Int×Int)) (i:Nat):∀n:Nat,Cg p (pz (trow p pts i n) x) (tpr pts i x n):=by
 intro zd
 induction zd with
 | zero=>
  exact by simp [trow,tpr,pz];exact Cg.rfl
 | succ n zih=>
   have ih:=zih;unfold trow tpr at ih ⊢;rw [yah,yah];generalize (List.range n).foldl (yd2 p pts i) [1]=r at ih ⊢;unfold yd2;split
   . exact ih
   . refine (ytl p x _ _).trans (ih.mul ?_);have:pz [-px pts n % p,1] x=x+-px pts n % p:=by simp [pz]
     rw [this,Int.sub_eq_add_neg];exact Cg.rfl.add Cg.md
theorem yo0 (p:Int) (pts:List (Int×Int)) (i:Nat):∀n:Nat,Cg p (tlow p pts i n) (tpr pts i (px pts i) n):=by
 intro zd
 induction zd with
 | zero=>
  exact by simp [tlow,tpr];exact Cg.rfl
 | succ n zih=>
   have ih:=zih;unfold tlow tpr at ih ⊢;rw [yah,yah];unfold yi0 at ih ⊢;split
   . exact ih
   . exact Cg.md.trans (ih.mul Cg.rfl)
theorem ypk (pts:List (Int×Int)) (i m:Nat) (hm:m≠i):∀n:Nat,m<n->tpr pts i (px pts m) n=0:=by
 intro zd
 induction zd with
 | zero=>
  exact fun h=>by exact absurd ‹_› (Nat.not_lt_zero _)
 | succ n zih=>
  exact fun h=>by
   unfold tpr;rw [yah];by_cases e:m=n
   . subst e;rw [if_neg hm];simp
   . have ih:=zih (by exact yu7 h e);unfold tpr at ih;rw [ih];split <;> simp
noncomputable def tsm (p:Int) (pts:List (Int×Int)) (x:Int) (n:Nat):Int:=(List.range n).foldl (fun o i=>o+tpr pts i x pts.length*tfac p pts i) 0
theorem yrv (p x:Int) (pts:List (Int×Int)):∀n:Nat,Cg p (pz (tsum p pts n) x) (tsm p pts x n):=by
 intro zd
 induction zd with
 | zero=>
  exact by simp [tsum,tsm,pz];exact Cg.rfl
 | succ n zih=>
   have ih:=zih;unfold tsum tsm at ih ⊢;rw [yah,yah];unfold ymt at ih ⊢;refine (ytu p x _ _).trans (ih.add ?_);exact (yov p x _ _).trans ((ysz p x pts n _).mul Cg.rfl)
theorem yt5 {p:Int} {pts:List (Int×Int)} {m:Nat} (hm:m<pts.length):∀n:Nat,n<=pts.length->tsm p pts (px pts m) n=if m<n then tpr pts m (px pts m) pts.length*tfac p pts m else 0:=by
 intro zd
 induction zd with
 | zero=>
  exact fun zz=>by simp [tsm]
 | succ n zih=>
  exact fun h=>by
   have ih:=zih (by exact qf47 h);unfold tsm at ih ⊢;rw [yah,ih];by_cases e:m=n
   . subst e;simp
   . rw [ypk pts n m e pts.length hm];by_cases q:m<n
     . rw [if_pos q,if_pos (by exact Nat.lt_succ_of_lt ‹_›)];simp
     . rw [if_neg q,if_neg (by lia)];simp
theorem ysc {p:Int} {pts:List (Int×Int)} (F:Fer p) (hd:∀i j,i<pts.length->j<pts.length->i≠j->(px pts i - px pts j) % p≠0) {i:Nat} (hi:i<pts.length):∀n:Nat,n<=pts.length->tlow p pts i n % p≠0:=by
 intro zd
 induction zd with
 | zero=>
  exact fun zz=>by
   have:=F.two;simp only [tlow,List.range_zero,List.foldl_nil];rw [Int.emod_eq_of_lt (by exact Int.natCast_nonneg _) (by exact ymx this)];decide
 | succ n zih=>
  exact fun h=>by
   have ih:=zih (by exact qf47 h);unfold tlow at ih ⊢;rw [yah];unfold yi0 at ih ⊢;split
   . exact ih
   . rw [Int.emod_emod_of_dvd _ (Int.dvd_refl p)];exact F.mul ih (hd i n hi (by exact yl7 h) (by exact Ne.symm ‹_›))
theorem yrm {p:Int} {pts:List (Int×Int)} (F:Fer p) (hd:∀i j,i<pts.length->j<pts.length->i≠j->(px pts i - px pts j) % p≠0) {m:Nat} (hm:m<pts.length):pval p (thr p pts) (px pts m)=py pts m % p:=by
 haveI hp:=F.two;refine Cg.small ?_ (ybh (by exact yc9 hp) _ _) (md (by exact yc9 hp));refine (ycs p _ _).trans ?_;unfold thr;rw [yhr _ _ _ rfl];refine (yrv p _ pts _).trans ?_;rw [yt5 hm _ (Nat.le_refl _),if_pos hm];unfold tfac;haveI h1:=(yo0 p pts m pts.length).symm;haveI h2:=F.inv _ (ysc F hd hm _ (Nat.le_refl _));refine (h1.mul (Cg.md.trans (Cg.rfl.mul Cg.md))).trans ?_;refine (Cg.of ?_).trans (((Cg.rfl (a:=py pts m)).mul h2).trans ?_)
 . grind
 . rw [Int.mul_one];exact Cg.md.symm
theorem ykp {p:Int} {pts:List (Int×Int)} {i:Nat}:∀n:Nat,(trow p pts i n).length=n+1 - (if i<n then 1 else 0):=by
 intro zd
 induction zd with
 | zero=>
  exact by simp [trow]
 | succ n zih=>
   haveI ih:=zih;haveI hp:=(you (p:=p) (pts:=pts) (i:=i) n).1;unfold trow at ih hp ⊢;rw [yah];generalize (List.range n).foldl (yd2 p pts i) [1]=r at ih hp ⊢;unfold yd2;split
   . rename_i e;subst e;rw [ih];simp
   . rename_i e;rw [yje (by omega) (by exact fun h=>nomatch h),ih];by_cases q:i<n
     . rw [if_pos q,if_pos (by exact Nat.lt_succ_of_lt ‹_›)];simp
     . rw [if_neg q,if_neg (by exact yv8 e q)];simp
theorem ykz {p:Int} {pts:List (Int×Int)}:∀n:Nat,n<=pts.length->(tsum p pts n).length<=pts.length:=by
 intro zd
 induction zd with
 | zero=>
  exact fun zz=>by simp [tsum]
 | succ n zih=>
  exact fun h=>by
   haveI ih:=zih (by exact qf47 h);haveI h2:=ykp (p:=p) (pts:=pts) (i:=n) pts.length;rw [if_pos (by exact yl7 h)] at h2;unfold tsum at ih ⊢;rw [yah];unfold ymt at ih ⊢;rw [yo6,length_map];exact ywc ih h2
theorem ygx (p:Int) (pts:List (Int×Int)):(thr p pts).length<=pts.length:=
 Nat.le_trans (yjl _ _ rfl) (ykz _ (Nat.le_refl _))
theorem yur:Fer 101:=Fer.of (by decide) (by decide +kernel)
theorem ynu:isP 101:=by
 refine ⟨by decide,fun k h1 h2=>?_⟩;have h3:k<=10:=by
   refine Int.not_lt.mp fun q=>?_;have:11*11<=k*k:=Int.mul_le_mul (by exact yq1 q) (by exact yq1 q) (by exact Int.natCast_nonneg _) (by lia);omega
 have:k=2\/k=3\/k=4\/k=5\/k=6\/k=7\/k=8\/k=9\/k=10:=by lia
 rcases this with rfl | rfl | rfl | rfl | rfl | rfl | rfl | rfl | rfl <;> decide
abbrev cf (l:List Int) (k:Nat):Int:=l.getD k 0
theorem yuj {l:List Int} {k:Nat} (h:l.length<=k):cf l k=0:=by
 unfold cf;rw [getD_eq_getElem?_getD,List.getElem?_eq_none h];rfl
theorem yoa:∀(n:Nat) (l:List Int),l.length=n->trim (trim l)=trim l:=by
 intro zd
 induction zd with
 | zero=>
  exact fun l h=>by rw [eq_nil_of_length_eq_zero h];rfl
 | succ n zih=>
  exact fun l h=>by
   rcases List.eq_nil_or_concat l with rfl | ⟨zs,a,rfl⟩
   . rfl
   . rw [List.concat_eq_append] at *;by_cases e:a=0
     . subst e;rw [ycv];exact zih zs (by simpa using h)
     . rw [ybq e,ybq e]
theorem yo9 {x:Int} {l:List Int} (h:x ∈ trim l):x ∈ l:=by
 unfold trim at h;rw [List.mem_reverse] at h;exact List.mem_reverse.mp ((List.dropWhile_sublist _).mem h)
theorem Bd.trim {p:Int} {l:List Int} (h:Bd p l):Bd p (trim l):=fun x hx=>h x (yo9 hx)
theorem ysn {p:Int} {a b:List Int} (hp:0<p):Bd p (padd p a b):=fun x hx=>by
 unfold padd at hx;obtain ⟨k,_,rfl⟩:=mem_map.mp hx;exact md hp
noncomputable def cell (ns:List Int) (k:Nat):Int:=ns.getD k 0
noncomputable def ycn:List Str:=["script","k"]
noncomputable def ycy:CSs:=(.cons (.ite (.cmp .Lt (.loc 1) (.call "len" (.cons (.loc 0) .nil))) (.cons (.ret (.sub (.loc 0) (.loc 1)))
 .nil) .nil)
 (.cons (.ret (.int 0))
 .nil))
theorem ykq {G:Gx} {prog:Program} {w:World} {f sa:Addr} {ns:List Int} {k:Int} {H:MH} {xp:Addr->List MV->MH->Prop} (D:GDef G f ["script","k"] ycn ycy [])
   (bs:Bs G) (S:ScrG G sa ns) (hk:0<=k):CL G prog w 1 f [.glob sa,.int k] H (fun v H'=>v=.int (cell ns k.toNat)/\H'=H) xp:=by
 refine D.cl rfl ?_;intro c e1 e2 ok hfm hint hnm hX;haveI Sc:=S.scr ok;show TB c [some (.glob sa),some (.int k)] _ _ _;unfold ycy;with_reducible (refine TB.cons ?_;refine TS.ite ?_;refine TT.cmp ?_;refine TE.loc ‹_› (by with_unfolding_all rfl) ?_;refine TE.len ‹_› ‹_› ?_;refine TE.loc ‹_› (by with_unfolding_all rfl) ?_;refine Scr.len ‹_› ?_)
 refine ⟨_,rfl,fun h=>?_,fun h=>?_⟩
 . haveI h:k<ns.length:=by exact of_decide_eq_true h
   with_reducible (refine TB.cons ?_;refine TS.ret ?_;refine TE.sq ?_;refine TE.loc ‹_› (by with_unfolding_all rfl) ?_;refine TE.loc ‹_› (by with_unfolding_all rfl) ?_)
   refine ⟨_,Sc.at hk h,?_⟩;exact ⟨rfl,rfl⟩
 . haveI h:¬k<ns.length:=by simpa using h
   with_reducible (refine TB.nil ?_;refine TB.cons ?_;refine TS.ret ?_;refine TE.int ?_)
   refine ⟨?_,rfl⟩;show MV.int 0=MV.int (cell ns k.toNat);congr 1;exact (yuj (by lia)).symm
structure LawK (G:Gx) (sa:Addr) (ns:List Int):Prop where
 bs:Bs G
 scr:ScrG G sa ns
 cell:∃f,GFn G "_law_cell" f/\GDef G f ["script","k"] ycn ycy []
inductive CellI:MV->Int->Prop where
 | mk {k:Int} (h:0<=k):CellI (.int k) k
theorem TE.cell {c:Cx} {m:ML} {H:MH} {G:Gx} {d:Nat} {sa:Addr} {ns:List Int} (ok:Ok G c d) (hd:1<=d) (L:LawK G sa ns) {i:Nat} {e:CE} {post:MV->MH->Prop} (hm:m[i]?=some (some (.glob sa)))
   (h:TE c m e H (fun v H1=>∃k,CellI v k/\post (.int (cell ns k.toNat)) H1)):TE c m (.call "_law_cell" (.cons (.loc i) (.cons e .nil))) H post:=by
 obtain ⟨f,g,D⟩:=L.cell;refine TE.call ok g (TEs.cons (TE.loc ok hm (TEs.cons (h.mono ?_))));rintro _ H1 ⟨k,⟨hk⟩,hp⟩;refine TEs.nil ?_;refine (ykq D L.bs L.scr hk).use hd ?_;rintro _ _ ⟨rfl,rfl⟩;exact hp
noncomputable def ybv:List Str:=["self","seed"]
noncomputable def ybx:CSs:=(.cons (.setAttr (.loc 0) "state" (.bin .Mod (.call "need_number" (.cons (.loc 1) (.cons (.int 0) (.cons (.bin .LShift (.int 1) (.int 62)) (.cons (.str "seed") .nil))))) (.bin .LShift (.int 1) (.int 31))))
 (.cons (.setAttr (.loc 0) "drawn" (.int 0))
 .nil))
noncomputable def ycp:List Str:=["self","below"]
noncomputable def ydk:CSs:=(.cons (.expr (.call "need_number" (.cons (.loc 1) (.cons (.int 1) (.cons (.bin .LShift (.int 1) (.int 20)) (.cons (.str "bound") .nil))))))
 (.cons (.setAttr (.loc 0) "state" (.bin .Mod (.bin .Add (.bin .Mult (.attr (.loc 0) "state") (.int 1103515245)) (.int 12345)) (.bin .LShift (.int 1) (.int 31))))
 (.cons (.setAttr (.loc 0) "drawn" (.bin .Add (.attr (.loc 0) "drawn") (.int 1)))
 (.cons (.ret (.bin .Mod (.bin .RShift (.attr (.loc 0) "state") (.int 9)) (.loc 1)))
 .nil))))
noncomputable def yg0:List Str:=["self","count","below"]
noncomputable def yjx:CSs:=(.cons (.ret (.comp (.meth (.loc 0) "draw" (.cons (.loc 2) .nil)) ["k"] (.call "range" (.cons (.loc 1) .nil)) .nil))
 .nil)
theorem e31:(1:Int)*2 ^ (31:Int).toNat=2147483648:=rfl
theorem e62:(1:Int)*2 ^ (62:Int).toNat=4611686018427387904:=rfl
structure SrcK (G:Gx) (C:Addr):Prop where
 bs:Bs G
 nn:∃f,GFn G "need_number" f/\GDef G f ["value","least","most","what"] yal yao []
 cls:∃f,GCls G "Source" C f/\GDef G f ["self","seed"] ybv ybx []
 a1:GAtt G C "state"
 a2:GAtt G C "drawn"
 s1:GSto G C "state"
 s2:GSto G C "drawn"
 dr:∃f,GMth G C "draw" f/\GDef G f ["self","below"] ycp ydk []
noncomputable abbrev srcF (s n:Int):List (Str×MV):=[("state",.int s),("drawn",.int n)]
noncomputable abbrev ymu (s:Int):List (Str×MV):=[("state",.int s)]
theorem yr4 {H:MH} {i kk:Nat} {C:Addr} {fs gs:List (Str×MV)} (h:Ins H i C kk fs):Ins (H.set kk (.ns gs)) i C kk gs:=by
 have hne:kk≠i:=by
   rintro rfl;have:=h.1.symm.trans h.2;cases this
 refine ⟨?_,?_⟩
 . rw [getElem?_set_ne hne];exact h.1
 . rw [List.getElem?_set_self'];rw [h.2];rfl
theorem ykr {G:Gx} {prog:Program} {w:World} {f C:Addr} {i kk:Nat} {v:Int} {H:MH} {xp:Addr->List MV->MH->Prop} (K:SrcK G C) (D:GDef G f ["self","seed"] ybv ybx [])
   (hI:Ins H i C kk []) (h0:0<=v) (h1:v<=4611686018427387904) :
   CL G prog w 2 f [.ref i,.int v] H (fun r H'=>r=.none/\H'=H.set kk (.ns (srcF (v % 2147483648) 0))) xp:=by
 haveI bs:=K.bs;obtain ⟨fN,Z1⟩:=K.nn;haveI gN:=(zl Z1);haveI dN:=(zr Z1);clear Z1;haveI s1:=K.s1;haveI s2:=K.s2;refine D.cl rfl ?_;intro c e1 e2 ok hfm hint hnm hX;subst e1 e2;show TB c [some (.ref i),some (.int v)] _ _ _;unfold ybx;with_reducible (refine TB.cons ?_;refine TS.setAttr ‹_› ?_;refine TE.op ‹_› ?_;refine TE.call ‹_› ‹_› ?_;refine TEs.cons ?_;refine TE.loc ‹_› (by with_unfolding_all rfl) ?_;refine TEs.cons ?_;refine TE.int ?_;refine TEs.cons ?_;refine TE.op ‹_› ?_;refine TE.int ?_;refine TE.int ?_;refine ⟨_,BinI.shl (by decide) (by decide) (by decide),?_⟩;refine TEs.cons ?_;refine TE.str ?_;refine TEs.nil ?_)
 rw [e62];refine (ycf dN bs h0 h1).use (Nat.le_refl _) ?_;rintro _ H1 ⟨rfl,rfl⟩;with_reducible (refine TE.op ‹_› ?_;refine TE.int ?_;refine TE.int ?_;refine ⟨_,BinI.shl (by decide) (by decide) (by decide),?_⟩;refine ⟨_,BinI.modP (by decide),?_⟩;refine TE.loc ‹_› (by with_unfolding_all rfl) ?_;refine ⟨_,_,_,_,rfl,by assumption,by with_unfolding_all exact zlb rfl,by assumption,?_⟩;refine TB.cons ?_;refine TS.setAttr ‹_› ?_;refine TE.int ?_;refine TE.loc ‹_› (by with_unfolding_all rfl) ?_)
 rw [e31];skip;haveI i1:Ins (H1.set kk (.ns (ymu (v % 2147483648)))) i C kk (ymu (v % 2147483648)):=yr4 hI;haveI p1:putF "state" (.int (v % 2147483648)) []=ymu (v % 2147483648):=rfl;rw [p1];with_reducible (refine ⟨_,_,_,_,rfl,by assumption,by with_unfolding_all exact zlb rfl,by assumption,?_⟩;refine TB.nil ?_)
 refine ⟨rfl,?_⟩;rw [List.set_set];rfl
theorem TE.source {c:Cx} {m:ML} {H:MH} {G:Gx} {d:Nat} {C:Addr} (ok:Ok G c d) (hd:3<=d) (K:SrcK G C) {e:CE} {post:MV->MH->Prop}
   (h:TE c m e H (fun v H1=>∃k,v=.int k/\0<=k/\k<=4611686018427387904/\post (.ref (H1.length+1)) (H1++[.ns (srcF (k % 2147483648) 0)]++[.inst C H1.length]))):TE c m (.call "Source" (.cons e .nil)) H post:=by
 obtain ⟨fI,Z1⟩:=K.cls;haveI gI:=(zl Z1);haveI dI:=(zr Z1);clear Z1;refine TE.new (d:=2) (ok.le hd) gI (TEs.cons (h.mono ?_));rintro _ H1 ⟨k,rfl,h0,h1,hpost⟩;refine TEs.nil ?_;refine (ykr (kk:=H1.length) K dI ⟨?_,?_⟩ h0 h1).use (Nat.le_refl _) ?_
 . simp
 . simp
 . rintro _ _ ⟨rfl,rfl⟩;refine ⟨rfl,?_⟩;haveI:(H1++[MO.ns []]++[MO.inst C H1.length]).set H1.length (.ns (srcF (k % 2147483648) 0))=H1++[.ns (srcF (k % 2147483648) 0)]++[.inst C H1.length]:=by simp
   rw [this];exact hpost
noncomputable def yb3:List Str:=["self","a"]
noncomputable def yb8:CSs:=(.cons (.ret (.call "need_number" (.cons (.loc 1) (.cons (.int 0) (.cons (.bin .Sub (.attr (.loc 0) "prime") (.int 1)) (.cons (.str "number of the field") .nil))))))
 .nil)
noncomputable def yf0:List Str:=["field","needed","count"]
noncomputable def yit:CSs:=(.cons (.expr (.call "need_number" (.cons (.loc 2) (.cons (.int 1) (.cons (.call "min" (.cons (.glob "MOST") (.cons (.bin .Sub (.attr (.loc 0) "prime") (.int 1)) .nil))) (.cons (.str "count of shares") .nil))))))
 (.cons (.expr (.call "need_number" (.cons (.loc 1) (.cons (.int 1) (.cons (.loc 2) (.cons (.str "count of shares that suffice") .nil))))))
 .nil))
noncomputable def yn9:List Str:=["field","secret","needed","count","source","row"]
noncomputable def yuk:CSs:=(.cons (.expr (.call "need_counts" (.cons (.loc 0) (.cons (.loc 2) (.cons (.loc 3) .nil)))))
 (.cons (.expr (.meth (.loc 0) "need" (.cons (.loc 1) .nil)))
 (.cons (.assign 5 (.bin .Add (.list (.cons (.loc 1) .nil)) (.meth (.loc 4) "row" (.cons (.bin .Sub (.loc 2) (.int 1)) (.cons (.attr (.loc 0) "prime") .nil)))))
 (.cons (.ret (.tup (.cons (.loc 5) (.cons (.call "shares_of" (.cons (.loc 0) (.cons (.loc 5) (.cons (.loc 3) .nil)))) .nil))))
 .nil))))
noncomputable def yh0:List Str:=["field","row","count"]
noncomputable def yk6:CSs:=(.cons (.ret (.comp (.tup (.cons (.loc 3) (.cons (.call "value" (.cons (.loc 0) (.cons (.loc 1) (.cons (.loc 3) .nil)))) .nil))) ["x"] (.call "range" (.cons (.int 1) (.cons (.bin .Add (.loc 2) (.int 1)) .nil))) .nil))
 .nil)
section
variable {G:Gx} {C CS CE:Addr}
end
noncomputable def yf8:List Str:=["field","shares","seen","x","y"]
noncomputable def yin:CSs:=(.cons (.assign 2 (.list .nil))
 (.cons (.for [3,4] (.loc 1) (.cons (.expr (.meth (.loc 0) "need" (.cons (.loc 3) .nil)))
 (.cons (.expr (.meth (.loc 0) "need" (.cons (.loc 4) .nil)))
 (.cons (.ite (.or (.cons (.cmp .Eq (.loc 3) (.int 0)) (.cons (.cmp .In (.loc 3) (.loc 2)) .nil))) (.cons (.raise "ShareError" (.cons (.str "a place twice, or nought") .nil))
 .nil) .nil)
 (.cons (.expr (.meth (.loc 2) "append" (.cons (.loc 3) .nil)))
 .nil)))))
 (.cons (.ret (.loc 1))
 .nil)))
noncomputable def yj1:List Str:=["field","shares","needed"]
noncomputable def yoh:CSs:=(.cons (.ret (.call "value_at" (.cons (.loc 0) (.cons (.loc 1) (.cons (.loc 2) (.cons (.int 0) .nil))))))
 .nil)
noncomputable def yim:List Str:=["field","shares","needed","x","row","place","y"]
noncomputable def yly:CSs:=(.cons (.expr (.call "need_shares" (.cons (.loc 0) (.cons (.loc 1) .nil))))
 (.cons (.expr (.call "need_number" (.cons (.loc 2) (.cons (.int 1) (.cons (.glob "MOST") (.cons (.str "count of shares that suffice") .nil))))))
 (.cons (.ite (.cmp .Lt (.call "len" (.cons (.loc 1) .nil)) (.loc 2)) (.cons (.raise "ShareError" (.cons (.str "too few shares") .nil))
 .nil) .nil)
 (.cons (.assign 4 (.call "through" (.cons (.loc 0) (.cons (.slice (.loc 1) CO.none (.some (.loc 2))) .nil))))
 (.cons (.for [5,6] (.slice (.loc 1) (.some (.loc 2)) CO.none) (.cons (.ite (.cmp .NotEq (.call "value" (.cons (.loc 0) (.cons (.loc 4) (.cons (.loc 5) .nil)))) (.loc 6)) (.cons (.raise "ShareError" (.cons (.str "shares that do not lie together") .nil))
 .nil) .nil)
 .nil))
 (.cons (.ret (.call "value" (.cons (.loc 0) (.cons (.loc 4) (.cons (.loc 3) .nil)))))
 .nil))))))
section
variable {G:Gx} {C CE:Addr}
end
noncomputable def yjn:List Str:=["field","places","at","out","i","upper","lower","j"]
noncomputable def ym9:CSs:=(.cons (.ite (.cmp .NotEq (.call "len" (.cons (.call "set" (.cons (.loc 1) .nil)) .nil)) (.call "len" (.cons (.loc 1) .nil))) (.cons (.raise "ShareError" (.cons (.str "a place twice") .nil))
 .nil) .nil)
 (.cons (.assign 3 (.list .nil))
 (.cons (.for [4] (.call "range" (.cons (.call "len" (.cons (.loc 1) .nil)) .nil)) (.cons (.assign 5 (.int 1))
 (.cons (.assign 6 (.int 1))
 (.cons (.for [7] (.call "range" (.cons (.call "len" (.cons (.loc 1) .nil)) .nil)) (.cons (.ite (.cmp .NotEq (.loc 7) (.loc 4)) (.cons (.assign 5 (.bin .Mod (.bin .Mult (.loc 5) (.bin .Sub (.loc 2) (.sub (.loc 1) (.loc 7)))) (.attr (.loc 0) "prime")))
 (.cons (.assign 6 (.bin .Mod (.bin .Mult (.loc 6) (.bin .Sub (.sub (.loc 1) (.loc 4)) (.sub (.loc 1) (.loc 7)))) (.attr (.loc 0) "prime")))
 .nil)) .nil)
 .nil))
 (.cons (.expr (.meth (.loc 3) "append" (.cons (.meth (.loc 0) "over" (.cons (.loc 5) (.cons (.loc 6) .nil))) .nil)))
 .nil)))))
 (.cons (.ret (.loc 3))
 .nil))))
noncomputable def ybf:List Str:=["text","sign"]
noncomputable def ybn:CSs:=(.cons (.ite (.or (.cons (.cmp .IsNot (.call "type" (.cons (.loc 0) .nil)) (.glob "str")) (.cons (.cmp .Eq (.loc 0) (.str "")) (.cons (.cmp .Gt (.call "len" (.cons (.loc 0) .nil)) (.int 12)) (.cons (.cmp .NotIn (.sub (.loc 0) (.int 0)) (.glob "LETTERS")) .nil))))) (.cons (.raise "ShareError" (.cons (.bin .Add (.str "no name: ") (.call "shown" (.cons (.loc 0) .nil))) .nil))
 .nil) .nil)
 (.cons (.for [1] (.loc 0) (.cons (.ite (.and (.cons (.cmp .NotIn (.loc 1) (.glob "LETTERS")) (.cons (.cmp .NotIn (.loc 1) (.glob "DIGITS")) .nil))) (.cons (.raise "ShareError" (.cons (.bin .Add (.str "no name: ") (.call "shown" (.cons (.loc 0) .nil))) .nil))
 .nil) .nil)
 .nil))
 (.cons (.ret (.loc 0))
 .nil)))
noncomputable def LETS:Str:="abcdefghijklmnopqrstuvwxyzABCDEFGHIJKLMNOPQRSTUVWXYZ"
noncomputable def DIGS:Str:="0123456789"
noncomputable def okN (x:Str):Bool:=decide (x.length<=12) && x.cps.all (·<128) && (match x.cps[0]? with | some ch=>decide (ch ∈ LETS.cps.toList) | none=>false) && x.cps.toList.all fun ch=>decide (ch ∈ LETS.cps.toList) || decide (ch ∈ DIGS.cps.toList)
structure NameK (G:Gx):Prop where
 bs:Bs G
 le:∃t,nsIn G.K mainGlobals "LETTERS"=some (some (.str LETS t))
 di:∃t,nsIn G.K mainGlobals "DIGITS"=some (some (.str DIGS t))
 nn:∃f,GFn G "need_name" f/\GDef G f ["text"] ybf ybn []
theorem ycw {G:Gx} {prog:Program} {w:World} {f:Addr} {x:Str} {H:MH} {xp:Addr->List MV->MH->Prop} (D:GDef G f ["text"] ybf ybn []) (K:NameK G) (hx:okN x=true) :
   CL G prog w 1 f [.str x] H (fun v H'=>v=.str x/\H'=H) xp:=by
 haveI bs:=K.bs;obtain ⟨t1,gL⟩:=K.le;obtain ⟨t2,gD⟩:=K.di;unfold okN at hx;obtain ⟨h1,h2,h3,h4⟩:=and4 hx;haveI h1:x.length<=12:=of_decide_eq_true h1;cases hc:x.cps[0]? with
 | none=>rw [hc] at h3;exact nb h3
 | some ch=>
   rw [hc] at h3;haveI h3:ch ∈ LETS.cps.toList:=of_decide_eq_true h3;haveI hpos:0<x.cps.size:=(Array.getElem?_eq_some_iff.mp hc).1;haveI hne:x≠"":=by
     rintro rfl;exact absurd hpos (by decide +kernel)
   refine D.cl rfl ?_;intro c e1 e2 ok hfm hint hnm hX;show TB c [some (.str x),none] _ _ _;unfold ybn;refine TB.cons (TS.ite (TT.or (TTs.or (TT.tyAny (N:="str") (T':="str") ok bs.type (.inr ⟨rfl,rfl⟩) bs.str yfc (by decide) ?_))));with_reducible (refine TE.loc ‹_› (by with_unfolding_all rfl) ?_)
   refine ⟨"str",rfl,dR (by first | exact nf1 | exact nf2) ?_⟩;with_reducible (refine TTs.or ?_;refine TT.cmp ?_;refine TE.loc ‹_› (by with_unfolding_all rfl) ?_;refine TE.str ?_)
   refine ⟨false,by show false=decide _;simp [hne],dR (by first | exact nf1 | exact nf2) ?_⟩;with_reducible (refine TTs.or ?_;refine TT.cmp ?_;refine TE.len ‹_› ‹_› ?_;refine TE.loc ‹_› (by with_unfolding_all rfl) ?_)
   refine BC.lenS (by exact Nat.le_trans ‹_› (by decide)) ?_;with_reducible (refine TE.int ?_)
   refine ⟨false,by show false=decide _;simp;exact Int.ofNat_le.mpr ‹_›,dR (by first | exact nf1 | exact nf2) ?_⟩;with_reducible (refine TTs.or ?_;refine TT.cqNI ?_;refine TE.sq ?_;refine TE.loc ‹_› (by with_unfolding_all rfl) ?_;refine TE.int ?_)
   refine ⟨_,Sq.str (by decide) (by exact Nat.le_trans ‹_› (by decide)) hc,?_⟩;refine TE.glob ok gL (v:=.str LETS) ⟨t1,rfl⟩ ?_;refine ⟨_,Cq.ninS,fun h=>(by simp [h3] at h),fun _=>?_⟩;with_reducible (refine TTs.orNil ?_)
   refine (dR (by first | exact nf1 | exact nf2) ?_);refine TB.nil (TB.cons (TS.forS ok hfm ?_));with_reducible (refine TE.loc ‹_› (by with_unfolding_all rfl) ?_)
   refine ⟨x,rfl,h2,fun j m1 H2=>∃o1,m1=[some (.str x),o1]/\H2=H,⟨none,rfl,rfl⟩,?_,?_⟩
   . rintro j m1 H2 ch' xt ⟨o1,rfl,rfl⟩ hj;haveI okx:=ok.wx xt;haveI hfx:(c.wx xt).fm=none:=hfm;haveI hm:ch' ∈ x.cps.toList:=by
       rw [Array.mem_toList_iff];exact Array.mem_of_getElem? hj
     haveI hq:=all_eq_true.mp h4 ch' hm;show TB (c.wx xt) [some (.str x),some (.str ⟨#[ch']⟩)] _ _ _;with_reducible (refine TB.cons ?_;refine TS.ite ?_;refine TT.and ?_;refine TTs.and ?_;refine TT.cqNI ?_;refine TE.loc ‹_› (by with_unfolding_all rfl) ?_)
     refine TE.glob okx gL (v:=.str LETS) ⟨t1,rfl⟩ ?_;refine ⟨_,Cq.ninS,fun h=>?_,fun h=>?_⟩
     . refine (dR (by first | exact nf1 | exact nf2) ?_);with_reducible (refine TB.nil ?_;refine TB.nil ?_)
       exact ⟨_,rfl,rfl⟩
     . with_reducible (refine TTs.and ?_;refine TT.cqNI ?_;refine TE.loc ‹_› (by with_unfolding_all rfl) ?_)
       refine TE.glob okx gD (v:=.str DIGS) ⟨t2,rfl⟩ ?_;haveI hnl:¬ch' ∈ LETS.cps.toList:=by simpa using h
       haveI hdg:ch' ∈ DIGS.cps.toList:=by
         rcases (Bool.or_eq_true _ _).mp hq with q | q
         . exact absurd (of_decide_eq_true q) hnl
         . exact of_decide_eq_true q
       refine ⟨_,Cq.ninS,fun h=>(dR (by first | exact nf1 | exact nf2) ?_),fun h=>(by simp [hdg] at h)⟩;with_reducible (refine TB.nil ?_;refine TB.nil ?_)
       exact ⟨_,rfl,rfl⟩
   . rintro m1 H2 ⟨o1,rfl,rfl⟩;with_reducible (refine TB.cons ?_;refine TS.ret ?_;refine TE.loc ‹_› (by with_unfolding_all rfl) ?_)
     exact ⟨rfl,rfl⟩
section
variable {G:Gx} {prog:Program} {w:World} {f:Addr} {H:MH} {xp:Addr->List MV->MH->Prop}
end
noncomputable def yiv:List Str:=["field","book","place","got","factors"]
noncomputable def ymz:CSs:=(.cons (.assign 3 (.call "sorted" (.cons (.meth (.meth (.loc 1) "got_by" (.cons (.int 1) (.cons (.loc 2) .nil))) "items" .nil) .nil)))
 (.cons (.assign 4 (.call "weights" (.cons (.loc 0) (.cons (.comp (.loc 5) ["sender","value"] (.loc 3) .nil) (.cons (.int 0) .nil)))))
 (.cons (.ret (.meth (.loc 0) "total" (.cons (.comp (.bin .Mult (.sub (.loc 4) (.loc 5)) (.sub (.sub (.loc 3) (.loc 5)) (.int 1))) ["k"] (.call "range" (.cons (.call "len" (.cons (.loc 3) .nil)) .nil)) .nil) .nil)))
 .nil)))
noncomputable def yhw:List Str:=["self","a","b"]
noncomputable def ykv:CSs:=(.cons (.ret (.bin .Mod (.bin .Add (.loc 1) (.loc 2)) (.attr (.loc 0) "prime")))
 .nil)
noncomputable def ygd:List Str:=["self","a","b"]
noncomputable def yiu:CSs:=(.cons (.ret (.bin .Mod (.bin .Mult (.loc 1) (.loc 2)) (.attr (.loc 0) "prime")))
 .nil)
noncomputable def yf1:List Str:=["self","row"]
noncomputable def yij:CSs:=(.cons (.ret (.bin .Mod (.call "sum" (.cons (.loc 1) .nil)) (.attr (.loc 0) "prime")))
 .nil)
noncomputable def yar:List Str:=["self","kind","prime","needed","places","dealers"]
noncomputable def ya9:CSs:=(.cons (.ite (.cmp .NotIn (.loc 1) (.glob "KINDS")) (.cons (.raise "ShareError" (.cons (.bin .Add (.str "no kind of transcript: ") (.call "shown" (.cons (.loc 1) .nil))) .nil))
 .nil) .nil)
 (.cons (.setAttr (.loc 0) "kind" (.loc 1))
 (.cons (.setAttr (.loc 0) "prime" (.loc 2))
 (.cons (.setAttr (.loc 0) "needed" (.loc 3))
 (.cons (.setAttr (.loc 0) "places" (.call "list" (.cons (.loc 4) .nil)))
 (.cons (.setAttr (.loc 0) "dealers" (.ite (.cmp .Is (.loc 5) CE.none) (.call "list" (.cons (.loc 4) .nil)) (.call "list" (.cons (.loc 5) .nil))))
 (.cons (.setAttr (.loc 0) "messages" (.list .nil))
 .nil)))))))
noncomputable def yev:List Str:=["self","turn","sender","receiver","value"]
noncomputable def yfw:CSs:=(.cons (.expr (.meth (.attr (.loc 0) "messages") "append" (.cons (.tup (.cons (.loc 1) (.cons (.loc 2) (.cons (.loc 3) (.cons (.loc 4) .nil))))) .nil)))
 .nil)
noncomputable def ydz:List Str:=["self","turn","sender"]
noncomputable def yen:CSs:=(.cons (.ret (.call "dict" (.cons (.comp (.tup (.cons (.loc 5) (.cons (.loc 6) .nil))) ["one","other","receiver","value"] (.attr (.loc 0) "messages") (.cons (.and (.cons (.cmp .Eq (.tup (.cons (.loc 3) (.cons (.loc 4) .nil))) (.tup (.cons (.loc 1) (.cons (.loc 2) .nil)))) (.cons (.plain (.meth (.loc 0) "_belongs" (.cons (.loc 3) (.cons (.loc 4) (.cons (.loc 5) .nil))))) (.cons (.plain (.meth (.loc 0) "_is_number" (.cons (.loc 6) .nil))) .nil)))) .nil)) .nil)))
 .nil)
noncomputable def yd8:List Str:=["self","turn","receiver"]
noncomputable def ye7:CSs:=(.cons (.ret (.call "dict" (.cons (.comp (.tup (.cons (.loc 4) (.cons (.loc 6) .nil))) ["one","sender","other","value"] (.attr (.loc 0) "messages") (.cons (.and (.cons (.cmp .Eq (.tup (.cons (.loc 3) (.cons (.loc 5) .nil))) (.tup (.cons (.loc 1) (.cons (.loc 2) .nil)))) (.cons (.plain (.meth (.loc 0) "_belongs" (.cons (.loc 3) (.cons (.loc 4) (.cons (.loc 5) .nil))))) (.cons (.plain (.meth (.loc 0) "_is_number" (.cons (.loc 6) .nil))) .nil)))) .nil)) .nil)))
 .nil)
noncomputable def yd6:List Str:=["self","out","seen","turn","sender","receiver","value","words","field","sent","row"]
noncomputable def ye5:CSs:=(.cons (.assign 1 (.list .nil))
 (.cons (.assign 2 (.list .nil))
 (.cons (.for [3,4,5,6] (.attr (.loc 0) "messages") (.cons (.assign 7 (.meth (.str " ") "join" (.cons (.list (.cons (.call "str" (.cons (.loc 3) .nil)) (.cons (.call "str" (.cons (.loc 4) .nil)) (.cons (.call "str" (.cons (.loc 5) .nil)) .nil)))) .nil)))
 (.cons (.ite (.cmp .In (.tup (.cons (.loc 3) (.cons (.loc 4) (.cons (.loc 5) .nil)))) (.loc 2)) (.cons (.expr (.meth (.loc 1) "append" (.cons (.bin .Add (.str "a message twice: ") (.loc 7)) .nil)))
 .nil) .nil)
 (.cons (.expr (.meth (.loc 2) "append" (.cons (.tup (.cons (.loc 3) (.cons (.loc 4) (.cons (.loc 5) .nil)))) .nil)))
 (.cons (.ite (.or (.cons (.not (.plain (.meth (.loc 0) "_belongs" (.cons (.loc 3) (.cons (.loc 4) (.cons (.loc 5) .nil)))))) (.cons (.not (.plain (.meth (.loc 0) "_is_number" (.cons (.loc 6) .nil)))) .nil))) (.cons (.expr (.meth (.loc 1) "append" (.cons (.bin .Add (.str "a message outside the protocol: ") (.loc 7)) .nil)))
 .nil) .nil)
 .nil)))))
 (.cons (.ite (.cmp .Eq (.attr (.loc 0) "kind") (.str "repair")) (.cons (.ret (.bin .Add (.loc 1) (.meth (.loc 0) "_repair_faults" .nil)))
 .nil) .nil)
 (.cons (.assign 8 (.call "Field" (.cons (.attr (.loc 0) "prime") .nil)))
 (.cons (.for [4] (.attr (.loc 0) "dealers") (.cons (.assign 9 (.meth (.loc 0) "sent_by" (.cons (.int 1) (.cons (.loc 4) .nil))))
 (.cons (.ite (.cmp .NotEq (.call "sorted" (.cons (.loc 9) .nil)) (.call "sorted" (.cons (.attr (.loc 0) "places") .nil))) (.cons (.expr (.meth (.loc 1) "append" (.cons (.bin .Add (.call "str" (.cons (.loc 4) .nil)) (.str " did not send to all")) .nil)))
 (.cons CS.cont
 .nil)) .nil)
 (.cons (.assign 10 (.call "sorted" (.cons (.meth (.loc 9) "items" .nil) .nil)))
 (.cons (.ite (.cmp .Gt (.call "len" (.cons (.call "through" (.cons (.loc 8) (.cons (.loc 10) .nil))) .nil)) (.attr (.loc 0) "needed")) (.cons (.expr (.meth (.loc 1) "append" (.cons (.bin .Add (.call "str" (.cons (.loc 4) .nil)) (.str " dealt no polynomial of its degree")) .nil)))
 .nil) (.cons (.ite (.and (.cons (.cmp .Eq (.attr (.loc 0) "kind") (.str "renewal")) (.cons (.cmp .Gt (.call "len" (.cons (.call "through" (.cons (.loc 8) (.cons (.bin .Add (.list (.cons (.tup (.cons (.int 0) (.cons (.int 0) .nil))) .nil)) (.loc 10)) .nil))) .nil)) (.attr (.loc 0) "needed")) .nil))) (.cons (.expr (.meth (.loc 1) "append" (.cons (.bin .Add (.call "str" (.cons (.loc 4) .nil)) (.str " did not deal nought")) .nil)))
 .nil) .nil)
 .nil))
 .nil)))))
 (.cons (.ret (.loc 1))
 .nil)))))))
noncomputable def ybr:List Str:=["self","value"]
noncomputable def yap:CSs:=(.cons (.ret (.tst (.cmp2 (.int 0) .LtE (.loc 1) .Lt (.attr (.loc 0) "prime"))))
 .nil)
noncomputable def ydl:List Str:=["self","turn","sender","receiver"]
noncomputable def yd9:CSs:=(.cons (.ite (.cmp .Eq (.attr (.loc 0) "kind") (.str "repair")) (.cons (.ite (.cmp .Eq (.loc 1) (.int 1)) (.cons (.ret (.tst (.and (.cons (.cmp .In (.loc 2) (.attr (.loc 0) "dealers")) (.cons (.cmp .In (.loc 3) (.attr (.loc 0) "dealers")) .nil)))))
 .nil) .nil)
 (.cons (.ret (.tst (.and (.cons (.cmp .Eq (.loc 1) (.int 2)) (.cons (.cmp .In (.loc 2) (.attr (.loc 0) "dealers")) (.cons (.cmp .Eq (.loc 3) (.sub (.attr (.loc 0) "places") (.neg (.int 1)))) .nil))))))
 .nil)) .nil)
 (.cons (.ret (.tst (.and (.cons (.cmp .Eq (.loc 1) (.int 1)) (.cons (.cmp .In (.loc 2) (.attr (.loc 0) "dealers")) (.cons (.cmp .In (.loc 3) (.attr (.loc 0) "places")) .nil))))))
 .nil))
noncomputable def yhj:List Str:=["self","place"]
noncomputable def yi7:CSs:=(.cons (.setAttr (.loc 0) "place" (.loc 1))
 (.cons (.setAttr (.loc 0) "shares" CE.dict0)
 .nil))
noncomputable def yhh:List Str:=["self","field","needed","count","source"]
noncomputable def ykd:CSs:=(.cons (.expr (.call "need_counts" (.cons (.loc 1) (.cons (.loc 2) (.cons (.loc 3) .nil)))))
 (.cons (.setAttr (.loc 0) "field" (.loc 1))
 (.cons (.setAttr (.loc 0) "needed" (.loc 2))
 (.cons (.setAttr (.loc 0) "source" (.loc 4))
 (.cons (.setAttr (.loc 0) "parties" (.comp (.call "Party" (.cons (.loc 5) .nil)) ["x"] (.call "range" (.cons (.int 1) (.cons (.bin .Add (.loc 3) (.int 1)) .nil))) .nil))
 (.cons (.setAttr (.loc 0) "books" (.list .nil))
 .nil))))))
noncomputable def yck:List Str:=["self"]
noncomputable def ybt:CSs:=(.cons (.ret (.tst (.cmp .GtE (.call "len" (.cons (.attr (.loc 0) "parties") .nil)) (.bin .Sub (.bin .Mult (.int 2) (.attr (.loc 0) "needed")) (.int 1)))))
 .nil)
noncomputable def yci:List Str:=["self","name"]
noncomputable def yba:CSs:=(.cons (.expr (.call "need_name" (.cons (.loc 1) .nil)))
 (.cons (.ite (.cmp .In (.loc 1) (.attr (.sub (.attr (.loc 0) "parties") (.int 0)) "shares")) (.cons (.raise "ShareError" (.cons (.bin .Add (.str "a number of that name: ") (.loc 1)) .nil))
 .nil) .nil)
 .nil))
noncomputable def ycj:List Str:=["self","name"]
noncomputable def ybd:CSs:=(.cons (.ite (.cmp .NotIn (.loc 1) (.attr (.sub (.attr (.loc 0) "parties") (.int 0)) "shares")) (.cons (.raise "ShareError" (.cons (.bin .Add (.str "no number ") (.call "shown" (.cons (.loc 1) .nil))) .nil))
 .nil) .nil)
 .nil)
noncomputable def yhp:List Str:=["self","name","secret","row","shares","k"]
noncomputable def yk1:CSs:=(.cons (.expr (.meth (.loc 0) "_need_fresh" (.cons (.loc 1) .nil)))
 (.cons (.assignT [3,4] (.call "deal" (.cons (.attr (.loc 0) "field") (.cons (.loc 2) (.cons (.attr (.loc 0) "needed") (.cons (.call "len" (.cons (.attr (.loc 0) "parties") .nil)) (.cons (.attr (.loc 0) "source") .nil)))))))
 (.cons (.for [5] (.call "range" (.cons (.call "len" (.cons (.attr (.loc 0) "parties") .nil)) .nil)) (.cons (.setItem (.attr (.sub (.attr (.loc 0) "parties") (.loc 5)) "shares") (.loc 1) (.sub (.sub (.loc 4) (.loc 5)) (.int 1)))
 .nil))
 .nil)))
noncomputable def yhs:List Str:=["self","name","one","two","party"]
noncomputable def yks:CSs:=(.cons (.expr (.meth (.loc 0) "_need_fresh" (.cons (.loc 1) .nil)))
 (.cons (.expr (.meth (.loc 0) "_need_there" (.cons (.loc 2) .nil)))
 (.cons (.expr (.meth (.loc 0) "_need_there" (.cons (.loc 3) .nil)))
 (.cons (.for [4] (.attr (.loc 0) "parties") (.cons (.setItem (.attr (.loc 4) "shares") (.loc 1) (.meth (.attr (.loc 0) "field") "add" (.cons (.sub (.attr (.loc 4) "shares") (.loc 2)) (.cons (.sub (.attr (.loc 4) "shares") (.loc 3)) .nil))))
 .nil))
 .nil))))
noncomputable def ygj:List Str:=["self","name","factor","one","party"]
noncomputable def yiq:CSs:=(.cons (.expr (.meth (.loc 0) "_need_fresh" (.cons (.loc 1) .nil)))
 (.cons (.expr (.meth (.loc 0) "_need_there" (.cons (.loc 3) .nil)))
 (.cons (.expr (.meth (.attr (.loc 0) "field") "need" (.cons (.loc 2) .nil)))
 (.cons (.for [4] (.attr (.loc 0) "parties") (.cons (.setItem (.attr (.loc 4) "shares") (.loc 1) (.meth (.attr (.loc 0) "field") "times" (.cons (.loc 2) (.cons (.sub (.attr (.loc 4) "shares") (.loc 3)) .nil))))
 .nil))
 .nil))))
noncomputable def yge:List Str:=["self","name","known","one","party"]
noncomputable def yir:CSs:=(.cons (.expr (.meth (.loc 0) "_need_fresh" (.cons (.loc 1) .nil)))
 (.cons (.expr (.meth (.loc 0) "_need_there" (.cons (.loc 3) .nil)))
 (.cons (.expr (.meth (.attr (.loc 0) "field") "need" (.cons (.loc 2) .nil)))
 (.cons (.for [4] (.attr (.loc 0) "parties") (.cons (.setItem (.attr (.loc 4) "shares") (.loc 1) (.meth (.attr (.loc 0) "field") "add" (.cons (.loc 2) (.cons (.sub (.attr (.loc 4) "shares") (.loc 3)) .nil))))
 .nil))
 .nil))))
noncomputable def ye6:List Str:=["self","name","one","two","book","party","own","row","sent","place","value"]
noncomputable def ygb:CSs:=(.cons (.expr (.meth (.loc 0) "_need_fresh" (.cons (.loc 1) .nil)))
 (.cons (.expr (.meth (.loc 0) "_need_there" (.cons (.loc 2) .nil)))
 (.cons (.expr (.meth (.loc 0) "_need_there" (.cons (.loc 3) .nil)))
 (.cons (.ite (.not (.plain (.meth (.loc 0) "can_multiply" .nil))) (.cons (.raise "ShareError" (.cons (.str "too few parties for a product") .nil))
 .nil) .nil)
 (.cons (.assign 4 (.call "Transcript" (.cons (.str "product") (.cons (.attr (.attr (.loc 0) "field") "prime") (.cons (.attr (.loc 0) "needed") (.cons (.comp (.attr (.loc 11) "place") ["party"] (.attr (.loc 0) "parties") .nil) .nil))))))
 (.cons (.for [5] (.attr (.loc 0) "parties") (.cons (.assign 6 (.meth (.attr (.loc 0) "field") "times" (.cons (.sub (.attr (.loc 5) "shares") (.loc 2)) (.cons (.sub (.attr (.loc 5) "shares") (.loc 3)) .nil))))
 (.cons (.assignT [7,8] (.call "deal" (.cons (.attr (.loc 0) "field") (.cons (.loc 6) (.cons (.attr (.loc 0) "needed") (.cons (.call "len" (.cons (.attr (.loc 0) "parties") .nil)) (.cons (.attr (.loc 0) "source") .nil)))))))
 (.cons (.for [9,10] (.loc 8) (.cons (.expr (.meth (.loc 4) "note" (.cons (.int 1) (.cons (.attr (.loc 5) "place") (.cons (.loc 9) (.cons (.loc 10) .nil))))))
 .nil))
 .nil))))
 (.cons (.for [5] (.attr (.loc 0) "parties") (.cons (.setItem (.attr (.loc 5) "shares") (.loc 1) (.call "gathered" (.cons (.attr (.loc 0) "field") (.cons (.loc 4) (.cons (.attr (.loc 5) "place") .nil)))))
 .nil))
 (.cons (.expr (.meth (.attr (.loc 0) "books") "append" (.cons (.tup (.cons (.loc 1) (.cons (.loc 4) .nil))) .nil)))
 (.cons (.ret (.loc 4))
 .nil)))))))))
noncomputable def yhi:List Str:=["self","name"]
noncomputable def yjq:CSs:=(.cons (.expr (.meth (.loc 0) "_need_there" (.cons (.loc 1) .nil)))
 (.cons (.ret (.call "rebuild" (.cons (.attr (.loc 0) "field") (.cons (.comp (.tup (.cons (.attr (.loc 2) "place") (.cons (.sub (.attr (.loc 2) "shares") (.loc 1)) .nil))) ["party"] (.attr (.loc 0) "parties") .nil) (.cons (.attr (.loc 0) "needed") .nil)))))
 .nil))
noncomputable def ydy:List Str:=["self"]
noncomputable def ydj:CSs:=(.cons (.ret (.call "sorted" (.cons (.attr (.sub (.attr (.loc 0) "parties") (.int 0)) "shares") .nil)))
 .nil)
noncomputable def ygc:List Str:=["self","name","one","two","book","some","places","out","party","sent","row","own"]
noncomputable def yis:CSs:=(.cons (.for [5] (.tup (.cons (.loc 1) (.cons (.loc 2) (.cons (.loc 3) .nil)))) (.cons (.expr (.meth (.loc 0) "_need_there" (.cons (.loc 5) .nil)))
 .nil))
 (.cons (.assign 6 (.comp (.attr (.loc 12) "place") ["party"] (.attr (.loc 0) "parties") .nil))
 (.cons (.ite (.cmp .NotEq (.tup (.cons (.attr (.loc 4) "kind") (.cons (.attr (.loc 4) "prime") (.cons (.attr (.loc 4) "needed") (.cons (.attr (.loc 4) "places") (.cons (.attr (.loc 4) "dealers") .nil)))))) (.tup (.cons (.str "product") (.cons (.attr (.attr (.loc 0) "field") "prime") (.cons (.attr (.loc 0) "needed") (.cons (.loc 6) (.cons (.loc 6) .nil))))))) (.cons (.ret (.list (.cons (.str "the transcript of another table") .nil)))
 .nil) .nil)
 (.cons (.assign 7 (.meth (.loc 4) "faults" .nil))
 (.cons (.for [8] (.attr (.loc 0) "parties") (.cons (.assign 9 (.call "sorted" (.cons (.meth (.meth (.loc 4) "sent_by" (.cons (.int 1) (.cons (.attr (.loc 8) "place") .nil))) "items" .nil) .nil)))
 (.cons (.assign 10 (.call "through" (.cons (.attr (.loc 0) "field") (.cons (.slice (.loc 9) CO.none (.some (.attr (.loc 0) "needed"))) .nil))))
 (.cons (.assign 11 (.meth (.attr (.loc 0) "field") "times" (.cons (.sub (.attr (.loc 8) "shares") (.loc 2)) (.cons (.sub (.attr (.loc 8) "shares") (.loc 3)) .nil))))
 (.cons (.ite (.cmp .NotEq (.ite (.cmp .Gt (.call "len" (.cons (.loc 10) .nil)) (.int 0)) (.sub (.loc 10) (.int 0)) (.int 0)) (.loc 11)) (.cons (.expr (.meth (.loc 7) "append" (.cons (.bin .Add (.call "str" (.cons (.attr (.loc 8) "place") .nil)) (.str " shared another product")) .nil)))
 .nil) .nil)
 (.cons (.ite (.cmp .NotEq (.sub (.attr (.loc 8) "shares") (.loc 1)) (.call "gathered" (.cons (.attr (.loc 0) "field") (.cons (.loc 4) (.cons (.attr (.loc 8) "place") .nil))))) (.cons (.expr (.meth (.loc 7) "append" (.cons (.bin .Add (.call "str" (.cons (.attr (.loc 8) "place") .nil)) (.str " kept another share")) .nil)))
 .nil) .nil)
 .nil))))))
 (.cons (.ret (.loc 7))
 .nil))))))
noncomputable def yvy:CT->Bool
 | .cmp .NotEq (.ite _ _ _) (.loc _)=>true
 | .cmp .NotEq (.sub _ _) (.call "gathered" _)=>true
 | .cmp .Gt (.call "len" (.cons (.call _ _) .nil)) (.attr _ _)=>true
 | _=>false
noncomputable def lz21:CE->Bool
 | .call g _=>eqK g "through"
 | _=>false
noncomputable def yaj:Nat:=142
noncomputable def ygr:Nat:=118
noncomputable def ydf:Nat:=328
noncomputable def ycz:Nat:=484
noncomputable def yfv:Nat:=469
noncomputable def ygp:Nat:=476
noncomputable def yaa:Nat:=418
noncomputable def ybu:Nat:=344
noncomputable def ybp:Nat:=358
noncomputable def ybo:Nat:=365
noncomputable def yco:Nat:=379
noncomputable def ya3:Nat:=351
noncomputable def ya5:Nat:=415
noncomputable def ybm:Nat:=398
noncomputable def yb7:Nat:=410
noncomputable def ycd:Nat:=403
noncomputable def ycl:Nat:=372
noncomputable def yb4:Nat:=386
noncomputable def yb6:Nat:=393
noncomputable def yc7:Nat:=295
noncomputable def ybb:Nat:=278
noncomputable def yke:Nat:=495
noncomputable def yi9:Nat:=69
noncomputable def yb0:Nat:=55
noncomputable def yb5:Nat:=48
noncomputable def ykw:Nat:=172
noncomputable def yd5:Nat:=160
noncomputable def yfh:Nat:=153
noncomputable def yk3:Nat:=179
noncomputable def tb21:Tb where
 fn:=[("need_number",48),("need_name",55),("is_prime",69),("value",153),("trimmed",160),("plus",165),("product",172),("weights",179),("through",184),("need_counts",191),("deal",198),("shares_of",203),("need_shares",210),("rebuild",217),("value_at",224),("gathered",427),("_law_cell",495)]
 df:=[(240,⟨["self","kind","prime","needed","places","dealers"],yar,ya9,[MV.none]⟩),(48,⟨["value","least","most","what"],yal,yao,[]⟩),(55,⟨["text"],ybf,ybn,[]⟩),(69,⟨["n"],yby,ycg,[]⟩),(153,⟨["field","row","x"],yet,yfn,[]⟩),(160,⟨["row"],ydx,yd0,[]⟩),(165,⟨["field","one","two"],ynh,yt4,[]⟩),(172,⟨["field","one","two"],yj0,yn3,[]⟩),(179,⟨["field","places","at"],yjn,ym9,[]⟩),(184,⟨["field","points"],yjz,yni,[]⟩),(191,⟨["field","needed","count"],yf0,yit,[]⟩),(198,⟨["field","secret","needed","count","source"],yn9,yuk,[]⟩),(203,⟨["field","row","count"],yh0,yk6,[]⟩),(210,⟨["field","shares"],yf8,yin,[]⟩),(217,⟨["field","shares","needed"],yj1,yoh,[]⟩),(224,⟨["field","shares","needed","x"],yim,yly,[]⟩),(427,⟨["field","book","place"],yiv,ymz,[]⟩),(495,⟨["script","k"],ycn,ycy,[]⟩),(83,⟨["self","prime"],yb1,yb9,[]⟩),(90,⟨["self","a"],yb3,yb8,[]⟩),(97,⟨["self","a","b"],yhw,ykv,[]⟩),(111,⟨["self","a","b"],ygd,yiu,[]⟩),(118,⟨["self","a","n"],yf4,yil,[]⟩),(125,⟨["self","a"],yff,yhn,[]⟩),(132,⟨["self","a","b"],yho,yjf,[]⟩),(139,⟨["self","row"],yf1,yij,[]⟩),(247,⟨["self","turn","sender","receiver","value"],yev,yfw,[]⟩),(252,⟨["self","turn","sender"],ydz,yen,[]⟩),(257,⟨["self","turn","receiver"],yd8,ye7,[]⟩),(271,⟨["self"],yd6,ye5,[]⟩),(278,⟨["self","value"],ybr,yap,[]⟩),(285,⟨["self","turn","sender","receiver"],ydl,yd9,[]⟩),(325,⟨["self","place"],yhj,yi7,[]⟩),(344,⟨["self","field","needed","count","source"],yhh,ykd,[]⟩),(351,⟨["self"],yck,ybt,[]⟩),(358,⟨["self","name"],yci,yba,[]⟩),(365,⟨["self","name"],ycj,ybd,[]⟩),(372,⟨["self","name","secret"],yhp,yk1,[]⟩),(379,⟨["self","name","one","two"],yhs,yks,[]⟩),(386,⟨["self","name","factor","one"],ygj,yiq,[]⟩),(393,⟨["self","name","known","one"],yge,yir,[]⟩),(398,⟨["self","name","one","two"],ye6,ygb,[]⟩),(403,⟨["self","name"],yhi,yjq,[]⟩),(410,⟨["self"],ydy,ydj,[]⟩),(415,⟨["self","name","one","two","book"],ygc,yis,[]⟩),(469,⟨["self","seed"],ybv,ybx,[]⟩),(476,⟨["self","below"],ycp,ydk,[]⟩),(481,⟨["self","count","below"],yg0,yjx,[]⟩)]
 cl:=[("Field",142,83),("Transcript",295,240),("Party",328,325),("Table",418,344),("Source",484,469)]
 mt:=[(142,"need",90),(142,"add",97),(142,"times",111),(142,"power",118),(142,"inverse",125),(142,"over",132),(142,"total",139),(295,"note",247),(295,"sent_by",252),(295,"got_by",257),(295,"faults",271),(295,"_is_number",278),(295,"_belongs",285),(418,"can_multiply",351),(418,"_need_fresh",358),(418,"_need_there",365),(418,"put",372),(418,"add",379),(418,"scale",386),(418,"shift",393),(418,"multiply",398),(418,"open",403),(418,"names",410),(418,"check",415),(484,"draw",476),(484,"row",481)]
 att:=[(142,"prime"),(295,"kind"),(295,"prime"),(295,"needed"),(295,"places"),(295,"dealers"),(295,"messages"),(328,"place"),(328,"shares"),(418,"field"),(418,"needed"),(418,"source"),(418,"parties"),(418,"books"),(484,"state"),(484,"drawn")]
 xc:=[("ShareError",31)]
 tk:=[("ValueError",31)]
 vl:=[("DIGITS",.str "0123456789"),("LETTERS",.str "abcdefghijklmnopqrstuvwxyzABCDEFGHIJKLMNOPQRSTUVWXYZ"),("GREATEST",.int 1048576),("MOST",.int 200),("KINDS",.glob 225)]
 bi:=[("len",.len),("sum",.sum),("list",.list),("max",.max),("min",.min),("str",.str),("set",.set),("dict",.dict),("sorted",.sorted)]
 ty:=[("int","int"),("str","str")]
 ds:=true
 gl:=[(225,["renewal","repair","product"])]
 asm:=yvy
 op:=0
 lz:=lz21
theorem eqK.eq {a b:Str}:eqK a b=(a==b):=by
 unfold eqK;split
 . rfl
 . rename_i h;by_cases e:a=b
   . subst e;have:Nat.beq (hs a) (hs a)=true:=Nat.beq_refl _;rw [this] at h;exact nt h
   . exact (beq_false_of_ne e).symm
theorem eqK.out {a b:Str} (h:eqK a b=true):a=b:=eq_of_beq (eqK.eq ▸ h)
theorem ya6 {α:Type} {v:α} {x:Str}:∀{l:List (Str×α)},lkS l x=some v->(x,v) ∈ l:=by
 intro zd
 induction zd with
 | nil=>
  exact fun q1=>by first | (exact no q1;done)
 | cons zp0 r zih=>
  obtain ⟨k,u⟩:=zp0;exact fun h=>by
   replace h:(match eqK k x with | true=>some u | false=>lkS r x)=some v:=by
     rw [<-h];show _=(Bool.rec _ _ _:Option α);cases eqK k x <;> rfl
   split at h
   . rename_i e;cases h;rw [eqK.out e];exact .head _
   . exact .tail _ (zih h)
theorem ycu {α:Type} {v:α} {x:Nat}:∀{l:List (Nat×α)},lkN l x=some v->(x,v) ∈ l:=by
 intro zd
 induction zd with
 | nil=>
  exact fun q1=>by first | (exact no q1;done)
 | cons zp0 r zih=>
  obtain ⟨k,u⟩:=zp0;exact fun h=>by
   replace h:(match Nat.beq k x with | true=>some u | false=>lkN r x)=some v:=by
     rw [<-h];show _=(Bool.rec _ _ _:Option α);cases Nat.beq k x <;> rfl
   split at h
   . rename_i e;cases h;rw [Nat.eq_of_beq_eq_true e];exact .head _
   . exact .tail _ (zih h)
set_option tactic.hygienic true in
theorem yhq {α:Type} {v:α} {x:Nat} {y:Str}:∀{l:List (Nat×Str×α)},lkM l x y=some v->(x,y,v) ∈ l:=by
 intro zd
 induction zd with
 | nil=>
  exact fun q1=>by first | (exact no q1;done)
 | cons zp0 r zih=>
  obtain ⟨k,n,u⟩:=zp0;exact fun h=>by
   replace h:(match Nat.beq k x with | true=>(match eqK n y with | true=>some u | false=>lkM r x y) | false=>lkM r x y)=some v:=by
     rw [<-h];show _=(Bool.rec _ (Bool.rec _ _ _) _:Option α);cases Nat.beq k x <;> cases eqK n y <;> rfl
   split at h
   . split at h
     . rename_i e _ e2;cases h;rw [Nat.eq_of_beq_eq_true e,eqK.out e2];exact .head _
     . exact .tail _ (zih h)
   . exact .tail _ (zih h)
set_option tactic.hygienic true in
theorem ydv {x:Nat} {y:Str}:∀{l:List (Nat×Str)},hasM l x y=true->(x,y) ∈ l:=by
 intro zd
 induction zd with
 | nil=>
  exact fun q1=>by first | (exact nb q1;done)
 | cons zp0 r zih=>
  obtain ⟨k,n⟩:=zp0;exact fun h=>by
   haveI e0:hasM ((k,n) :: r) x y=(match Nat.beq k x with | true=>(match eqK n y with | true=>true | false=>hasM r x y) | false=>hasM r x y):=by
     show (Bool.rec _ (Bool.rec _ _ _) _:Bool)=_;cases Nat.beq k x <;> cases eqK n y <;> rfl
   rw [e0] at h;split at h
   . split at h
     . rename_i e _ e2;rw [Nat.eq_of_beq_eq_true e,eqK.out e2];exact .head _
     . exact .tail _ (zih h)
   . exact .tail _ (zih h)
theorem frN.out:∀{n:Nat} {k:Nat->Prop},frN n k->k n:=by
 intro zd;cases zd with
 | zero=>
  exact fun {zz} h=>h
 | succ _=>
  exact fun {zz} h=>h
theorem frI.out {i:Int} {k:Int->Prop} (h:frI i k):k i:=by
 cases i with
 | ofNat n=>exact frN.out (n:=n) (k:=fun n=>k (.ofNat n)) h
 | negSucc n=>exact frN.out (n:=n) (k:=fun n=>k (.negSucc n)) h
theorem frV.out {f:Bool} {v:MV} {k:MV->Prop} (h:frV f v k):k v:=by
 cases f with
 | false=>exact h
 | true=>cases v with
   | int i=>exact frI.out (k:=fun i=>k (.int i)) h
   | _=>exact h
theorem goB.out {b:Bool} {P:Prop} (h:goB b P):b=true/\P:=by
 cases b with
 | true=>exact ⟨rfl,h⟩
 | false=>exact h.elim
theorem goO.out {α:Type} {o:Option α} {k:α->Prop} (h:goO o k):∃a,o=some a/\k a:=by
 cases o with
 | some a=>exact ⟨a,rfl,h⟩
 | none=>exact h.elim
theorem push.out:∀{H:MH} {o:MO} {n:Nat} {k:MH->Nat->Prop},push H o n k->k (H++[o]) (n+H.length):=by
 intro zd
 induction zd with
 | nil=>
  exact fun {o} {n} {k} h=>h
 | cons x r zih=>
  exact fun {o} {n} {k} h=>by
   have:=zih (k:=fun r' n'=>k (x :: r') n') h;rw [show n+(x :: r).length=Nat.succ n+r.length by rw [length_cons];lia];exact this
theorem push.out0 {H:MH} {o:MO} {k:MH->Nat->Prop} (h:push H o 0 k):k (H++[o]) H.length:=by
 have:=push.out h;rwa [Nat.zero_add] at this
theorem updX.out {o:MO}:∀{H:MH} {i:Nat} {k:MH->Prop},updX H i o k->k (H.set i o):=@fun zd1 zd2=>@(match zd1,zd2 with
 | [],_=>fun {zz} h=>h
 | _ :: _,0=>fun {zz} h=>h
 | x :: r,i+1=>fun {k} h=>updX.out (H:=r) (k:=fun r'=>k (x :: r')) h)
theorem ycc {α:Type}:∀{l:List α} {i:Nat},at' l i=l[i]?
 | [],_=>by simp [at']
 | _ :: _,0=>rfl
 | _ :: r,i+1=>by rw [List.getElem?_cons_succ];exact ycc (l:=r)
theorem yae {α:Type}:∀{l:List α},lenX l=l.length:=by
 intro zd
 induction zd with
 | nil=>
  exact rfl
 | cons _ r zih=>
  exact by rw [length_cons,<-zih];rfl
theorem appV.out {v:MV}:∀{l:List MV} {k:List MV->Prop},appV l v k->k (l++[v]):=by
 intro zd
 induction zd with
 | nil=>
  exact fun {zz} h=>h
 | cons x r zih=>
  exact fun {k} h=>zih (k:=fun r'=>k (x :: r')) h
theorem asL.out {o:MO} {xs:List MV} (h:asL o=some xs):o=.list xs:=by cases o <;> (first | exact no h | cases h);rfl
theorem asT.out {o:MO} {xs:List MV} (h:asT o=some xs):o=.tup xs:=by cases o <;> (first | exact no h | cases h);rfl
theorem asDI.out {o:MO} {p:Nat×List (Int×MV)} (h:asDI o=some p):o=.dI p.1 p.2:=by cases o <;> (first | exact no h | (replace h:=si h;subst h));rfl
theorem asDS.out {o:MO} {p:Nat×List (Str×MV)} (h:asDS o=some p):o=.dS p.1 p.2:=by cases o <;> (first | exact no h | (replace h:=si h;subst h));rfl
theorem asI.out {o:MO} {p:Addr×Nat} (h:asI o=some p):o=.inst p.1 p.2:=by cases o <;> (first | exact no h | (replace h:=si h;subst h));rfl
theorem asN.out {o:MO} {fs:List (Str×MV)} (h:asN o=some fs):o=.ns fs:=by cases o <;> (first | exact no h | cases h);rfl
theorem vInt.out {v:MV} {i:Int} (h:vInt v=some i):v=.int i:=by cases v <;> (first | exact no h | cases h);rfl
theorem vStr.out {v:MV} {i:Str} (h:vStr v=some i):v=.str i:=by cases v <;> (first | exact no h | cases h);rfl
theorem vRef.out {v:MV} {i:Nat} (h:vRef v=some i):v=.ref i:=by cases v <;> (first | exact no h | cases h);rfl
set_option tactic.hygienic true in
theorem intsOf.out:∀{xs:List MV} {ns:List Int},intsOf xs=some ns->xs=intL ns:=by
 intro zd
 induction zd with
 | nil=>
  exact fun {zz} h=>by (replace h:=si h;subst h);rfl
 | cons v r zih=>
  exact fun {ns} h=>by
   dsimp only [intsOf] at h;split at h
   . rename_i i e;split at h
     . rename_i s e2
       (replace h:=si h;subst h)
       rw [vInt.out e,zih e2];rfl
     . exact no h
   . exact no h
set_option tactic.hygienic true in
theorem strsOf.out:∀{xs:List MV} {ns:List Str},strsOf xs=some ns->xs=strL ns:=by
 intro zd
 induction zd with
 | nil=>
  exact fun {zz} h=>by (replace h:=si h;subst h);rfl
 | cons v r zih=>
  exact fun {ns} h=>by
   dsimp only [strsOf] at h;split at h
   . rename_i i e;split at h
     . rename_i s e2
       (replace h:=si h;subst h)
       rw [vStr.out e,zih e2];rfl
     . exact no h
   . exact no h
set_option tactic.hygienic true in
theorem objX.out {α:Type} {p:MO->Option α} {H:MH} {v:MV} {q:Nat×α} (h:objX p H v=some q):∃o,v=.ref q.1/\H[q.1]?=some o/\p o=some q.2:=by
 unfold objX at h;split at h
 . rename_i a e;split at h
   . rename_i o e2;split at h
     . rename_i x e3
       (replace h:=si h;subst h)
       exact ⟨o,vRef.out e,ycc ▸ e2,e3⟩
     . exact no h
   . exact no h
 . exact no h
theorem objL {H:MH} {v:MV} {q:Nat×List MV} (h:objX asL H v=some q):v=.ref q.1/\H[q.1]?=some (.list q.2):=by
 obtain ⟨o,Z1⟩:=objX.out h;haveI h1:=(zl Z1);haveI h2:=(zl (zr Z1));haveI h3:=(zr (zr Z1));clear Z1;exact ⟨h1,asL.out h3 ▸ h2⟩
theorem objT {H:MH} {v:MV} {q:Nat×List MV} (h:objX asT H v=some q):v=.ref q.1/\H[q.1]?=some (.tup q.2):=by
 obtain ⟨o,h1,h2,h3⟩:=objX.out h;exact ⟨h1,asT.out h3 ▸ h2⟩
theorem ylz {H:MH} {v:MV} {q:Nat×Nat×List (Int×MV)} (h:objX asDI H v=some q) (e:Nat.beq q.1 q.2.1=true):v=.ref q.1/\H[q.1]?=some (.dI q.1 q.2.2):=by
 obtain ⟨o,Z1⟩:=objX.out h;haveI h1:=(zl Z1);haveI h2:=(zl (zr Z1));haveI h3:=(zr (zr Z1));clear Z1;haveI:=asDI.out h3;rw [<-Nat.eq_of_beq_eq_true e] at this;exact ⟨h1,this ▸ h2⟩
theorem ymf {H:MH} {v:MV} {q:Nat×Nat×List (Str×MV)} (h:objX asDS H v=some q) (e:Nat.beq q.1 q.2.1=true):v=.ref q.1/\H[q.1]?=some (.dS q.1 q.2.2):=by
 obtain ⟨o,Z1⟩:=objX.out h;haveI h1:=(zl Z1);haveI h2:=(zl (zr Z1));haveI h3:=(zr (zr Z1));clear Z1;haveI:=asDS.out h3;rw [<-Nat.eq_of_beq_eq_true e] at this;exact ⟨h1,this ▸ h2⟩
set_option tactic.hygienic true in
theorem insX.out {H:MH} {v:MV} {q:Nat×Addr×Nat×List (Str×MV)} (h:insX H v=some q):v=.ref q.1/\Ins H q.1 q.2.1 q.2.2.1 q.2.2.2:=by
 unfold insX at h;split at h
 . rename_i a C kk e;obtain ⟨o,Z1⟩:=objX.out e;haveI h1:=(zl Z1);haveI h2:=(zl (zr Z1));haveI h3:=(zr (zr Z1));clear Z1;split at h
   . rename_i o' e2;split at h
     . rename_i fs e3
       (replace h:=si h;subst h)
       exact ⟨h1,asI.out h3 ▸ h2,asN.out e3 ▸ (ycc ▸ e2)⟩
     . exact no h
   . exact no h
 . exact no h
theorem smal.out {a:Int} (h:smal a=true):a.natAbs<2 ^ 64:=by
 have:=zlb h;exact Nat.lt_succ_of_le ‹_›
theorem opX.out {f:Bool} {op:Operator} {a b:Int} {k:Int->Prop} (h:opX f op a b k):∃i,BinI op (.int a) (.int b) (.int i)/\k i:=by
 cases op with
 | Add=>exact ⟨_,.add,h⟩
 | Sub=>exact ⟨_,.sub,h⟩
 | Mult=>
   cases f with
   | true=>
     have h:=goB.out h;refine ⟨_,.mul ?_,h.2⟩;rcases Bool.or_eq_true_iff.mp h.1 with e | e
     . have:=smal.out e;exact mulL (by exact yq2 this) (by exact yra this)
     . have:=smal.out e;exact mulR (by exact yq2 this) (by exact yra this)
   | false=>exact ⟨_,.mul (Need.h h),Need.k h⟩
 | Mod=>
   cases b with
   | ofNat n=>
     cases n with
     | zero=>exact False.elim h
     | succ n=>exact ⟨_,.modP (by show (0:Int)<((n+1:Nat):Int);omega),h⟩
   | negSucc _=>exact False.elim h
 | BitAnd=>exact ⟨_,.band,h⟩
 | RShift=>
   cases b with
   | ofNat n=>exact ⟨_,.shr (Int.natCast_nonneg _),h⟩
   | negSucc _=>exact False.elim h
 | LShift=>
   cases b with
   | ofNat n=>
     have h:=goB.out h;have q:=zba h.1;have:=zlb q.2;exact ⟨_,.shl (Int.natCast_nonneg _) (by show (n:Int)<=_;lia) (smal.out q.1),h.2⟩
   | negSucc _=>exact False.elim h
 | _=>exact False.elim h
section
variable {c:Cx} {m:ML} {H:MH} {G:Gx} {d:Nat}
theorem BinK.bn {op:Operator} {x y v:MV} {H':MH} {post:MV->MH->Prop} (b:Bn c op H x y v H') (hp:post v H'):BinK c op x y H post:=
 fun mr ρ s Q E vx vy S hx hy k=>b.out mr ρ s Q E vx vy S hx hy fun t vr h' tk=>k t v vr H' h' tk hp
set_option tactic.hygienic true in
theorem binX.out (hh:c.A.handled=none) {f:Bool} {op:Operator} {x y:MV} {post:MV->MH->Prop} (h:binX f H op x y post):BinK c op x y H post:=by
 unfold binX at h;split at h
 . rename_i a ea;obtain ⟨b,Z1⟩:=h.out;haveI eb:=(zl Z1);haveI h:=(zr Z1);clear Z1;obtain ⟨i,Z2⟩:=opX.out h;haveI hb:=(zl Z2);haveI h:=(zr Z2);clear Z2;rw [vInt.out ea,vInt.out eb];exact .of hh hb h.out
 . unfold binL at h;split at h
   . obtain ⟨p,Z3⟩:=h.out;haveI ep:=(zl Z3);haveI h:=(zr Z3);clear Z3;obtain ⟨q,Z4⟩:=h.out;haveI eq:=(zl Z4);haveI h:=(zr Z4);clear Z4;haveI Z5:=h.out;haveI e:=(zl Z5);haveI h:=(zr Z5);clear Z5;haveI Z6:=objL ep;haveI e1:=(zl Z6);haveI e2:=(zr Z6);clear Z6;haveI Z7:=objL eq;haveI e3:=(zl Z7);haveI e4:=(zr Z7);clear Z7;rw [e1,e3];haveI:=zlb e;rw [yae,yae] at this;exact .bn (Bn.addL e2 e4 this) (push.out0 h)
   . obtain ⟨p,Z8⟩:=h.out;haveI ep:=(zl Z8);haveI h:=(zr Z8);clear Z8;haveI Z9:=objL ep;haveI e1:=(zl Z9);haveI e2:=(zr Z9);clear Z9;split at h
     . rename_i v ev;obtain ⟨n,Z10⟩:=h.out;haveI en:=(zl Z10);haveI h:=(zr Z10);clear Z10;split at h
       . rename_i j;haveI Z11:=h.out;haveI e:=(zl Z11);haveI h:=(zr Z11);clear Z11;haveI:=zlb e;rw [e1,vInt.out en];rw [ev] at e2;exact .bn (Bn.mulL (n:=(j:Int)) e2 (by lia) (by exact Int.ofNat_le.mpr ‹_›)) (push.out0 h)
       . exact h.elim
     . exact h.elim
   . exact h.elim
theorem RD.uniq {v:MV} {d1:PyData} (h:RD H v d1):∀{d2:PyData},RD H v d2->d1=d2:=by
 haveI ext:∀{xs:List MV} {as bs:List PyData},xs.length=as.length->xs.length=bs.length->(∀(k:Nat) (v:MV) (d:PyData),xs[k]?=some v->as[k]?=some d->∀{d2:PyData},RD H v d2->d=d2)->
     (∀(k:Nat) (v:MV) (d:PyData),xs[k]?=some v->bs[k]?=some d->RD H v d)->as=bs:=by
   intro xs as bs h1 h2 ih hd;refine List.ext_getElem (by exact yp5 h1 h2) fun k k1 k2=>?_;haveI hk:k<xs.length:=by exact yi4 h1 k1
   exact ih k xs[k] as[k] (getElem?_eq_getElem hk) (getElem?_eq_getElem k1) (hd k _ _ (getElem?_eq_getElem hk) (getElem?_eq_getElem k2))
 induction h with
 | none=>intro d2 h2;cases h2;rfl
 | bool=>intro d2 h2;cases h2;rfl
 | int=>intro d2 h2;cases h2;rfl
 | str=>intro d2 h2;cases h2;rfl
 | list ha hl hd ih=>
   intro d2 h2;cases h2 with
   | list ha' hl' hd'=>rw [ha] at ha';cases ha';exact congrArg _ (ext hl hl' ih hd')
   | tup ha' _ _=>rw [ha] at ha';cases ha'
 | tup ha hl hd ih=>
   intro d2 h2;cases h2 with
   | tup ha' hl' hd'=>rw [ha] at ha';cases ha';exact congrArg _ (ext hl hl' ih hd')
   | list ha' _ _=>rw [ha] at ha';cases ha'
structure RdL (H:MH) (n:Nat) (xs:List MV) (ds:List PyData):Prop where
 len:xs.length=ds.length
 rd:∀(k:Nat) (v:MV) (d:PyData),xs[k]?=some v->ds[k]?=some d->RD H v d
 can:PyData.canLayAll0 ds=true
 dep:PyData.depthAll ds<=n
theorem RdL.nil {n:Nat}:RdL H n [] []:=⟨rfl,fun k v d e=>by exact no e,by simp [PyData.canLayAll0],by simp [PyData.depthAll]⟩
theorem RdL.cons {n:Nat} {x:MV} {xs:List MV} {d1:PyData} {ds:List PyData} (h:RD H x d1) (hc:d1.canLay0=true) (hd:d1.depth<=n) (r:RdL H n xs ds):RdL H n (x :: xs) (d1 :: ds):=by
 refine ⟨by simp [r.len],?_,by simp [PyData.canLayAll0,hc,r.can],?_⟩
 . intro k v d e1 e2;cases k with
   | zero=>(replace e1:=si e1;subst e1);(replace e2:=si e2;subst e2);exact h
   | succ k=>exact r.rd k v d (by simpa using e1) (by simpa using e2)
 . have:=r.dep;simp [PyData.depthAll];lia
def Rd2 (H:MH) (n:Nat) (x y:MV) (r:Bool):Prop:=∃dx dy,RD H x dx/\RD H y dy/\PyData.eqv dx dy=r/\dx.canLay0=true/\dy.canLay0=true/\dx.depth<=n/\dy.depth<=n
set_option tactic.hygienic true in
theorem okHs.out {n:Nat} {f:MV->MV->Option Bool} (hf:∀x y r,f x y=some r->Rd2 H n x y r):∀{ys:List MV},okHs f ys=true->∃ds,RdL H n ys ds:=by
 intro zd
 induction zd with
 | nil=>
  exact fun zz=>⟨[],.nil⟩
 | cons y r zih=>
  exact fun h=>by
   dsimp only [okHs] at h;split at h
   . rename_i b e;obtain ⟨dx,dy,Z1⟩:=hf _ _ _ e;haveI h1:=(zl Z1);haveI h4:=(zl (zr (zr (zr Z1))));haveI h6:=(zl (zr (zr (zr (zr (zr Z1))))));clear Z1;obtain ⟨ds,q⟩:=zih h;exact ⟨_,.cons h1 h4 h6 q⟩
   . exact nb h
theorem noH.out {f:MV->MV->Option Bool} {r:List MV} {b:Bool} (h:noH f r=some b):okHs f r=true/\b=false:=by
 unfold noH at h;split at h
 . (replace h:=si h;subst h);exact ⟨by assumption,rfl⟩
 . exact no h
theorem andX.eq:∀{b c:Bool},andX b c=(b && c):=@fun zd1=>@(match zd1 with
 | true=>fun {zz}=>rfl
 | false=>fun {zz}=>rfl)
theorem orX.eq:∀{b c:Bool},orX b c=(b || c):=@fun zd1=>@(match zd1 with
 | true=>fun {zz}=>rfl
 | false=>fun {zz}=>rfl)
set_option tactic.hygienic true in
theorem eqHs.out {n:Nat} {f:MV->MV->Option Bool} (hf:∀x y r,f x y=some r->Rd2 H n x y r):∀{xs ys:List MV} {r:Bool},eqHs f xs ys=some r->∃as bs,RdL H n xs as/\RdL H n ys bs/\PyData.eqvAll as bs=r:=@fun zd1 zd2=>@(match zd1,zd2 with
 | [],[]=>fun {r} h=>by (replace h:=si h;subst h);exact ⟨[],[],.nil,.nil,by simp [PyData.eqvAll]⟩
 | [],y :: q=>fun {r} h=>by
   haveI Z1:=noH.out (show noH f (y :: q)=some r from h);haveI h1:=(zl Z1);haveI h2:=(zr Z1);clear Z1;obtain ⟨ds,hd⟩:=okHs.out hf h1;subst h2;refine ⟨[],ds,.nil,hd,?_⟩;cases ds with
   | nil=>haveI:=hd.len;cases this
   | cons a b=>simp [PyData.eqvAll]
 | x :: q,[]=>fun {r} h=>by
   haveI Z2:=noH.out (show noH f (x :: q)=some r from h);haveI h1:=(zl Z2);haveI h2:=(zr Z2);clear Z2;obtain ⟨ds,hd⟩:=okHs.out hf h1;subst h2;refine ⟨ds,[],hd,.nil,?_⟩;cases ds with
   | nil=>haveI:=hd.len;cases this
   | cons a b=>simp [PyData.eqvAll]
 | x :: r,y :: q=>fun {b} h=>by
   replace h:(match f x y with | some b=>(match eqHs f r q with | some e=>some (andX b e) | none=>none) | none=>none)=some b:=h;split at h
   . rename_i b1 e1;split at h
     . rename_i b2 e2
       (replace h:=si h;subst h)
       obtain ⟨dx,dy,Z3⟩:=hf _ _ _ e1;haveI h1:=(zl Z3);haveI h2:=(zl (zr Z3));haveI h3:=(zl (zr (zr Z3)));haveI h4:=(zl (zr (zr (zr Z3))));haveI h5:=(zl (zr (zr (zr (zr Z3)))));haveI h6:=(zl (zr (zr (zr (zr (zr Z3))))));haveI h7:=(zr (zr (zr (zr (zr (zr Z3))))));clear Z3;obtain ⟨as,bs,Z4⟩:=eqHs.out hf e2;haveI q1:=(zl Z4);haveI q2:=(zl (zr Z4));haveI q3:=(zr (zr Z4));clear Z4;refine ⟨dx :: as,dy :: bs,.cons h1 h4 h6 q1,.cons h2 h5 h7 q2,?_⟩;rw [andX.eq,<-h3,<-q3];simp [PyData.eqvAll]
     . exact no h
   . exact no h)
set_option tactic.hygienic true in
theorem eqH.out:∀{n:Nat} {x y:MV} {r:Bool},eqH H n x y=some r->Rd2 H n x y r:=by
 intro zd
 induction zd with
 | zero=>
  exact fun {zz} {zz} {zz} h=>by exact no h
 | succ n zih=>
  exact fun {x} {y} {r} h=>by
   dsimp only [eqH] at h;split at h
   . rename_i a ea;split at h
     . rename_i b eb
       (replace h:=si h;subst h)
       rw [vInt.out ea,vInt.out eb];exact ⟨_,_,.int,.int,by rw [PyData.eqv];rfl,by simp [PyData.canLay0],by simp [PyData.canLay0],by simp [PyData.depth],by simp [PyData.depth]⟩
     . exact no h
   . split at h
     . rename_i a ea;split at h
       . rename_i b eb;split at h
         . rename_i es;haveI Z1:=zba es;haveI s1:=(zl Z1);haveI s2:=(zr Z1);clear Z1
           (replace h:=si h;subst h)
           rw [vStr.out ea,vStr.out eb];exact ⟨_,_,.str,.str,by simp [PyData.eqv],by simpa [PyData.canLay0] using s1,by simpa [PyData.canLay0] using s2,by simp [PyData.depth],by simp [PyData.depth]⟩
         . exact no h
       . exact no h
     . split at h
       . rename_i p ep;split at h
         . rename_i q eq;haveI Z2:=objL ep;haveI e1:=(zl Z2);haveI e2:=(zr Z2);clear Z2;haveI Z3:=objL eq;haveI e3:=(zl Z3);haveI e4:=(zr Z3);clear Z3;obtain ⟨as,bs,Z4⟩:=eqHs.out (fun x y r=>zih) h;haveI q1:=(zl Z4);haveI q2:=(zl (zr Z4));haveI q3:=(zr (zr Z4));clear Z4;haveI d1:=q1.dep;haveI d2:=q2.dep;rw [e1,e3];exact ⟨.list as,.list bs,.list e2 q1.len q1.rd,.list e4 q2.len q2.rd,by simpa [PyData.eqv] using q3,by simpa [PyData.canLay0] using q1.can,by simpa [PyData.canLay0] using q2.can,by simp [PyData.depth];assumption,by simp [PyData.depth];assumption⟩
         . exact no h
       . split at h
         . rename_i p ep;split at h
           . rename_i q eq;haveI Z5:=objT ep;haveI e1:=(zl Z5);haveI e2:=(zr Z5);clear Z5;haveI Z6:=objT eq;haveI e3:=(zl Z6);haveI e4:=(zr Z6);clear Z6;obtain ⟨as,bs,Z7⟩:=eqHs.out (fun x y r=>zih) h;haveI q1:=(zl Z7);haveI q2:=(zl (zr Z7));haveI q3:=(zr (zr Z7));clear Z7;haveI d1:=q1.dep;haveI d2:=q2.dep;rw [e1,e3];exact ⟨.tuple as,.tuple bs,.tup e2 q1.len q1.rd,.tup e4 q2.len q2.rd,by simpa [PyData.eqv] using q3,by simpa [PyData.canLay0] using q1.can,by simpa [PyData.canLay0] using q2.can,by simp [PyData.depth];assumption,by simp [PyData.depth];assumption⟩
           . exact no h
         . exact no h
theorem eqH.cq (ok:Ok G c d) {n:Nat} (hn:n<=60) {x y:MV} {r:Bool} (h:eqH H n x y=some r):Cq c .Eq H x y r/\Cq c .NotEq H x y (!r):=by
 obtain ⟨dx,dy,Z1⟩:=eqH.out h;haveI h1:=(zl Z1);haveI h2:=(zl (zr Z1));haveI h3:=(zl (zr (zr Z1)));haveI h4:=(zl (zr (zr (zr Z1))));haveI h5:=(zl (zr (zr (zr (zr Z1)))));haveI h6:=(zl (zr (zr (zr (zr (zr Z1))))));haveI h7:=(zr (zr (zr (zr (zr (zr Z1))))));clear Z1;haveI sx:PySem.SeqAt.shaped dx=true:=by simp [PySem.SeqAt.shaped,h4];exact ypw hn h6
 haveI sy:PySem.SeqAt.shaped dy=true:=by simp [PySem.SeqAt.shaped,h5];exact ypw hn h7
 rw [<-h3];exact ⟨Cq.eqD ok h1 h2 sx sy,Cq.neD ok h1 h2 sx sy⟩
theorem bnd {α β:Type} {o:Option α} {k:α->Option β} {v:β} (h:o.bind k=some v):∃a,o=some a/\k a=some v:=Option.bind_eq_some_iff.mp h
theorem vGlob.out {v:MV} {a:Addr} (h:vGlob v=some a):v=.glob a:=by cases v <;> (first | exact no h | cases h);rfl
theorem inR.out {T:Tb} (hg:∀a ys,(a,ys) ∈ T.gl->GLs G a ys) (ok:Ok G c d) {x y:MV} {r:Bool} (h:inR T H x y=some r):Cq c .In H x y r/\Cq c .NotIn H x y (!r):=by
 unfold inR at h;cases ei:vInt x with
 | some i=>
   rw [ei] at h;obtain ⟨p,Z1⟩:=bnd h;haveI ep:=(zl Z1);haveI h:=(zr Z1);clear Z1;obtain ⟨ns,Z2⟩:=bnd h;haveI en:=(zl Z2);haveI h:=(zr Z2);clear Z2;haveI Z3:=objL ep;haveI e1:=(zl Z3);haveI e2:=(zr Z3);clear Z3
   (replace h:=si h;subst h)
   rw [vInt.out ei,e1];rw [intsOf.out en] at e2;exact ⟨Cq.inI e2,Cq.ninI e2⟩
 | none=>
   rw [ei] at h;obtain ⟨s,Z4⟩:=bnd h;haveI es:=(zl Z4);haveI h:=(zr Z4);clear Z4;obtain ⟨a,Z5⟩:=bnd h;haveI ea:=(zl Z5);haveI h:=(zr Z5);clear Z5;obtain ⟨ys,Z6⟩:=bnd h;haveI ey:=(zl Z6);haveI h:=(zr Z6);clear Z6
   (replace h:=si h;subst h)
   haveI g:=hg a ys (ycu ey);rw [vStr.out es,vGlob.out ea];exact ⟨Cq.inG ok g,Cq.ninG ok g⟩
theorem RD.ext {H':MH} (E:∀(i:Nat) o,H[i]?=some o->H'[i]?=some o) {v:MV} {dt:PyData} (h:RD H v dt):RD H' v dt:=by
 induction h with
 | none=>exact .none
 | bool=>exact .bool
 | int=>exact .int
 | str=>exact .str
 | list ha hl _ ih=>exact .list (E _ _ ha) hl ih
 | tup ha hl _ ih=>exact .tup (E _ _ ha) hl ih
theorem TT.drop {t:CT} {r:Bool} (h:TT c m t H (fun b H1=>b=r/\∀(i:Nat) o,H[i]?=some o->H1[i]?=some o)):TT c m t H (fun b H1=>b=r/\H1=H):=by
 intro e he wh mr ρ s Q E hw S l k kx;refine h e he wh mr ρ s Q E hw S l ?_ kx;rintro t b H1 h1 tk ⟨rfl,hE⟩ S1;exact k [] b H h1 tk ⟨rfl,rfl⟩ (by rw [append_nil];exact S.cutS hE S1)
set_option tactic.hygienic true in
theorem pureE.te (ok:Ok G c d) {a:CE} {v:MV} (h:pureE m a=some v):∀{H:MH},TE c m a H (fun v' H'=>v'=v/\H'=H):=by
 intro H;cases a with
 | loc i=>
   dsimp only [pureE] at h;cases eo:at' m i with
   | some o=>
     rw [eo] at h;dsimp only at h;rw [ycc] at eo;subst h;exact TE.loc ok eo ⟨rfl,rfl⟩
   | none=>rw [eo] at h;exact no h
 | int i=>(replace h:=si h;subst h);exact TE.int ⟨rfl,rfl⟩
 | str s=>(replace h:=si h;subst h);exact TE.str ⟨rfl,rfl⟩
 | _=>exact no h
set_option tactic.hygienic true in
theorem pureEs.te (ok:Ok G c d):∀{as:CEs} {vs:List MV},pureEs m as=some vs->∀{H:MH},TEs c m as H (fun vs' H'=>vs'=vs/\H'=H):=@fun zd1=>@(match zd1 with
 | .nil=>fun {vs} h {H}=>by (replace h:=si h;subst h);exact TEs.nil ⟨rfl,rfl⟩
 | .cons a r=>fun {vs} h {H}=>by
   replace h:(match pureE m a with | some v=>(match pureEs m r with | some vs=>some (v :: vs) | none=>none) | none=>none)=some vs:=h;split at h
   . rename_i v ev;split at h
     . rename_i ws ew
       (replace h:=si h;subst h)
       refine TEs.cons ((pureE.te ok ev).mono ?_);rintro _ _ ⟨rfl,rfl⟩;refine (pureEs.te ok ew).mono ?_;rintro _ _ ⟨rfl,rfl⟩;exact ⟨rfl,rfl⟩
     . exact no h
   . exact no h)
theorem RdL.ext {H':MH} (E:∀(i:Nat) o,H[i]?=some o->H'[i]?=some o) {n:Nat} {xs:List MV} {ds:List PyData} (h:RdL H n xs ds):RdL H' n xs ds:=⟨h.len,fun k v d e1 e2=>(h.rd k v d e1 e2).ext E,h.can,h.dep⟩
theorem RdL.uniq {n k:Nat} {xs:List MV} {as bs:List PyData} (h:RdL H n xs as) (h':RdL H k xs bs):as=bs:=by
 refine List.ext_getElem (by have:=h.len;have:=h'.len;exact yp5 ‹_› this) fun i h1 h2=>?_;have hi:i<xs.length:=by have:=h.len;exact ydn h1 this
 exact (h.rd i _ _ (getElem?_eq_getElem hi) (getElem?_eq_getElem h1)).uniq (h'.rd i _ _ (getElem?_eq_getElem hi) (getElem?_eq_getElem h2))
theorem yc6 {o:MO}:∀(i:Nat) o',H[i]?=some o'->(H++[o])[i]?=some o':=fun i o' e=>by
 rw [getElem?_append_left (zgs e).1];exact e
set_option tactic.hygienic true in
theorem anyT.out {vs:List MV} {dv:List PyData} (hv:RdL H 4 vs dv):∀{xs:List MV} {r:Bool},anyT H vs xs=some r->∃ds,RdL H 5 xs ds/\(ds.any fun e=>PyData.eqv e (.tuple dv))=r:=by
 intro zd
 induction zd with
 | nil=>
  exact fun {r} h=>by (replace h:=si h;subst h);exact ⟨[],.nil,rfl⟩
 | cons e xs zih=>
  exact fun {r} h=>by
   replace h:(match objX asT H e with | some q=>(match eqHs (eqH H 4) q.2 vs with | some b=>(match anyT H vs xs with | some c=>some (orX b c) | none=>none) | none=>none) | none=>none)=some r:=h;split at h
   . rename_i q eq;split at h
     . rename_i b eb;split at h
       . rename_i b2 e2
         (replace h:=si h;subst h)
         haveI Z1:=objT eq;haveI e3:=(zl Z1);haveI e4:=(zr Z1);clear Z1;obtain ⟨as,bs,Z2⟩:=eqHs.out (fun x y r q=>eqH.out q) eb;haveI q1:=(zl Z2);haveI q2:=(zl (zr Z2));haveI q3:=(zr (zr Z2));clear Z2;haveI:=q2.uniq hv;subst this;obtain ⟨ds,Z3⟩:=zih e2;haveI p1:=(zl Z3);haveI p2:=(zr Z3);clear Z3;haveI d1:=q1.dep;refine ⟨.tuple as :: ds,.cons (by rw [e3];exact .tup e4 q1.len q1.rd) (by simpa [PyData.canLay0] using q1.can) (by simp [PyData.depth];assumption) p1,?_⟩;rw [orX.eq,<-q3,<-p2];simp [PyData.eqv]
       . exact no h
     . exact no h
   . exact no h
set_option tactic.hygienic true in
theorem tupR.out (ok:Ok G c d) {op:CmpOp} {a b:CE} {r:Bool} (h:tupR H m op a b=some r):TT c m (.cmp op a b) H (fun b H1=>b=r/\H1=H):=by
 unfold tupR at h;split at h
 . rename_i as ea;haveI ea:a=.tup as:=by cases a <;> (first | exact no ea | cases ea);rfl
   subst ea;split at h
   . rename_i vs ev;split at h
     . rename_i lv;rw [yae] at lv;haveI lv:=zlb lv;refine TT.drop (TT.cq (TE.tup ((pureEs.te ok ev).mono ?_)));intro vs' H' hh;rw [hh.1,hh.2];refine ⟨lv,?_⟩;unfold tupV at h;split at h
       . split at h
         . rename_i bs eb;haveI eb:b=.tup bs:=by cases b <;> (first | exact no eb | cases eb);rfl
           subst eb;split at h
           . rename_i ws ew;split at h
             . rename_i lw;rw [yae] at lw;haveI lw:=zlb lw;refine TE.tup ((pureEs.te ok ew).mono ?_);intro ws' H' hh;rw [hh.1,hh.2];refine ⟨lw,?_⟩;obtain ⟨as',bs',Z1⟩:=eqHs.out (fun x y r q=>eqH.out q) h;haveI q1:=(zl Z1);haveI q2:=(zl (zr Z1));haveI q3:=(zr (zr Z1));clear Z1;haveI d1:=q1.dep;haveI d2:=q2.dep;haveI E2:∀(i:Nat) o',H[i]?=some o'->(H++[MO.tup vs]++[MO.tup ws])[i]?=some o':=fun i o' e=>yc6 _ _ (yc6 _ _ e);haveI R1:=(q1.ext E2);haveI R2:=(q2.ext E2);refine ⟨r,?_,rfl,E2⟩;haveI:=Cq.eqD (c:=c) ok (RD.tup (a:=H.length) (yc6 _ _ yaf) R1.len R1.rd) (RD.tup (a:=(H++[MO.tup vs]).length) yaf R2.len R2.rd) (by simp [PySem.SeqAt.shaped,PyData.canLay0,q1.can,PyData.depth];exact Nat.le_trans ‹_› (by decide)) (by simp [PySem.SeqAt.shaped,PyData.canLay0,q2.can,PyData.depth];exact Nat.le_trans ‹_› (by decide));rw [show PyData.eqv (.tuple as') (.tuple bs')=r by simpa [PyData.eqv] using q3] at this;exact this
             . exact no h
           . exact no h
         . exact no h
       . split at h
         . rename_i y ey;split at h
           . rename_i p ep;haveI Z2:=objL ep;haveI e1:=(zl Z2);haveI e2:=(zr Z2);clear Z2;split at h
             . rename_i ov;obtain ⟨dv,hv⟩:=okHs.out (fun x y r q=>eqH.out q) ov;obtain ⟨ds,Z3⟩:=anyT.out hv h;haveI p1:=(zl Z3);haveI p2:=(zr Z3);clear Z3;refine (pureE.te ok ey).mono ?_;intro y' H' hh;rw [hh.1,hh.2];refine ⟨r,?_,rfl,yc6⟩;rw [e1,<-p2];haveI P1:=p1.ext (yc6 (o:=MO.tup vs));haveI V1:=hv.ext (yc6 (o:=MO.tup vs));haveI dv1:=hv.dep;exact Cq.inD ok (RD.list (yc6 _ _ e2) P1.len P1.rd) (RD.tup yaf V1.len V1.rd) p1.can (by simpa [PyData.canLay0] using hv.can) (by simp [PyData.depth];exact Nat.le_trans ‹_› (by decide))
             . exact no h
           . exact no h
         . exact no h
       . exact no h
     . exact no h
   . exact no h
 . exact no h
set_option tactic.hygienic true in
theorem cmpX.out {T:Tb} (hg:∀a ys,(a,ys) ∈ T.gl->GLs G a ys) (ok:Ok G c d) {op:CmpOp} {x y:MV} {k:Bool->Prop} (h:cmpX G T H op x y k):∃r,Cq c op H x y r/\k r:=by
 unfold cmpX at h;split at h
 . rename_i b e;exact ⟨b,yem (by unfold Cmp;rw [e]),h⟩
 . split at h
   . obtain ⟨b,Z1⟩:=h.out;haveI e:=(zl Z1);haveI h:=(zr Z1);clear Z1;exact ⟨b,(inR.out hg ok e).1,h⟩
   . obtain ⟨b,Z2⟩:=h.out;haveI e:=(zl Z2);haveI h:=(zr Z2);clear Z2;exact ⟨_,(inR.out hg ok e).2,h⟩
   . split at h
     . rename_i b e;exact ⟨b,(eqH.cq ok (by decide) e).1,h⟩
     . obtain ⟨r,Z3⟩:=h;haveI q:=(zl Z3);haveI h:=(zr Z3);clear Z3;exact ⟨r,q.out c d ok,h⟩
   . split at h
     . rename_i b e;exact ⟨_,(eqH.cq ok (by decide) e).2,h⟩
     . obtain ⟨r,Z4⟩:=h;haveI q:=(zl Z4);haveI h:=(zr Z4);clear Z4;exact ⟨r,q.out c d ok,h⟩
   . obtain ⟨r,Z5⟩:=h;haveI q:=(zl Z5);haveI h:=(zr Z5);clear Z5;exact ⟨r,q.out c d ok,h⟩
theorem idxN.out {v:MV} {j:Nat} (h:idxN v=some j):v=.int (j:Nat):=by
 unfold idxN at h;split at h
 . cases h;rfl
 . exact no h
theorem subR.out {x y v:MV} (h:subR H x y=some v):Sq c H x y v:=by
 unfold subR at h;obtain ⟨j,Z1⟩:=bnd h;haveI ej:=(zl Z1);haveI h:=(zr Z1);clear Z1;rw [idxN.out ej];cases ep:objX asL H x with
 | some p=>
   rw [ep] at h;haveI Z2:=objL ep;haveI e1:=(zl Z2);haveI e2:=(zr Z2);clear Z2;rw [e1];cases e3:Nat.ble (lenX p.2) 1000000 with
   | true=>
     simp only [e3] at h;rw [yae] at e3;rw [ycc] at h;exact Sq.list e2 ⟨zlb e3,.inl ⟨Int.natCast_nonneg _,h⟩⟩
   | false=>simp only [e3] at h;exact no h
 | none=>
   rw [ep] at h;obtain ⟨p,Z3⟩:=bnd h;haveI ep:=(zl Z3);haveI h:=(zr Z3);clear Z3;haveI Z4:=objT ep;haveI e1:=(zl Z4);haveI e2:=(zr Z4);clear Z4;rw [e1];cases e3:Nat.ble (lenX p.2) 1000000 with
   | true=>
     simp only [e3] at h;rw [yae] at e3;rw [ycc] at h;exact Sq.tup e2 (zlb e3) h
   | false=>simp only [e3] at h;exact no h
theorem setR.out {x y v:MV} {q:Nat×MO} (h:setR H x y v=some q):Uq c H x y v (H.set q.1 q.2):=by
 unfold setR at h;obtain ⟨j,Z1⟩:=bnd h;haveI ej:=(zl Z1);haveI h:=(zr Z1);clear Z1;obtain ⟨p,Z2⟩:=bnd h;haveI ep:=(zl Z2);haveI h:=(zr Z2);clear Z2;haveI Z3:=objL ep;haveI e1:=(zl Z3);haveI e2:=(zr Z3);clear Z3;cases e3:Nat.ble (lenX p.2) 1000000 && Nat.ble (Nat.succ j) (lenX p.2) with
 | true=>
   simp only [e3] at h
   (replace h:=si h;subst h)
   haveI Z4:=zba e3;haveI e3:=(zl Z4);haveI e4:=(zr Z4);clear Z4;rw [idxN.out ej,e1];rw [yae] at e3 e4;haveI:=zlb e4;exact Uq.list (n:=(j:Int)) e2 (zlb e3) (Int.natCast_nonneg _) (by lia)
 | false=>simp only [e3] at h;exact no h
set_option tactic.hygienic true in
theorem subX.out {x y:MV} {k:MV->Prop} (h:subX H x y k):∃v,Sq c H x y v/\k v:=by
 unfold subX at h;split at h
 . rename_i t et;obtain ⟨p,Z1⟩:=goO.out h;haveI ep:=(zl Z1);haveI h:=(zr Z1);clear Z1;haveI Z2:=goB.out h;obtain ⟨i,Z3⟩:=(zr Z2);haveI eb:=(zl Z2);haveI e:=(zl Z3);haveI h:=(zr Z3);clear Z3 Z2;haveI Z4:=ymf ep eb;haveI e1:=(zl Z4);haveI e2:=(zr Z4);clear Z4;rw [vStr.out et,e1];exact ⟨_,Sq.dS e2 e,h⟩
 . obtain ⟨v,Z5⟩:=goO.out h;haveI e:=(zl Z5);haveI h:=(zr Z5);clear Z5;exact ⟨v,subR.out e,h⟩
set_option tactic.hygienic true in
theorem setX.out {x y v:MV} {k:MH->Prop} (h:setX H x y v k):∃H',Uq c H x y v H'/\k H':=by
 unfold setX at h;split at h
 . rename_i t et;obtain ⟨p,Z1⟩:=goO.out h;haveI ep:=(zl Z1);haveI h:=(zr Z1);clear Z1;haveI Z2:=goB.out h;haveI eb:=(zl Z2);haveI h:=(zr Z2);clear Z2;haveI Z3:=ymf ep eb;haveI e1:=(zl Z3);haveI e2:=(zr Z3);clear Z3;rw [vStr.out et,e1];exact ⟨_,Uq.dS e2 h.h,updX.out h.k⟩
 . obtain ⟨p,Z4⟩:=goO.out h;haveI e:=(zl Z4);haveI h:=(zr Z4);clear Z4;exact ⟨_,setR.out e,updX.out h⟩
theorem asU.out {o:MO} {n:Nat} (h:asU o=some n):o=.setN n:=by cases o <;> (first | exact no h | cases h);rfl
theorem asW.out {o:MO} {n:Nat} (h:asW o=some n):o=.view "dict_items" n:=by
 unfold asW at h;split at h
 . split at h
   . rename_i e;cases h;rw [eq_of_beq e]
   . exact no h
 . exact no h
set_option tactic.hygienic true in
theorem pairsR.out:∀{rs:List MV} {ps:List (Int×MV)},pairsR H rs=some ps->rs.length=ps.length/\∀(i:Nat) p,ps[i]?=some p->∃t,rs[i]?=some (.ref t)/\H[t]?=some (.tup [.int p.1,p.2]):=by
 intro zd
 induction zd with
 | nil=>
  exact fun {ps} h=>by (replace h:=si h;subst h);exact ⟨rfl,fun i p e=>by exact no e⟩
 | cons r rs zih=>
  exact fun {ps} h=>by
   dsimp only [pairsR] at h;split at h
   . rename_i p ep;haveI Z1:=objT ep;haveI e1:=(zl Z1);haveI e2:=(zr Z1);clear Z1;split at h
     . rename_i k v e3;split at h
       . rename_i l el
         (replace h:=si h;subst h)
         haveI Z2:=zih el;haveI h1:=(zl Z2);haveI h2:=(zr Z2);clear Z2;refine ⟨by simp [h1],fun i q e=>?_⟩;cases i with
         | zero=>
           (replace e:=si e;subst e)
           exact ⟨p.1,by rw [e1];rfl,by rw [e2,e3]⟩
         | succ i=>
           obtain ⟨t,Z3⟩:=h2 i q (by simpa using e);haveI q1:=(zl Z3);haveI q2:=(zr Z3);clear Z3;exact ⟨t,by exact q1,q2⟩
       . exact no h
     . exact no h
   . exact no h
theorem ascB.out:∀{es:List (Int×MV)},ascB es=true->es.Pairwise fun x y=>x.1<y.1:=by
 intro zd
 induction zd with
 | nil=>
  exact fun zz=>.nil
 | cons e r zih=>
  exact fun h=>by
   dsimp only [ascB] at h;split at h
   . rename_i e1;exact pairwise_cons.mpr ⟨fun q hq=>of_decide_eq_true (all_eq_true.mp e1 q hq),zih h⟩
   . exact nb h
theorem ascI.out:∀{ns:List Int},ascI ns=true->ns.Pairwise (· < ·):=by
 intro zd
 induction zd with
 | nil=>
  exact fun zz=>.nil
 | cons e r zih=>
  exact fun h=>by
   dsimp only [ascI] at h;split at h
   . rename_i e1;exact pairwise_cons.mpr ⟨fun q hq=>of_decide_eq_true (all_eq_true.mp e1 q hq),zih h⟩
   . exact nb h
theorem yf5:∀{ms ns:List Int},ms.Perm ns->ms.Pairwise (·<=·)->ns.Pairwise (· < ·)->ms=ns:=@fun zd1 zd2=>@(match zd1,zd2 with
 | [],ns=>fun p zz zz=>(List.nil_perm.mp p).symm
 | m :: ms,[]=>fun p zz zz=>by cases List.Perm.eq_nil p
 | m :: ms,n :: ns=>fun p h1 h2=>by
   obtain ⟨a1,a2⟩:=pairwise_cons.mp h1;obtain ⟨b1,b2⟩:=pairwise_cons.mp h2;have e:m=n:=by
     have x1:n ∈ m :: ms:=p.symm.subset (.head _);have x2:m ∈ n :: ns:=p.subset (.head _);rcases zmc x1 with x1 | x1
     . exact x1.symm
     . rcases zmc x2 with x2 | x2
       . exact x2
       . have:=a1 _ x1;have:=b1 _ x2;exact absurd ‹_› (Int.not_lt_of_ge ‹_›)
   subst e;rw [yf5 ((List.perm_cons m).mp p) a2 b2])
theorem insI.perm {x:Int}:∀{l:List Int},(insI x l).Perm (x :: l):=by
 intro zd
 induction zd with
 | nil=>
  exact List.Perm.refl _
 | cons y r zih=>
   dsimp only [insI];split
   . exact List.Perm.refl _
   . exact (List.Perm.cons y zih).trans (List.Perm.swap x y r)
theorem srtI.perm:∀{l:List Int},(srtI l).Perm l:=by
 intro zd
 induction zd with
 | nil=>
  exact List.Perm.refl _
 | cons x r zih=>
  exact insI.perm.trans (List.Perm.cons x zih)
end
theorem yeo {α:Type} {x:Str}:∀{l:List (Str×α)},lkS l x=l.lookup x:=by
 intro zd
 induction zd with
 | nil=>
  exact rfl
 | cons zp0 r zih=>
   obtain ⟨k,v⟩:=zp0;have e0:lkS ((k,v) :: r) x=(match eqK k x with | true=>some v | false=>lkS r x):=by
     show (Bool.rec _ _ _:Option α)=_;cases eqK k x <;> rfl
   rw [e0,lookup_cons];by_cases e:k=x
   . subst e;rw [eqK.eq,beq_self_eq_true]
   . rw [eqK.eq,beq_false_of_ne e,beq_false_of_ne (Ne.symm e)];exact zih
theorem one1.out {vs:List MV} {k:MV->Prop} (h:one1 vs k):∃v,vs=[v]/\k v:=by
 unfold one1 at h;split at h
 . exact ⟨_,rfl,h⟩
 . exact h.elim
theorem two2.out {vs:List MV} {k:Int->Int->Prop} (h:two2 vs k):∃a b,vs=[.int a,.int b]/\k a b:=by
 unfold two2 at h;split at h
 . obtain ⟨a,Z1⟩:=h.out;haveI ea:=(zl Z1);haveI h:=(zr Z1);clear Z1;obtain ⟨b,Z2⟩:=h.out;haveI eb:=(zl Z2);haveI h:=(zr Z2);clear Z2;exact ⟨a,b,by rw [vInt.out ea,vInt.out eb],h⟩
 . exact h.elim
section
variable {c:Cx} {m:ML} {H:MH} {G:Gx} {d:Nat}
theorem slcX.out {x:MV} {l u:Option Int} {post:MV->MH->Prop} (h:slcX H x l u post):∃v H',Slc c H x l u v H'/\post v H':=by
 obtain ⟨r,e,h⟩:=goO.out h;unfold slcR at e;split at e
 . exact no e
 . split at e
   . rename_i p ep;obtain ⟨e1,e2⟩:=objL ep;split at e
     . rename_i el;rw [yae] at el;have el:=zlb el;rw [e1];split at e
       . split at e
         . (replace e:=si e;subst e)
           exact ⟨_,_,Slc.to e2 el (Int.natCast_nonneg _),push.out0 h⟩
         . exact no e
       . split at e
         . (replace e:=si e;subst e)
           exact ⟨_,_,Slc.from e2 el (Int.natCast_nonneg _),push.out0 h⟩
         . exact no e
       . exact no e
     . exact no e
   . exact no e
theorem lenR.out {v:MV} {n:Nat} {post:MV->MH->Prop} (h:lenR H v=some n) (hn:n<=1000000) (hp:post (.int n) H):BC c (.builtin "len") [v] H post:=by
 unfold lenR at h;cases ep:objX asL H v with
 | some p=>
   rw [ep] at h;haveI Z1:=objL ep;haveI e1:=(zl Z1);haveI e2:=(zr Z1);clear Z1
   (replace h:=si h;subst h)
   rw [yae] at hn hp;rw [e1];exact BC.len e2 hn hp
 | none=>
   rw [ep] at h;obtain ⟨p,Z2⟩:=bnd h;haveI ep:=(zl Z2);haveI h:=(zr Z2);clear Z2;obtain ⟨o,Z3⟩:=objX.out ep;haveI e1:=(zl Z3);haveI e2:=(zl (zr Z3));haveI e3:=(zr (zr Z3));clear Z3
   (replace h:=si h;subst h)
   rw [e1];exact BC.lenN (asU.out e3 ▸ e2) hn hp
theorem yt6:bootBuiltins "set"=some (.type "set"):=by kernel_rfl
theorem ytf:bootBuiltins "dict"=some (.type "dict"):=by kernel_rfl
theorem yof:bootBuiltins "sorted"=some (.builtin "sorted"):=by kernel_rfl
set_option tactic.hygienic true in
theorem blt.out (ok:Ok G c d) {f:Bool} {k:BK} {a:CE} {r:CEs} {post:MV->MH->Prop} (hg:nsIn G.K mainGlobals k.nm=some Option.none)
   (h:TEs c m (.cons a r) H (fun vs H1=>blt f k vs H1 post)):TE c m (.call k.nm (.cons a r)) H post:=by
 cases k with
 | len=>
   refine TE.bc ok hg yhc (by decide) (h.mono fun vs H1 h1=>?_);obtain ⟨v,Z1⟩:=one1.out (show one1 vs _ from h1);haveI Z2:=(zl Z1);subst Z2;haveI h1:=(zr Z1);clear Z1;obtain ⟨n,Z3⟩:=goO.out h1;haveI en:=(zl Z3);haveI h1:=(zr Z3);clear Z3;haveI Z4:=goB.out h1;haveI e:=(zl Z4);haveI h1:=(zr Z4);clear Z4;exact lenR.out en (zlb e) h1.out
 | sum=>
   refine TE.bc ok hg yux (by decide) (h.mono fun vs H1 h1=>?_);obtain ⟨v,Z5⟩:=one1.out (show one1 vs _ from h1);haveI Z6:=(zl Z5);subst Z6;haveI h1:=(zr Z5);clear Z5;obtain ⟨p,Z7⟩:=goO.out h1;haveI ep:=(zl Z7);haveI h1:=(zr Z7);clear Z7;obtain ⟨ns,Z8⟩:=goO.out h1;haveI en:=(zl Z8);haveI h1:=(zr Z8);clear Z8;haveI Z9:=objL ep;haveI e1:=(zl Z9);haveI e2:=(zr Z9);clear Z9;rw [intsOf.out en] at e2;rw [e1];exact BC.sum ok.hh e2 h1.out
 | list=>
   refine TE.tc ok hg yls (by decide) (h.mono fun vs H1 h1=>?_);obtain ⟨v,Z10⟩:=one1.out (show one1 vs _ from h1);haveI Z11:=(zl Z10);subst Z11;haveI h1:=(zr Z10);clear Z10;obtain ⟨p,Z12⟩:=goO.out h1;haveI ep:=(zl Z12);haveI h1:=(zr Z12);clear Z12;haveI Z13:=goB.out h1;haveI e:=(zl Z13);haveI h1:=(zr Z13);clear Z13;haveI Z14:=objL ep;haveI e1:=(zl Z14);haveI e2:=(zr Z14);clear Z14;rw [yae] at e;rw [e1];exact BC.list e2 (zlb e) h1.out0
 | max=>
   refine TE.bc ok hg yuq (by decide) (h.mono fun vs H1 h1=>?_);unfold blt at h1;dsimp only at h1;split at h1
   . exact h1.elim
   . obtain ⟨x,y,Z15⟩:=two2.out (show two2 vs _ from h1);haveI Z16:=(zl Z15);subst Z16;haveI h2:=(zr Z15);clear Z15;exact BC.max ok.hh (frV.out h2)
 | min=>
   refine TE.bc ok hg yuz (by decide) (h.mono fun vs H1 h1=>?_);obtain ⟨x,y,Z17⟩:=two2.out (show two2 vs _ from h1);haveI Z18:=(zl Z17);subst Z18;haveI h2:=(zr Z17);clear Z17;exact BC.min ok.hh (frV.out h2)
 | str=>
   refine TE.tc ok hg yfc (by decide) (h.mono fun vs H1 h1=>?_);obtain ⟨v,Z19⟩:=one1.out (show one1 vs _ from h1);haveI Z20:=(zl Z19);subst Z20;haveI h1:=(zr Z19);clear Z19;obtain ⟨i,Z21⟩:=goO.out h1;haveI ei:=(zl Z21);haveI h1:=(zr Z21);clear Z21;haveI Z22:=goB.out h1;haveI e:=(zl Z22);haveI h1:=(zr Z22);clear Z22;rw [vInt.out ei];exact BC.strI (Nat.lt_trans (smal.out e) (Nat.pow_lt_pow_right (by decide) (by decide))) fun x hx _=>by rw [hx,<-strX.eq];exact h1
 | set=>
   refine TE.tc ok hg yt6 (by decide) (h.mono fun vs H1 h1=>?_);obtain ⟨v,Z23⟩:=one1.out (show one1 vs _ from h1);haveI Z24:=(zl Z23);subst Z24;haveI h1:=(zr Z23);clear Z23;obtain ⟨p,Z25⟩:=goO.out h1;haveI ep:=(zl Z25);haveI h1:=(zr Z25);clear Z25;obtain ⟨ns,Z26⟩:=goO.out h1;haveI en:=(zl Z26);haveI h1:=(zr Z26);clear Z26;haveI Z27:=goB.out h1;haveI e:=(zl Z27);haveI h1:=(zr Z27);clear Z27;haveI Z28:=objL ep;haveI e1:=(zl Z28);haveI e2:=(zr Z28);clear Z28;rw [intsOf.out en] at e2;rw [e1];haveI h1:=frN.out h1;rw [yae] at h1 e;exact BC.set ok.hh e2 (zlb e) h1.out0
 | dict=>
   refine TE.tc ok hg ytf (by decide) (h.mono fun vs H1 h1=>?_);obtain ⟨v,Z29⟩:=one1.out (show one1 vs _ from h1);haveI Z30:=(zl Z29);subst Z30;haveI h1:=(zr Z29);clear Z29;obtain ⟨p,Z31⟩:=goO.out h1;haveI ep:=(zl Z31);haveI h1:=(zr Z31);clear Z31;obtain ⟨ps,Z32⟩:=goO.out h1;haveI en:=(zl Z32);haveI h1:=(zr Z32);clear Z32;haveI Z33:=goB.out h1;haveI e:=(zl Z33);haveI h1:=(zr Z33);clear Z33;haveI Z34:=objL ep;haveI e1:=(zl Z34);haveI e2:=(zr Z34);clear Z34;rw [e1];rw [yae] at e;haveI Z35:=pairsR.out en;haveI q1:=(zl Z35);haveI q2:=(zr Z35);clear Z35;exact (BCw.dict ok ⟨_,e2,q1,q2⟩ (zlb e) (push.out0 (push.out0 h1))).out
 | sorted=>
   refine TE.bc ok hg yof (by decide) (h.mono fun vs H1 h1=>?_);obtain ⟨v,Z36⟩:=one1.out (show one1 vs _ from h1);haveI Z37:=(zl Z36);subst Z37;haveI h2:=(zr Z36);clear Z36;clear h1;haveI h1:=h2;clear h2;split at h1
   . rename_i p ep;obtain ⟨q,Z38⟩:=goO.out h1;haveI eq:=(zl Z38);haveI h1:=(zr Z38);clear Z38;haveI Z39:=goB.out h1;haveI e:=(zl Z39);haveI h1:=(zr Z39);clear Z39;haveI Z40:=goB.out h1;haveI ea:=(zl Z40);haveI h1:=(zr Z40);clear Z40;haveI Z41:=zba e;haveI eb:=(zl Z41);haveI e:=(zr Z41);clear Z41;haveI Z42:=zba e;haveI l1:=(zl Z42);haveI l2:=(zr Z42);clear Z42;rw [yae] at l1 l2;haveI l1:=zlb l1;haveI l2:=zlb l2;obtain ⟨o,Z43⟩:=objX.out ep;haveI e1:=(zl Z43);haveI e2:=(zl (zr Z43));haveI e3:=(zr (zr Z43));clear Z43;haveI Z44:=ylz eq eb;haveI e4:=(zl Z44);haveI e5:=(zr Z44);clear Z44;injection e4 with e4
     rw [e1];rw [<-e4] at e5;exact (BCw.sortItems1 ok (asW.out e3 ▸ e2) e5 (ascB.out ea) l1 (by exact Nat.lt_succ_of_le ‹_›) h1).out
   . split at h1
     . rename_i p ep;obtain ⟨ns,Z45⟩:=goO.out h1;haveI en:=(zl Z45);haveI h1:=(zr Z45);clear Z45;haveI Z46:=goB.out h1;haveI eb:=(zl Z46);haveI h1:=(zr Z46);clear Z46;haveI Z47:=zba eb;haveI l1:=(zl Z47);haveI l2:=(zr Z47);clear Z47;haveI Z48:=objL ep;haveI e1:=(zl Z48);haveI e2:=(zr Z48);clear Z48;haveI h1:=h1.out0;haveI en:=intsOf.out en;rw [en] at e2;rw [yae] at l1;haveI l1:=zlb l1;rw [e1];refine (BCw.sortL e2 (by exact Nat.lt_succ_of_le ‹_›) fun ns' p1 p2=>?_).out;rw [yf5 (p1.trans srtI.perm.symm) p2 (ascI.out l2)];exact h1
     . obtain ⟨q,Z49⟩:=goO.out h1;haveI eq:=(zl Z49);haveI h1:=(zr Z49);clear Z49;haveI Z50:=goB.out h1;haveI eb:=(zl Z50);haveI h1:=(zr Z50);clear Z50;haveI Z51:=zba eb;haveI eb:=(zl Z51);haveI l:=(zr Z51);clear Z51;haveI Z52:=zba l;haveI l1:=(zl Z52);haveI l2:=(zr Z52);clear Z52;haveI Z53:=ylz eq eb;haveI e1:=(zl Z53);haveI e2:=(zr Z53);clear Z53;haveI h1:=h1.out0;rw [yae] at l1;haveI l1:=zlb l1;rw [e1];refine (BCw.sortD ok e2 (by exact Nat.lt_succ_of_le ‹_›) fun ns' p1 p2=>?_).out;rw [yf5 p1 p2 (by rw [pairwise_map];exact ascB.out l2)];rw [show intL (q.2.2.map (·.1))=q.2.2.map fun e=>MV.int e.1 by simp [intL]];exact h1
 | int=>
   refine TE.tc ok hg ynd (by decide) (h.mono fun vs H1 h1=>?_);obtain ⟨v,Z54⟩:=one1.out (show one1 vs _ from h1);haveI Z55:=(zl Z54);subst Z55;haveI h1:=(zr Z54);clear Z54;obtain ⟨t,Z56⟩:=goO.out h1;haveI et:=(zl Z56);haveI h1:=(zr Z56);clear Z56;haveI Z57:=goB.out h1;haveI e:=(zl Z57);haveI h1:=(zr Z57);clear Z57;obtain ⟨i,Z58⟩:=goO.out h1;haveI ei:=(zl Z58);haveI h1:=(zr Z58);clear Z58;rw [vStr.out et];intro mr ρ s Q E vs S hv k;obtain ⟨v,Z59⟩:=yaw hv;haveI Z60:=(zl Z59);subst Z60;obtain ⟨u,Z61⟩:=(zr Z59);haveI Z62:=Z61;subst Z62;clear Z61 Z59;exact KIN.call_text ei (zlb e) (k [] _ _ H1 s.heap _ h1.out ⟨_,rfl⟩ (yac S))
set_option tactic.hygienic true in
theorem partsX.out {n:Nat} {v:MV} {vs:List MV} (h:partsX H n v=some vs):(n=1/\vs=[v])\/(1<n/\vs.length=n/\∃a,v=.ref a/\H[a]?=some (.tup vs)):=by
 unfold partsX at h;split at h
 . exact no h
 . (replace h:=si h;subst h)
   exact .inl ⟨rfl,rfl⟩
 . split at h
   . rename_i p ep;haveI Z1:=objT ep;haveI e1:=(zl Z1);haveI e2:=(zr Z1);clear Z1;split at h
     . rename_i eb
       (replace h:=si h;subst h)
       haveI:=Nat.eq_of_beq_eq_true eb;rw [yae] at this;exact .inr ⟨by lia,this,_,e1,e2⟩
     . exact no h
   . exact no h
theorem partsX.i {is:List Nat} {v:MV} {vs:List MV} (h:partsX H (lenX is) v=some vs):ydm H is v vs:=by
 rw [yae] at h;rcases partsX.out h with ⟨e,rfl⟩ | ⟨e1,e2,e3⟩
 . obtain ⟨i,rfl⟩:=length_eq_one_iff.mp e;rfl
 . cases is with
   | nil=>exact absurd e1 (by decide)
   | cons a r=>cases r with
     | nil=>exact absurd e1 (Nat.lt_irrefl 1)
     | cons _ _=>exact ⟨e1,e2,e3⟩
theorem partsX.n {is:List Str} {v:MV} {vs:List MV} (h:partsX H (lenX is) v=some vs):ye9 H is v vs:=by
 rw [yae] at h;rcases partsX.out h with ⟨e,rfl⟩ | ⟨e1,e2,e3⟩
 . obtain ⟨i,rfl⟩:=length_eq_one_iff.mp e;rfl
 . cases is with
   | nil=>exact absurd e1 (by decide)
   | cons a r=>cases r with
     | nil=>exact absurd e1 (Nat.lt_irrefl 1)
     | cons _ _=>exact ⟨e1,e2,e3⟩
end
structure TbOk (G:Gx) (T:Tb):Prop where
 fn:∀g f,(g,f) ∈ T.fn->GFn G g f
 df:∀f D,(f,D) ∈ T.df->GDef G f D.names D.nm D.b D.dm
 cl:∀g C fI,(g,C,fI) ∈ T.cl->GCls G g C fI
 mt:∀C n f,(C,n,f) ∈ T.mt->GMth G C n f
 att:∀C n,(C,n) ∈ T.att->GAtt G C n/\GSto G C n
 xc:∀g C,(g,C) ∈ T.xc->∃bm,GExc G g C bm
 vl:∀x v,(x,v) ∈ T.vl->Glb G x v
 bi:∀g k,(g,k) ∈ T.bi->nsIn G.K mainGlobals g=some none/\g=BK.nm k
 ty:∀N t,(N,t) ∈ T.ty->nsIn G.K mainGlobals N=some none/\bootBuiltins N=some (.type t)/\N≠"__name__"
 rg:nsIn G.K mainGlobals "range"=some none
 tp:nsIn G.K mainGlobals "type"=some none
 gl:∀a ys,(a,ys) ∈ T.gl->GLs G a ys
def HdOk (G:Gx) (prog:Program) (w:World) (h:Hd) (D:Nat):Prop:=∀f args H post xp,h f args H post xp->CL G prog w D f args H post xp
def XLe (ex:Ep) (c:Cx):Prop:=∀C as m H,ex C as m H->c.X C as m H
theorem isNo.out {v:MV} {P:Prop} (h:isNo v P):v=.none/\P:=by
 cases v with
 | none=>exact ⟨rfl,h⟩
 | _=>exact h.elim
section
variable {c:Cx} {m:ML} {H:MH} {G:Gx} {D:Nat} {T:Tb} {h:Hd} {f:Bool} {ex:Ep}
theorem HdOk.cl (hd:HdOk G c.prog c.w h D) (hX:XLe ex c) {a:Addr} {vs:List MV} {post:MV->MH->Prop} (k:h a vs H post fun C as H'=>ex C as m H'):CL G c.prog c.w (D+1) a vs H post (fun C as H'=>c.X C as m H'):=
 ((hd _ _ _ _ _ k).le (Nat.le_succ D)).mono (fun _ _ x=>x) fun C as H' x=>hX C as m H' x
theorem callK.out (tb:TbOk G T) (ok:Ok G c (D+1)) (hd:HdOk G c.prog c.w h D) (hX:XLe ex c) {g:Str} (hk:yi5 T g=true) {a:CE} {r:CEs} {post:MV->MH->Prop}
   (k:TEs c m (.cons a r) H (fun vs H1=>callK T f h g vs m H1 ex post)):TE c m (.call g (.cons a r)) H post:=by
 unfold callK at k;cases e1:lkS T.fn g with
 | some fa=>
   rw [e1] at k;exact TE.call ok (tb.fn _ _ (ya6 e1)) (k.mono fun vs H1 k=>hd.cl hX k)
 | none=>
   rw [e1] at k;cases e2:lkS T.cl g with
   | some p=>
     obtain ⟨C,fI⟩:=p;rw [e2] at k;refine TE.new ok (tb.cl _ _ _ (ya6 e2)) (k.mono fun vs H1 k=>?_);haveI k1:=push.out0 (push.out0 k);rw [length_append] at k1;exact (hd _ _ _ _ _ k1).mono (fun v H2 q=>isNo.out q) fun C as H' x=>hX C as m H' x
   | none=>
     rw [e2] at k;cases e3:lkS T.bi g with
     | some b=>
       rw [e3] at k;haveI Z1:=tb.bi _ _ (ya6 e3);haveI q1:=(zl Z1);haveI q2:=(zr Z1);clear Z1;subst q2;exact blt.out ok q1 k
     | none=>
       unfold yi5 at hk;rw [e1,e2,e3] at hk;exact nb hk
set_option tactic.hygienic true in
theorem mthR.out (tb:TbOk G T) (ok:Ok G c (D+1)) (hd:HdOk G c.prog c.w h D) (hX:XLe ex c) {l:MV} {n:Str} {k:MK} {a:CE} {r:CEs} {post:MV->MH->Prop} (hm:mthR T H l n=some k)
   (hq:TEs c m (.cons a r) H (fun vs H1=>ygm h k vs m H1 ex post)):MCall c m H l n (.cons a r) post:=by
 unfold mthR at hm;split at hm
 . rename_i x C kk fs e;haveI Z1:=insX.out e;haveI e1:=(zl Z1);haveI e2:=(zr Z1);clear Z1;split at hm
   . rename_i en;split at hm
     . rename_i fa ef
       (replace hm:=si hm;subst hm)
       rw [e1];exact MCall.own ok e2 (yeo ▸ en) (tb.mt _ _ _ (yhq ef)) (hq.mono fun vs H1 q=>hd.cl hX q)
     . exact no hm
   . exact no hm
 . split at hm
   . rename_i p ep;haveI Z2:=objL ep;haveI e1:=(zl Z2);haveI e2:=(zr Z2);clear Z2;split at hm
     . rename_i en;split at hm
       . (replace hm:=si hm;subst hm)
         rw [e1,eqK.out en];refine (Mth.append e2).out a r post (hq.mono fun vs H1 q=>?_);obtain ⟨v,Z3⟩:=one1.out (show one1 vs _ from q);haveI Z4:=(zl Z3);subst Z4;haveI q:=(zr Z3);clear Z3;obtain ⟨p',Z5⟩:=goO.out q;haveI ep':=(zl Z5);haveI q:=(zr Z5);clear Z5;haveI Z6:=objL ep';haveI e3:=(zl Z6);haveI e4:=(zr Z6);clear Z6;injection e3 with e3
         rw [<-e3] at e4;exact ⟨_,_,⟨rfl,e4,q.h⟩,updX.out q.k⟩
       . (replace hm:=si hm;subst hm)
         rw [e1,eqK.out en];refine (Mth.append e2).out a r post (hq.mono fun vs H1 q=>?_);obtain ⟨v,Z7⟩:=one1.out (show one1 vs _ from q);haveI Z8:=(zl Z7);subst Z8;haveI q:=(zr Z7);clear Z7;obtain ⟨p',Z9⟩:=goO.out q;haveI ep':=(zl Z9);haveI q:=(zr Z9);clear Z9;haveI Z10:=goB.out q;haveI el:=(zl Z10);haveI q:=(zr Z10);clear Z10;haveI Z11:=objL ep';haveI e3:=(zl Z11);haveI e4:=(zr Z11);clear Z11;rw [yae] at el;injection e3 with e3
         rw [<-e3] at e4;exact ⟨_,_,⟨rfl,e4,zlb el⟩,updX.out (appV.out q)⟩
     . exact no hm
   . split at hm
     . rename_i t et;split at hm
       . rename_i en
         (replace hm:=si hm;subst hm)
         rw [vStr.out et,eqK.out en];refine Mth.join.out a r post (hq.mono fun vs H1 q=>?_);obtain ⟨v,Z12⟩:=one1.out (show one1 vs _ from q);haveI Z13:=(zl Z12);subst Z13;haveI q:=(zr Z12);clear Z12;obtain ⟨p,Z14⟩:=goO.out q;haveI ep:=(zl Z14);haveI q:=(zr Z14);clear Z14;obtain ⟨ys,Z15⟩:=goO.out q;haveI ey:=(zl Z15);haveI q:=(zr Z15);clear Z15;haveI Z16:=goB.out q;haveI eb:=(zl Z16);haveI q:=(zr Z16);clear Z16;haveI Z17:=zba eb;haveI b1:=(zl Z17);haveI b2:=(zr Z17);clear Z17;haveI Z18:=objL ep;haveI e1:=(zl Z18);haveI e2:=(zr Z18);clear Z18;rw [strsOf.out ey] at e2;rw [yae] at b2;rw [e1];exact ⟨_,_,⟨rfl,e2⟩,⟨zlb b1,zlb b2⟩,q⟩
       . exact no hm
     . exact no hm
set_option tactic.hygienic true in
theorem mthR.out0 (tb:TbOk G T) (ok:Ok G c (D+1)) (hd:HdOk G c.prog c.w h D) (hX:XLe ex c) {l:MV} {n:Str} {k:MK} {post:MV->MH->Prop} (hm:mthR T H l n=some k)
   (hq:ygm h k [] m H ex post):MCall c m H l n .nil post:=by
 unfold mthR at hm;split at hm
 . rename_i x C kk fs e;haveI Z1:=insX.out e;haveI e1:=(zl Z1);haveI e2:=(zr Z1);clear Z1;split at hm
   . rename_i en;split at hm
     . rename_i fa ef
       (replace hm:=si hm;subst hm)
       rw [e1];exact MCall.own0 ok e2 (yeo ▸ en) (tb.mt _ _ _ (yhq ef)) (hd.cl hX hq)
     . exact no hm
   . exact no hm
 . split at hm
   . split at hm
     . split at hm
       . (replace hm:=si hm;subst hm)
         exact (show False from hq).elim
       . (replace hm:=si hm;subst hm)
         exact (show False from hq).elim
     . exact no hm
   . split at hm
     . split at hm
       . (replace hm:=si hm;subst hm)
         exact (show False from hq).elim
       . exact no hm
     . exact no hm
theorem mthR0.out (tb:TbOk G T) (ok:Ok G c (D+1)) (hd:HdOk G c.prog c.w h D) (hX:XLe ex c) {l:MV} {n:Str} {k:MK} {post:MV->MH->Prop} (hm:mthR0 T H l n=some k)
   (hq:ygm h k [] m H ex post):MCall c m H l n .nil post:=by
 unfold mthR0 at hm;split at hm
 . rename_i e;cases hm;exact mthR.out0 tb ok hd hX e hq
 . split at hm
   . rename_i p ep;split at hm
     . rename_i en
       (replace hm:=si hm;subst hm)
       obtain ⟨en,eb⟩:=zba en;obtain ⟨e1,e2⟩:=ylz ep eb;rw [e1,eqK.out en];exact (Mth0.itemsI e2 (push.out0 (show push H _ 0 _ from hq))).out
     . exact no hm
   . exact no hm
set_option tactic.hygienic true in
theorem fldR.out (tb:TbOk G T) {l v:MV} {n:Str} (hf:fldR T H l n=some v):Fld G H l n v:=by
 unfold fldR at hf;split at hf
 . rename_i x C kk fs e;haveI Z1:=insX.out e;haveI e1:=(zl Z1);haveI e2:=(zr Z1);clear Z1;split at hf
   . rename_i ea;rw [yeo] at hf;rw [e1];exact Fld.of e2 hf (tb.att _ _ (ydv ea)).1
   . exact no hf
 . exact no hf
end
section
variable {itm:Nat->MH->Option MV} {good:MH->Bool} {is:List Nat} {body:ML->MH->(Fl->ML->MH->Prop)->Prop} {post:Fl->ML->MH->Prop}
def LJ (itm:Nat->MH->Option MV) (good:MH->Bool) (is:List Nat) (body:ML->MH->(Fl->ML->MH->Prop)->Prop) (post:Fl->ML->MH->Prop) (i:Nat) (m:ML) (H:MH):Prop:=∃n,i+n=fuel/\ydc itm good is body post n i m H
theorem LJ.start {m:ML} {H:MH} (h:ydc itm good is body post fuel 0 m H):LJ itm good is body post 0 m H:=⟨fuel,Nat.zero_add _,h⟩
theorem LJ.step {i:Nat} {m:ML} {H:MH} (j:LJ itm good is body post i m H):good H=true/\i<=fuel/\(itm i H=none->post .next m H)/\
   ∀v,itm i H=some v->∃vs q,partsX H (lenX is) v=some vs/\body (ybk is vs m) H q/\∀fl m2 H2,q fl m2 H2->yvi (LJ itm good is body post (i+1)) post fl m2 H2:=by
 obtain ⟨n,Z1⟩:=j;haveI hn:=(zl Z1);haveI h:=(zr Z1);clear Z1;cases n with
 | zero=>exact h.elim
 | succ n=>
   haveI Z2:=goB.out (show goB (good H) _ from h);haveI g:=(zl Z2);haveI h:=(zr Z2);clear Z2;refine ⟨g,by exact yq0 hn,fun e=>by rw [e] at h;exact h,fun v e=>?_⟩;rw [e] at h;obtain ⟨vs,Z3⟩:=goO.out h;haveI ev:=(zl Z3);haveI h:=(zr Z3);clear Z3;refine ⟨vs,_,ev,setsW.out h,fun fl m2 H2 q=>?_⟩;cases fl with
   | next=>exact ⟨n,by exact qf75 hn,frN.out q⟩
   | cont=>exact ⟨n,by exact qf75 hn,frN.out q⟩
   | brk=>exact q
   | ret v=>exact q
end
section
variable {c:Cx} {m:ML} {H:MH} {G:Gx} {d:Nat} {T:Tb} {h:Hd} {f:Bool} {ex:Ep}
theorem itL.eq {a i:Nat}:itL a i H=yb2 a i H:=by
 unfold itL yb2;rw [ycc];cases H[a]? with
 | none=>rfl
 | some o=>cases o <;> first | rfl | exact ycc
set_option tactic.hygienic true in
theorem gdL.out {a:Nat} (e:gdL a H=true):∃xs,H[a]?=some (.list xs):=by
 unfold gdL at e;rw [ycc] at e;split at e
 . rename_i o eo;split at e
   . rename_i xs ex;exact ⟨xs,asL.out ex ▸ eo⟩
   . exact nb e
 . exact nb e
theorem itTp.eq {a i:Nat}:itTp a i H=ygk a i H:=by
 unfold itTp ygk;rw [ycc];cases H[a]? with
 | none=>rfl
 | some o=>cases o <;> first | rfl | exact ycc
set_option tactic.hygienic true in
theorem gdTp.out {a:Nat} (e:gdTp a H=true):∃xs,H[a]?=some (.tup xs):=by
 unfold gdTp at e;rw [ycc] at e;split at e
 . rename_i o eo;split at e
   . rename_i xs ex;exact ⟨xs,asT.out ex ▸ eo⟩
   . exact nb e
 . exact nb e
theorem itR.eq {lo n i:Nat}:itR lo (n - lo) i H=itemR lo n i H:=by
 unfold itR itemR;split
 . rename_i e;have:=zlb e;rw [if_pos (by omega)];rfl
 . rename_i e;have:¬Nat.succ i<=n - lo:=fun q=>by rw [Nat.ble_eq_true_of_le q] at e;exact nt e
   rw [if_neg (by lia)]
theorem natO.out {i:Int} {n:Nat} (h:natO i=some n):i=(n:Int):=by cases i <;> (first | exact no h | cases h);rfl
theorem rng1.out {a b:MV} {p:Nat×Nat} (e:rng1 a b=some p):a=.int p.1/\b=.int p.2/\p.2<=1000000/\p.1<=1000000:=by
 obtain ⟨i,e1,e⟩:=bnd e;obtain ⟨k,e2,e⟩:=bnd e;obtain ⟨j,e3,e⟩:=bnd e;obtain ⟨n,e4,e⟩:=bnd e;cases q:(Nat.ble n 1000000 && Nat.ble k 1000000) with
 | false=>rw [q] at e;exact no e
 | true=>
   rw [q] at e
   (replace e:=si e;subst e)
   have h:=zba q;rw [vInt.out e1,vInt.out e3,natO.out e2,natO.out e4];exact ⟨rfl,rfl,zlb h.1,zlb h.2⟩
theorem rngOf.of {vs:List MV} {p:Nat×Nat} (e:rngOf vs=some p):((vs=[.int p.2]/\p.1=0)\/vs=[.int p.1,.int p.2])/\p.2<=1000000/\p.1<=1000000:=by
 cases vs with
 | nil=>exact no e
 | cons b r=>
   cases r with
   | nil=>
     obtain ⟨h1,h2,h3,h4⟩:=rng1.out e;exact ⟨.inl ⟨by rw [h2],(Int.ofNat.inj (show Int.ofNat 0=Int.ofNat p.1 by injection h1)).symm⟩,h3,h4⟩
   | cons c q=>
     cases q with
     | nil=>
       obtain ⟨h1,h2,h3,h4⟩:=rng1.out e;exact ⟨.inr (by rw [h1,h2]),h3,h4⟩
     | cons _ _=>exact no e
theorem rngOf.out {vs:List MV} {p:Nat×Nat} (e:rngOf vs=some p):Rng vs p.1 p.2:=by
 obtain ⟨h,h1,h2⟩:=rngOf.of e;refine ⟨h.imp (fun q=>⟨q.1,by rw [q.2];rfl⟩) id,?_,?_,?_,?_⟩ <;> lia
theorem rngOf.le {vs:List MV} {p:Nat×Nat} (e:rngOf vs=some p):((p.2:Int) - p.1).toNat<=1000000:=by
 have h:=(rngOf.of e).2.1;lia
set_option tactic.hygienic true in
theorem forX (ok:Ok G c d) (hfm:c.fm=none) {is:List Nat} {it:CE} {b:CSs} {body:ML->MH->(Fl->ML->MH->Prop)->Prop} {post:Fl->ML->MH->Prop} (hb:∀xt m1 H1 k,body m1 H1 k->TB (c.wx xt) m1 b H1 k)
   (hx:TE c m it H (fun v H1=>srcX (lenX is) H1 v fun itm gd=>ydc itm gd is body post fuel 0 m H1)):TS c m (.for is it b) H post:=by
 intro st hs;obtain ⟨h0,h1,h2,h3⟩:=and4 hs;have h0:=yhl h0;intro mr ρ s Q E S lr k kx;refine wpAny_For ?_ (ycb h2);refine hx _ h2 mr ρ s _ E S lr ?_ kx;intro t v lv H1 hp1 tk1 hsrc hv S1;have tr:∀{itm:Nat->MH->Option MV} {gd:MH->Bool} {i:Nat} {m1:ML} {H2:MH} {v:MV} (xt:List (Addr×Obj)),LJ itm gd is body post i m1 H2->itm i H2=some v->∃vs,ydm H2 is v vs/\TB (c.wx xt) (ybk is vs m1) b H2 (fun f m2 H3=>match f with
       | .next=>LJ itm gd is body post (i+1) m2 H3
       | .cont=>LJ itm gd is body post (i+1) m2 H3
       | .brk=>post .next m2 H3
       | .ret v=>post (.ret v) m2 H3):=fun xt j e=>by
   obtain ⟨vs,q,ev,hb',hq⟩:=j.step.2.2.2 _ e;refine ⟨vs,partsX.i ev,(hb xt _ _ _ hb').mono fun fl m2 H3 q'=>?_⟩;have:=hq fl m2 H3 q';cases fl <;> exact this
 have fin:∀(t':List Addr) (f:Fl) (fr:Flow) (m':ML) (mr':Str->Option Value) (H':MH) (h':Heap) (tk:Nat),post f m' H'->FlR (ρ++t++t') f fr->St c mr' (ρ++t++t') H' h'->LR mr' c.nm (ρ++t++t') m'->Q fr { s with heap:=h',toks:=tk }:=fun t' f fr m' mr' H' h' tk hp hf S' l'=>by
   rw [append_assoc] at hf S' l';exact k (t++t') f fr m' mr' H' h' tk hp hf S' l'
 unfold srcX at hsrc;split at hsrc
 case h_2=>
   obtain ⟨p,ep,hsr⟩:=goO.out hsrc;clear hsrc;obtain ⟨e1,e2⟩:=objT ep;subst e1;obtain ⟨y,hy,rfl⟩:=hv;obtain ⟨vs,ht,hvs,No⟩:=yol S1 e2 hy;refine iter_tuple ht ?_;exact ydo (post:=post) ok hfm h0 h1 h3 (NX.tup ok.hh hy) (fun i o hT=>⟨_,_,hT.1,hT.2,rfl⟩) (LJ (itTp p.1) (gdTp p.1) is body post) fuel (LJ.start hsr) (fun i m2 H2 q=>⟨q.step.2.1,gdTp.out q.step.1⟩)
     (fun i m1 H2 v xt q hi=>tr xt q (itTp.eq.trans hi)) (fun i m1 H2 q hi=>q.step.2.2.1 (itTp.eq.trans hi)) (mr:=mr) ⟨rfl,rfl⟩ (S1.addX rfl) lr.mono fin kx.mono
 rename_i p ep;have hsr:=hsrc;clear hsrc;obtain ⟨e1,e2⟩:=objL ep;subst e1;obtain ⟨y,hy,rfl⟩:=hv;obtain ⟨vs,en,hvs,No⟩:=S1.list e2 hy;refine wpAny_pyIter_list (yad No) ?_;exact ydo (post:=post) ok hfm h0 h1 h3 (NX.list ok.hh hy) (fun i o hT=>⟨_,_,hT.1,hT.2,rfl⟩) (LJ (itL p.1) (gdL p.1) is body post) fuel (LJ.start hsr) (fun i m2 H2 q=>⟨q.step.2.1,gdL.out q.step.1⟩)
   (fun i m1 H2 v xt q hi=>tr xt q (itL.eq.trans hi)) (fun i m1 H2 q hi=>q.step.2.2.1 (itL.eq.trans hi)) (mr:=mr) ⟨rfl,rfl⟩ (S1.addX rfl) lr.mono fin kx.mono
theorem yvs (ok:Ok G c d) (hfm:c.fm=none) (hg:nsIn G.K mainGlobals "range"=some none) {is:List Nat} {a:CE} {r:CEs} {b:CSs} {body:ML->MH->(Fl->ML->MH->Prop)->Prop} {post:Fl->ML->MH->Prop} (hb:∀xt m1 H1 k,body m1 H1 k->TB (c.wx xt) m1 b H1 k) (h1:is.length=1)
   (hx:TEs c m (.cons a r) H (fun vs H1=>goO (rngOf vs) fun p=>ydc (itR p.1 (p.2 - p.1)) gdT is body post fuel 0 m H1)):TS c m (.for is (.call "range" (.cons a r)) b) H post:=by
 obtain ⟨i0,rfl⟩:=length_eq_one_iff.mp h1;refine TS.forR ok hfm hg CEs.ne (hx.mono fun vs H1 q=>?_) ⟨_,rfl⟩;obtain ⟨p,Z1⟩:=goO.out q;haveI ep:=(zl Z1);haveI q:=(zr Z1);clear Z1;refine ⟨p.1,p.2,rngOf.out ep,fun i m2 H2=>i<=((p.2:Int) - p.1).toNat/\LJ (itR p.1 (p.2 - p.1)) gdT [i0] body post i m2 H2,⟨Nat.zero_le _,LJ.start q⟩,?_,?_⟩
 . intro i m1 H2 xt j hlt;haveI ei:itR p.1 (p.2 - p.1) i H2=some (.int (p.1+i)):=by rw [itR.eq];unfold itemR;rw [if_pos hlt]
   obtain ⟨vs,q,Z2⟩:=j.2.step.2.2.2 _ ei;haveI ev:=(zl Z2);haveI hb':=(zl (zr Z2));haveI hq:=(zr (zr Z2));clear Z2;haveI:vs=[.int (p.1+i)]:=by (replace ev:=si ev;subst ev);rfl
   subst this;refine (hb xt _ _ _ hb').mono fun fl m2 H3 q'=>?_;haveI:=hq fl m2 H3 q';cases fl with
   | next=>exact ⟨by exact yqq j hlt,this⟩
   | cont=>exact ⟨by exact yqq j hlt,this⟩
   | brk=>exact this
   | ret v=>exact this
 . intro m1 H2 j;refine j.2.step.2.2.1 ?_;rw [itR.eq];unfold itemR;rw [if_neg (by omega)]
theorem Src.any (ok:Ok G c d) {tg:List Str} {elt:CE} {cs:CTs} {it:CE} {post:MV->MH->Prop}
   (hx:TE c m it H (fun l H1=>∃a B,l=.ref a/\∃xs,H1[a]?=some (.list xs)/\Turns G d c m tg elt cs (yb2 a) (fun H=>∃xs,H[a]?=some (.list xs)) B H1 post)):Src G d c m tg elt cs it H post:=by
 intro e mr ρ s Q E he S l kx k;refine hx _ he mr ρ s _ E S l ?_ kx;rintro t lv lr H1 h1 tk1 ⟨a,B,rfl,xs,ha,ht⟩ ⟨y,hy,rfl⟩ S1;obtain ⟨vs,ep,Z1⟩:=S1.list ha hy;haveI hvs:=(zl Z1);haveI No:=(zr Z1);clear Z1;refine wpAny_pyIter_list (yad No) ?_;refine k t H1 _ tk1 _ (fun i o=>o.cls=.type "list_iterator"/\o.data=.fields #[.ref y,.int i 0]) _ _ B _ ⟨fun c₁ e=>NX.list (by rw [e];exact ok.hh) hy,fun i o hT=>⟨_,_,hT.1,hT.2,rfl⟩,fun s' Q E i o hT hI hq=>?_⟩ ht ⟨rfl,rfl⟩ (S1.addX rfl);exact wpAny_pyIter_listiter ⟨o,hI,hT.1,hT.2⟩ hq
theorem compX.turns {itm:Nat->MH->Option MV} {gd:MH->Bool} {item:Nat->MH->Option MV} {goodP:MH->Prop} {tg:List Str} {elt:CE} {cs:CTs} {tst:ML->MH->(Bool->MH->Prop)->Prop} {el:ML->MH->(MV->MH->Prop)->Prop} {post:MV->MH->Prop}
   (hi:∀i H,item i H=itm i H) (hg:∀H,gd H=true->goodP H) (ht:∀c',Sub G c c' d->∀m1 H1 k,tst m1 H1 k->TC c' m1 cs H1 k) (he:∀c',Sub G c c' d->∀m1 H1 k,el m1 H1 k->TE c' m1 elt H1 k)
   (hx:compX itm gd (lenX tg) m tst el post fuel 0 [] H):Turns G d c m tg elt cs item goodP fuel H post:=by
 refine ⟨by decide,fun i ys H1=>∃n,i+n=fuel/\ys.length<=i/\compX itm gd (lenX tg) m tst el post n i ys H1,⟨fuel,Nat.zero_add _,Nat.le_refl _,hx⟩,?_,?_,?_⟩
 . rintro i ys H1 ⟨n,hn,hl,q⟩;cases n with
   | zero=>exact q.elim
   | succ n=>exact ⟨by exact yq0 hn,hl,hg _ (goB.out (show goB (gd H1) _ from q)).1⟩
 . rintro i ys H1 v ⟨n,hn,hl,q⟩ e;rw [hi] at e;cases n with
   | zero=>exact q.elim
   | succ n=>
     haveI Z1:=goB.out (show goB (gd H1) _ from q);haveI q:=(zr Z1);clear Z1;rw [e] at q;obtain ⟨vs,Z2⟩:=goO.out q;haveI ev:=(zl Z2);haveI q:=(zr Z2);clear Z2;refine ⟨vs,partsX.n ev,fun c' sub _=>TC.mono (ht c' sub _ _ _ (appW.out q)) fun b H2 q2=>⟨fun eb=>?_,fun eb=>?_⟩⟩
     . exact ⟨n,by exact qf75 hn,by exact Nat.le_succ_of_le ‹_›,frN.out (q2.out.2 eb)⟩
     . refine (he c' sub _ _ _ (q2.out.1 eb)).mono fun y H3 q3=>⟨n,by exact qf75 hn,by rw [length_append,length_singleton];exact Nat.succ_le_succ ‹_›,frN.out (appV.out q3)⟩
 . rintro i ys H1 ⟨n,hn,hl,q⟩ e;rw [hi] at e;cases n with
   | zero=>exact q.elim
   | succ n=>
     haveI Z3:=goB.out (show goB (gd H1) _ from q);haveI q:=(zr Z3);clear Z3;rw [e] at q;exact push.out0 q
theorem Turns.tight {item:Nat->MH->Option MV} {goodP:MH->Prop} {tg:List Str} {elt:CE} {cs:CTs} {post:MV->MH->Prop} {B B':Nat} (q:Turns G d c m tg elt cs item goodP B H post) (hB:B'<=1000000) (hi:∀i H v,item i H=some v->i<B'):Turns G d c m tg elt cs item goodP B' H post:=by
 haveI Z1:=q;clear q;obtain ⟨J,Z2⟩:=(zr Z1);haveI h1:=(zl Z1);haveI j0:=(zl Z2);haveI j1:=(zl (zr Z2));haveI j2:=(zl (zr (zr Z2)));haveI j3:=(zr (zr (zr Z2)));clear Z2 Z1;refine ⟨hB,fun i ys H1=>i<=B'/\J i ys H1,⟨Nat.zero_le _,j0⟩,fun i ys H1 x=>⟨x.1,(j1 i ys H1 x.2).2⟩,fun i ys H1 v x e=>?_,fun i ys H1 x=>j3 i ys H1 x.2⟩;obtain ⟨vs,Z3⟩:=j2 i ys H1 v x.2 e;haveI hp:=(zl Z3);haveI ht:=(zr Z3);clear Z3;haveI:=hi i H1 v e;exact ⟨vs,hp,fun c' sub hn=>TC.mono (ht c' sub hn) fun b H2 y=>⟨fun eb=>⟨this,y.1 eb⟩,fun eb=>(y.2 eb).mono fun y H3 z=>⟨this,z⟩⟩⟩
theorem itemR.lt {lo hi:Int} {i:Nat} {v:MV} (e:itemR lo hi i H=some v):i<(hi - lo).toNat:=by
 unfold itemR at e;split at e
 . lia
 . exact no e
theorem whileX.out (ok:Ok G c d) (hfm:c.fm=none) {t:CT} {b:CSs} {tst:ML->MH->(Bool->MH->Prop)->Prop} {body:ML->MH->(Fl->ML->MH->Prop)->Prop} {post:Fl->ML->MH->Prop}
   (ht:∀m1 H1 k,tst m1 H1 k->TT c m1 t H1 k) (hb:∀m1 H1 k,body m1 H1 k->TB c m1 b H1 k) {n:Nat} (hx:whileX tst body post n m H):TS c m (.while t b) H post:=by
 refine TS.while ok hfm (fun k m1 H1=>whileX tst body post k m1 H1) n hx fun k m1 H1 q=>?_;cases k with
 | zero=>exact q.elim
 | succ k=>
   refine (ht _ _ _ q).mono fun r H2 q=>⟨fun e=>(hb _ _ _ (q.out.1 e)).mono fun fl m3 H3 q=>?_,q.out.2⟩;cases fl with
   | next=>exact ⟨k,Nat.lt_succ_self _,q⟩
   | cont=>exact ⟨k,Nat.lt_succ_self _,q⟩
   | brk=>exact q
   | ret v=>exact q
end
structure Rc (G:Gx) (h:Hd) (D:Nat) (c:Cx):Prop where
 ok:Ok G c (D+1)
 hd:HdOk G c.prog c.w h D
theorem isRng.out {g:Str} {a:CE} {r:CEs} (e:isRng (.call g (.cons a r))=true):g="range":=eqK.out e
section
variable {G:Gx} {D:Nat} {T:Tb} {h:Hd} {f:Bool}
theorem XLe.none {c:Cx}:XLe (fun _ _ _ _=>False) c:=fun _ _ _ _ x=>x.elim
theorem Rc.sub {c c':Cx} (R:Rc G h D c) (s:Sub G c c' (D+1)):Rc G h D c':=⟨s.ok,by rw [s.prog,s.w];exact R.hd⟩
set_option tactic.hygienic true in
theorem ylf (tb:TbOk G T) {c:Cx} {m:ML} {H:MH} {ex:Ep} {elt it:CE} {tg:List Str} {cs:CTs} {post:MV->MH->Prop} (R:Rc G h D c)
   (hR:∀{p:Str->List MV->MH->Prop},xR G T f h it m H ex p->∃g x r,it=.call g (.cons x r)/\TEs c m (.cons x r) H (fun vs H1=>p g vs H1)/\TE c m x H (fun v H1=>xEs G T f h r m H1 ex fun vs H2=>p g (v :: vs) H2))
   (hE:∀{p:MV->MH->Prop},xE G T f h it m H ex p->TE c m it H p) (hC:∀c',Sub G c c' (D+1)->∀m1 H1 k,xA G T f h cs m1 H1 (fun _ _ _ _=>False) k->TC c' m1 cs H1 k)
   (hel:∀c',Sub G c c' (D+1)->∀m1 H1 k,xE G T f h elt m1 H1 (fun _ _ _ _=>False) k->TE c' m1 elt H1 k)
   (q:xE G T f h (.comp elt tg it cs) m H ex post):Src G (D+1) c m tg elt cs it H post:=by
 replace q:(match isRng it with | true=>xR G T f h it m H ex fun _ vs H1=>goO (rngOf vs) fun p=>compX (itR p.1 (p.2 - p.1)) gdT (lenX tg) m (fun m1 H2 k=>xA G T f h cs m1 H2 (fun _ _ _ _=>False) k) (fun m1 H2 k=>xE G T f h elt m1 H2 (fun _ _ _ _=>False) k) post fuel 0 [] H1 | false=>xE G T f h it m H ex fun v H1=>srcL H1 v fun itm gd=>compX itm gd (lenX tg) m (fun m1 H2 k=>xA G T f h cs m1 H2 (fun _ _ _ _=>False) k) (fun m1 H2 k=>xE G T f h elt m1 H2 (fun _ _ _ _=>False) k) post fuel 0 [] H1):=q;cases e:isRng it with
 | true=>
   rw [e] at q;obtain ⟨g,x,r,Z1⟩:=hR q;haveI hit:=(zl Z1);haveI q2:=(zl (zr Z1));clear Z1;clear q hR hE;subst hit;haveI hg:=isRng.out e;subst hg;refine Src.range R.ok tb.rg (q2.mono fun vs H1 q=>?_);obtain ⟨p,Z2⟩:=goO.out q;haveI ep:=(zl Z2);haveI q:=(zr Z2);clear Z2;exact ⟨p.1,p.2,rngOf.out ep,(compX.turns (goodP:=fun _=>True) (fun i H=>itR.eq.symm) (fun _ _=>trivial) hC hel q).tight (rngOf.le ep) fun i H v e=>itemR.lt e⟩
 | false=>
   rw [e] at q;refine Src.any R.ok ((hE q).mono fun v H1 q=>?_);unfold srcL at q;split at q
   . rename_i p ep;haveI Z3:=objL ep;haveI e1:=(zl Z3);haveI e2:=(zr Z3);clear Z3;exact ⟨p.1,fuel,e1,p.2,e2,compX.turns (fun i H=>itL.eq.symm) (fun H=>gdL.out) hC hel q⟩
   . exact q.elim
theorem isZ.out {a:CE} (h:isZ a=true):a=.int 0:=by
 cases a with
 | int i=>
   cases i with
   | ofNat n=>rw [show n=0 from Nat.eq_of_beq_eq_true h];rfl
   | negSucc _=>exact nb h
 | _=>exact nb h
theorem isLoc.out {a:CE} {i:Nat} (h:isLoc a=some i):a=.loc i:=by
 cases a with
 | loc j=>cases h;rfl
 | _=>exact no h
theorem hdE.out {as:CEs} {a:CE} (h:hdE as=some a):as=.cons a .nil:=by
 cases as with
 | nil=>exact no h
 | cons x r=>cases r with
   | nil=>cases h;rfl
   | cons _ _=>exact no h
theorem isLn.out {a:CE} {i:Nat} (h:isLn a=some i):a=.call "len" (.cons (.loc i) .nil):=by
 cases a with
 | call g as=>
   dsimp only [isLn] at h;cases e:eqK g "len" with
   | false=>rw [e] at h;exact no h
   | true=>
     rw [e] at h;dsimp only at h;cases e2:hdE as with
     | none=>rw [e2] at h;exact no h
     | some x=>
       rw [e2] at h;rw [eqK.out e,hdE.out e2,isLoc.out h]
 | _=>exact no h
theorem isS0.out {a:CE} {i:Nat} (h:isS0 a=some i):a=.sub (.loc i) (.int 0):=by
 cases a with
 | sub o z=>
   dsimp only [isS0] at h;cases e:isZ z with
   | false=>rw [e] at h;exact no h
   | true=>rw [e] at h;rw [isZ.out e,isLoc.out h]
 | _=>exact no h
theorem isGt.out {t:CT} {p:CE×CE} (h:isGt t=some p):t=.cmp .Gt p.1 p.2:=by
 cases t with
 | cmp op a b=>cases op <;> first | ((first | exact no h | (replace h:=si h;subst h));rfl) | exact no h
 | _=>exact no h
theorem yod (tb:TbOk G T) {k:BK} (e:lkS T.bi "len"=some k):nsIn G.K mainGlobals "len"=some Option.none:=(tb.bi _ _ (ya6 e)).1
set_option tactic.hygienic true in
theorem TE.hd0 {c:Cx} {m:ML} {H:MH} {d:Nat} (tb:TbOk G T) (ok:Ok G c d) {t:CT} {a b:CE} {i:Nat} {post:MV->MH->Prop} (e:hd0 T t a b=some i)
   (q:nthW m i fun v=>goO (objX asL H v) fun p=>Need (p.2=intL (ybc p.2)/\p.2.length<=1000000) (post (.int ((ybc p.2).headD 0)) H)):TE c m (.ite t a b) H post:=by
 unfold Mine.hd0 at e;split at e
 . rename_i x z e1;split at e
   . rename_i i' e2;split at e
     . rename_i j e3;split at e
       . rename_i eb;split at e
         . rename_i k e4;cases e;obtain ⟨b1,b2⟩:=zba eb;obtain ⟨b2,b3⟩:=zba b2;have b1:=Nat.eq_of_beq_eq_true b1;subst b1;rw [isGt.out e1,isS0.out e3,isZ.out b3];show TE c m (.ite (.cmp .Gt x z) _ _) H post;rw [isLn.out e2,isZ.out b2];obtain ⟨v,em,q⟩:=nthW.out q;obtain ⟨p,ep,q⟩:=goO.out q;obtain ⟨e5,e6⟩:=objL ep;obtain ⟨h1,h2⟩:=q.h;have q:=q.k;rw [h1] at e6;have hl:(ybc p.2).length=p.2.length:=by
             have:=congrArg List.length h1;rw [this];simp [intL]
           generalize ybc p.2=ns at e6 q hl;refine TE.ite (TT.cmp (TE.bc ok (yod tb e4) yhc (by decide) (TEs.cons (TE.loc ok em (TEs.nil ?_)))));rw [e5];have hle:(intL ns).length=ns.length:=by simp [intL]
           refine BC.len e6 (by lia) (TE.int ⟨_,rfl,fun hr=>?_,fun hr=>?_⟩)
           . have hr:(((intL ns).length:Nat):Int) > 0:=of_decide_eq_true hr;have h0:0<ns.length:=by rw [hle] at hr;exact Int.ofNat_lt.mp ‹_›
             refine TE.sq (TE.loc ok em (TE.int ⟨_,e5 ▸ Sq.listI (n:=0) e6 (by lia) (Int.le_refl 0) (by exact Int.ofNat_lt.mpr ‹_›),?_⟩));have:ns.getD (0:Int).toNat 0=ns.headD 0:=by cases ns <;> rfl
             rw [this];exact q
           . have hr:¬(((intL ns).length:Nat):Int) > 0:=of_decide_eq_false hr;have h0:ns=[]:=eq_nil_of_length_eq_zero (by rw [hle] at hr;lia);subst h0;exact TE.int q
         . exact no e
       . exact no e
     . exact no e
   . exact no e
 . exact no e
theorem TE.lenO {c:Cx} {m:ML} {H:MH} {d:Nat} (tb:TbOk G T) (ok:Ok G c d) {g:Str} {a:CE} {r:CEs} {k:BK} {post:MV->MH->Prop} (e:(eqK g "len" && yj5 r)=true) (ek:lkS T.bi "len"=some k)
   (q:TE c m a H fun v H1=>goO (objX asL H1 v) fun p=>Need (p.2.length<=1000000) (post (.int p.2.length) H1)):TE c m (.call g (.cons a r)) H post:=by
 obtain ⟨e1,e2⟩:=zba e;rw [eqK.out e1];cases r with
 | cons _ _=>exact nb e2
 | nil=>
   refine TE.bc ok (yod tb ek) yhc (by decide) (TEs.cons (q.mono fun v H1 q=>TEs.nil ?_));obtain ⟨p,ep,q⟩:=goO.out q;obtain ⟨e5,e6⟩:=objL ep;rw [e5];exact BC.len e6 q.h q.k
set_option tactic.hygienic true in
mutual
theorem xE.s (tb:TbOk G T):∀(a:CE) {c:Cx} {m:ML} {H:MH} {ex:Ep} {post:MV->MH->Prop},Rc G h D c->XLe ex c->xE G T f h a m H ex post->TE c m a H post:=@fun zd1=>@(match zd1 with
 | .int i=>fun {zz} {zz} {zz} {zz} {zz} zz zz q=>TE.int q
 | .str x=>fun {zz} {zz} {zz} {zz} {zz} zz zz q=>TE.str q
 | .none=>fun {zz} {zz} {zz} {zz} {zz} zz zz q=>TE.none q
 | .bool b=>fun {zz} {zz} {zz} {zz} {zz} zz zz q=>TE.bool q
 | .loc i=>fun {zz} {zz} {zz} {zz} {zz} R zz q=>let ⟨v,e,k⟩:=nthW.out q;TE.loc R.ok e k
 | .glob x=>fun {zz} {zz} {zz} {zz} {zz} R zz q=>let ⟨v,e,k⟩:=goO.out q;let ⟨vr,e1,e2⟩:=(tb.vl _ _ (ya6 e)).out;TE.glob R.ok e1 e2 k
 | .bin op a b=>fun {zz} {zz} {zz} {zz} {zz} R hX q=>TE.binH ((xE.s tb a R hX q).mono fun x H1 q=>(xE.s tb b R hX q).mono fun y H2 q=>binX.out R.ok.hh q)
 | .neg a=>fun {zz} {zz} {zz} {zz} {zz} R hX q=>TE.negI ((xE.s tb a R hX q).mono fun x H1 q=>let ⟨i,e,k⟩:=goO.out q;⟨_,vInt.out e ▸ .mk,frV.out k⟩)
 | .tst t=>fun {zz} {zz} {zz} {zz} {zz} R hX q=>TE.tst fun e _ he=>xV.s tb t R hX q e he
 | .ite t a b=>fun {c} {m} {H} {ex} {post} R hX q=>by
   replace q:(match hd0 T t a b with
     | some i=>nthW m i fun v=>goO (objX asL H v) fun p=>Need (p.2=intL (ybc p.2)/\p.2.length<=1000000) (post (.int ((ybc p.2).headD 0)) H)
     | none=>xT G T f h t m H ex fun r H1=>iteW r (xE G T f h a m H1 ex post) (xE G T f h b m H1 ex post)):=q
   cases e:hd0 T t a b with
   | some i=>
     rw [e] at q;exact TE.hd0 tb R.ok e q
   | none=>
     rw [e] at q;exact TE.ite ((xT.s tb t R hX q).mono fun r H1 q=>⟨fun e=>xE.s tb a R hX (q.out.1 e),fun e=>xE.s tb b R hX (q.out.2 e)⟩)
 | .call g .nil=>fun {zz} {zz} {zz} {zz} {zz} zz zz q=>q.elim
 | .call g (.cons a r)=>fun {c} {m} {H} {ex} {post} R hX q=>by
   replace q:(match T.lz a with
     | true=>goB (eqK g "len" && yj5 r) (goO (lkS T.bi "len") fun _=>xE G T f h a m H ex fun v H1=>goO (objX asL H1 v) fun p=>Need (p.2.length<=1000000) (post (.int p.2.length) H1))
     | false=>goB (yi5 T g) (xE G T f h a m H ex fun v H1=>xEs G T f h r m H1 ex fun vs H2=>callK T f h g (v :: vs) m H2 ex post)):=q
   cases e:T.lz a with
   | true=>
     rw [e] at q;obtain ⟨e1,q⟩:=goB.out q;obtain ⟨k,e2,q⟩:=goO.out q;exact TE.lenO tb R.ok e1 e2 (xE.s tb a R hX q)
   | false=>
     rw [e] at q;obtain ⟨hk,q⟩:=goB.out q;exact callK.out tb R.ok R.hd hX hk (TEs.cons ((xE.s tb a R hX q).mono fun v H1 q=>xEs.s tb r R hX q))
 | .meth o n .nil=>fun {zz} {zz} {zz} {zz} {zz} R hX q=>TE.mcall ((xE.s tb o R hX q).mono fun l H1 q=>let ⟨k,e,q⟩:=goO.out q;mthR0.out tb R.ok R.hd hX e q)
 | .meth o n (.cons a r)=>fun {zz} {zz} {zz} {zz} {zz} R hX q=>TE.mcall ((xE.s tb o R hX q).mono fun l H1 q=>let ⟨k,e,q⟩:=goO.out q;mthR.out tb R.ok R.hd hX e (TEs.cons ((xE.s tb a R hX q).mono fun v H2 q=>xEs.s tb r R hX q)))
 | .attr o n=>fun {zz} {zz} {zz} {zz} {zz} R hX q=>TE.attr R.ok ((xE.s tb o R hX q).mono fun l H1 q=>let ⟨v,e,q⟩:=goO.out q;let ⟨a,C,kk,fs,e1,e2,e3,e4⟩:=(fldR.out tb e).out;⟨a,C,kk,fs,v,e1,e2,e3,e4,q⟩)
 | .sub o i=>fun {zz} {zz} {zz} {zz} {zz} R hX q=>TE.sq ((xE.s tb o R hX q).mono fun x H1 q=>(xE.s tb i R hX q).mono fun y H2 q=>.of (subX.out q))
 | .slice o lo hi=>fun {zz} {zz} {zz} {zz} {zz} R hX q=>TE.sliceQ ((xE.s tb o R hX q).mono fun x H1 q=>TO.mono (xO.s tb lo R hX q) fun l H2 q=>TO.mono (xO.s tb hi R hX q) fun u H3 q=>
     fun mr ρ s Q E vo vl vu base lw up p S hx h1 h2 k=>let ⟨v,H4,b,hp⟩:=slcX.out q;b.out mr ρ s Q E vo vl vu base lw up p S hx h1 h2 fun t vr h' tk=>k t v vr H4 h' tk hp)
 | .list as=>fun {zz} {zz} {zz} {zz} {zz} R hX q=>TE.list ((xEs.s tb as R hX q).mono fun vs H1 q=>let ⟨e,q⟩:=goB.out q;⟨zlb (yae ▸ e),push.out0 q⟩)
 | .tup as=>fun {zz} {zz} {zz} {zz} {zz} R hX q=>TE.tup ((xEs.s tb as R hX q).mono fun vs H1 q=>let ⟨e,q⟩:=goB.out q;⟨zlb (yae ▸ e),push.out0 q⟩)
 | .dict0=>fun {zz} {zz} {zz} {zz} {zz} R hX q=>TE.dict0 (o:=match T.ds with | true=>.dS _ [] | false=>.dI _ []) R.ok ⟨by cases T.ds <;> first | exact .inr rfl | exact .inl rfl⟩ (push.out0 (push.out0 q))
 | .comp elt tg it cs=>fun {c} {m} {H} {ex} {post} R hX q=>TE.comp R.ok (ylf tb R (fun {p} q=>xR.s tb it R hX q) (fun {p} q=>xE.s tb it R hX q) (fun c' s m1 H1 k q=>xC.s tb cs (R.sub s) XLe.none q) (fun c' s m1 H1 k q=>xE.s tb elt (R.sub s) XLe.none q) q))
theorem xR.s (tb:TbOk G T):∀(a:CE) {c:Cx} {m:ML} {H:MH} {ex:Ep} {post:Str->List MV->MH->Prop},Rc G h D c->XLe ex c->xR G T f h a m H ex post->∃g x r,a=.call g (.cons x r)/\TEs c m (.cons x r) H (fun vs H1=>post g vs H1)/\TE c m x H (fun v H1=>xEs G T f h r m H1 ex fun vs H2=>post g (v :: vs) H2):=@fun zd1=>@(match zd1 with
 | .call g (.cons a r)=>fun {zz} {zz} {zz} {zz} {zz} R hX q=>⟨g,a,r,rfl,TEs.cons ((xE.s tb a R hX q).mono fun v H1 q=>xEs.s tb r R hX q),xE.s tb a R hX q⟩
 | .call g .nil=>fun {zz} {zz} {zz} {zz} {zz} zz zz q=>q.elim
 | .int _=>fun {zz} {zz} {zz} {zz} {zz} zz zz q=>q.elim
 | .str _=>fun {zz} {zz} {zz} {zz} {zz} zz zz q=>q.elim
 | .none=>fun {zz} {zz} {zz} {zz} {zz} zz zz q=>q.elim
 | .bool _=>fun {zz} {zz} {zz} {zz} {zz} zz zz q=>q.elim
 | .loc _=>fun {zz} {zz} {zz} {zz} {zz} zz zz q=>q.elim
 | .glob _=>fun {zz} {zz} {zz} {zz} {zz} zz zz q=>q.elim
 | .bin ..=>fun {zz} {zz} {zz} {zz} {zz} zz zz q=>q.elim
 | .neg _=>fun {zz} {zz} {zz} {zz} {zz} zz zz q=>q.elim
 | .tst _=>fun {zz} {zz} {zz} {zz} {zz} zz zz q=>q.elim
 | .ite ..=>fun {zz} {zz} {zz} {zz} {zz} zz zz q=>q.elim
 | .meth ..=>fun {zz} {zz} {zz} {zz} {zz} zz zz q=>q.elim
 | .attr ..=>fun {zz} {zz} {zz} {zz} {zz} zz zz q=>q.elim
 | .sub ..=>fun {zz} {zz} {zz} {zz} {zz} zz zz q=>q.elim
 | .slice ..=>fun {zz} {zz} {zz} {zz} {zz} zz zz q=>q.elim
 | .list _=>fun {zz} {zz} {zz} {zz} {zz} zz zz q=>q.elim
 | .tup _=>fun {zz} {zz} {zz} {zz} {zz} zz zz q=>q.elim
 | .dict0=>fun {zz} {zz} {zz} {zz} {zz} zz zz q=>q.elim
 | .comp ..=>fun {zz} {zz} {zz} {zz} {zz} zz zz q=>q.elim)
theorem xEs.s (tb:TbOk G T):∀(as:CEs) {c:Cx} {m:ML} {H:MH} {ex:Ep} {post:List MV->MH->Prop},Rc G h D c->XLe ex c->xEs G T f h as m H ex post->TEs c m as H post:=@fun zd1=>@(match zd1 with
 | .nil=>fun {zz} {zz} {zz} {zz} {zz} zz zz q=>TEs.nil q
 | .cons a r=>fun {zz} {zz} {zz} {zz} {zz} R hX q=>TEs.cons ((xE.s tb a R hX q).mono fun v H1 q=>xEs.s tb r R hX q))
theorem xO.s (tb:TbOk G T):∀(a:CO) {c:Cx} {m:ML} {H:MH} {ex:Ep} {post:Option Int->MH->Prop},Rc G h D c->XLe ex c->xO G T f h a m H ex post->TO c m a H post:=by
 intro zd;cases zd with
 | none=>
  exact fun {zz} {zz} {zz} {zz} {zz} zz zz q=>q
 | some a=>
  exact fun {zz} {zz} {zz} {zz} {zz} R hX q=>(xE.s tb a R hX q).mono fun v H1 q=>let ⟨i,e,q⟩:=goO.out q;⟨i,vInt.out e,q⟩
theorem xT.s (tb:TbOk G T):∀(t:CT) {c:Cx} {m:ML} {H:MH} {ex:Ep} {post:Bool->MH->Prop},Rc G h D c->XLe ex c->xT G T f h t m H ex post->TT c m t H post:=@fun zd1=>@(match zd1 with
 | .cmp op a b=>fun {c} {m} {H} {ex} {post} R hX q=>by
     replace q:(match isIs op b with | true=>False | false=>(match tupR H m op a b with | some r=>post r H | none=>xE G T f h a m H ex fun x H1=>xE G T f h b m H1 ex fun y H2=>cmpX G T H2 op x y fun r=>post r H2)):=q;cases e:isIs op b with
     | true=>
       rw [e] at q;exact q.elim
     | false=>
       rw [e] at q;dsimp only at q;split at q
       . rename_i r er;refine (tupR.out R.ok er).mono ?_;rintro _ _ ⟨rfl,rfl⟩;exact q
       . exact TT.cq ((xE.s tb a R hX q).mono fun x H1 q=>(xE.s tb b R hX q).mono fun y H2 q=>.of (cmpX.out tb.gl R.ok q))
 | .cmp2 a o1 b o2 e=>fun {zz} {zz} {zz} {zz} {zz} R hX q=>TT.cmp2 ((xE.s tb a R hX q).mono fun x H1 q=>(xE.s tb b R hX q).mono fun y H2 q=>let ⟨r,er,q⟩:=goO.out q;⟨r,(by unfold Cmp;rw [er]),q.out.2,fun e1=>(xE.s tb e R hX (q.out.1 e1)).mono fun z H3 q=>let ⟨r2,er2,q⟩:=goO.out q;⟨r2,(by unfold Cmp;rw [er2]),q⟩⟩)
 | .not t=>fun {zz} {zz} {zz} {zz} {zz} R hX q=>TT.not (xT.s tb t R hX q)
 | .and ts=>fun {zz} {zz} {zz} {zz} {zz} R hX q=>TT.and (xA.s tb ts R hX q)
 | .or ts=>fun {zz} {zz} {zz} {zz} {zz} R hX q=>TT.or (xOr.s tb ts R hX q)
 | .plain e=>fun {zz} {zz} {zz} {zz} {zz} R hX q=>TT.plain ((xE.s tb e R hX q).mono fun v H1 q=>.of (q.out)))
theorem xA.s (tb:TbOk G T):∀(ts:CTs) {c:Cx} {m:ML} {H:MH} {ex:Ep} {post:Bool->MH->Prop},Rc G h D c->XLe ex c->xA G T f h ts m H ex post->TTs c m .And ts H post:=@fun zd1=>@(match zd1 with
 | .nil=>fun {zz} {zz} {zz} {zz} {zz} zz zz q=>TTs.andNil q
 | .cons t r=>fun {zz} {zz} {zz} {zz} {zz} R hX q=>TTs.and ((xT.s tb t R hX q).mono fun b H1 q=>⟨q.out.2,fun e=>xA.s tb r R hX (q.out.1 e)⟩))
theorem xC.s (tb:TbOk G T):∀(ts:CTs) {c:Cx} {m:ML} {H:MH} {ex:Ep} {post:Bool->MH->Prop},Rc G h D c->XLe ex c->xA G T f h ts m H ex post->TC c m ts H post:=@fun zd1=>@(match zd1 with
 | .nil=>fun {zz} {zz} {zz} {zz} {zz} zz zz q=>q
 | .cons t r=>fun {zz} {zz} {zz} {zz} {zz} R hX q=>(xT.s tb t R hX q).mono fun b H1 q=>⟨q.out.2,fun e=>xC.s tb r R hX (q.out.1 e)⟩)
theorem xOr.s (tb:TbOk G T):∀(ts:CTs) {c:Cx} {m:ML} {H:MH} {ex:Ep} {post:Bool->MH->Prop},Rc G h D c->XLe ex c->xOr G T f h ts m H ex post->TTs c m .Or ts H post:=@fun zd1=>@(match zd1 with
 | .nil=>fun {zz} {zz} {zz} {zz} {zz} zz zz q=>TTs.orNil q
 | .cons t r=>fun {zz} {zz} {zz} {zz} {zz} R hX q=>TTs.or ((xT.s tb t R hX q).mono fun b H1 q=>⟨q.out.1,fun e=>xOr.s tb r R hX (q.out.2 e)⟩))
theorem xV.s (tb:TbOk G T):∀(t:CT) {c:Cx} {m:ML} {H:MH} {ex:Ep} {post:MV->MH->Prop},Rc G h D c->XLe ex c->xV G T f h t m H ex post->TP c m t H post:=@fun zd1=>@(match zd1 with
 | .cmp op a b=>fun {c} {m} {H} {ex} {post} R hX q=>by
     replace q:(match isIs op b with | true=>False | false=>xE G T f h a m H ex fun x H1=>xE G T f h b m H1 ex fun y H2=>cmpX G T H2 op x y fun r=>post (.bool r) H2):=q;cases e:isIs op b with
     | true=>
       rw [e] at q;exact q.elim
     | false=>
       rw [e] at q;exact .of (TV.cq ((xE.s tb a R hX q).mono fun x H1 q=>(xE.s tb b R hX q).mono fun y H2 q=>cmpX.out tb.gl R.ok q)) rfl
 | .cmp2 a o1 b o2 e=>fun {zz} {zz} {zz} {zz} {zz} R hX q=>.of (TV.cmp2 ((xE.s tb a R hX q).mono fun x H1 q=>(xE.s tb b R hX q).mono fun y H2 q=>let ⟨r,er,q⟩:=goO.out q;⟨r,(by unfold Cmp;rw [er]),q.out.2,fun e1=>(xE.s tb e R hX (q.out.1 e1)).mono fun z H3 q=>let ⟨r2,er2,q⟩:=goO.out q;⟨r2,(by unfold Cmp;rw [er2]),q⟩⟩)) rfl
 | .not _=>fun {zz} {zz} {zz} {zz} {zz} zz zz q=>q.elim
 | .and ts=>fun {zz} {zz} {zz} {zz} {zz} R hX q=>fun e he=>xAV.s tb ts R hX q (kids e) e.pos he
 | .or ts=>fun {zz} {zz} {zz} {zz} {zz} R hX q=>fun e he=>xRV.s tb ts R hX q (kids e) e.pos he
 | .plain a=>fun {zz} {zz} {zz} {zz} {zz} R hX q=>fun e he=>xE.s tb a R hX q e (and2 he).2)
theorem xAV.s (tb:TbOk G T):∀(ts:CTs) {c:Cx} {m:ML} {H:MH} {ex:Ep} {post:MV->MH->Prop},Rc G h D c->XLe ex c->xAV G T f h ts m H ex post->TPs c m .And ts H post:=@fun zd1=>@(match zd1 with
 | .nil=>fun {zz} {zz} {zz} {zz} {zz} zz zz q=>q.elim
 | .cons t .nil=>fun {zz} {zz} {zz} {zz} {zz} R hX q=>TPs.one (xV.s tb t R hX q)
 | .cons t (.cons u r)=>fun {zz} {zz} {zz} {zz} {zz} R hX q=>TPs.and ((xV.s tb t R hX q).mono fun v H1 q=>let ⟨b,e,q⟩:=boolW.out q;⟨b,e,fun e=>xAV.s tb (.cons u r) R hX (q.out.1 e),q.out.2⟩))
theorem xRV.s (tb:TbOk G T):∀(ts:CTs) {c:Cx} {m:ML} {H:MH} {ex:Ep} {post:MV->MH->Prop},Rc G h D c->XLe ex c->xRV G T f h ts m H ex post->TPs c m .Or ts H post:=@fun zd1=>@(match zd1 with
 | .nil=>fun {zz} {zz} {zz} {zz} {zz} zz zz q=>q.elim
 | .cons t .nil=>fun {zz} {zz} {zz} {zz} {zz} R hX q=>TPs.one (xV.s tb t R hX q)
 | .cons t (.cons u r)=>fun {zz} {zz} {zz} {zz} {zz} R hX q=>TPs.or ((xV.s tb t R hX q).mono fun v H1 q=>let ⟨b,e,q⟩:=boolW.out q;⟨b,e,q.out.1,fun e=>xRV.s tb (.cons u r) R hX (q.out.2 e)⟩))
end
end
structure Rs (G:Gx) (h:Hd) (D:Nat) (c:Cx):Prop extends Rc G h D c where
 fm:c.fm=none
 int:interactive c.env=false
section
variable {G:Gx} {D:Nat} {T:Tb} {h:Hd} {f:Bool}
theorem Rs.wx {c:Cx} (R:Rs G h D c) (xt:List (Addr×Obj)):Rs G h D (c.wx xt):=⟨⟨R.ok.wx xt,R.hd⟩,R.fm,R.int⟩
mutual
theorem xS.s (tb:TbOk G T):∀(a:CS) {c:Cx} {m:ML} {H:MH} {ex:Ep} {post:Fl->ML->MH->Prop},Rs G h D c->XLe ex c->xS G T f h a m H ex post->TS c m a H post:=@fun zd1=>@(match zd1 with
 | .assign i a=>fun {c} {m} {H} {ex} {post} R hX q=>by
     cases hc:yfd a with
     | false=>exact TS.assign R.ok R.fm hc ((xE.s tb a R.toRc hX q).mono fun v H1 q=>setW.out q)
     | true=>
       cases a with
       | comp elt tg it cs=>exact TS.assignC R.ok R.fm ((ylf tb R.toRc (fun {p} q=>xR.s tb it R.toRc hX q) (fun {p} q=>xE.s tb it R.toRc hX q) (fun c' s m1 H1 k q=>xC.s tb cs (R.toRc.sub s) XLe.none q) (fun c' s m1 H1 k q=>xE.s tb elt (R.toRc.sub s) XLe.none q) (show xE G T f h (.comp elt tg it cs) m H ex fun v H1=>setW m i v fun m1=>post .next m1 H1 from q)).mono fun v H1 q=>setW.out q)
       | _=>exact nb hc
 | .assignT is a=>fun {zz} {zz} {zz} {zz} {zz} R hX q=>TS.assignT R.ok R.fm ((xE.s tb a R.toRc hX q).mono fun v H1 q=>let ⟨vs,e,q⟩:=goO.out q;⟨vs,partsX.i e,setsW.out q⟩)
 | .setItem o i a=>fun {zz} {zz} {zz} {zz} {zz} R hX q=>TS.setItem ((xE.s tb a R.toRc hX q).mono fun v H1 q=>(xE.s tb o R.toRc hX q).mono fun x H2 q=>(xE.s tb i R.toRc hX q).mono fun y H3 q=>.of (setX.out q))
 | .setAttr o n a=>fun {zz} {zz} {zz} {zz} {zz} R hX q=>TS.setAttr R.ok ((xE.s tb a R.toRc hX q).mono fun v H1 q=>(xE.s tb o R.toRc hX q).mono fun l H2 q=>let ⟨p,e,q⟩:=goO.out q;let ⟨e1,q⟩:=goB.out q;let ⟨e2,q⟩:=goB.out q;let ⟨e3,e4⟩:=insX.out e;⟨_,_,_,_,e3,e4,zlb (yae ▸ e2),(tb.att _ _ (ydv e1)).2,updX.out q⟩)
 | .expr a=>fun {zz} {zz} {zz} {zz} {zz} R hX q=>TS.expr R.int (xE.s tb a R.toRc hX q)
 | .ite t a b=>fun {c} {m} {H} {ex} {post} R hX q=>by
     replace q:(match T.asm t with | true=>xT G T f h t m H ex fun r H1=>Need (r=false) (xB G T f h b m H1 ex post) | false=>xT G T f h t m H ex fun r H1=>iteW r (xB G T f h a m H1 ex post) (xB G T f h b m H1 ex post)):=q;split at q
     . exact TS.ite ((xT.s tb t R.toRc hX q).mono fun r H1 q=>⟨fun e=>(by haveI:=q.h;rw [e] at this;exact nt this),fun e=>xB.s tb b R hX q.k⟩)
     . exact TS.ite ((xT.s tb t R.toRc hX q).mono fun r H1 q=>⟨fun e=>xB.s tb a R hX (q.out.1 e),fun e=>xB.s tb b R hX (q.out.2 e)⟩)
 | .ret a=>fun {zz} {zz} {zz} {zz} {zz} R hX q=>TS.ret (xE.s tb a R.toRc hX q)
 | .ret0=>fun {zz} {zz} {zz} {zz} {zz} zz zz q=>TS.ret0 q
 | .brk=>fun {zz} {zz} {zz} {zz} {zz} zz zz q=>TS.brk q
 | .cont=>fun {zz} {zz} {zz} {zz} {zz} zz zz q=>TS.cont q
 | .pass=>fun {zz} {zz} {zz} {zz} {zz} zz zz q=>TS.pass q
 | .raise g (.cons a r)=>fun {zz} {zz} {zz} {zz} {zz} zz zz q=>q.elim
 | .raise g .nil=>fun {zz} {zz} {zz} {zz} {zz} zz zz q=>q.elim
 | .swap ..=>fun {zz} {zz} {zz} {zz} {zz} zz zz q=>q.elim
 | .while t b=>fun {zz} {zz} {zz} {zz} {zz} R hX q=>whileX.out R.ok R.fm (fun m1 H1 k q=>xT.s tb t R.toRc hX q) (fun m1 H1 k q=>xB.s tb b R hX q) q
 | .for is it b=>fun {c} {m} {H} {ex} {post} R hX q=>by
     replace q:(match isRng it with | true=>goB (Nat.beq (lenX is) 1) (xR G T f h it m H ex fun _ vs H1=>goO (rngOf vs) fun p=>ydc (itR p.1 (p.2 - p.1)) gdT is (fun m1 H2 k=>xB G T f h b m1 H2 ex k) post fuel 0 m H1) | false=>xE G T f h it m H ex fun v H1=>srcX (lenX is) H1 v fun itm gd=>ydc itm gd is (fun m1 H2 k=>xB G T f h b m1 H2 ex k) post fuel 0 m H1):=q;haveI hb:∀xt m1 H1 k,xB G T f h b m1 H1 ex k->TB (c.wx xt) m1 b H1 k:=fun xt m1 H1 k q=>xB.s tb b (R.wx xt) hX q;cases e:isRng it with
     | true=>
       rw [e] at q;haveI Z1:=goB.out q;haveI hl:=(zl Z1);haveI q:=(zr Z1);clear Z1;haveI hl:=Nat.eq_of_beq_eq_true hl;rw [yae] at hl;obtain ⟨g,x,r,Z2⟩:=xR.s tb it R.toRc hX q;haveI hit:=(zl Z2);haveI q2:=(zl (zr Z2));clear Z2;clear q;subst hit;haveI hg:=isRng.out e;subst hg;exact yvs R.ok R.fm tb.rg hb hl q2
     | false=>
       rw [e] at q;exact forX R.ok R.fm hb (xE.s tb it R.toRc hX q)
 | .raiseFrom ..=>fun {zz} {zz} {zz} {zz} {zz} zz zz q=>q.elim
 | .try ..=>fun {zz} {zz} {zz} {zz} {zz} zz zz q=>q.elim)
theorem xB.s (tb:TbOk G T):∀(b:CSs) {c:Cx} {m:ML} {H:MH} {ex:Ep} {post:Fl->ML->MH->Prop},Rs G h D c->XLe ex c->xB G T f h b m H ex post->TB c m b H post:=@fun zd1=>@(match zd1 with
 | .nil=>fun {zz} {zz} {zz} {zz} {zz} zz zz q=>TB.nil q
 | .cons a r=>fun {zz} {zz} {zz} {zz} {zz} R hX q=>TB.cons ((xS.s tb a R hX q).mono fun fl m1 H1 q=>by
     cases fl with
     | next=>exact xB.s tb r R hX q
     | _=>exact q))
end
structure MdOk (G:Gx) (prog:Program) (w:World) (md:List (Addr×Md)):Prop where
 ora:∀a k,(a,Md.ora k) ∈ md->∀args p H,k args H=some p->p.1->CL G prog w 80 a args H (fun v H'=>v=p.2/\H'=H) (fun _ _ _=>False)
 orn:∀a k,(a,Md.orn k) ∈ md->∀args H (Q:MO->Prop),k args H Q->CL G prog w 80 a args H (fun v H'=>v=.ref H.length/\∃o,H'=H++[o]/\Q o) (fun _ _ _=>False)
theorem ykk {prog:Program} {w:World} {n:Nat} {a:Addr} {args:List MV} {H:MH} {post:MV->MH->Prop} {xp:Addr->List MV->MH->Prop} (tb:TbOk G T) (ih:HdOk G prog w h (2*n))
   (q:goO (lkN T.df a) fun D=>goB (Nat.beq (lenX args+lenX D.dm) (lenX D.names)) (startW D.nm (args++D.dm) fun m=>xB G T f h D.b m H (fun C as _ H'=>xp C as H') (retQ post))):CL G prog w (2*n+2) a args H post xp:=by
 obtain ⟨Df,Z1⟩:=goO.out q;haveI eD:=(zl Z1);haveI q:=(zr Z1);clear Z1;haveI Z2:=goB.out q;haveI el:=(zl Z2);haveI q:=(zr Z2);clear Z2;haveI el:=Nat.eq_of_beq_eq_true el;rw [yae,yae,yae] at el;refine (tb.df _ _ (ycu eD)).cl (d:=2*n+1) el fun c e1 e2 ok hfm hint hnm hX=>?_;subst e1 e2;refine (xB.s tb Df.b ⟨⟨ok,ih⟩,hfm,hint⟩ (fun C as m H x=>by rw [hX];exact x) (startW.out q)).mono fun fl m1 H1 q=>?_;cases fl with
 | next=>exact q
 | ret v=>exact q
 | _=>exact q.elim
set_option tactic.hygienic true in
theorem callX.ok (tb:TbOk G T) {prog:Program} {w:World} {md:List (Addr×Md)} (mk:MdOk G prog w md):∀(n:Nat) (f:Bool),HdOk G prog w (callX G prog w T md n f) (2*n):=by
 intro zd
 induction zd with
 | zero=>
  exact fun zz=>fun _ _ _ _ _ q=>q.elim
 | succ n zih=>
  exact fun f=>by
   intro a args H post xp q;dsimp only [callX] at q;split at q
   . exact q.out
   . rename_i k e;haveI Z1:=goB.out q;haveI e0:=(zl Z1);haveI q:=(zr Z1);clear Z1;haveI e0:=zlb e0;obtain ⟨p,Z2⟩:=goO.out q;haveI e1:=(zl Z2);haveI q:=(zr Z2);clear Z2;exact ((mk.ora a k (ycu e) args p H e1 q.h).le (by lia)).mono (fun v H' ⟨a1,a2⟩=>a1 ▸ a2 ▸ q.k) (fun _ _ _ x=>x.elim)
   . rename_i k e;haveI Z3:=goB.out q;haveI e0:=(zl Z3);haveI q:=(zr Z3);clear Z3;haveI e0:=zlb e0;exact ((mk.orn a k (ycu e) args H _ q).le (by lia)).mono (fun v H' ⟨a1,o,a2,a3⟩=>by rw [a1,a2];exact push.out0 a3) (fun _ _ _ x=>x.elim)
   . exact ykk tb (zih true) q
   . exact ykk tb (zih f) q
end
noncomputable def valk (K:Frag) (x:Str) (v:MV):Bool:=match nsIn K mainGlobals x with
 | some (some (.int i _))=>match v with
   | .int j=>decide (i=j)
   | _=>false
 | some (some (.str s _))=>match v with
   | .str t=>decide (s=t)
   | _=>false
 | some (some (.ref a))=>match v with
   | .glob b=>Nat.beq a b
   | _=>false
 | _=>false
noncomputable def frek (K:Frag) (x:Str):Bool:=match nsIn K mainGlobals x with
 | some none=>true
 | _=>false
noncomputable def bikk (x:Str) (k:BK):Bool:=decide (x=k.nm)
noncomputable def tykk (x:Str) (t:String):Bool:=(decide (x="int") && decide (t="int")) || (decide (x="str") && decide (t="str"))
noncomputable def strsV:List Value->List Str->Bool
 | [],[]=>true
 | .str x _ :: vs,y :: ys=>decide (x=y) && strsV vs ys
 | _,_=>false
theorem strsV.out:∀{vs:List Value} {ys:List Str},strsV vs ys=true->StrsAre vs ys
 | [],[],_=>.nil
 | .str x t :: vs,y :: ys,h=>by
   obtain ⟨h1,h2⟩:=zba h;have:=of_decide_eq_true h1;subst this;exact .cons _ _ (strsV.out h2)
noncomputable def glk (K:Frag) (a:Addr) (ys:List Str):Bool:=match K.lookup a with
 | some ⟨.type "list",none,.seq vs _,⟨[]⟩⟩=>strsV vs.toList ys
 | _=>false
noncomputable def tbk (K:Frag) (T:Tb):Bool:=
 T.fn.all (fun p=>fnk K p.1 p.2) && T.cl.all (fun p=>clsk K p.1 p.2.1 p.2.2) && T.mt.all (fun p=>mthk K p.1 p.2.1 p.2.2) && T.att.all (fun p=>attk K p.1 p.2 && stok K p.1 p.2) &&
 T.xc.all (fun p=>excK K p.1 p.2) && T.tk.all (fun p=>decide (p.1="ValueError") && T.xc.any fun q=>Nat.beq q.2 p.2) && frek K "ValueError" && T.vl.all (fun p=>valk K p.1 p.2) && T.bi.all (fun p=>frek K p.1 && bikk p.1 p.2) &&
 T.ty.all (fun p=>frek K p.1 && tykk p.1 p.2) && frek K "range" && frek K "type" && T.gl.all (fun p=>glk K p.1 p.2) && frek K "reversed"
theorem frek.out {K:Frag} {x:Str} (h:frek K x=true):nsIn K mainGlobals x=some none:=by
 unfold frek at h;split at h
 . assumption
 . exact nb h
theorem valk.out {G:Gx} {x:Str} {v:MV} (h:valk G.K x v=true):Glb G x v:=by
 unfold valk at h;cases e:nsIn G.K mainGlobals x with
 | none=>rw [e] at h;exact nb h
 | some o=>cases o with
   | none=>rw [e] at h;exact nb h
   | some w=>
     rw [e] at h;cases w with
     | int i t=>cases v with
       | int j=>
         have:=of_decide_eq_true h;subst this;exact ⟨_,e,_,rfl⟩
       | _=>exact nb h
     | str s t=>cases v with
       | str u=>
         have:=of_decide_eq_true h;subst this;exact ⟨_,e,_,rfl⟩
       | _=>exact nb h
     | ref a=>cases v with
       | glob b=>
         have:=Nat.eq_of_beq_eq_true h;subst this;exact ⟨_,e,rfl⟩
       | _=>exact nb h
     | _=>exact nb h
set_option tactic.hygienic true in
theorem glk.out {G:Gx} {a:Addr} {ys:List Str} (h:glk G.K a ys=true):GLs G a ys:=by
 unfold glk at h;split at h
 . rename_i vs n e;exact ⟨vs.toList,n,by rw [e,Array.toArray_toList],strsV.out h⟩
 . exact nb h
theorem TbOk.ofD {G:Gx} {T:Tb} (h:tbk G.K T=true) (hd:∀f D,(f,D) ∈ T.df->GDef G f D.names D.nm D.b D.dm):TbOk G T:=by
 unfold tbk at h;simp only [Bool.and_eq_true,all_eq_true] at h;haveI Z1:=h;clear h;haveI h1:=(zl (zl (zl (zl (zl (zl (zl (zl (zl (zl (zl (zl (zl Z1)))))))))))));haveI h2:=(zr (zl (zl (zl (zl (zl (zl (zl (zl (zl (zl (zl (zl Z1)))))))))))));haveI h3:=(zr (zl (zl (zl (zl (zl (zl (zl (zl (zl (zl (zl Z1))))))))))));haveI h4:=(zr (zl (zl (zl (zl (zl (zl (zl (zl (zl (zl Z1)))))))))));haveI h5:=(zr (zl (zl (zl (zl (zl (zl (zl (zl (zl Z1))))))))));haveI h6:=(zr (zl (zl (zl (zl (zl (zl (zl (zl Z1)))))))));haveI h7:=(zr (zl (zl (zl (zl (zl (zl (zl Z1))))))));haveI h8:=(zr (zl (zl (zl (zl (zl (zl Z1)))))));haveI h9:=(zr (zl (zl (zl (zl (zl Z1))))));haveI h10:=(zr (zl (zl (zl (zl Z1)))));haveI h11:=(zr (zl (zl (zl Z1))));haveI h12:=(zr (zl (zl Z1)));haveI h13:=(zr (zl Z1));haveI h14:=(zr Z1);clear Z1;refine ⟨fun g f q=>GFn.of (h1 _ q),hd,fun g C fI q=>GCls.of (h2 _ q),fun C n f q=>GMth.of (h3 _ q),fun C n q=>⟨GAtt.of (h4 _ q).1,GSto.of (h4 _ q).2⟩,fun g C q=>⟨_,GExc.of (h5 _ q)⟩,fun x v q=>(h8 _ q |> valk.out),fun g k q=>⟨frek.out (h9 _ q).1,of_decide_eq_true (h9 _ q).2⟩,fun N t q=>?_,frek.out h11,frek.out h12,fun a ys q=>glk.out (h13 _ q)⟩
 . haveI Z2:=h10 _ q;haveI e1:=(zl Z2);haveI e2:=(zr Z2);clear Z2;refine ⟨frek.out e1,?_⟩;unfold tykk at e2;rcases Bool.or_eq_true_iff.mp e2 with e | e
   . haveI Z3:=zba e;haveI a1:=(zl Z3);haveI a2:=(zr Z3);clear Z3;haveI a1:N="int":=of_decide_eq_true a1;haveI a2:t="int":=of_decide_eq_true a2;rw [a1,a2];exact ⟨ynd,by decide⟩
   . haveI Z4:=zba e;haveI a1:=(zl Z4);haveI a2:=(zr Z4);clear Z4;haveI a1:N="str":=of_decide_eq_true a1;haveI a2:t="str":=of_decide_eq_true a2;rw [a1,a2];exact ⟨yfc,by decide⟩
theorem yhu {pts:List (Int×Int)} {n k:Nat} (h:k<n):(pts.take n).getD k (0,0)=pts.getD k (0,0):=by
 rw [getD_eq_getElem?_getD,getD_eq_getElem?_getD,List.getElem?_take_of_lt h]
section
variable {G:Gx} {C CE:Addr}
end
noncomputable def sdiv (x:Int):List Int->List Int
 | []=>[]
 | [_]=>[]
 | _ :: b :: r=>pz (b :: r) x :: sdiv x (b :: r)
theorem yka {x a b:Int} {r:List Int}:sdiv x (a :: b :: r)=pz (b :: r) x :: sdiv x (b :: r):=rfl
theorem yj4 (x:Int):∀(a:Int) (l:List Int),(sdiv x (a :: l)).length=l.length
 | _,[]=>rfl
 | _,b :: r=>by rw [yka,length_cons,yj4 x b r,length_cons]
theorem yle (x t:Int):∀(a:Int) (l:List Int),pz (a :: l) t=(t - x)*pz (sdiv x (a :: l)) t+pz (a :: l) x
 | a,[]=>by simp [show sdiv x [a]=[] from rfl,pz]
 | a,b :: r=>by
   rw [yka,yan a,yan a,yan (pz (b :: r) x),yle x t b r];generalize pz (sdiv x (b :: r)) t=S;generalize pz (b :: r) x=P;grind
theorem yii {p x:Int}:∀(a:Int) (l:List Int),(∀c ∈ sdiv x (a :: l),Cg p c 0)->Cg p (pz (a :: l) x) 0->∀c ∈ a :: l,Cg p c 0:=@fun zd1 zd2=>@(match zd1,zd2 with
 | a,[]=>fun zz h c hc=>by
   rw [mem_singleton] at hc;subst hc;simpa [pz] using h
 | a,b :: r=>fun hs h c hc=>by
   rw [yka] at hs;have h1:Cg p (pz (b :: r) x) 0:=hs _ (List.mem_cons_self ..);rcases zmc hc with rfl | hc
   . rw [yan] at h;have:=h.sub (h1.mul (Cg.rfl (a:=x)));rw [Int.zero_mul,Int.sub_zero] at this;exact (Cg.of (by lia)).trans this
   . exact yii b r (fun c hc=>hs c (List.mem_cons_of_mem _ hc)) h1 c hc)
theorem Fer.cancel {p a b:Int} (F:Fer p) (ha:a % p≠0) (h:Cg p (a*b) 0):Cg p b 0:=by
 refine Cg.zero.mpr (Decidable.byContradiction fun q=>?_);exact F.mul ha q (Cg.zero.mp h)
theorem yqw {p:Int} (F:Fer p):∀(xs l:List Int),l.length<=xs.length->xs.Pairwise (fun x y=>(y - x) % p≠0)->(∀x ∈ xs,Cg p (pz l x) 0)->∀c ∈ l,Cg p c 0:=@fun zd1 zd2=>@(match zd1,zd2 with
 | _,[]=>fun zz zz zz c hc=>by cases hc
 | [],a :: l=>fun h zz zz zz zz=>by exact absurd h (Nat.not_lt_zero _)
 | x :: xs,a :: l=>fun h hd hz c hc=>by
   haveI h0:=hz x (List.mem_cons_self ..);refine yii a l (yqw F xs (sdiv x (a :: l)) (by rw [yj4];exact Nat.le_of_succ_le_succ h) (pairwise_cons.mp hd).2 fun y hy=>?_) h0 c hc;haveI h1:=hz y (List.mem_cons_of_mem _ hy);rw [yle x y] at h1;haveI h2:=h1.sub h0;rw [Int.add_sub_cancel,Int.sub_zero] at h2;exact F.cancel ((pairwise_cons.mp hd).1 y hy) h2)
theorem ylv (x:Int):∀(a b:List Int),a.length=b.length->pz (List.zipWith (· - ·) a b) x=pz a x - pz b x:=@fun zd1 zd2=>@(match zd1,zd2 with
 | [],[]=>fun zz=>rfl
 | a :: l,b :: r=>fun h=>by
   rw [List.zipWith_cons_cons,yan,yan,yan,ylv x l r (by exact Nat.succ.inj h)];grind
 | [],_ :: _=>fun h=>by cases h
 | _ :: _,[]=>fun h=>by cases h)
theorem yk9 {p:Int}:∀(a b:List Int),a.length=b.length->Bd p a->Bd p b->(∀c ∈ List.zipWith (· - ·) a b,Cg p c 0)->a=b:=@fun zd1 zd2=>@(match zd1,zd2 with
 | [],[]=>fun zz zz zz zz=>rfl
 | a :: l,b :: r=>fun h ha hb hz=>by
   haveI h1:Cg p (a - b) 0:=hz _ (by exact .head _);haveI h2:=h1.add (Cg.rfl (a:=b));rw [Int.sub_add_cancel,Int.zero_add] at h2;haveI h3:=h2.small (ha a (by exact .head _)) (hb b (by exact .head _));rw [h3,yk9 l r (by exact Nat.succ.inj h) (fun x hx=>ha x (by simp [hx])) (fun x hx=>hb x (by simp [hx])) fun c hc=>hz c (by simp [hc])]
 | [],_ :: _=>fun h zz zz zz=>by cases h
 | _ :: _,[]=>fun h zz zz zz=>by cases h)
theorem ymc {p:Int} (F:Fer p) {xs a b:List Int} (hl:a.length=b.length) (hx:a.length<=xs.length) (hd:xs.Pairwise (fun x y=>(y - x) % p≠0)) (ha:Bd p a) (hb:Bd p b) (h:∀x ∈ xs,pval p a x=pval p b x):a=b:=by
 refine yk9 a b hl ha hb (yqw F xs _ (by simp;lia) hd fun x hx=>?_);rw [ylv x a b hl];have h1:=(ycs p a x).symm.sub (ycs p b x).symm;rw [h x hx,Int.sub_self] at h1;exact h1
noncomputable def yd4 (n:Nat) (l:List Int):List Int:=l++List.replicate (n - l.length) 0
theorem yfg {n:Nat} {l:List Int} (h:l.length<=n):(yd4 n l).length=n:=by simp [yd4];exact yl0 h
theorem ym5 (x:Int) (m:Nat):∀l:List Int,pz (l++List.replicate m 0) x=pz l x:=by
 intro zd
 induction zd with
 | nil=>
  exact by rw [nil_append,yop];rfl
 | cons a l zih=>
  exact by rw [cons_append,yan,yan,zih]
theorem yig {p:Int} (hp:0<p) {n:Nat} {l:List Int} (x:Int):pval p (yd4 n l) x=pval p l x:=by
 refine Cg.small ?_ (ybh hp _ _) (ybh hp _ _);refine (ycs p _ x).trans ?_;unfold yd4;rw [ym5];exact (ycs p _ x).symm
theorem yju {p:Int} (hp:0<p) {n:Nat} {l:List Int} (h:Bd p l):Bd p (yd4 n l):=fun x hx=>by
 rcases zma hx with q | q
 . exact h x q
 . rw [List.eq_of_mem_replicate q];exact yq9 hp
theorem ys3 {p:Int} (hp:0<p) (pts:List (Int×Int)):∀n:Nat,Bd p (tsum p pts n):=by
 intro zd;cases zd with
 | zero=>
  exact fun x hx=>by simp [tsum] at hx
 | succ n=>
  exact by unfold tsum;rw [yah];exact ysn hp
theorem yt3 {p:Int} (hp:0<p) (pts:List (Int×Int)):Bd p (thr p pts):=(ys3 hp pts _).trim
theorem yth {p:Int} (F:Fer p) {pts:List (Int×Int)} {row:List Int} (hl:row.length=pts.length) (hb:Bd p row) (hd:∀i j,i<pts.length->j<pts.length->i≠j->(px pts i - px pts j) % p≠0)
   (h:∀k,k<pts.length->py pts k=pval p row (px pts k)):yd4 pts.length (thr p pts)=row:=by
 have hp:0<p:=by have:=F.two;exact yc9 this
 refine ymc F (xs:=(List.range pts.length).map (px pts)) (by rw [yfg (ygx p pts),hl]) (by rw [yfg (ygx p pts)];simp) ?_ (yju hp (yt3 hp pts)) hb ?_
 . rw [pairwise_map];refine List.Pairwise.imp_of_mem (R:=(· < ·)) (fun {a b} ha hb hlt=>hd b a (mem_range.mp hb) (mem_range.mp ha) (Nat.ne_of_gt hlt)) List.pairwise_lt_range
 . intro x hx;obtain ⟨k,hk,rfl⟩:=mem_map.mp hx;have hk:=mem_range.mp hk;rw [yig hp,yrm F hd hk,h k hk];exact Int.emod_eq_of_lt (ybh hp _ _).1 (ybh hp _ _).2
noncomputable def un (vs:List MV):Option (MV×List MV):=match vs with
 | v :: r=>some (v,r)
 | []=>none
noncomputable def unN (vs:List MV):Option Unit:=match vs with
 | []=>some ()
 | _ :: _=>none
noncomputable def gB {α:Type} (b:Bool) (o:Option α):Option α:=match b with
 | true=>o
 | false=>none
noncomputable def oraNeed (vs:List MV) (_:MH):Option (Prop×MV):=
 (un vs).bind fun a=>(vInt a.1).bind fun v=>(un a.2).bind fun b=>(vInt b.1).bind fun lo=>(un b.2).bind fun c=>(vInt c.1).bind fun hi=>(un c.2).bind fun d=>(vStr d.1).bind fun _=>(unN d.2).bind fun _=>some (lo<=v/\v<=hi,.int v)
noncomputable def oraName (vs:List MV) (_:MH):Option (Prop×MV):=
 (un vs).bind fun a=>(vStr a.1).bind fun x=>(unN a.2).bind fun _=>some (okN x=true,.str x)
noncomputable def primeF (fs:List (Str×MV)):Option Int:=match fs with
 | e :: r=>match r with
   | []=>gB (e.1=="prime") (vInt e.2)
   | _ :: _=>none
 | []=>none
noncomputable def primeR (H:MH) (v:MV):Option Int:=(insX H v).bind fun q=>gB (Nat.beq q.2.1 yaj) (primeF q.2.2.2)
noncomputable def oraIs (vs:List MV) (H:MH):Option (Prop×MV):=
 (un vs).bind fun a=>(vRef a.1).bind fun i=>(un a.2).bind fun b=>(vInt b.1).bind fun v=>(unN b.2).bind fun _=>(fldR tb21 H (.ref i) "prime").bind fun q=>(vInt q).bind fun p=>some (0<=v/\v<p,.bool true)
noncomputable def oraValue (vs:List MV) (H:MH):Option (Prop×MV):=
 (un vs).bind fun a=>(vRef a.1).bind fun i=>(un a.2).bind fun b=>(vRef b.1).bind fun r=>(un b.2).bind fun c=>(vInt c.1).bind fun x=>(unN c.2).bind fun _=>(primeR H (.ref i)).bind fun p=>(objX asL H (.ref r)).bind fun q=>
   some (q.2=intL (ybc q.2)/\2<=p/\p<2 ^ 60,.int (pval p (ybc q.2) x))
def oraTrim (vs:List MV) (H:MH) (Q:MO->Prop):Prop:=
 goO (un vs) fun a=>goO (vRef a.1) fun r=>goO (unN a.2) fun _=>goO (objX asL H (.ref r)) fun q=>goO (intsOf q.2) fun row=>goB (Nat.ble (lenX row) 1000) (Q (.list (intL (trim row))))
noncomputable def dict0 (H:MH) (t:MV):Option (List (Str×MV)):=
 (fldR tb21 H t "parties").bind fun ps=>(subR H ps (.int 0)).bind fun q=>(fldR tb21 H q "shares").bind fun r=>(objX asDS H r).bind fun p=>gB (Nat.beq p.1 p.2.1) (some p.2.2)
noncomputable def oraFresh (vs:List MV) (H:MH):Option (Prop×MV):=
 (un vs).bind fun a=>(un a.2).bind fun b=>(vStr b.1).bind fun x=>(unN b.2).bind fun _=>(dict0 H a.1).bind fun es=>some (okN x=true/\yas es x=none,.none)
noncomputable def oraThere (vs:List MV) (H:MH):Option (Prop×MV):=
 (un vs).bind fun a=>(un a.2).bind fun b=>(vStr b.1).bind fun x=>(unN b.2).bind fun _=>(dict0 H a.1).bind fun es=>some ((yas es x).isSome=true,.none)
noncomputable def tbo (c:Nat):Tb:={ tb21 with op:=8+3*c }
noncomputable def md21:List (Addr×Md):=[(yb5,.ora oraNeed),(yb0,.ora oraName),(ybb,.ora oraIs),(yfh,.ora oraValue),(ybp,.ora oraFresh),(ybo,.ora oraThere),(yd5,.orn oraTrim),(yi9,.force),(yk3,.force),(ykw,.force),(ygr,.force)]
noncomputable def pty (e:Nat->List (Str×MV)) (k:Nat):MH:=[.ns [("place",.int ((k:Nat)+1:Nat)),("shares",.ref (9+3*k))],.inst ydf (7+3*k),.dS (9+3*k) (e k)]
noncomputable def hP (p t c:Nat) (st n:Int) (e:Nat->List (Str×MV)):MH:=
 .list [.int 11,.int 101] :: .ns [("prime",.int p)] :: .inst yaj 1 :: .ns [("state",.int st),("drawn",.int n)] :: .inst ycz 3 ::
   .ns [("field",.ref 2),("needed",.int t),("source",.ref 4),("parties",.ref (7+3*c)),("books",.ref (8+3*c))] :: .inst yaa 5 ::
   ((List.range c).flatMap (pty e)++[.list ((List.range c).map fun k=>.ref (8+3*k))])
noncomputable def h21 (p t c:Nat) (st n:Int) (e:Nat->List (Str×MV)) (gs:List MV):MH:=hP p t c st n e++[.list gs]
def noX (_:Addr) (_:List MV) (_:MH):Prop:=False
def tk (c:Nat) (q:MV->MH->Prop) (v:MV) (H:MH):Prop:=q v (H.take (9+3*c))
section
variable (p:Nat)
noncomputable def nx (s:Int):Int:=(s*1103515245+12345) % 2147483648
noncomputable def dr (s:Int):Int:=(nx s).fdiv (2 ^ 9) % (p:Int)
def drawsN:Nat->Int->Prop->Prop
 | 0,_,X=>X
 | m+1,st,X=>Need ((1:Int)<=p/\(p:Int)<=1048576)<|Need (IntMulOk st 1103515245)<|drawsN m (nx st) X
noncomputable def yc8:Nat->Int->List Int
 | 0,_=>[]
 | m+1,st=>dr p st :: yc8 m (nx st)
noncomputable def stN:Nat->Int->Int
 | 0,st=>st
 | m+1,st=>stN m (nx st)
noncomputable def nN:Nat->Int->Int
 | 0,n=>n
 | m+1,n=>nN m (n+1)
def valN (M:List MV) (X:Prop):Prop:=Need (M=intL (ybc M)/\(2:Int)<=p/\(p:Int)<2 ^ 60) X
def valsN (M:List MV):Nat->Prop->Prop
 | 0,X=>X
 | m+1,X=>valN p M (valsN M m X)
def shN:List (Int×Int)->Prop->Prop
 | [],X=>X
 | (x,y) :: r,X=>Need (0<=x/\x<=(p:Int) - 1)<|Need (0<=y/\y<=(p:Int) - 1)<|shN r X
def mulsN (f:Int):List Int->Prop->Prop
 | [],X=>X
 | a :: r,X=>Need (IntMulOk a f)<|mulsN f r X
def lowsN (pts:List (Int×Int)) (i:Nat):List Nat->Prop->Prop
 | [],X=>X
 | j :: r,X=>match decide (j=i) with
   | true=>lowsN pts i r X
   | false=>Need (IntMulOk (tlow p pts i j) (px pts i - px pts j))<|lowsN pts i r X
def thrN (pts:List (Int×Int)):List Nat->Prop->Prop
 | [],X=>X
 | i :: r,X=>lowsN p pts i (List.range pts.length)<|Need (IntMulOk (py pts i) (tlow p pts i pts.length ^ ((p:Int) - 2).toNat % (p:Int)))<|mulsN (tfac p pts i) (trow p pts i pts.length)<|thrN pts r X
def chkN (B:Prop) (l:List Int):List (Int×Int)->Prop->Prop
 | [],X=>X
 | (x,y) :: r,X=>valN p (intL l)<|iteW (!decide (pval p (ybc (intL l)) x=y)) B<|chkN B l r X
def vaN (B:Prop) (pts:List (Int×Int)) (n:Nat) (X:Prop):Prop:=shN p pts<|Need ((1:Int)<=n/\(n:Int)<=200)<|thrN p (pts.take n) (List.range (pts.take n).length) <|
 chkN p B (thr p (pts.take n)) (pts.drop n)<|valN p (intL (thr p (pts.take n))) X
def needIs:List Int->Prop->Prop
 | [],X=>X
 | v :: r,X=>Need (0<=v/\v<(p:Int))<|needIs r X
def dealN (t c:Nat) (st a:Int) (X:Prop):Prop:=Need ((1:Int)<=c/\(c:Int)<=min 200 ((p:Int) - 1))<|Need ((1:Int)<=t/\(t:Int)<=c)<|Need (0<=a/\a<=(p:Int) - 1)<|drawsN p (t - 1) st<|valsN p (intL (a :: yc8 p (t - 1) st)) c X
def lensN (e:Nat->List (Str×MV)):List Nat->Prop->Prop
 | [],X=>X
 | k :: r,X=>Need ((e k).length<=1000000)<|lensN e r X
def getN (es:List (Str×MV)) (x:Str) (X:Int->Prop):Prop:=∃i:Int,yas es x=some (.int i)/\X i
def yl5 (e:Nat->List (Str×MV)) (x:Str):List Nat->List Int->(List Int->Prop)->Prop
 | [],l,X=>X l
 | k :: r,l,X=>getN (e k) x fun i=>yl5 e x r (l++[i]) X
end
section
variable (p t c:Nat) (st n:Int) (e:Nat->List (Str×MV)) (gs:List MV) (q:MV->MH->Prop) (name one two:Str) (kn:Int)
noncomputable def e1 (g:Nat->Int) (k:Nat):List (Str×MV):=putD (e k) name (.int (g k))
def fresh (X:Prop):Prop:=Need (okN name=true/\yas (e 0) name=none) X
def there (x:Str) (X:Prop):Prop:=Need ((yas (e 0) x).isSome=true) X
noncomputable def shr (a:Int) (st:Int) (k:Nat):Int:=pval p (a :: yc8 p (t - 1) st) (((k+1:Nat)):Int)
def ylw:Prop:=fresh e name<|dealN p t c st kn<|lensN e (List.range c)<|q .none (h21 p t c (stN (t - 1) st) (nN (t - 1) n) (e1 e name (shr p t kn st)) gs)
def ym3:List Nat->(Nat->Int)->((Nat->Int)->Prop)->Prop
 | [],g,X=>X g
 | k :: r,g,X=>getN (e k) one fun i=>getN (e k) two fun j=>Need ((e k).length<=1000000)<|ym3 r (fun m=>if m=k then (i+j) % (p:Int) else g m) X
def oneN (W:Int->Prop->Prop) (f:Int->Int):List Nat->(Nat->Int)->((Nat->Int)->Prop)->Prop
 | [],g,X=>X g
 | k :: r,g,X=>getN (e k) one fun i=>W i<|Need ((e k).length<=1000000)<|oneN W f r (fun m=>if m=k then f i else g m) X
def ylb:Prop:=fresh e name<|there e one<|there e two<|ym3 p e one two (List.range c) (fun _=>0) fun g=>q .none (h21 p t c st n (e1 e name g) gs)
def yia:Prop:=fresh e name<|there e one<|Need (0<=kn/\kn<=(p:Int) - 1)<|oneN e one (fun i X=>Need (IntMulOk kn i) X) (fun i=>kn*i % (p:Int)) (List.range c) (fun _=>0) fun g=>q .none (h21 p t c st n (e1 e name g) gs)
def yh9:Prop:=fresh e name<|there e one<|Need (0<=kn/\kn<=(p:Int) - 1)<|oneN e one (fun i X=>X) (fun i=>(kn+i) % (p:Int)) (List.range c) (fun _=>0) fun g=>q .none (h21 p t c st n (e1 e name g) gs)
def ys4:Prop:=Need ((1:Int)<=c/\(c:Int)<=min 200 ((p:Int) - 1))<|Need ((1:Int)<=t/\(t:Int)<=c)<|q .none (h21 p t c st n (fun _=>[]) [])
noncomputable def hI (p:Nat) (st n:Int):MH:=[.list [.int 11,.int 101],.ns [("prime",.int p)],.inst yaj 1,.ns [("state",.int st),("drawn",.int n)],.inst ycz 3,.ns [],.inst yaa 5]
noncomputable def xs (c:Nat):List Int:=(List.range c).map fun k=>(((k+1:Nat)):Int)
def ykf:Prop:=there e name<|yl5 e name (List.range c) [] fun l=>vaN p False ((xs c).zip l) t (q (.int (pval p (ybc (intL (thr p (((xs c).zip l).take t)))) 0)) (h21 p t c st n e gs))
noncomputable def wt:Nat->List Int
 | 0=>[]
 | 1=>[1]
 | 2=>[2,(p:Int) - 1]
 | 3=>[3,(p:Int) - 3,1]
 | _=>[4,(p:Int) - 6,4,(p:Int) - 1]
noncomputable def blk (F:Nat->Nat->Int):MH:=
 .ns [("kind",.str "product"),("prime",.int p),("needed",.int t),("places",.ref (11+3*c)),("dealers",.ref (12+3*c)),("messages",.ref (13+3*c))] :: .inst yc7 (9+3*c) :: .list (intL (xs c)) :: .list (intL (xs c)) ::
   .list ((List.range c).flatMap fun k=>(List.range c).map fun m=>.ref (14+3*c+k*c+m)) ::
   (((List.range c).flatMap fun k=>(List.range c).map fun m=>.tup [.int 1,.int (((k+1:Nat)):Int),.int (((m+1:Nat)):Int),.int (F k m)])++[.tup [.str name,.ref (10+3*c)]])
noncomputable def bpos:List Nat:=[1,2,3,4,5]++((List.range c).flatMap fun k=>(List.range c).map fun m=>11+c+k*(2*c+5)+m)++[6+c*(4*c+13)]
noncomputable def bph (i:Nat):Nat:=match Nat.ble (9+3*c) i with
 | true=>9+3*c+(bpos c).getD (i - (9+3*c)) 0
 | false=>i
noncomputable def brV:MV->MV
 | .ref a=>.ref (bph c a)
 | v=>v
noncomputable def brO:MO->MO
 | .list xs=>.list (xs.map (brV c))
 | .tup xs=>.tup (xs.map (brV c))
 | .inst C d=>.inst C (bph c d)
 | .ns fs=>.ns (fs.map fun p=>(p.1,brV c p.2))
 | o=>o
def tkB (q:MV->MH->List (Option MO)->Prop) (v:MV) (H:MH):Prop:=q v (H.take (9+3*c)) ((bpos c).map fun i=>at' H (9+3*c+i))
def mulN:List Nat->Int->Int->List (List Int)->(Int->Int->List (List Int)->Prop)->Prop
 | [],s,m,R,X=>X s m R
 | k :: r,s,m,R,X=>getN (e k) one fun i=>getN (e k) two fun j=>Need (IntMulOk i j)<|dealN p t c s (i*j % (p:Int))<|mulN r (stN (t - 1) s) (nN (t - 1) m) (R++[(i*j % (p:Int)) :: yc8 p (t - 1) s]) X
noncomputable def fun2 (R:List (List Int)) (k m:Nat):Int:=pval p (R.getD k []) (((m+1:Nat)):Int)
noncomputable def colN (F:Nat->Nat->Int) (m:Nat):List Int:=(List.range c).map fun k=>F k m
def mul2N:List Int->List Int->Prop->Prop
 | a :: r,b :: s,X=>Need (IntMulOk a b)<|mul2N r s X
 | _,_,X=>X
noncomputable def gat (F:Nat->Nat->Int) (m:Nat):Int:=(List.zipWith (·*·) (wt p c) (colN c F m)).sum % (p:Int)
def ym6 (F:Nat->Nat->Int) (e:Nat->List (Str×MV)):List Nat->Prop->Prop
 | [],X=>X
 | m :: r,X=>needIs p (colN c F m)<|mul2N (wt p c) (colN c F m)<|Need ((e m).length<=1000000)<|ym6 F e r X
def ylr (q:MV->MH->List (Option MO)->Prop):Prop:=fresh e name<|there e one<|there e two<|Need (IntMulOk 2 t)<|mulN p t c e one two (List.range c) st n [] fun s m R=>
 ym6 p c (fun2 p R) e (List.range c)<|Need (gs.length<=1000000) <|
   q (.ref (11+3*c)) (h21 p t c s m (e1 e name (gat p c (fun2 p R))) (gs++[.ref (15+3*c+c*(4*c+13))])) ((blk p t c name (fun2 p R)).map fun o=>some (brO c o))
noncomputable def hC (F:Nat->Nat->Int):MH:=h21 p t c st n e gs++blk p t c name F
def tkC (q:List MV->MH->Prop) (v:MV) (H:MH):Prop:=goO (objX asL H v) fun p=>goB (Nat.ble (15+3*c+c*c) p.1) (q p.2 (H.take (15+3*c+c*c)))
noncomputable def rowF (F:Nat->Nat->Int) (k:Nat):List Int:=(List.range c).map (F k)
noncomputable def ptsF (F:Nat->Nat->Int) (k:Nat):List (Int×Int):=(xs c).zip (rowF c F k)
def fltN (F:Nat->Nat->Int):List Nat->Prop->Prop
 | [],X=>X
 | k :: r,X=>needIs p (rowF c F k)<|thrN p (ptsF c F k) (List.range (ptsF c F k).length)<|Need ((intL (thr p (ptsF c F k))).length<=1000000)<|Need (decide ((((intL (thr p (ptsF c F k))).length:Nat):Int) > (t:Int))=false)<|fltN F r X
def chkL (F:Nat->Nat->Int):List Nat->Prop->Prop
 | [],X=>X
 | k :: r,X=>needIs p (rowF c F k)<|thrN p ((ptsF c F k).take t) (List.range ((ptsF c F k).take t).length)<|getN (e k) one fun i=>getN (e k) two fun j=>Need (IntMulOk i j) <|
   Need (intL (thr p ((ptsF c F k).take t))=intL (ybc (intL (thr p ((ptsF c F k).take t))))/\(intL (thr p ((ptsF c F k).take t))).length<=1000000)<|Need ((!decide ((ybc (intL (thr p ((ptsF c F k).take t)))).headD 0=i*j % (p:Int)))=false) <|
   getN (e k) name fun v=>needIs p (colN c F k)<|mul2N (wt p c) (colN c F k)<|Need ((!decide (v=gat p c F k))=false)<|chkL F r X
def ylq (F:Nat->Nat->Int) (q:List MV->MH->Prop):Prop:=there e name<|there e one<|there e two<|needIs p ((List.range c).flatMap (rowF c F))<|Need ((2:Int)<=p/\(p:Int)<=1048576) <|
 fltN p t c F (List.range c)<|chkL p t c e name one two F (List.range c)<|q [] (hC p t c st n e gs name F)
end
noncomputable def yc4:List Str:=["text","sign"]
noncomputable def ydq:CSs:=(.cons (.ite (.or (.cons (.cmp .IsNot (.call "type" (.cons (.loc 0) .nil)) (.glob "str")) (.cons (.cmp .Eq (.loc 0) (.str "")) (.cons (.cmp .Gt (.call "len" (.cons (.loc 0) .nil)) (.int 9)) .nil)))) (.cons (.raise "ShareError" (.cons (.bin .Add (.str "no number: ") (.call "shown" (.cons (.loc 0) .nil))) .nil))
 .nil) .nil)
 (.cons (.for [1] (.loc 0) (.cons (.ite (.cmp .NotIn (.loc 1) (.glob "DIGITS")) (.cons (.raise "ShareError" (.cons (.bin .Add (.str "no number: ") (.call "shown" (.cons (.loc 0) .nil))) .nil))
 .nil) .nil)
 .nil))
 (.cons (.ret (.call "int" (.cons (.loc 0) .nil)))
 .nil)))
theorem frN.mk:∀{n:Nat} {k:Nat->Prop},k n->frN n k:=by
 intro zd;cases zd with
 | zero=>
  exact fun {zz} h=>h
 | succ _=>
  exact fun {zz} h=>h
theorem frI.mk {i:Int} {k:Int->Prop} (h:k i):frI i k:=by
 cases i with
 | ofNat n=>exact frN.mk (k:=fun n=>k (.ofNat n)) h
 | negSucc n=>exact frN.mk (k:=fun n=>k (.negSucc n)) h
theorem goI {v:Int} {k:MV->Prop} (h:k (.int v)):goB true (goO (some v) fun i=>frV true (.int i) fun u=>k u):=frI.mk (k:=fun i=>k (.int i)) h
theorem ykm:("0123456789":Str).cps.toList=[48,49,50,51,52,53,54,55,56,57]:=by kernel_rfl
theorem ygg {G:Gx} {prog:Program} {w:World} {f:Addr} {x:Str} {v:Int} {H:MH} {xp:Addr->List MV->MH->Prop} (D:GDef G f ["text"] yc4 ydq []) (bs:Bs G) (gd:Glb G "DIGITS" (.str "0123456789"))
   (h0:1<=x.length) (hl:x.length<=9) (hd:∀ch ∈ x.cps.toList,48<=ch/\ch<=57) (hv:PySem.intText? x=some v):CL G prog w 2 f [.str x] H (fun r H'=>r=.int v/\H'=H) xp:=by
 refine D.cl rfl ?_;intro c e1 e2 ok hfm hint hnm hX;show TB c [some (.str x),none] _ _ _;unfold ydq;refine TB.cons (TS.ite (TT.or (TTs.or (TT.tyAny (N:="str") (T':="str") ok bs.type (.inr ⟨rfl,rfl⟩) bs.str yfc (by decide) ?_))));with_reducible (refine TE.loc ‹_› (by with_unfolding_all rfl) ?_)
 refine ⟨"str",rfl,dR (by first | exact nf1 | exact nf2) ?_⟩;with_reducible (refine TTs.or ?_;refine TT.cmp ?_;refine TE.loc ‹_› (by with_unfolding_all rfl) ?_;refine TE.str ?_)
 haveI hne:x≠"":=by
   intro e;rw [e] at h0;exact absurd h0 (by decide)
 refine ⟨false,by show false=decide (x="");simp [hne],dR (by first | exact nf1 | exact nf2) ?_⟩;with_reducible (refine TTs.or ?_;refine TT.cmp ?_;refine TE.len ‹_› ‹_› ?_;refine TE.loc ‹_› (by with_unfolding_all rfl) ?_)
 refine BC.lenS (by exact Nat.le_trans ‹_› (by decide)) ?_;with_reducible (refine TE.int ?_)
 refine ⟨false,by show false=decide ((x.length:Int) > 9);simp;exact Int.ofNat_le.mpr ‹_›,dR (by first | exact nf1 | exact nf2) ?_⟩;with_reducible (refine TTs.orNil ?_)
 refine (dR (by first | exact nf1 | exact nf2) ?_);with_reducible (refine TB.nil ?_)
 refine TB.cons (TS.forS ok hfm ?_);with_reducible (refine TE.loc ‹_› (by with_unfolding_all rfl) ?_)
 refine ⟨x,rfl,?_,fun i m1 H1=>∃o,m1=[some (.str x),o]/\H1=H,⟨_,rfl,rfl⟩,?_,?_⟩
 . rw [<-Array.all_toList,all_eq_true];intro ch hc;haveI:=hd ch hc;exact decide_eq_true (by lia)
 . rintro i m1 H2 ch xt ⟨o,rfl,rfl⟩ hch;haveI ok':=ok.wx xt;show TB (c.wx xt) [some (.str x),some (.str ⟨#[ch]⟩)] _ _ _;haveI hm:ch ∈ x.cps.toList:=by
     rw [Array.mem_toList_iff];exact Array.mem_of_getElem? hch
   haveI hb:=hd ch hm;haveI hin:ch ∈ ("0123456789":Str).cps.toList:=by
     rw [ykm];simp only [mem_cons,List.not_mem_nil,or_false];exact yq7 hb
   refine TB.cons (TS.ite (TT.cqNI (TE.loc ok' rfl ?_)));obtain ⟨vr,Z1⟩:=gd.out;haveI q1:=(zl Z1);haveI q2:=(zr Z1);clear Z1;refine TE.glob ok' q1 q2 ?_;refine ⟨_,Cq.ninS,?_,?_⟩
   . intro h;simp [hin] at h
   . intro _;exact TB.nil (TB.nil ⟨_,rfl,rfl⟩)
 . rintro m1 H2 ⟨o,rfl,rfl⟩;refine TB.cons (TS.ret (blt.out (f:=true) (k:=.int) ok bs.int (TEs.cons (TE.loc ok rfl (TEs.nil ?_)))));show goB (Nat.ble x.length 640) (goO (PySem.intText? x) fun i=>frV true (.int i) fun v=>_);rw [hv,show Nat.ble x.length 640=true from Nat.ble_eq_true_of_le (by exact Nat.le_trans ‹_› (by decide))];refine goI ?_;exact ⟨rfl,rfl⟩
theorem yk8 {ρ:List Addr}:∀{l:List (Str×Tok)},VRs ρ (strL (l.map (·.1))) (strValues l):=by
 intro zd
 induction zd with
 | nil=>
  exact rfl
 | cons zp0 l zih=>
  obtain ⟨x,t⟩:=zp0;exact ⟨_,_,rfl,⟨t,rfl⟩,zih⟩
section
variable {c:Cx} {m:ML} {H:MH} {G:Gx} {d:Nat}
theorem Mth.split {x:Str}:Mth c m H (.str x) "split" (fun vs H2 post=>∃y:Str,vs=[.str y]/\(y.length≠0/\x.length<=1000000)/\post (.ref H2.length) (H2++[.list (strL (Txt.split x y))])):=by
 refine ⟨fun a r post h=>?_⟩;rintro mr ρ s Q E _ pl pos args S lr ⟨t0,rfl⟩ hes k kx;refine GM.split ?_;haveI h4:=and2 hes;refine callWith_method1 ?_ (yav (ybi h4.1)) (ya0 h4.2);refine h _ _ hes mr ρ s _ E S lr ?_ kx;rintro t _ vrs H2 h2 tk2 ⟨y,rfl,⟨hy,hl⟩,hp⟩ ⟨vr,r,rfl,⟨u,rfl⟩,hr⟩ S2;haveI hr':r=[]:=hr;subst hr';refine S2.op fun ml xt os F a1 a2 a3 N a5 back=>?_;refine splitN1 (s:={ s with heap:=h2,toks:=tk2 }) F N (by exact beq_eq_false_iff_ne.mpr hy) (fun l h' k' ht F' N'=>?_) (Nat.le_trans (Nat.add_le_add_right hl 2) (by decide));haveI S3:=back _ _ _ (Led.alloc a1 a2 a3 a5 F' N' (fun p hp=>Nat.ne_of_lt (Heap.lt_size (N p hp).1)) (o:=.list (strL (Txt.split x y))) ⟨strValues l,0,by rw [<-ht];exact yk8,rfl⟩);haveI hg:=yag (ρ:=ρ++t) (l:=h2.objs.size) a2;rw [append_assoc] at S3 hg;exact k (t++[h2.objs.size]) (.ref H2.length) (.ref h2.objs.size) _ h' k' hp ⟨_,hg,rfl⟩ S3
end
section
open PySem.Builtin PySem.Builtin.Str PySem.StrLaws
noncomputable def spl (k:Nat):List Nat->List (List Nat)
 | []=>[[]]
 | a :: r=>if a=k then [] :: spl k r else match spl k r with
   | p :: q=>(a :: p) :: q
   | []=>[[a]]
noncomputable def jn (k:Nat):List (List Nat)->List Nat
 | []=>[]
 | [w]=>w
 | w :: v :: r=>w++k :: jn k (v :: r)
theorem ym7 {k a:Nat} {r p:List Nat} {q:List (List Nat)} (h:a≠k) (e:spl k r=p :: q):spl k (a :: r)=(a :: p) :: q:=by
 dsimp only [spl];rw [if_neg h,e]
theorem ytn {k:Nat}:∀{w r:List Nat},k ∉ w->spl k (w++k :: r)=w :: spl k r:=by
 intro zd
 induction zd with
 | nil=>
  exact fun {r} zz=>if_pos rfl
 | cons a w zih=>
  exact fun {r} h=>by
   have h1:a≠k:=fun q=>h (by simp [q]);have h2:k ∉ w:=fun q=>h (by simp [q]);exact ym7 h1 (zih h2)
theorem yps {k:Nat}:∀{w:List Nat},k ∉ w->spl k w=[w]:=by
 intro zd
 induction zd with
 | nil=>
  exact fun zz=>rfl
 | cons a w zih=>
  exact fun h=>by
   have h1:a≠k:=fun q=>h (by simp [q]);have h2:k ∉ w:=fun q=>h (by simp [q]);exact ym7 h1 (zih h2)
theorem yus {k:Nat}:∀{r:List (List Nat)} {w:List Nat},(∀v ∈ w :: r,k ∉ v)->spl k (jn k (w :: r))=w :: r:=by
 intro zd
 induction zd with
 | nil=>
  exact fun {w} h=>yps (h w (by exact .head _))
 | cons v r zih=>
  exact fun {w} h=>by
   show spl k (w++k :: jn k (v :: r))=_;rw [ytn (h w (by exact .head _)),zih fun u hu=>h u (List.mem_cons_of_mem _ hu)]
noncomputable def ych (k:Nat):Nat->List Nat->List Nat
 | _,[]=>[]
 | a,x :: r=>if x=k then a :: ych k (a+1) r else ych k (a+1) r
theorem occ1 (s sub:Str) (hi limit:Nat) (h1:sub.length=1):∀(m a:Nat) (st:Array Nat×Nat),st.2<=a->st.1.size+m<=limit->
   (forIn (List.range' a m) st (occBody s sub hi limit)).run.fst.toList=st.1.toList++(List.range' a m).filter (fun i=>decide (i+1<=hi) && subAt s sub i):=by
 intro zd
 induction zd with
 | zero=>
  exact fun a st zz zz=>by simp [List.range']
 | succ m zih=>
  exact fun a st h2 h3=>by
   rw [show List.range' a (m+1)=a :: List.range' (a+1) m from rfl,List.forIn_cons];unfold occBody;rw [List.filter_cons];split
   . rename_i hc;haveI e:(decide (a+1<=hi) && subAt s sub a)=true:=by
       rw [h1] at hc;rw [Bool.and_eq_true];exact ⟨decide_eq_true hc.1.2,hc.2⟩
     rw [if_pos e];haveI:=zih (a+1) (st.fst.push a,a+sub.length) (by show a+sub.length<=a+1;lia) (by simp;lia);unfold occBody at this;refine this.trans ?_;simp
   . rename_i hc;haveI e:¬(decide (a+1<=hi) && subAt s sub a)=true:=by
       intro q;simp only [Bool.and_eq_true,decide_eq_true_eq] at q;apply hc;rw [h1];exact ⟨⟨⟨by lia,h2⟩,q.1⟩,q.2⟩
     rw [if_neg e];haveI:=zih (a+1) st (by exact Nat.le_succ_of_le ‹_›) (by lia);unfold occBody at this;exact this
theorem yul {s:Str} {k i:Nat}:subAt s ⟨#[k]⟩ i=(s.cps.toList[i]?==some k):=by
 rw [subAt_eq];show ((s.cps.toList.drop i).take 1==[k])=_;cases h:s.cps.toList.drop i with
 | nil=>
   have:s.cps.toList[i]?=none:=by
     have:=List.drop_eq_nil_iff.mp h;exact List.getElem?_eq_none this
   rw [this];rfl
 | cons x r=>
   have:s.cps.toList[i]?=some x:=by
     have:=congrArg (·[0]?) h;simpa using this
   rw [this];show ([x]==[k])=(some x==some k);by_cases e:x=k <;> simp [e]
theorem yid {α:Type} {l:List α} {b:Nat} {x:α} {r:List α} (h:l.drop b=x :: r):l[b]?=some x/\l.drop (b+1)=r:=by
 constructor
 . have:=congrArg (·[0]?) h;simpa using this
 . rw [<-List.drop_drop,h];rfl
theorem filt {s:Str} {k:Nat}:∀(r:List Nat) (b m:Nat),s.cps.toList.drop b=r->b+m=s.length+1->(List.range' b m).filter (fun i=>decide (i+1<=s.length) && subAt s ⟨#[k]⟩ i)=ych k b r:=by
 intro zd
 induction zd with
 | nil=>
  exact fun b m h hm=>by
   haveI hb:s.length<=b:=by
     haveI:=List.drop_eq_nil_iff.mp h;simpa [Str.length] using this
   rw [List.filter_eq_nil_iff.mpr]
   . rfl
   . intro i hi;haveI:=List.mem_range'.mp hi;simp;lia
 | cons x r zih=>
  exact fun b m h hm=>by
   haveI Z1:=yid h;haveI h1:=(zl Z1);haveI h2:=(zr Z1);clear Z1;haveI hb:b<s.length:=by
     haveI:=(zgs h1).1;simpa [Str.length] using this
   obtain ⟨m,rfl⟩:∃m',m=m'+1:=⟨m - 1,by lia⟩;rw [show List.range' b (m+1)=b :: List.range' (b+1) m from rfl,List.filter_cons,zih (b+1) m h2 (by lia),yul,h1];rw [show ych k b (x :: r)=if x=k then b :: ych k (b+1) r else ych k (b+1) r from rfl];haveI hd:decide (b+1<=s.length)=true:=decide_eq_true hb;rw [hd];by_cases e:x=k
   . subst e;simp
   . simp [e]
theorem yuw {s:Str} {k:Nat}:∀(r:List Nat) (a b:Nat),a<=b->s.cps.toList.drop b=r->∃p q,spl k r=p :: q/\partsFrom s 1 a (ych k b r)=⟨((s.cps.toList.drop a).take (b - a)++p).toArray⟩ :: q.map fun l=>⟨l.toArray⟩:=by
 intro zd
 induction zd with
 | nil=>
  exact fun a b hab h=>by
   refine ⟨[],[],rfl,?_⟩;haveI hb:=List.drop_eq_nil_iff.mp h;show [strSub s a s.length]=[_];haveI:strSub s a s.length=⟨((s.cps.toList.drop a).take (b - a)++[]).toArray⟩:=by
     apply Str.ext';apply Array.toList_inj.mp;rw [strSub_toList];haveI e1:(s.cps.toList.drop a).take (s.length - a)=s.cps.toList.drop a:=take_of_length_le (by simp [Str.length]);haveI e2:(s.cps.toList.drop a).take (b - a)=s.cps.toList.drop a:=take_of_length_le (by simp at hb ⊢;lia);rw [e1,e2];simp
   rw [this]
 | cons x r zih=>
  exact fun a b hab h=>by
   haveI Z1:=yid h;haveI h1:=(zl Z1);haveI h2:=(zr Z1);clear Z1;by_cases e:x=k
   . obtain ⟨p,q,Z2⟩:=zih (b+1) (b+1) (Nat.le_refl _) h2;haveI e1:=(zl Z2);haveI e2:=(zr Z2);clear Z2;refine ⟨[],spl k r,if_pos e,?_⟩;dsimp only [ych];rw [if_pos e];show strSub s a b :: partsFrom s 1 (b+1) (ych k (b+1) r)=_;rw [e2,e1];haveI:strSub s a b=⟨((s.cps.toList.drop a).take (b - a)++[]).toArray⟩:=by
       apply Str.ext';apply Array.toList_inj.mp;rw [strSub_toList];simp
     rw [this];simp
   . obtain ⟨p,q,Z3⟩:=zih a (b+1) (by exact Nat.le_succ_of_le ‹_›) h2;haveI e1:=(zl Z3);haveI e2:=(zr Z3);clear Z3;refine ⟨x :: p,q,ym7 e e1,?_⟩;dsimp only [ych];rw [if_neg e,e2];haveI:(s.cps.toList.drop a).take (b+1 - a)=(s.cps.toList.drop a).take (b - a)++[x]:=by
       rw [show b+1 - a=(b - a)+1 by lia,take_succ];haveI:(s.cps.toList.drop a)[b - a]?=some x:=by rw [getElem?_drop,show a+(b - a)=b by exact yl0 hab];exact h1
       rw [this];rfl
     rw [this,append_assoc];rfl
theorem yty {s:Str} {k:Nat} (hk:k<256):Txt.split s ⟨#[k]⟩=(spl k s.cps.toList).map fun l=>⟨l.toArray⟩:=by
 have occ:occurrences s ⟨#[k]⟩ 0 s.length (s.length+1)=ych k 0 s.cps.toList:=by
   rw [occ_eq];have:=occ1 s ⟨#[k]⟩ s.length (s.length+1) rfl (s.length+1 - 0) 0 (#[],0) (Nat.le_refl _) (by simp);refine this.trans ?_;show []++_=_;rw [nil_append];exact filt (s:=s) (k:=k) s.cps.toList 0 (s.length+1 - 0) rfl (by exact Nat.zero_add _)
 obtain ⟨p,q,e1,e2⟩:=yuw (s:=s) (k:=k) s.cps.toList 0 0 (Nat.le_refl _) rfl;have main:partsFrom s 1 0 (ych k 0 s.cps.toList)=(spl k s.cps.toList).map fun l=>⟨l.toArray⟩:=by rw [e2,e1];simp
 unfold Txt.split;split
 . rename_i h;have hz:s.length=0:=by
     rcases (Bool.or_eq_true _ _).mp h with h | h
     . have:s.length<1:=of_decide_eq_true h;exact qf33 this
     . exfalso;have h:=of_decide_eq_true h;have:Builtin.Str.strKind ⟨#[k]⟩=1:=by simp [Builtin.Str.strKind,hk]
       rw [this] at h;unfold Builtin.Str.strKind at h;split at h
       . exact absurd ‹_› (Nat.lt_irrefl _)
       . split at h <;> contradiction
   have:s.cps.toList=[]:=by
     apply eq_nil_of_length_eq_zero;simpa [Str.length] using hz
   rw [this];show [s]=[⟨#[]⟩];have:s=⟨#[]⟩:=by
     apply Str.ext';apply Array.toList_inj.mp;rw [this]
   rw [this]
 . split
   . rename_i h;rw [occ] at h;have hc:ych k 0 s.cps.toList=[]:=isEmpty_iff.mp h;rw [hc] at main;rw [<-main];show [s]=[strSub s 0 s.length];rw [sub_whole]
   . rw [occ,partsBetween_eq];exact main
theorem ysd {k:Nat}:∀{r:List (List Nat)} {w:List Nat},jn k (w :: r)=w++r.flatMap fun p=>k :: p:=by
 intro zd
 induction zd with
 | nil=>
  exact fun {w}=>by simp [show jn k [w]=w from rfl]
 | cons v r zih=>
  exact fun {w}=>by
   show w++k :: jn k (v :: r)=_;rw [zih];simp
theorem yfx {k:Nat}:∀(r:List Str) (acc:Array Nat),(r.foldl (fun (acc:Array Nat) (p:Str)=>acc++(⟨#[k]⟩:Str).cps++p.cps) acc).toList=acc.toList++(r.map (·.cps.toList)).flatMap fun p=>k :: p:=@fun zd1=>@(match zd1 with
 | []=>fun acc=>by exact (append_nil _).symm
 | p :: r=>fun acc=>by
   rw [foldl_cons,yfx];simp)
theorem yaz {k:Nat} {w:Str} {r:List Str}:(Txt.join ⟨#[k]⟩ (w :: r)).cps.toList=jn k ((w :: r).map (·.cps.toList)):=by
 show (r.foldl (fun (acc:Array Nat) (p:Str)=>acc++(⟨#[k]⟩:Str).cps++p.cps) w.cps).toList=_;rw [yfx];show _=jn k (w.cps.toList :: r.map (·.cps.toList));rw [ysd]
theorem yl9 {k:Nat} (hk:k<256) {w:Str} {r:List Str} (h:∀v ∈ w :: r,k ∉ v.cps.toList):Txt.split (Txt.join ⟨#[k]⟩ (w :: r)) ⟨#[k]⟩=w :: r:=by
 rw [yty hk,yaz,map_cons,yus]
 . rw [<-map_cons (f:=fun v:Str=>v.cps.toList),map_map];have:((fun l:List Nat=>(⟨l.toArray⟩:Str)) ∘ fun v:Str=>v.cps.toList)=_root_.id:=by
     funext v;show (⟨v.cps.toList.toArray⟩:Str)=v;simp
   rw [this,List.map_id]
 . intro v hv;rw [<-map_cons (f:=fun v:Str=>v.cps.toList)] at hv;obtain ⟨u,hu,rfl⟩:=mem_map.mp hv;exact h u hu
end
theorem ylp:∀{l:List Nat} {ws:List Str} {run:Str},(∀ch ∈ l,Unicode.isSpace ch=false)->l.foldl KWd.step (ws,run)=(ws,⟨run.cps++l.toArray⟩):=by
 intro zd
 induction zd with
 | nil=>
  exact fun {ws} {run} zz=>by rfl
 | cons ch r zih=>
  exact fun {ws} {run} h=>by
   rw [foldl_cons];have e:KWd.step (ws,run) ch=(ws,⟨run.cps++#[ch]⟩):=by
     unfold KWd.step;rw [if_neg (by rw [h ch (.head _)];exact Bool.false_ne_true)];rfl
   rw [e,zih fun c hc=>h c (.tail _ hc)];simp
theorem yoz:∀{r:List Str} {w:Str} {ws:List Str},(∀v ∈ w :: r,v.length≠0/\∀ch ∈ v.cps.toList,Unicode.isSpace ch=false)->KWd.fin ((jn 32 ((w :: r).map (·.cps.toList))).foldl KWd.step (ws,Str.empty))=ws++w :: r:=by
 intro zd
 induction zd with
 | nil=>
  exact fun {w} {ws} h=>by
   haveI Z1:=h w (.head _);haveI h1:=(zl Z1);haveI h2:=(zr Z1);clear Z1;show KWd.fin (w.cps.toList.foldl KWd.step (ws,Str.empty))=_;rw [ylp h2];haveI e:(⟨Str.empty.cps++w.cps.toList.toArray⟩:Str)=w:=by
     show (⟨#[]++w.cps.toList.toArray⟩:Str)=w;simp
   rw [e];unfold KWd.fin;rw [if_neg h1]
 | cons v r zih=>
  exact fun {w} {ws} h=>by
   haveI Z2:=h w (.head _);haveI h1:=(zl Z2);haveI h2:=(zr Z2);clear Z2;show KWd.fin ((w.cps.toList++32 :: jn 32 ((v :: r).map (·.cps.toList))).foldl KWd.step (ws,Str.empty))=_;rw [List.foldl_append,ylp h2,foldl_cons];haveI e:(⟨Str.empty.cps++w.cps.toList.toArray⟩:Str)=w:=by
     show (⟨#[]++w.cps.toList.toArray⟩:Str)=w;simp
   rw [e];haveI e2:KWd.step (ws,w) 32=(ws++[w],Str.empty):=by
     unfold KWd.step;rw [if_pos (show Unicode.isSpace 32=true by decide +kernel),if_neg h1]
   rw [e2,zih fun u hu=>h u (.tail _ hu),append_assoc];rfl
theorem ym4 {w:Str} {r:List Str} (h:∀v ∈ w :: r,v.length≠0/\∀ch ∈ v.cps.toList,Unicode.isSpace ch=false):Txt.words (Txt.join ⟨#[32]⟩ (w :: r))=w :: r:=by
 rw [KWd.words_scan];unfold KWd.scan;rw [yaz,yoz h];rfl
section
variable {c:Cx} {m:ML} {H:MH} {G:Gx} {d:Nat}
theorem Mth0.words {x:Str} {post:MV->MH->Prop} (hl:x.length<=1000000) (hp:post (.ref H.length) (H++[.list (strL (Txt.words x))])):Mth0 c m H (.str x) "split" post:=by
 refine ⟨?_⟩;rintro mr ρ s Q E _ pl pos args S lr ⟨t0,rfl⟩ hes k kx;refine GM.split ?_;refine callWith_method0 ?_;refine S.op fun ml xt os F a1 a2 a3 N a5 back=>?_;refine splitN0 F N (fun l h' k' ht F' N'=>?_) (Nat.le_trans (Nat.add_le_add_right hl 2) (by decide));have S3:=back _ _ _ (Led.alloc a1 a2 a3 a5 F' N' (fun p hp=>Nat.ne_of_lt (Heap.lt_size (N p hp).1)) (o:=.list (strL (Txt.words x))) ⟨strValues l,0,by rw [<-ht];exact yk8,rfl⟩);have hg:=yag (ρ:=ρ) (l:=s.heap.objs.size) a2;exact k [s.heap.objs.size] (.ref H.length) (.ref s.heap.objs.size) _ h' k' hp ⟨_,hg,rfl⟩ S3
end
noncomputable def ybz:List Str:=["text","out","line","words","known","kind"]
noncomputable def yep:CSs:=(.cons (.assign 3 (.meth (.loc 2) "split" .nil))
 (.cons (.ite (.cmp .Eq (.call "len" (.cons (.loc 3) .nil)) (.int 0)) (.cons CS.cont
 .nil) .nil)
 (.cons (.ite (.and (.cons (.cmp .Eq (.sub (.loc 3) (.int 0)) (.str "open")) (.cons (.cmp .Eq (.call "len" (.cons (.loc 3) .nil)) (.int 2)) .nil))) (.cons (.expr (.meth (.loc 1) "append" (.cons (.tup (.cons (.str "open") (.cons (.sub (.loc 3) (.int 1)) .nil))) .nil)))
 .nil) (.cons (.ite (.and (.cons (.cmp .Eq (.call "len" (.cons (.loc 3) .nil)) (.int 3)) (.cons (.cmp .Eq (.sub (.loc 3) (.int 1)) (.str "=")) .nil))) (.cons (.expr (.meth (.loc 1) "append" (.cons (.tup (.cons (.str "put") (.cons (.sub (.loc 3) (.int 0)) (.cons (.call "whole" (.cons (.sub (.loc 3) (.int 2)) .nil)) .nil)))) .nil)))
 .nil) (.cons (.ite (.and (.cons (.cmp .Eq (.call "len" (.cons (.loc 3) .nil)) (.int 5)) (.cons (.cmp .Eq (.sub (.loc 3) (.int 1)) (.str "=")) (.cons (.cmp .In (.sub (.loc 3) (.int 3)) (.tup (.cons (.str "+") (.cons (.str "*") .nil)))) .nil)))) (.cons (.assign 4 (.tst (.cmp .In (.sub (.sub (.loc 3) (.int 2)) (.int 0)) (.str "0123456789"))))
 (.cons (.assign 5 (.ite (.cmp .Eq (.sub (.loc 3) (.int 3)) (.str "+")) (.ite (.plain (.loc 4)) (.str "shift") (.str "add")) (.ite (.plain (.loc 4)) (.str "scale") (.str "multiply"))))
 (.cons (.expr (.meth (.loc 1) "append" (.cons (.tup (.cons (.loc 5) (.cons (.sub (.loc 3) (.int 0)) (.cons (.ite (.plain (.loc 4)) (.call "whole" (.cons (.sub (.loc 3) (.int 2)) .nil)) (.sub (.loc 3) (.int 2))) (.cons (.sub (.loc 3) (.int 4)) .nil))))) .nil)))
 .nil))) (.cons (.raise "ShareError" (.cons (.bin .Add (.str "no such line: ") (.call "shown" (.cons (.loc 2) .nil))) .nil))
 .nil))
 .nil))
 .nil))
 .nil)))
noncomputable def yce:CSs:=(.cons (.assign 1 (.list .nil))
 (.cons (.for [2] (.meth (.loc 0) "split" (.cons (.str "\n") .nil)) yep)
 (.cons (.ret (.loc 1))
 .nil)))
inductive Lin where
 | opn (x:Str)
 | put (t x:Str) (v:Int)
 | bin (t x o y:Str)
 | kno (t x:Str) (v:Int) (o y:Str)
noncomputable def lws:Lin->List Str
 | .opn x=>["open",x]
 | .put t x _=>[t,"=",x]
 | .bin t x o y=>[t,"=",x,o,y]
 | .kno t x _ o y=>[t,"=",x,o,y]
noncomputable def ltp:Lin->List MV
 | .opn x=>[.str "open",.str x]
 | .put t _ v=>[.str "put",.str t,.int v]
 | .bin t x o y=>[.str (if o="+" then "add" else "multiply"),.str t,.str x,.str y]
 | .kno t _ v o y=>[.str (if o="+" then "shift" else "scale"),.str t,.int v,.str y]
structure Figs (x:Str) (v:Int):Prop where
 h0:1<=x.length
 h1:x.length<=9
 hd:∀ch ∈ x.cps.toList,48<=ch/\ch<=57
 hv:PySem.intText? x=some v
def ygs:Lin->Prop
 | .opn _=>True
 | .put t x v=>t≠"open"/\Figs x v
 | .bin t x o y=>t≠"open"/\(o="+"\/o="*")/\x.length<=12/\∃ch,x.cps[0]?=some ch/\ch ∉ ("0123456789":Str).cps.toList
 | .kno t x v o y=>t≠"open"/\(o="+"\/o="*")/\Figs x v
structure StK (G:Gx) (fW:Addr):Prop where
 bs:Bs G
 gW:GFn G "whole" fW
 dW:GDef G fW ["text"] yc4 ydq []
 gd:Glb G "DIGITS" (.str "0123456789")
theorem yed {H H1:MH} {o:Nat} {outs tp:List MV} (he:Ext H H1) (ho:H[o]?=some (.list outs)) :
   Ext (H.set o .junk) (((H1++[MO.tup tp]).set o (.list (outs++[.ref H1.length]))).set o .junk)/\((H1++[MO.tup tp]).set o (.list (outs++[.ref H1.length])))[o]?=some (.list (outs++[.ref H1.length]))/\
     ((H1++[MO.tup tp]).set o (.list (outs++[.ref H1.length])))[H1.length]?=some (.tup tp):=by
 haveI h1:=he _ _ ho;haveI hlt:o<H1.length:=(zgs h1).1;haveI hlt0:o<H.length:=(zgs ho).1;refine ⟨?_,?_,?_⟩
 . intro i x e;rw [List.set_set];by_cases hi:i=o
   . subst hi;rw [getElem?_set_self hlt0] at e
     (replace e:=si e;subst e)
     rw [getElem?_set_self (by rw [length_append];exact Nat.lt_succ_of_lt ‹_›)]
   . rw [getElem?_set_ne (Ne.symm hi)] at e ⊢;exact ya7 (he _ _ e)
 . rw [getElem?_set_self (by rw [length_append];exact Nat.lt_succ_of_lt ‹_›)]
 . rw [getElem?_set_ne (by exact Nat.ne_of_lt ‹_›)];exact yaf
section
variable {G:Gx} {c:Cx} {fW:Addr}
theorem ysw (ok:Ok G c 100) (hfm:c.fm=none) (hint:interactive c.env=false) (K:StK G fW) {text line:Str} {o:Nat} {outs:List MV} {l:Lin} {w3 w4 w5:Option MV} {H:MH} (hl:ygs l) (hw:Txt.words line=lws l) (hlen:line.length<=1000000) (ho:H[o]?=some (.list outs)) (hn:outs.length<=1000)
   {post:Fl->ML->MH->Prop} (hp:∀w3 w4 w5 r H',Ext (H.set o .junk) (H'.set o .junk)->H'[o]?=some (.list (outs++[.ref r]))->H'[r]?=some (.tup (ltp l))->post .next [some (.str text),some (.ref o),some (.str line),w3,w4,w5] H') :
   TB c [some (.str text),some (.ref o),some (.str line),w3,w4,w5] yep H post:=by
 haveI bs:=K.bs;unfold yep;refine TB.cons (TS.assign ok hfm rfl (TE.mcall (TE.loc ok rfl (Mth0.words hlen ?_).out)));rw [hw];haveI hg:(H++[MO.list (strL (lws l))])[H.length]?=some (.list (strL (lws l))):=yaf;haveI ho1:(H++[MO.list (strL (lws l))])[o]?=some (.list outs):=ya7 ho;haveI he:Ext H (H++[MO.list (strL (lws l))]):=(Ext.refl H).app _;generalize H++[MO.list (strL (lws l))]=H1 at hg ho1 he ⊢;show TB c [some (.str text),some (.ref o),some (.str line),some (.ref H.length),w4,w5] _ _ _;cases l with
 | opn x=>
   with_reducible (refine TB.cons ?_;refine TS.ite ?_;refine TT.cmp ?_;refine TE.len ‹_› ‹_› ?_;refine TE.loc ‹_› (by with_unfolding_all rfl) ?_)
   haveI hle:(strL (lws (.opn x))).length<=1000000:=zlb rfl;refine BC.len hg hle ?_;with_reducible (refine TE.int ?_)
   refine ⟨false,rfl,dR (by first | exact nf1 | exact nf2) ?_⟩;with_reducible (refine TB.nil ?_;refine TB.cons ?_;refine TS.ite ?_;refine TT.and ?_;refine TTs.and ?_;refine TT.cmp ?_;refine TE.sq ?_;refine TE.loc ‹_› (by with_unfolding_all rfl) ?_;refine TE.int ?_)
   refine ⟨_,Sq.list (v:=.str "open") hg ⟨hle,.inl ⟨by decide,rfl⟩⟩,?_⟩;with_reducible (refine TE.str ?_)
   refine ⟨true,rfl,dR (by first | exact nf1 | exact nf2) ?_⟩;with_reducible (refine TTs.and ?_;refine TT.cmp ?_;refine TE.len ‹_› ‹_› ?_;refine TE.loc ‹_› (by with_unfolding_all rfl) ?_)
   refine BC.len hg hle ?_;with_reducible (refine TE.int ?_)
   refine ⟨true,rfl,dR (by first | exact nf1 | exact nf2) ?_⟩;with_reducible (refine TTs.andNil ?_)
   refine (dL (by first | exact nf1 | exact nf2) ?_);with_reducible (refine TB.cons ?_;refine TS.expr ‹_› ?_;refine TE.append ?_;refine TE.loc ‹_› (by with_unfolding_all rfl) ?_)
   refine ⟨o,outs,rfl,ho1,?_⟩;with_reducible (refine TE.tup ?_;refine TEs.cons ?_;refine TE.str ?_;refine TEs.cons ?_;refine TE.sq ?_;refine TE.loc ‹_› (by with_unfolding_all rfl) ?_;refine TE.int ?_)
   refine ⟨_,Sq.list (v:=.str x) hg ⟨hle,.inl ⟨by decide,rfl⟩⟩,?_⟩;with_reducible (refine TEs.nil ?_)
   refine ⟨zlb rfl,outs,ya7 ho1,by exact Nat.le_trans ‹_› (by decide),?_⟩;with_reducible (refine TB.nil ?_;refine TB.nil ?_)
   haveI Z1:=yed (tp:=ltp (.opn x)) he ho;haveI f1:=(zl Z1);haveI f2:=(zl (zr Z1));haveI f3:=(zr (zr Z1));clear Z1;exact hp _ _ _ _ _ f1 f2 f3
 | put t x v=>
   haveI Z2:=hl;clear hl;haveI ht:=(zl Z2);haveI hf:=(zr Z2);clear Z2;haveI hle:(strL (lws (.put t x v))).length<=1000000:=zlb rfl;with_reducible (refine TB.cons ?_;refine TS.ite ?_;refine TT.cmp ?_;refine TE.len ‹_› ‹_› ?_;refine TE.loc ‹_› (by with_unfolding_all rfl) ?_)
   refine BC.len hg hle ?_;with_reducible (refine TE.int ?_)
   refine ⟨false,rfl,dR (by first | exact nf1 | exact nf2) ?_⟩;with_reducible (refine TB.nil ?_;refine TB.cons ?_;refine TS.ite ?_;refine TT.and ?_;refine TTs.and ?_;refine TT.cmp ?_;refine TE.sq ?_;refine TE.loc ‹_› (by with_unfolding_all rfl) ?_;refine TE.int ?_)
   refine ⟨_,Sq.list (v:=.str t) hg ⟨hle,.inl ⟨by decide,rfl⟩⟩,?_⟩;with_reducible (refine TE.str ?_)
   refine ⟨false,by show false=decide (t="open");simp [ht],dL (by first | exact nf1 | exact nf2) ?_⟩;refine (dR (by first | exact nf1 | exact nf2) ?_);with_reducible (refine TB.cons ?_;refine TS.ite ?_;refine TT.and ?_;refine TTs.and ?_;refine TT.cmp ?_;refine TE.len ‹_› ‹_› ?_;refine TE.loc ‹_› (by with_unfolding_all rfl) ?_)
   refine BC.len hg hle ?_;with_reducible (refine TE.int ?_)
   refine ⟨true,rfl,dR (by first | exact nf1 | exact nf2) ?_⟩;with_reducible (refine TTs.and ?_;refine TT.cmp ?_;refine TE.sq ?_;refine TE.loc ‹_› (by with_unfolding_all rfl) ?_;refine TE.int ?_)
   refine ⟨_,Sq.list (v:=.str "=") hg ⟨hle,.inl ⟨by decide,rfl⟩⟩,?_⟩;with_reducible (refine TE.str ?_)
   refine ⟨true,rfl,dR (by first | exact nf1 | exact nf2) ?_⟩;with_reducible (refine TTs.andNil ?_)
   refine (dL (by first | exact nf1 | exact nf2) ?_);with_reducible (refine TB.cons ?_;refine TS.expr ‹_› ?_;refine TE.append ?_;refine TE.loc ‹_› (by with_unfolding_all rfl) ?_)
   refine ⟨o,outs,rfl,ho1,?_⟩;with_reducible (refine TE.tup ?_;refine TEs.cons ?_;refine TE.str ?_;refine TEs.cons ?_;refine TE.sq ?_;refine TE.loc ‹_› (by with_unfolding_all rfl) ?_;refine TE.int ?_)
   refine ⟨_,Sq.list (v:=.str t) hg ⟨hle,.inl ⟨by decide,rfl⟩⟩,?_⟩;refine TEs.cons (TE.call ok K.gW ?_);with_reducible (refine TEs.cons ?_;refine TE.sq ?_;refine TE.loc ‹_› (by with_unfolding_all rfl) ?_;refine TE.int ?_)
   refine ⟨_,Sq.list (v:=.str x) hg ⟨hle,.inl ⟨by decide,rfl⟩⟩,?_⟩;with_reducible (refine TEs.nil ?_)
   refine (ygg K.dW bs K.gd hf.h0 hf.h1 hf.hd hf.hv).useE (by decide) ?_;with_reducible (refine TEs.nil ?_)
   refine ⟨zlb rfl,outs,ya7 ho1,by exact Nat.le_trans ‹_› (by decide),?_⟩;with_reducible (refine TB.nil ?_;refine TB.nil ?_;refine TB.nil ?_)
   haveI Z3:=yed (tp:=ltp (.put t x v)) he ho;haveI f1:=(zl Z3);haveI f2:=(zl (zr Z3));haveI f3:=(zr (zr Z3));clear Z3;exact hp _ _ _ _ _ f1 f2 f3
 | bin t x p y=>
   haveI Z4:=hl;clear hl;obtain ⟨ch,Z5⟩:=(zr (zr (zr Z4)));haveI ht:=(zl Z4);haveI hpq:=(zl (zr Z4));haveI hxl:=(zl (zr (zr Z4)));haveI hch:=(zl Z5);haveI hnd:=(zr Z5);clear Z5 Z4;haveI hle:(strL (lws (.bin t x p y))).length<=1000000:=zlb rfl;with_reducible (refine TB.cons ?_;refine TS.ite ?_;refine TT.cmp ?_;refine TE.len ‹_› ‹_› ?_;refine TE.loc ‹_› (by with_unfolding_all rfl) ?_)
   refine BC.len hg hle ?_;with_reducible (refine TE.int ?_)
   refine ⟨false,rfl,dR (by first | exact nf1 | exact nf2) ?_⟩;with_reducible (refine TB.nil ?_;refine TB.cons ?_;refine TS.ite ?_;refine TT.and ?_;refine TTs.and ?_;refine TT.cmp ?_;refine TE.sq ?_;refine TE.loc ‹_› (by with_unfolding_all rfl) ?_;refine TE.int ?_)
   refine ⟨_,Sq.list (v:=.str t) hg ⟨hle,.inl ⟨by decide,rfl⟩⟩,?_⟩;with_reducible (refine TE.str ?_)
   refine ⟨false,by show false=decide (t="open");simp [ht],dL (by first | exact nf1 | exact nf2) ?_⟩;refine (dR (by first | exact nf1 | exact nf2) ?_);with_reducible (refine TB.cons ?_;refine TS.ite ?_;refine TT.and ?_;refine TTs.and ?_;refine TT.cmp ?_;refine TE.len ‹_› ‹_› ?_;refine TE.loc ‹_› (by with_unfolding_all rfl) ?_)
   refine BC.len hg hle ?_;with_reducible (refine TE.int ?_)
   refine ⟨false,rfl,dL (by first | exact nf1 | exact nf2) ?_⟩;refine (dR (by first | exact nf1 | exact nf2) ?_);with_reducible (refine TB.cons ?_;refine TS.ite ?_;refine TT.and ?_;refine TTs.and ?_;refine TT.cmp ?_;refine TE.len ‹_› ‹_› ?_;refine TE.loc ‹_› (by with_unfolding_all rfl) ?_)
   refine BC.len hg hle ?_;with_reducible (refine TE.int ?_)
   refine ⟨true,rfl,dR (by first | exact nf1 | exact nf2) ?_⟩;with_reducible (refine TTs.and ?_;refine TT.cmp ?_;refine TE.sq ?_;refine TE.loc ‹_› (by with_unfolding_all rfl) ?_;refine TE.int ?_)
   refine ⟨_,Sq.list (v:=.str "=") hg ⟨hle,.inl ⟨by decide,rfl⟩⟩,?_⟩;with_reducible (refine TE.str ?_)
   refine ⟨true,rfl,dR (by first | exact nf1 | exact nf2) ?_⟩;with_reducible (refine TTs.and ?_;refine TT.cqIn ?_;refine TE.sq ?_;refine TE.loc ‹_› (by with_unfolding_all rfl) ?_;refine TE.int ?_)
   refine ⟨_,Sq.list (v:=.str p) hg ⟨hle,.inl ⟨by decide,rfl⟩⟩,?_⟩;with_reducible (refine TE.tup ?_;refine TEs.cons ?_;refine TE.str ?_;refine TEs.cons ?_;refine TE.str ?_;refine TEs.nil ?_)
   refine ⟨zlb rfl,?_⟩;refine ⟨true,?_,dR (by first | exact nf1 | exact nf2) ?_⟩
   . haveI q:=Cq.inTS (c:=c) (H:=H1++[.tup (strL ["+","*"])]) (ys:=["+","*"]) (x:=p) yaf;rwa [show (["+","*"]:List Str).any (·==p)=true by rcases hpq with rfl | rfl <;> decide +kernel] at q
   with_reducible (refine TTs.andNil ?_)
   haveI hg2:(H1++[MO.tup (strL ["+","*"])])[H.length]?=some (.list (strL (lws (.bin t x p y)))):=ya7 hg;haveI ho2:(H1++[MO.tup (strL ["+","*"])])[o]?=some (.list outs):=ya7 ho1;haveI he2:Ext H (H1++[MO.tup (strL ["+","*"])]):=he.app _;refine (dL (by first | exact nf1 | exact nf2) ?_);with_reducible (refine TB.cons ?_;refine TS.assign ‹_› ‹_› (by with_unfolding_all rfl) ?_;refine TE.tst ?_)
   refine TV.cq (TE.sq (TE.sq (TE.loc ok rfl (TE.int ⟨_,Sq.list (v:=.str x) hg2 ⟨hle,.inl ⟨by decide,rfl⟩⟩,TE.int ⟨_,Sq.str (by decide) (by exact Nat.le_trans ‹_› (by decide)) hch,?_⟩⟩))));with_reducible (refine TE.str ?_)
   refine ⟨_,Cq.inS,?_⟩;rw [decide_eq_false hnd];with_reducible (refine TB.cons ?_;refine TS.assign ‹_› ‹_› (by with_unfolding_all rfl) ?_;refine TE.ite ?_;refine TT.cmp ?_;refine TE.sq ?_;refine TE.loc ‹_› (by with_unfolding_all rfl) ?_;refine TE.int ?_)
   refine ⟨_,Sq.list (v:=.str p) hg2 ⟨hle,.inl ⟨by decide,rfl⟩⟩,?_⟩;with_reducible (refine TE.str ?_)
   refine ⟨decide (p="+"),rfl,fun hp1=>?_,fun hp1=>?_⟩
   . with_reducible (refine TE.ite ?_;refine TT.plain ?_;refine TE.loc ‹_› (by with_unfolding_all rfl) ?_)
     refine ⟨false,rfl,?_⟩;refine (dR (by first | exact nf1 | exact nf2) ?_);with_reducible (refine TE.str ?_;refine TB.cons ?_;refine TS.expr ‹_› ?_;refine TE.append ?_;refine TE.loc ‹_› (by with_unfolding_all rfl) ?_)
     refine ⟨o,outs,rfl,ho2,?_⟩;with_reducible (refine TE.tup ?_;refine TEs.cons ?_;refine TE.loc ‹_› (by with_unfolding_all rfl) ?_;refine TEs.cons ?_;refine TE.sq ?_;refine TE.loc ‹_› (by with_unfolding_all rfl) ?_;refine TE.int ?_)
     refine ⟨_,Sq.list (v:=.str t) hg2 ⟨hle,.inl ⟨by decide,rfl⟩⟩,?_⟩;with_reducible (refine TEs.cons ?_;refine TE.ite ?_;refine TT.plain ?_;refine TE.loc ‹_› (by with_unfolding_all rfl) ?_)
     refine ⟨false,rfl,?_⟩;refine (dR (by first | exact nf1 | exact nf2) ?_);with_reducible (refine TE.sq ?_;refine TE.loc ‹_› (by with_unfolding_all rfl) ?_;refine TE.int ?_)
     refine ⟨_,Sq.list (v:=.str x) hg2 ⟨hle,.inl ⟨by decide,rfl⟩⟩,?_⟩;with_reducible (refine TEs.cons ?_;refine TE.sq ?_;refine TE.loc ‹_› (by with_unfolding_all rfl) ?_;refine TE.int ?_)
     refine ⟨_,Sq.list (v:=.str y) hg2 ⟨hle,.inl ⟨by decide,rfl⟩⟩,?_⟩;with_reducible (refine TEs.nil ?_)
     refine ⟨zlb rfl,outs,ya7 ho2,by exact Nat.le_trans ‹_› (by decide),?_⟩;with_reducible (refine TB.nil ?_;refine TB.nil ?_;refine TB.nil ?_;refine TB.nil ?_)
     haveI Z6:=yed (tp:=ltp (.bin t x p y)) he2 ho;haveI f1:=(zl Z6);haveI f2:=(zl (zr Z6));haveI f3:=(zr (zr Z6));clear Z6;haveI e:(if p="+" then ("add":Str) else "multiply")="add":=if_pos (of_decide_eq_true hp1);simp only [ltp,e] at f1 f2 f3;exact hp _ _ _ _ _ f1 f2 (by simp only [ltp,e];exact f3)
   . with_reducible (refine TE.ite ?_;refine TT.plain ?_;refine TE.loc ‹_› (by with_unfolding_all rfl) ?_)
     refine ⟨false,rfl,?_⟩;refine (dR (by first | exact nf1 | exact nf2) ?_);with_reducible (refine TE.str ?_;refine TB.cons ?_;refine TS.expr ‹_› ?_;refine TE.append ?_;refine TE.loc ‹_› (by with_unfolding_all rfl) ?_)
     refine ⟨o,outs,rfl,ho2,?_⟩;with_reducible (refine TE.tup ?_;refine TEs.cons ?_;refine TE.loc ‹_› (by with_unfolding_all rfl) ?_;refine TEs.cons ?_;refine TE.sq ?_;refine TE.loc ‹_› (by with_unfolding_all rfl) ?_;refine TE.int ?_)
     refine ⟨_,Sq.list (v:=.str t) hg2 ⟨hle,.inl ⟨by decide,rfl⟩⟩,?_⟩;with_reducible (refine TEs.cons ?_;refine TE.ite ?_;refine TT.plain ?_;refine TE.loc ‹_› (by with_unfolding_all rfl) ?_)
     refine ⟨false,rfl,?_⟩;refine (dR (by first | exact nf1 | exact nf2) ?_);with_reducible (refine TE.sq ?_;refine TE.loc ‹_› (by with_unfolding_all rfl) ?_;refine TE.int ?_)
     refine ⟨_,Sq.list (v:=.str x) hg2 ⟨hle,.inl ⟨by decide,rfl⟩⟩,?_⟩;with_reducible (refine TEs.cons ?_;refine TE.sq ?_;refine TE.loc ‹_› (by with_unfolding_all rfl) ?_;refine TE.int ?_)
     refine ⟨_,Sq.list (v:=.str y) hg2 ⟨hle,.inl ⟨by decide,rfl⟩⟩,?_⟩;with_reducible (refine TEs.nil ?_)
     refine ⟨zlb rfl,outs,ya7 ho2,by exact qf46 hn,?_⟩;with_reducible (refine TB.nil ?_;refine TB.nil ?_;refine TB.nil ?_;refine TB.nil ?_)
     haveI Z7:=yed (tp:=ltp (.bin t x p y)) he2 ho;haveI f1:=(zl Z7);haveI f2:=(zl (zr Z7));haveI f3:=(zr (zr Z7));clear Z7;haveI e:(if p="+" then ("add":Str) else "multiply")="multiply":=if_neg (of_decide_eq_false hp1);simp only [ltp,e] at f1 f2 f3;exact hp _ _ _ _ _ f1 f2 (by simp only [ltp,e];exact f3)
 | kno t x v p y=>
   haveI Z8:=hl;clear hl;haveI ht:=(zl Z8);haveI hpq:=(zl (zr Z8));haveI hf:=(zr (zr Z8));clear Z8;haveI hxl:=hf.h1;obtain ⟨ch,hch⟩:∃ch,x.cps[0]?=some ch:=⟨_,Array.getElem?_eq_getElem (show 0<x.cps.size from hf.h0)⟩;haveI hin:ch ∈ ("0123456789":Str).cps.toList:=by
     haveI hb:=hf.hd ch (by rw [Array.mem_toList_iff];exact Array.mem_of_getElem? hch);rw [ykm];simp only [mem_cons,List.not_mem_nil,or_false];exact yq7 hb
   haveI hle:(strL (lws (.kno t x v p y))).length<=1000000:=zlb rfl;with_reducible (refine TB.cons ?_;refine TS.ite ?_;refine TT.cmp ?_;refine TE.len ‹_› ‹_› ?_;refine TE.loc ‹_› (by with_unfolding_all rfl) ?_)
   refine BC.len hg hle ?_;with_reducible (refine TE.int ?_)
   refine ⟨false,rfl,dR (by first | exact nf1 | exact nf2) ?_⟩;with_reducible (refine TB.nil ?_;refine TB.cons ?_;refine TS.ite ?_;refine TT.and ?_;refine TTs.and ?_;refine TT.cmp ?_;refine TE.sq ?_;refine TE.loc ‹_› (by with_unfolding_all rfl) ?_;refine TE.int ?_)
   refine ⟨_,Sq.list (v:=.str t) hg ⟨hle,.inl ⟨by decide,rfl⟩⟩,?_⟩;with_reducible (refine TE.str ?_)
   refine ⟨false,by show false=decide (t="open");simp [ht],dL (by first | exact nf1 | exact nf2) ?_⟩;refine (dR (by first | exact nf1 | exact nf2) ?_);with_reducible (refine TB.cons ?_;refine TS.ite ?_;refine TT.and ?_;refine TTs.and ?_;refine TT.cmp ?_;refine TE.len ‹_› ‹_› ?_;refine TE.loc ‹_› (by with_unfolding_all rfl) ?_)
   refine BC.len hg hle ?_;with_reducible (refine TE.int ?_)
   refine ⟨false,rfl,dL (by first | exact nf1 | exact nf2) ?_⟩;refine (dR (by first | exact nf1 | exact nf2) ?_);with_reducible (refine TB.cons ?_;refine TS.ite ?_;refine TT.and ?_;refine TTs.and ?_;refine TT.cmp ?_;refine TE.len ‹_› ‹_› ?_;refine TE.loc ‹_› (by with_unfolding_all rfl) ?_)
   refine BC.len hg hle ?_;with_reducible (refine TE.int ?_)
   refine ⟨true,rfl,dR (by first | exact nf1 | exact nf2) ?_⟩;with_reducible (refine TTs.and ?_;refine TT.cmp ?_;refine TE.sq ?_;refine TE.loc ‹_› (by with_unfolding_all rfl) ?_;refine TE.int ?_)
   refine ⟨_,Sq.list (v:=.str "=") hg ⟨hle,.inl ⟨by decide,rfl⟩⟩,?_⟩;with_reducible (refine TE.str ?_)
   refine ⟨true,rfl,dR (by first | exact nf1 | exact nf2) ?_⟩;with_reducible (refine TTs.and ?_;refine TT.cqIn ?_;refine TE.sq ?_;refine TE.loc ‹_› (by with_unfolding_all rfl) ?_;refine TE.int ?_)
   refine ⟨_,Sq.list (v:=.str p) hg ⟨hle,.inl ⟨by decide,rfl⟩⟩,?_⟩;with_reducible (refine TE.tup ?_;refine TEs.cons ?_;refine TE.str ?_;refine TEs.cons ?_;refine TE.str ?_;refine TEs.nil ?_)
   refine ⟨zlb rfl,?_⟩;refine ⟨true,?_,dR (by first | exact nf1 | exact nf2) ?_⟩
   . haveI q:=Cq.inTS (c:=c) (H:=H1++[.tup (strL ["+","*"])]) (ys:=["+","*"]) (x:=p) yaf;rwa [show (["+","*"]:List Str).any (·==p)=true by rcases hpq with rfl | rfl <;> decide +kernel] at q
   with_reducible (refine TTs.andNil ?_)
   haveI hg2:(H1++[MO.tup (strL ["+","*"])])[H.length]?=some (.list (strL (lws (.kno t x v p y)))):=ya7 hg;haveI ho2:(H1++[MO.tup (strL ["+","*"])])[o]?=some (.list outs):=ya7 ho1;haveI he2:Ext H (H1++[MO.tup (strL ["+","*"])]):=he.app _;refine (dL (by first | exact nf1 | exact nf2) ?_);with_reducible (refine TB.cons ?_;refine TS.assign ‹_› ‹_› (by with_unfolding_all rfl) ?_;refine TE.tst ?_)
   refine TV.cq (TE.sq (TE.sq (TE.loc ok rfl (TE.int ⟨_,Sq.list (v:=.str x) hg2 ⟨hle,.inl ⟨by decide,rfl⟩⟩,TE.int ⟨_,Sq.str (by decide) (by exact ywj hxl) hch,?_⟩⟩))));with_reducible (refine TE.str ?_)
   refine ⟨_,Cq.inS,?_⟩;rw [decide_eq_true hin];with_reducible (refine TB.cons ?_;refine TS.assign ‹_› ‹_› (by with_unfolding_all rfl) ?_;refine TE.ite ?_;refine TT.cmp ?_;refine TE.sq ?_;refine TE.loc ‹_› (by with_unfolding_all rfl) ?_;refine TE.int ?_)
   refine ⟨_,Sq.list (v:=.str p) hg2 ⟨hle,.inl ⟨by decide,rfl⟩⟩,?_⟩;with_reducible (refine TE.str ?_)
   refine ⟨decide (p="+"),rfl,fun hp1=>?_,fun hp1=>?_⟩
   . with_reducible (refine TE.ite ?_;refine TT.plain ?_;refine TE.loc ‹_› (by with_unfolding_all rfl) ?_)
     refine ⟨true,rfl,?_⟩;refine (dL (by first | exact nf1 | exact nf2) ?_);with_reducible (refine TE.str ?_;refine TB.cons ?_;refine TS.expr ‹_› ?_;refine TE.append ?_;refine TE.loc ‹_› (by with_unfolding_all rfl) ?_)
     refine ⟨o,outs,rfl,ho2,?_⟩;with_reducible (refine TE.tup ?_;refine TEs.cons ?_;refine TE.loc ‹_› (by with_unfolding_all rfl) ?_;refine TEs.cons ?_;refine TE.sq ?_;refine TE.loc ‹_› (by with_unfolding_all rfl) ?_;refine TE.int ?_)
     refine ⟨_,Sq.list (v:=.str t) hg2 ⟨hle,.inl ⟨by decide,rfl⟩⟩,?_⟩;with_reducible (refine TEs.cons ?_;refine TE.ite ?_;refine TT.plain ?_;refine TE.loc ‹_› (by with_unfolding_all rfl) ?_)
     refine ⟨true,rfl,?_⟩;refine (dL (by first | exact nf1 | exact nf2) ?_);refine TE.call ok K.gW ?_;with_reducible (refine TEs.cons ?_;refine TE.sq ?_;refine TE.loc ‹_› (by with_unfolding_all rfl) ?_;refine TE.int ?_)
     refine ⟨_,Sq.list (v:=.str x) hg2 ⟨hle,.inl ⟨by decide,rfl⟩⟩,?_⟩;with_reducible (refine TEs.nil ?_)
     refine (ygg K.dW bs K.gd hf.h0 hf.h1 hf.hd hf.hv).useE (by decide) ?_;with_reducible (refine TEs.cons ?_;refine TE.sq ?_;refine TE.loc ‹_› (by with_unfolding_all rfl) ?_;refine TE.int ?_)
     refine ⟨_,Sq.list (v:=.str y) hg2 ⟨hle,.inl ⟨by decide,rfl⟩⟩,?_⟩;with_reducible (refine TEs.nil ?_)
     refine ⟨zlb rfl,outs,ya7 ho2,by exact qf46 hn,?_⟩;with_reducible (refine TB.nil ?_;refine TB.nil ?_;refine TB.nil ?_;refine TB.nil ?_)
     haveI Z9:=yed (tp:=ltp (.kno t x v p y)) he2 ho;haveI f1:=(zl Z9);haveI f2:=(zl (zr Z9));haveI f3:=(zr (zr Z9));clear Z9;haveI e:(if p="+" then ("shift":Str) else "scale")="shift":=if_pos (of_decide_eq_true hp1);simp only [ltp,e] at f1 f2 f3;exact hp _ _ _ _ _ f1 f2 (by simp only [ltp,e];exact f3)
   . with_reducible (refine TE.ite ?_;refine TT.plain ?_;refine TE.loc ‹_› (by with_unfolding_all rfl) ?_)
     refine ⟨true,rfl,?_⟩;refine (dL (by first | exact nf1 | exact nf2) ?_);with_reducible (refine TE.str ?_;refine TB.cons ?_;refine TS.expr ‹_› ?_;refine TE.append ?_;refine TE.loc ‹_› (by with_unfolding_all rfl) ?_)
     refine ⟨o,outs,rfl,ho2,?_⟩;with_reducible (refine TE.tup ?_;refine TEs.cons ?_;refine TE.loc ‹_› (by with_unfolding_all rfl) ?_;refine TEs.cons ?_;refine TE.sq ?_;refine TE.loc ‹_› (by with_unfolding_all rfl) ?_;refine TE.int ?_)
     refine ⟨_,Sq.list (v:=.str t) hg2 ⟨hle,.inl ⟨by decide,rfl⟩⟩,?_⟩;with_reducible (refine TEs.cons ?_;refine TE.ite ?_;refine TT.plain ?_;refine TE.loc ‹_› (by with_unfolding_all rfl) ?_)
     refine ⟨true,rfl,?_⟩;refine (dL (by first | exact nf1 | exact nf2) ?_);refine TE.call ok K.gW ?_;with_reducible (refine TEs.cons ?_;refine TE.sq ?_;refine TE.loc ‹_› (by with_unfolding_all rfl) ?_;refine TE.int ?_)
     refine ⟨_,Sq.list (v:=.str x) hg2 ⟨hle,.inl ⟨by decide,rfl⟩⟩,?_⟩;with_reducible (refine TEs.nil ?_)
     refine (ygg K.dW bs K.gd hf.h0 hf.h1 hf.hd hf.hv).useE (by decide) ?_;with_reducible (refine TEs.cons ?_;refine TE.sq ?_;refine TE.loc ‹_› (by with_unfolding_all rfl) ?_;refine TE.int ?_)
     refine ⟨_,Sq.list (v:=.str y) hg2 ⟨hle,.inl ⟨by decide,rfl⟩⟩,?_⟩;with_reducible (refine TEs.nil ?_)
     refine ⟨zlb rfl,outs,ya7 ho2,by exact qf46 hn,?_⟩;with_reducible (refine TB.nil ?_;refine TB.nil ?_;refine TB.nil ?_;refine TB.nil ?_)
     haveI Z10:=yed (tp:=ltp (.kno t x v p y)) he2 ho;haveI f1:=(zl Z10);haveI f2:=(zl (zr Z10));haveI f3:=(zr (zr Z10));clear Z10;haveI e:(if p="+" then ("shift":Str) else "scale")="scale":=if_neg (of_decide_eq_false hp1);simp only [ltp,e] at f1 f2 f3;exact hp _ _ _ _ _ f1 f2 (by simp only [ltp,e];exact f3)
end
theorem yh3 {A B:MH} {o i:Nat} {x:MO} (h:Ext (A.set o .junk) (B.set o .junk)) (hi:i≠o) (e:A[i]?=some x):B[i]?=some x:=by
 have:=h i x (by rw [getElem?_set_ne (Ne.symm hi)];exact e);rwa [getElem?_set_ne (Ne.symm hi)] at this
noncomputable def refL (rs:List Nat):List MV:=rs.map .ref
theorem TB.gen4 {c:Cx} {m:ML} {a:CSs} {H:MH} {q:Fl->ML->MH->Prop} (h:∀p:Fl->ML->MH->Prop,(∀f m H,q f m H->p f m H)->TB c m a H p):TB c m a H q:=h q (fun _ _ _ h=>h)
inductive StJ (txt:Str) (lines:List Str) (ls:List Lin) (H:MH) (i:Nat):ML->MH->Prop where
 | mk (w2 w3 w4 w5:Option MV) (rs:List Nat) (H1:MH) (q1:rs.length=i) (q2:H1[H.length]?=some (.list (refL rs))) (q3:Ext H H1) (q4:H1[H.length+1]?=some (.list (strL lines)))
     (q5:∀(j r:Nat) l,rs[j]?=some r->ls[j]?=some l->H1[r]?=some (.tup (ltp l))):StJ txt lines ls H i [some (.str txt),some (.ref H.length),w2,w3,w4,w5] H1
theorem yjk {G:Gx} {prog:Program} {w:World} {f fW:Addr} {txt:Str} {lines:List Str} {ls:List Lin} {H:MH} {xp:Addr->List MV->MH->Prop} (D:GDef G f ["text"] ybz yce []) (K:StK G fW)
   (hs:Txt.split txt "\n"=lines) (hx:txt.length<=1000000) (hn:ls.length<=1000) (hll:lines.length=ls.length) (hw:∀(i:Nat) line l,lines[i]?=some line->ls[i]?=some l->Txt.words line=lws l/\ygs l/\line.length<=1000000) :
   CL G prog w 101 f [.str txt] H (fun v H'=>v=.ref H.length/\Ext H H'/\∃rs:List Nat,H'[H.length]?=some (.list (refL rs))/\rs.length=ls.length/\∀(i r:Nat) l,rs[i]?=some r->ls[i]?=some l->H'[r]?=some (.tup (ltp l))) xp:=by
 refine D.cl rfl ?_;intro c e1 e2 ok hfm hint hnm hX;show TB c [some (.str txt),none,none,none,none,none] _ _ _;refine TB.gen4 fun post hpost=>?_;unfold yce;with_reducible (refine TB.cons ?_;refine TS.assign ‹_› ‹_› (by with_unfolding_all rfl) ?_;refine TE.list ?_;refine TEs.nil ?_)
 refine ⟨zlb rfl,?_⟩;with_reducible (refine TB.cons ?_)
 refine TS.forL' ok hfm ?_;refine TE.mcall (TE.loc ok rfl ?_);refine Mth.split.out _ _ _ ?_;refine TEs.cons (TE.str (TEs.nil ⟨"\n",rfl,⟨by decide,hx⟩,?_⟩));rw [hs];haveI e0:(H++[MO.list []]).length=H.length+1:=by exact length_append ..
 haveI h1:(H++[MO.list []]++[.list (strL lines)])[H.length+1]?=some (.list (strL lines)):=by
   haveI:=yaf (H:=H++[MO.list []]) (o:=.list (strL lines));rwa [e0] at this
 refine ⟨H.length+1,strL lines,by rw [e0],h1,StJ txt lines ls H,.mk none none none none [] _ rfl (ya7 yaf) (((Ext.refl H).app _).app _) h1 (fun j r l e=>by exact no e),?_,?_,?_⟩
 . rintro i m1 H1 ⟨w2,w3,w4,w5,rs,_,q1,q2,q3,q4,q5⟩;exact q4
 . rintro i m1 H1 v xt ⟨w2,w3,w4,w5,rs,_,q1,q2,q3,q4,q5⟩ hv;rw [getElem?_map] at hv;cases hy:lines[i]? with
   | none=>rw [hy] at hv;exact no hv
   | some line=>
     rw [hy] at hv
     (replace hv:=si hv;subst hv)
     haveI hi:i<ls.length:=by rw [<-hll];exact (zgs hy).1
     haveI hl:ls[i]?=some ls[i]:=getElem?_eq_getElem hi;haveI Z1:=hw i line _ hy hl;haveI a1:=(zl Z1);haveI a2:=(zl (zr Z1));haveI a3:=(zr (zr Z1));clear Z1;refine ⟨[.str line],rfl,?_⟩;show TB (c.wx xt) [some (.str txt),some (.ref H.length),some (.str line),w3,w4,w5] _ _ _;refine ysw (c:=c.wx xt) (ok.wx xt) hfm hint K a2 a1 a3 q2 (by simp [refL];lia) ?_;intro w3' w4' w5' r H' he ho hr;refine .mk _ w3' w4' w5' (rs++[r]) _ (by simp [q1]) ?_ ?_ ?_ ?_
     . rw [ho];simp [refL]
     . intro j x e;exact yh3 he (by haveI:=(zgs e).1;exact Nat.ne_of_lt ‹_›) (q3 j x e)
     . exact yh3 he (by lia) q4
     . intro j r' l e1 e2;by_cases hj:j<rs.length
       . rw [getElem?_append_left hj] at e1;haveI q:=q5 j r' l e1 e2;refine yh3 he ?_ q;rintro rfl;rw [q2] at q;cases q
       . rw [getElem?_append_right (by exact Nat.not_lt.mp ‹_›)] at e1;haveI hj':j=i:=by
           haveI:=(zgs e1).1;simp at this;exact ypx q1 hj this
         subst hj';rw [q1,Nat.sub_self] at e1
         (replace e1:=si e1;subst e1)
         rw [hl] at e2
         (replace e2:=si e2;subst e2)
         exact hr
 . rintro m1 H1 ⟨w2,w3,w4,w5,rs,_,q1,q2,q3,q4,q5⟩;with_reducible (refine TB.cons ?_;refine TS.ret ?_;refine TE.loc ‹_› (by with_unfolding_all rfl) ?_)
   exact hpost _ _ _ ⟨rfl,q3,rs,q2,by rw [q1];simp [strL,hll],q5⟩
noncomputable def nm (j:Nat):Str:="x"++Str.ofString (toString (j:Int))
theorem yiy:∀j,j<9->okN (nm j)=true:=by decide +kernel
theorem yny:∀i,i<9->∀j,j<9->nm i=nm j->i=j:=by decide +kernel
noncomputable def esI (ns:List Int):List (Str×MV):=(List.range ns.length).map fun j=>(nm j,.int (ns.getD j 0))
theorem yh2 {ns:List Int}:(esI ns).length=ns.length:=by simp [esI]
theorem yow {n j:Nat} {g:Nat->MV} (hj:j<n) (hn:n<=9):yas ((List.range n).map fun i=>(nm i,g i)) (nm j)=some (g j):=by
 unfold yas
 induction n with
 | zero=>exact absurd ‹_› (Nat.not_lt_zero _)
 | succ n ih=>
   rw [range_succ,map_append,List.find?_append];by_cases h:j<n
   . have:=ih h (by lia);cases hf:List.find? (fun kv=>decide (kv.1=nm j)) ((List.range n).map fun i=>(nm i,g i)) with
     | none=>rw [hf] at this;exact no this
     | some z=>rw [hf] at this;exact this
   . have e:j=n:=by exact yp3 hj h
     subst e;have:List.find? (fun kv=>decide (kv.1=nm j)) ((List.range j).map fun i=>(nm i,g i))=none:=by
       rw [List.find?_eq_none];intro z hz;obtain ⟨i,hi,rfl⟩:=mem_map.mp hz;have hi:=mem_range.mp hi;intro q;have:=yny i (by lia) j (by lia) (of_decide_eq_true q);exact yqf hi this
     rw [this];simp
theorem yeg {ns:List Int} {j:Nat} (hj:j<ns.length) (hl:ns.length<=9):yas (esI ns) (nm j)=some (.int (ns.getD j 0)):=yow hj hl
theorem yk7 {ns:List Int} (hl:ns.length<9):((esI ns).any fun kv=>kv.1=nm ns.length)=false:=by
 rw [List.any_eq_false];intro z hz;obtain ⟨i,hi,rfl⟩:=mem_map.mp hz;have hi:=mem_range.mp hi;intro q;have:=yny i (by exact Nat.lt_trans ‹_› ‹_›) ns.length hl (of_decide_eq_true q);exact yqf hi this
theorem yez {ns:List Int} (hl:ns.length<9):yas (esI ns) (nm ns.length)=none:=by
 unfold yas;have:=yk7 hl;rw [List.any_eq_false] at this;rw [List.find?_eq_none.mpr fun z hz=>this z hz];rfl
theorem yh1 {ns:List Int} {v:Int} (hl:ns.length<9):putD (esI ns) (nm ns.length) (.int v)=esI (ns++[v]):=by
 unfold putD;rw [if_neg (by rw [yk7 hl];simp)];unfold esI;rw [length_append,length_singleton,range_succ,map_append];congr 1
 . refine map_congr_left fun j hj=>?_;have hj:=mem_range.mp hj;rw [getD_eq_getElem?_getD,getD_eq_getElem?_getD,getElem?_append_left hj]
 . simp
inductive Stp where
 | put (v:Int)
 | bin (m:Bool) (a b:Nat)
 | kno (m:Bool) (v:Int) (b:Nat)
noncomputable def opS:Bool->Str
 | true=>"*"
 | false=>"+"
noncomputable def fig (v:Int):Str:=Str.ofString (toString v)
noncomputable def linS (j:Nat):Stp->Lin
 | .put v=>.put (nm j) (fig v) v
 | .bin m a b=>.bin (nm j) (nm a) (opS m) (nm b)
 | .kno m v b=>.kno (nm j) (fig v) v (opS m) (nm b)
def okS (p:Int) (j:Nat):Stp->Prop
 | .put v=>0<=v/\v<p
 | .bin _ a b=>a<j/\b<j
 | .kno _ v b=>(0<=v/\v<p)/\b<j
noncomputable def opI (p:Int):Bool->Int->Int->Int
 | true,x,y=>x*y % p
 | false,x,y=>(x+y) % p
noncomputable def ev (p:Int) (ns:List Int):Stp->Int
 | .put v=>v
 | .bin m a b=>opI p m (ns.getD a 0) (ns.getD b 0)
 | .kno m v b=>opI p m v (ns.getD b 0)
noncomputable def vals (p:Int) (ss:List Stp):List Int:=ss.foldl (fun ns s=>ns++[ev p ns s]) []
theorem yn7 {p:Int} {ss:List Stp} {s:Stp}:vals p (ss++[s])=vals p ss++[ev p (vals p ss) s]:=by simp [vals]
theorem yay {p:Int} {ss:List Stp}:(vals p ss).length=ss.length:=by
 unfold vals;rw [<-List.foldr_reverse];have:∀l:List Stp,(l.foldr (fun s ns=>ns++[ev p ns s]) []).length=l.length:=fun l=>by
   induction l with
   | nil=>rfl
   | cons a r ih=>simp [ih]
 rw [this,length_reverse]
theorem yd1 {p:Int} {ss:List Stp} {i:Nat} {s:Stp} (h:ss[i]?=some s):vals p (ss.take (i+1))=vals p (ss.take i)++[ev p (vals p (ss.take i)) s]:=by
 rw [take_succ,h];exact yn7
theorem ywx {p:Int} {ns:List Int} {j:Nat} {s:Stp} (hp:0<p) (h:okS p j s):0<=ev p ns s/\ev p ns s<p:=by
 cases s with
 | put v=>exact h
 | bin m a b=>cases m <;> exact ⟨Int.emod_nonneg _ (by exact Int.ne_of_gt ‹_›),Int.emod_lt_of_pos _ hp⟩
 | kno m v b=>cases m <;> exact ⟨Int.emod_nonneg _ (by exact Int.ne_of_gt ‹_›),Int.emod_lt_of_pos _ hp⟩
def okP (p:Int) (ss:List Stp):Prop:=∀(j:Nat) s,ss[j]?=some s->okS p j s
theorem ys2 {p:Int} {ss:List Stp} (hp:0<p) (h:okP p ss):∀v ∈ vals p ss,0<=v/\v<p:=by
 suffices q:∀i,i<=ss.length->∀v ∈ vals p (ss.take i),0<=v/\v<p by
   have:=q ss.length (Nat.le_refl _);rwa [take_length] at this
 intro i
 induction i with
 | zero=>intro _ v hv;simp [vals] at hv
 | succ i ih=>
   intro hi v hv;have hs:ss[i]?=some ss[i]:=getElem?_eq_getElem (by exact yl7 hi);rw [yd1 hs] at hv;rcases zma hv with hv | hv
   . exact ih (by exact qf47 hi) v hv
   . rw [mem_singleton.mp hv];exact ywx hp (h _ _ hs)
noncomputable def yai (ss:List Stp):List Lin:=ss.mapIdx linS++(List.range ss.length).map fun k=>.opn (nm k)
theorem ybl {ss:List Stp}:(yai ss).length=ss.length+ss.length:=by simp [yai]
theorem ygf {ss:List Stp} {i:Nat} {s:Stp} (h:ss[i]?=some s):(yai ss)[i]?=some (linS i s):=by
 have:=(zgs h).1;unfold yai;rw [getElem?_append_left (by simpa using this),List.getElem?_mapIdx,h];rfl
theorem ygi {ss:List Stp} {k:Nat} (h:k<ss.length):(yai ss)[ss.length+k]?=some (.opn (nm k)):=by
 unfold yai;rw [getElem?_append_right (by simp),List.length_mapIdx,Nat.add_sub_cancel_left,getElem?_map,getElem?_range h];rfl
def OutAt (H:MH) (o:Nat) (ns:List Int):Prop:=∃rs,H[o]?=some (.list (refL rs))/\rs.length=ns.length/\∀(k t:Nat),rs[k]?=some t->H[t]?=some (.tup [.str (nm k),.int (ns.getD k 0)])
theorem yak {H:MH} {i j:Nat} {x y o:MO} (hi:H[i]?=some x) (hj:H[j]?=some o) (hn:x≠o):(H.set j y)[i]?=some x:=by
 rw [getElem?_set_ne]
 . exact hi
 . rintro rfl;rw [hi] at hj;exact hn (Option.some.inj hj)
theorem OutAt.ext {H H':MH} {o:Nat} {ns:List Int} (h:OutAt H o ns) (e:Ext H H'):OutAt H' o ns:=let ⟨rs,a,b,c⟩:=h;⟨rs,e _ _ a,b,fun k t q=>e _ _ (c k t q)⟩
theorem OutAt.put {H H':MH} {o t:Nat} {ns:List Int} {v:Int} (h:OutAt H o ns) (e:Ext H H') (ht:H'[t]?=some (.tup [.str (nm ns.length),.int v])):∃ys,H'[o]?=some (.list ys)/\ys.length=ns.length/\OutAt (H'.set o (.list (ys++[.ref t]))) o (ns++[v]):=by
 obtain ⟨rs,a,b,c⟩:=h;haveI a':=e _ _ a;haveI ho:=(zgs a').1;refine ⟨_,a',by simp [refL,b],rs++[t],?_,by simp [b],fun k u q=>?_⟩
 . rw [getElem?_set_self ho];simp [refL]
 . by_cases hk:k<rs.length
   . rw [getElem?_append_left hk] at q;rw [getD_eq_getElem?_getD,getElem?_append_left (by exact qf92 b hk),<-getD_eq_getElem?_getD];exact yak (e _ _ (c k u q)) a' (by exact fun h=>nomatch h)
   . rw [getElem?_append_right (by exact Nat.not_lt.mp ‹_›)] at q;haveI hk':k=ns.length:=by
       haveI:=(zgs q).1;simp at this;exact ypx b hk this
     subst hk';rw [b,Nat.sub_self] at q
     (replace q:=si q;subst q)
     haveI e2:(ns++[v]).getD ns.length 0=v:=by simp
     rw [e2];exact yak ht a' (by exact fun h=>nomatch h)
theorem OutAt.off {H:MH} {o j:Nat} {ns:List Int} {x y:MO} (h:OutAt H o ns) (hj:H[j]?=some x) (h1:∀ys,MO.list ys≠x) (h2:∀ys,MO.tup ys≠x):OutAt (H.set j y) o ns:=let ⟨rs,a,b,c⟩:=h;⟨rs,yak a hj (h1 _),b,fun k t q=>yak (c k t q) hj (h2 _)⟩
theorem yvt:Fer 11:=Fer.of (by decide) (by decide +kernel)
theorem yq4:isP 11:=by
 refine ⟨by decide,fun k h1 h2=>?_⟩;have h3:k<=3:=by
   refine Int.not_lt.mp fun q=>?_;have:4*4<=k*k:=Int.mul_le_mul (by exact yqk q) (by exact yqk q) (by exact Int.natCast_nonneg _) (by lia);omega
 have:k=2\/k=3:=by lia
 rcases this with rfl | rfl <;> decide
structure Shp (p t c:Nat):Prop where
 p:p=11\/p=101
 t:(t=1/\(c=1\/c=2))\/(t=2/\(c=3\/c=4))
section
variable {p t c:Nat} (h:Shp p t c)
include h
theorem Shp.fer:Fer p:=by rcases h.p with rfl | rfl;exact yvt;exact yur
theorem Shp.b:(11:Int)<=p/\(p:Int)<=101:=by rcases h.p with rfl | rfl <;> decide
theorem Shp.tc:1<=t/\t<=2/\t<=c/\1<=c/\c<=4:=by have:=h.t;lia
theorem Shp.mul {a b:Int} (ha:0<=a/\a<p):IntMulOk a b:=mulL (by exact yvc ha) (by have:=h.b;exact yvn ha this)
end
theorem ydh:∀l:List Int,ybc (intL l)=l:=by
 intro zd
 induction zd with
 | nil=>
  exact rfl
 | cons a l zih=>
  exact congrArg (a :: ·) (zih)
section
variable {p t c:Nat}
theorem drawsN.mk (h:Shp p t c) {X:Prop} (x:X):∀{m:Nat} {st:Int},drawsN p m st X:=by
 intro zd
 induction zd with
 | zero=>
  exact fun {zz}=>x
 | succ m zih=>
  exact fun {st}=>⟨⟨by have:=h.b;lia,by have:=h.b;exact yi1 this⟩,⟨mulR (by decide) (by decide),zih⟩⟩
theorem ypo (h:Shp p t c):∀{m:Nat} {st:Int},Bd p (yc8 p m st):=by
 intro zd
 induction zd with
 | zero=>
  exact fun {zz} v hv=>by cases hv
 | succ m zih=>
  exact fun {st} v hv=>by
   rcases zmc hv with rfl | hv
   . unfold dr;exact md (by have:=h.b;exact ya4 this)
   . exact zih v hv
theorem yh7:∀{m:Nat} {st:Int},(yc8 p m st).length=m:=by
 intro zd
 induction zd with
 | zero=>
  exact fun {zz}=>rfl
 | succ m zih=>
  exact fun {st}=>by dsimp only [yc8];rw [length_cons,zih]
theorem valN.mk (h:Shp p t c) {X:Prop} {l:List Int} (x:X):valN p (intL l) X:=⟨⟨congrArg intL (ydh l).symm,by have:=h.b;exact yi2 this,by have:=h.b;omega⟩,x⟩
theorem valsN.mk (h:Shp p t c) {X:Prop} {l:List Int} (x:X):∀{m:Nat},valsN p (intL l) m X:=by
 intro zd
 induction zd with
 | zero=>
  exact x
 | succ m zih=>
  exact valN.mk h (zih)
theorem needIs.mk {X:Prop} (x:X):∀{l:List Int},Bd p l->needIs p l X:=by
 intro zd
 induction zd with
 | nil=>
  exact fun zz=>x
 | cons v r zih=>
  exact fun h=>⟨h v (.head _),zih fun u hu=>h u (.tail _ hu)⟩
theorem mul2N.mk {X:Prop} (x:X):∀{l r:List Int},(∀a ∈ l,-(2 ^ 64)<a/\a<2 ^ 64)->mul2N l r X:=@fun zd1 zd2=>@(match zd1,zd2 with
 | [],_=>fun zz=>x
 | _ :: _,[]=>fun zz=>x
 | a :: l,b :: r=>fun h=>⟨mulL (h a (.head _)).1 (h a (.head _)).2,mul2N.mk x fun u hu=>h u (.tail _ hu)⟩)
theorem dealN.mk (h:Shp p t c) {st a:Int} {X:Prop} (ha:0<=a/\a<p) (x:X):dealN p t c st a X:=by
 have b:=h.b;have tc:=h.tc;refine ⟨⟨by exact yqo tc,?_⟩,⟨⟨by exact yl3 tc,by exact yrh tc⟩,⟨⟨ha.1,by exact ymv ha⟩,drawsN.mk h (valsN.mk (l:=a :: yc8 p (t - 1) st) h x)⟩⟩⟩;have:(c:Int)<=4:=by exact yqd tc
 rcases h.p with rfl | rfl
 . exact Int.le_trans this (by decide)
 . exact Int.le_trans this (by decide)
theorem mulsN.mk (h:Shp p t c) {X:Prop} {f:Int} (x:X):∀{l:List Int},Bd p l->mulsN f l X:=by
 intro zd
 induction zd with
 | nil=>
  exact fun zz=>x
 | cons a r zih=>
  exact fun hb=>⟨h.mul (hb a (.head _)),zih fun u hu=>hb u (.tail _ hu)⟩
theorem lowsN.mk (h:Shp p t c) {X:Prop} {pts:List (Int×Int)} {i:Nat} (x:X):∀{l:List Nat},lowsN p pts i l X:=by
 intro zd
 induction zd with
 | nil=>
  exact x
 | cons j r zih=>
   dsimp only [lowsN];split
   . exact zih
   . exact ⟨h.mul (yrp (by have:=h.b;exact yi2 this)),zih⟩
theorem thrN.mk (h:Shp p t c) {X:Prop} {pts:List (Int×Int)} (hy:∀k,k<pts.length->0<=py pts k/\py pts k<p) (x:X):∀{l:List Nat},(∀i ∈ l,i<pts.length)->thrN p pts l X:=by
 intro zd
 induction zd with
 | nil=>
  exact fun zz=>x
 | cons i r zih=>
  exact fun hl=>lowsN.mk h ⟨h.mul (hy i (hl i (.head _))),mulsN.mk h (zih fun j hj=>hl j (.tail _ hj)) (ytt (by have:=h.b;exact yi2 this))⟩
theorem chkN.mk (h:Shp p t c) {X B:Prop} {l:List Int} (x:X):∀{r:List (Int×Int)},(∀q ∈ r,pval p l q.1=q.2)->chkN p B l r X:=by
 intro zd
 induction zd with
 | nil=>
  exact fun zz=>x
 | cons zp0 r zih=>
  obtain ⟨a,b⟩:=zp0;exact fun hq=>valN.mk h (by
   have e:pval p (ybc (intL l)) a=b:=by rw [ydh];exact hq _ (.head _)
   rw [decide_eq_true e];exact zih fun q hx=>hq q (.tail _ hx))
theorem shN.mk {X:Prop} (x:X):∀{l:List (Int×Int)},(∀q ∈ l,(0<=q.1/\q.1<(p:Int))/\(0<=q.2/\q.2<(p:Int)))->shN p l X:=by
 intro zd
 induction zd with
 | nil=>
  exact fun zz=>x
 | cons zp0 r zih=>
  obtain ⟨a,b⟩:=zp0;exact fun h=>by
   haveI Z1:=h _ (.head _);haveI h1:=(zl (zl Z1));haveI h2:=(zr (zl Z1));haveI h3:=(zl (zr Z1));haveI h4:=(zr (zr Z1));clear Z1;exact ⟨⟨h1,Int.le_sub_one_of_lt h2⟩,⟨h3,Int.le_sub_one_of_lt h4⟩,zih fun q hq=>h q (.tail _ hq)⟩
noncomputable def yaq (p:Nat) (row xs:List Int):List (Int×Int):=xs.map fun x=>(x,pval p row x)
theorem yf6 {row xs:List Int} {k:Nat} (h:k<xs.length):(yaq p row xs).getD k (0,0)=(xs.getD k 0,pval p row (xs.getD k 0)):=by
 unfold yaq;simp [getD_eq_getElem?_getD,getElem?_map,getElem?_eq_getElem h]
theorem yct {row xs:List Int}:(yaq p row xs).length=xs.length:=by simp [yaq]
theorem yc2:(xs c).length=c:=by simp [xs]
theorem yu4 {k:Nat} (h:k<c):(xs c).getD k 0=(k:Int)+1:=by
 unfold xs;rw [getD_eq_getElem?_getD,getElem?_map,getElem?_range h];simp
theorem yhd (l:List Int):∀m:Nat,trim (l++List.replicate m 0)=trim l:=by
 intro zd
 induction zd with
 | zero=>
  exact by simp
 | succ m zih=>
  exact by rw [List.replicate_succ',<-append_assoc,ycv,zih]
theorem ypr {pts:List (Int×Int)} {q:Int}:trim (thr q pts)=thr q pts:=by unfold thr;exact yoa _ _ rfl
theorem yg2 (h:Shp p t c) {row:List Int} {n:Nat} (hb:Bd p row) (hl:row.length<=n) (hn:n<=c):thr p ((yaq p row (xs c)).take n)=trim row:=by
 haveI b:=h.b;haveI tc:=h.tc;have ll:((yaq p row (xs c)).take n).length=n:=by rw [length_take,yct,yc2];lia
 have at':∀k,k<n->((yaq p row (xs c)).take n).getD k (0,0)=((k:Int)+1,pval p row ((k:Int)+1)):=fun k hk=>by
   rw [yhu hk,yf6 (by rw [yc2];exact Nat.lt_of_lt_of_le ‹_› ‹_›),yu4 (by exact Nat.lt_of_lt_of_le ‹_› ‹_›)]
 have hd:∀i j,i<((yaq p row (xs c)).take n).length->j<((yaq p row (xs c)).take n).length->i≠j->(px ((yaq p row (xs c)).take n) i - px ((yaq p row (xs c)).take n) j) % (p:Int)≠0:=by
   intro i j hi hj hne;rw [ll] at hi hj;unfold px;rw [at' i hi,at' j hj];show ((i:Int)+1 - ((j:Int)+1)) % (p:Int)≠0;rcases h.p with rfl | rfl <;> lia
 have q:=yth h.fer (pts:=(yaq p row (xs c)).take n) (row:=yd4 n row) (by rw [ll,yfg hl]) (yju (by exact ya4 b) hb) hd (fun k hk=>by
   rw [ll] at hk;unfold py px;rw [at' k hk,yig (by exact ya4 b)])
 rw [ll] at q;haveI q2:=congrArg trim q;unfold yd4 at q2;rwa [yhd,yhd,ypr] at q2
theorem vaN.mk (h:Shp p t c) {B X:Prop} {row:List Int} (hl:row.length=t) (hr:Bd p row) (x:X):vaN p B (yaq p row (xs c)) t X:=by
 haveI b:=h.b;haveI tc:=h.tc;haveI hx:∀a ∈ xs c,0<=a/\a<(p:Int):=fun a ha=>by
   obtain ⟨k,Z1⟩:=mem_map.mp ha;haveI Z2:=(zr Z1);subst Z2;haveI hk:=(zl Z1);clear Z1;haveI:=mem_range.mp hk;lia
 haveI e:=yg2 h hr (n:=t) (by exact Nat.le_of_eq ‹_›) (by exact ymh tc);haveI pv:∀a,pval p (thr p ((yaq p row (xs c)).take t)) a=pval p row a:=fun a=>by
   rw [e];refine Cg.small (p:=p) ?_ (ybh (by exact ya4 b) _ _) (ybh (by exact ya4 b) _ _);refine (ycs _ _ _).trans ?_;rw [yhr _ _ _ rfl];exact (ycs _ _ _).symm
 refine shN.mk ⟨⟨by exact yl3 tc,by lia⟩,thrN.mk h (fun k hk=>?_) (chkN.mk h (valN.mk h x) ?_) fun i hi=>mem_range.mp hi⟩ fun q hq=>?_
 . obtain ⟨a,Z3⟩:=mem_map.mp hq;haveI Z4:=(zr Z3);subst Z4;haveI ha:=(zl Z3);clear Z3;exact ⟨hx a ha,ybh (by exact ya4 b) _ _⟩
 . rw [length_take,yct,yc2] at hk;unfold py;rw [yhu (by lia),yf6 (by rw [yc2];lia)];exact ybh (by exact ya4 b) _ _
 . intro q hq;obtain ⟨a,Z5⟩:=mem_map.mp (List.mem_of_mem_drop hq);haveI Z6:=(zr Z5);subst Z6;clear Z5;exact pv a
theorem yic {row:List Int} (h:row.length=1\/row.length=2):(trim row).headD 0=row.headD 0/\(trim row).length<=row.length:=by
 refine ⟨?_,yjl _ _ rfl⟩;rcases h with h | h
 . obtain ⟨a,rfl⟩:=length_eq_one_iff.mp h
   . skip;by_cases ha:a=0
     . subst ha;rfl
     . rw [show [a]=[]++[a] from rfl,ybq ha]
 . have hr:∃a b,row=[a,b]:=by
     cases row with
     | nil=>cases h
     | cons a r=>
       obtain ⟨b,rfl⟩:=length_eq_one_iff.mp (show r.length=1 from Nat.succ.inj h);exact ⟨a,b,rfl⟩
   obtain ⟨a,b,rfl⟩:=hr
   . skip;by_cases hb:b=0
     . subst hb;rw [show [a,0]=[a]++[0] from rfl,ycv];by_cases ha:a=0
       . subst ha;rfl
       . rw [show [a]=[]++[a] from rfl,ybq ha];rfl
     . rw [show [a,b]=[a]++[b] from rfl,ybq hb]
theorem ytk (h:Shp p t c) {a:Int} {d:List Int} (hd:d.length=t - 1) (x:Int):pval p (a :: d) x=(a+d.headD 0*(((t:Int) - 1)*x)) % p:=by
 rcases h.t with ⟨rfl,_⟩ | ⟨rfl,_⟩
 . haveI:d=[]:=eq_nil_of_length_eq_zero ‹_›;subst this;show (0*x+a) % (p:Int)=_;simp
 . obtain ⟨b,rfl⟩:=length_eq_one_iff.mp (show d.length=1 from hd)
   . skip;show ((0*x+b) % (p:Int)*x+a) % (p:Int)=(a+b*((2 - 1)*x)) % (p:Int);haveI e:(2 - 1:Int)*x=x:=by lia
     rw [e,Int.zero_mul,Int.zero_add,Int.add_comm];exact Cg.add Cg.rfl (Cg.mul Cg.md Cg.rfl)
end
theorem Shp.cases {P:Nat->Nat->Nat->Prop} (h1:P 11 1 1) (h2:P 11 1 2) (h3:P 11 2 3) (h4:P 11 2 4) (h5:P 101 1 1) (h6:P 101 1 2) (h7:P 101 2 3) (h8:P 101 2 4) {p t c:Nat} (h:Shp p t c):P p t c:=by
 rcases h with ⟨rfl | rfl,⟨rfl,rfl | rfl⟩ | ⟨rfl,rfl | rfl⟩⟩
 all_goals assumption
section
variable {p t c:Nat} {L:List (Int×Int)} {st n:Int} {gs:List MV}
noncomputable def zx (t k:Nat):Int:=((t:Int) - 1)*((k:Int)+1)
noncomputable def shs1 (p t:Nat) (L:List (Int×Int)) (k:Nat):List Int:=L.map fun ab=>(ab.1+ab.2*zx t k) % p
noncomputable def eL (p t:Nat) (L:List (Int×Int)) (k:Nat):List (Str×MV):=esI (shs1 p t L k)
noncomputable def sv (p t:Nat) (L:List (Int×Int)) (j k:Nat):Int:=(shs1 p t L k).getD j 0
theorem ycq {k:Nat}:(shs1 p t L k).length=L.length:=by simp [shs1]
theorem yc0 {j k:Nat} (hj:j<L.length):sv p t L j k=((L.getD j (0,0)).1+(L.getD j (0,0)).2*zx t k) % p:=by
 unfold sv shs1;rw [getD_eq_getElem?_getD,getD_eq_getElem?_getD,getElem?_map,getElem?_eq_getElem hj];rfl
theorem yqa (h:Shp p t c) {j k:Nat} (hj:j<L.length):0<=sv p t L j k/\sv p t L j k<p:=by
 rw [yc0 hj];exact md (by have:=h.b;exact ya4 this)
theorem ye8 {j k:Nat} (hj:j<L.length) (M:List (Int×Int)):sv p t (L++M) j k=sv p t L j k:=by
 rw [yc0 hj,yc0 (by rw [length_append];exact Nat.lt_of_lt_of_le ‹_› (Nat.le_add_right _ _)),getD_eq_getElem?_getD,getElem?_append_left hj,<-getD_eq_getElem?_getD]
theorem yn1 {j k:Nat} (hj:j<L.length) (hl:L.length<=9):yas (eL p t L k) (nm j)=some (.int (sv p t L j k)):=yeg (by rw [ycq];exact hj) (by rw [ycq];exact hl)
theorem yec {k:Nat}:(eL p t L k).length=L.length:=by unfold eL;rw [yh2,ycq]
theorem fresh.mk {X:Prop} (hl:L.length<9) (x:X):fresh (eL p t L) (nm L.length) X:=by
 refine ⟨⟨yiy _ hl,?_⟩,x⟩;have:=yez (ns:=shs1 p t L 0) (by rw [ycq];exact hl);rwa [ycq] at this
theorem there.mk {X:Prop} {j:Nat} (hj:j<L.length) (hl:L.length<=9) (x:X):there (eL p t L) (nm j) X:=by
 refine ⟨?_,x⟩;rw [yn1 hj hl];rfl
theorem getN.mk {X:Int->Prop} {j k:Nat} (hj:j<L.length) (hl:L.length<=9) (x:X (sv p t L j k)):getN (eL p t L k) (nm j) X:=⟨_,yn1 hj hl,x⟩
theorem lensN.mk {X:Prop} (hl:L.length<=9) (x:X):∀{l:List Nat},lensN (eL p t L) l X:=by
 intro zd
 induction zd with
 | nil=>
  exact x
 | cons k r zih=>
  exact ⟨by rw [yec];exact Nat.le_trans ‹_› (by decide),zih⟩
theorem ynr {e e':Nat->List (Str×MV)} (h:∀k,k<c->e k=e' k):h21 p t c st n e gs=h21 p t c st n e' gs:=by
 have:(List.range c).flatMap (pty e)=(List.range c).flatMap (pty e'):=by
   rw [List.flatMap_def,List.flatMap_def];congr 1;refine map_congr_left fun k hk=>?_;unfold pty;rw [h k (mem_range.mp hk)]
 unfold h21 hP;rw [this]
theorem ygu {g:Nat->Int} {ab:Int×Int} (hl:L.length<9) (hg:∀k,k<c->g k=(ab.1+ab.2*zx t k) % p):h21 p t c st n (e1 (eL p t L) (nm L.length) g) gs=h21 p t c st n (eL p t (L++[ab])) gs:=by
 refine ynr fun k hk=>?_;unfold e1 eL;haveI:=yh1 (ns:=shs1 p t L k) (v:=g k) (by rw [ycq];exact hl);rw [ycq] at this;rw [this,hg k hk];unfold shs1;rw [map_append];rfl
theorem pv_z {a x:Int} (h:Shp p t c) {d:List Int} (hd:d.length=t - 1) {k:Nat} (hx:x=(k:Int)+1):pval p (a :: d) x=(a+d.headD 0*zx t k) % p:=by rw [ytk h hd,hx];rfl
theorem yut (h:Shp p t c) (hl:L.length<9) {q:MV->MH->Prop} {v:Int} (hv:0<=v/\v<p) (hq:∀s m b,q .none (h21 p t c s m (eL p t (L++[(v,b)])) gs)):ylw p t c st n (eL p t L) gs q (nm L.length) v:=by
 refine fresh.mk hl (dealN.mk h hv (lensN.mk (by exact Nat.le_of_lt ‹_›) ?_));rw [ygu (g:=shr p t v st) (ab:=(v,(yc8 p (t - 1) st).headD 0)) hl fun k hk=>pv_z h yh7 (by rfl)];exact hq _ _ _
theorem yrk {one two:Nat} {X:(Nat->Int)->Prop} (h1:one<L.length) (h2:two<L.length) (hl:L.length<=9):∀{l:List Nat} {g:Nat->Int},l.Nodup->(∀g':Nat->Int,(∀k,k ∈ l->g' k=(sv p t L one k+sv p t L two k) % (p:Int))->(∀k,k ∉ l->g' k=g k)->X g')->ym3 p (eL p t L) (nm one) (nm two) l g X:=by
 intro zd
 induction zd with
 | nil=>
  exact fun {g} zz hX=>hX g (fun k hk=>by cases hk) fun _ _=>rfl
 | cons k r zih=>
  exact fun {g} nd hX=>by
   obtain ⟨n1,n2⟩:=nodup_cons.mp nd;refine getN.mk h1 hl (getN.mk h2 hl ⟨by rw [yec];exact Nat.le_trans ‹_› (by decide),zih n2 fun g' q1 q2=>hX g' (fun m hm=>?_) fun m hm=>?_⟩)
   . rcases zmc hm with rfl | hm
     . rw [q2 _ n1,if_pos rfl]
     . exact q1 m hm
   . rw [q2 m (fun e=>hm (.tail _ e)),if_neg fun e:m=k=>hm (by rw [e];exact .head _)]
theorem yld {one:Nat} {W:Int->Prop->Prop} {f:Int->Int} {X:(Nat->Int)->Prop} (hW:∀k X,X->W (sv p t L one k) X) (h1:one<L.length) (hl:L.length<=9):∀{l:List Nat} {g:Nat->Int},l.Nodup->(∀g':Nat->Int,(∀k,k ∈ l->g' k=f (sv p t L one k))->(∀k,k ∉ l->g' k=g k)->X g')->oneN (eL p t L) (nm one) W f l g X:=by
 intro zd
 induction zd with
 | nil=>
  exact fun {g} zz hX=>hX g (fun k hk=>by cases hk) fun _ _=>rfl
 | cons k r zih=>
  exact fun {g} nd hX=>by
   obtain ⟨n1,n2⟩:=nodup_cons.mp nd;refine getN.mk h1 hl (hW k _ ⟨by rw [yec];exact Nat.le_trans ‹_› (by decide),zih n2 fun g' q1 q2=>hX g' (fun m hm=>?_) fun m hm=>?_⟩)
   . rcases zmc hm with rfl | hm
     . rw [q2 _ n1,if_pos rfl]
     . exact q1 m hm
   . rw [q2 m (fun e=>hm (.tail _ e)),if_neg fun e:m=k=>hm (by rw [e];exact .head _)]
noncomputable def fs (L:List (Int×Int)) (j:Nat):Int×Int:=L.getD j (0,0)
theorem yuc (hl:L.length<9) {one two:Nat} (h1:one<L.length) (h2:two<L.length) {q:MV->MH->Prop} (hq:q .none (h21 p t c st n (eL p t (L++[((fs L one).1+(fs L two).1,(fs L one).2+(fs L two).2)])) gs)):ylb p t c st n (eL p t L) gs q (nm L.length) (nm one) (nm two):=by
 refine fresh.mk hl (there.mk h1 (by exact Nat.le_of_lt ‹_›) (there.mk h2 (by exact Nat.le_of_lt ‹_›) (yrk h1 h2 (by exact Nat.le_of_lt ‹_›) nodup_range fun g q1 _=>?_)));rw [ygu (ab:=((fs L one).1+(fs L two).1,(fs L one).2+(fs L two).2)) hl fun k hk=>?_]
 . exact hq
 . rw [q1 k (mem_range.mpr hk),yc0 h1,yc0 h2,<-Int.add_emod];unfold fs;rw [Int.add_mul];congr 1;lia
theorem yo5 (h:Shp p t c) (hl:L.length<9) {one:Nat} {v:Int} (hv:0<=v/\v<p) (h1:one<L.length) {q:MV->MH->Prop} (hq:q .none (h21 p t c st n (eL p t (L++[(v*(fs L one).1,v*(fs L one).2)])) gs)):yia p t c st n (eL p t L) gs q (nm L.length) (nm one) v:=by
 refine fresh.mk hl (there.mk h1 (by exact Nat.le_of_lt ‹_›) ⟨⟨hv.1,by exact ymv hv⟩,yld (fun k X x=>⟨h.mul hv,x⟩) h1 (by exact Nat.le_of_lt ‹_›) nodup_range fun g q1 _=>?_⟩);rw [ygu (ab:=(v*(fs L one).1,v*(fs L one).2)) hl fun k hk=>?_]
 . exact hq
 . rw [q1 k (mem_range.mpr hk),yc0 h1];unfold fs;show v*(_ % (p:Int)) % (p:Int)=_;rw [Int.mul_assoc,<-Int.mul_add];exact Cg.mul Cg.rfl Cg.md
theorem yox (hl:L.length<9) {one:Nat} {v:Int} (hv:0<=v/\v<p) (h1:one<L.length) {q:MV->MH->Prop} (hq:q .none (h21 p t c st n (eL p t (L++[(v+(fs L one).1,(fs L one).2)])) gs)):yh9 p t c st n (eL p t L) gs q (nm L.length) (nm one) v:=by
 refine fresh.mk hl (there.mk h1 (by exact Nat.le_of_lt ‹_›) ⟨⟨hv.1,by exact ymv hv⟩,yld (fun k X x=>x) h1 (by exact Nat.le_of_lt ‹_›) nodup_range fun g q1 _=>?_⟩);rw [ygu (ab:=(v+(fs L one).1,(fs L one).2)) hl fun k hk=>?_]
 . exact hq
 . rw [q1 k (mem_range.mpr hk),yc0 h1];unfold fs;show (v+_ % (p:Int)) % (p:Int)=_;rw [Int.add_assoc];exact Cg.add Cg.rfl Cg.md
theorem ysg {one:Nat} {X:List Int->Prop} (h1:one<L.length) (hl:L.length<=9):∀{l:List Nat} {r:List Int},X (r++l.map (sv p t L one))->yl5 (eL p t L) (nm one) l r X:=by
 intro zd
 induction zd with
 | nil=>
  exact fun {r} hX=>by
   show X r;simpa using hX
 | cons k l zih=>
  exact fun {r} hX=>getN.mk h1 hl (zih (by simpa using hX))
theorem ytp (h:Shp p t c) (hl:L.length<=9) {one:Nat} (h1:one<L.length) {q:MV->MH->Prop} (hq:q (.int ((fs L one).1 % p)) (h21 p t c st n (eL p t L) gs)):ykf p t c st n (eL p t L) gs q (nm one):=by
 have b:=h.b;have tc:=h.tc;refine there.mk h1 hl (ysg h1 hl ?_);rw [nil_append];have hd:(List.replicate (t - 1) ((fs L one).2 % (p:Int))).length=t - 1:=List.length_replicate;have hr:Bd p ((fs L one).1 % (p:Int) :: List.replicate (t - 1) ((fs L one).2 % (p:Int))):=fun v hv=>by
   rcases zmc hv with rfl | hv
   . exact md (by exact ya4 b)
   . rw [List.eq_of_mem_replicate hv];exact md (by exact ya4 b)
 have hll:((fs L one).1 % (p:Int) :: List.replicate (t - 1) ((fs L one).2 % (p:Int))).length=t:=by simp;exact yp0 tc
 have ez:(xs c).zip ((List.range c).map (sv p t L one))=yaq p ((fs L one).1 % (p:Int) :: List.replicate (t - 1) ((fs L one).2 % (p:Int))) (xs c):=by
   unfold xs yaq;rw [map_map,List.zip_map'];refine map_congr_left fun k hk=>?_;refine Prod.ext rfl ?_;show sv p t L one k=pval p _ (((k+1:Nat)):Int);rw [pv_z (k:=k) h hd (by rfl),yc0 h1];refine Cg.add Cg.md.symm ?_;rcases h.t with ⟨rfl,_⟩ | ⟨rfl,_⟩
   . have:zx 1 k=0:=by unfold zx;simp
     rw [this];simp [Cg]
   . exact Cg.mul Cg.md.symm Cg.rfl
 rw [ez];refine vaN.mk h hll hr ?_;have e2:pval p (ybc (intL (thr p ((yaq p ((fs L one).1 % (p:Int) :: List.replicate (t - 1) ((fs L one).2 % (p:Int))) (xs c)).take t)))) 0=(fs L one).1 % p:=by
   rw [ydh,yg2 h hr (n:=t) (by exact Nat.le_of_eq ‹_›) (by exact ymh tc)];refine Cg.small (p:=p) ?_ (ybh (by exact ya4 b) _ _) (md (by exact ya4 b));refine (ycs _ _ _).trans ?_;rw [yhr _ _ _ rfl,yan];exact Cg.of (by simp)
 rw [e2];exact hq
end
section
variable {p t c:Nat} {L:List (Int×Int)} {st n:Int} {gs:List MV}
structure Dealt (p t c:Nat) (u v:Nat->Int) (F:Nat->Nat->Int):Prop where
 row:∀k,k<c->∃d,d.length=t - 1/\Bd p d/\∀m,F k m=pval p (u k*v k % (p:Int) :: d) (((m+1:Nat)):Int)
theorem Dealt.bd (h:Shp p t c) {u v:Nat->Int} {F:Nat->Nat->Int} (D:Dealt p t c u v F) {k m:Nat} (hk:k<c):0<=F k m/\F k m<p:=by
 obtain ⟨d,Z1⟩:=D.row k hk;haveI e:=(zr (zr Z1));clear Z1;rw [e];exact ybh (by haveI:=h.b;exact ya4 this) _ _
theorem yti (h:Shp p t c) {one two:Nat} (h1:one<L.length) (h2:two<L.length) (hl:L.length<=9) {X:Int->Int->List (List Int)->Prop}:∀{l:List Nat} {s m:Int} {R:List (List Int)},
   (∀s' m' R',R'.length=l.length->(∀(i k:Nat),l[i]?=some k->∃d,R'[i]?=some (sv p t L one k*sv p t L two k % (p:Int) :: d)/\d.length=t - 1/\Bd p d)->X s' m' (R++R'))->mulN p t c (eL p t L) (nm one) (nm two) l s m R X:=by
 intro zd
 induction zd with
 | nil=>
  exact fun {s} {m} {R} hX=>by
   have:=hX s m [] rfl (fun i k e=>by exact no e);rwa [append_nil] at this
 | cons k l zih=>
  exact fun {s} {m} {R} hX=>by
   refine getN.mk h1 hl (getN.mk h2 hl ⟨h.mul (yqa h h1),dealN.mk h (md (by have:=h.b;exact ya4 this)) (zih fun s' m' R' q1 q2=>?_)⟩);have:=hX s' m' ((sv p t L one k*sv p t L two k % (p:Int) :: yc8 p (t - 1) s) :: R') (by simp [q1]) fun i k' e=>by
     cases i with
     | zero=>
       (replace e:=si e;subst e)
       exact ⟨_,rfl,yh7,ypo h⟩
     | succ i=>exact q2 i k' (by simpa using e)
   rwa [append_assoc]
theorem ypy (h:Shp p t c):∀a ∈ wt p c,-(2 ^ 64)<a/\a<2 ^ 64:=
 Shp.cases (P:=fun p t c=>∀a ∈ wt p c,-(2 ^ 64)<a/\a<2 ^ 64) (by decide) (by decide) (by decide) (by decide) (by decide) (by decide) (by decide) (by decide) h
theorem ype (h:Shp p t c) (hl:L.length<=9) {F:Nat->Nat->Int} (hF:∀k m,k<c->0<=F k m/\F k m<p) {X:Prop} (x:X):∀{l:List Nat},ym6 p c F (eL p t L) l X:=by
 intro zd
 induction zd with
 | nil=>
  exact x
 | cons m r zih=>
   refine needIs.mk (mul2N.mk ⟨by rw [yec];exact Nat.le_trans ‹_› (by decide),zih⟩ (ypy h)) fun v hv=>?_;obtain ⟨k,hk,rfl⟩:=mem_map.mp hv;exact hF k m (mem_range.mp hk)
noncomputable def wsum (l r:List Int):Int:=(List.zipWith (·*·) l r).sum
theorem yt2 {q A B C z:Int} {x y f:Nat->Int}:∀{w:List Int} {s:List Nat},(∀k ∈ s,Cg q (f k) (A+B*x k+C*(x k*x k)+y k*z))->
   Cg q (wsum w (s.map f)) (A*wsum w (s.map fun _=>1)+B*wsum w (s.map x)+C*wsum w (s.map fun k=>x k*x k)+wsum w (s.map y)*z):=by
 intro w
 induction w with
 | nil=>intro s _;exact Cg.of (by simp [wsum])
 | cons a w zih=>intro s h;cases s with
   | nil=>exact Cg.of (by simp [wsum])
   | cons k s=>
     haveI h1:=h k (.head _);haveI ih:=zih (s:=s) fun j hj=>h j (.tail _ hj);haveI e:∀g:Nat->Int,wsum (a :: w) ((k :: s).map g)=a*g k+wsum w (s.map g):=fun g=>rfl;rw [e,e,e,e,e];refine (Cg.add (Cg.mul (Cg.rfl (a:=a)) h1) ih).trans (Cg.of ?_);grind
theorem ysa (h:Shp p t c):wsum (wt p c) ((List.range c).map fun _=>1) % p=1/\wsum (wt p c) ((List.range c).map (zx t)) % p=0/\wsum (wt p c) ((List.range c).map fun k=>zx t k*zx t k) % p=0:=
 Shp.cases (P:=fun p t c=>wsum (wt p c) ((List.range c).map fun _=>1) % p=1/\wsum (wt p c) ((List.range c).map (zx t)) % p=0/\wsum (wt p c) ((List.range c).map fun k=>zx t k*zx t k) % p=0) (by decide +kernel) (by decide +kernel) (by decide +kernel) (by decide +kernel) (by decide +kernel) (by decide +kernel) (by decide +kernel) (by decide +kernel) h
theorem yup (h:Shp p t c) {a1 b1 a2 b2:Int} {F:Nat->Nat->Int} (y:Nat->Int) {m:Nat}
   (hF:∀k,k<c->F k m % p=((a1+b1*zx t k)*(a2+b2*zx t k)+y k*zx t m) % p):gat p c F m=(a1*a2+wsum (wt p c) ((List.range c).map y)*zx t m) % p:=by
 haveI key:=yt2 (q:=p) (A:=a1*a2) (B:=a1*b2+b1*a2) (C:=b1*b2) (z:=zx t m) (x:=zx t) (y:=y) (f:=fun k=>F k m) (w:=wt p c) (s:=List.range c) fun k hk=>by
   refine (show Cg _ _ _ from hF k (mem_range.mp hk)).trans (Cg.of ?_);grind
 haveI Z1:=ysa h;haveI e1:=(zl Z1);haveI e2:=(zl (zr Z1));haveI e3:=(zr (zr Z1));clear Z1;refine (show gat p c F m=wsum (wt p c) ((List.range c).map fun k=>F k m) % p from rfl).trans (key.trans ?_);show _ % (p:Int)=_;generalize wsum (wt p c) ((List.range c).map fun _=>1)=u at *;generalize wsum (wt p c) ((List.range c).map (zx t))=v at *;generalize wsum (wt p c) ((List.range c).map fun k=>zx t k*zx t k)=w at *;haveI f1:Cg p u 1:=e1.trans (Int.emod_eq_of_lt (by decide) (by haveI:=h.b;lia)).symm;haveI f2:Cg p v 0:=e2.trans (Int.zero_emod _).symm;haveI f3:Cg p w 0:=e3.trans (Int.zero_emod _).symm;refine (((Cg.rfl.mul f1).add (Cg.rfl.mul f2)).add (Cg.rfl.mul f3)).add Cg.rfl |>.trans (Cg.of ?_)
 simp
structure BookOK (p t c:Nat) (L:List (Int×Int)) (j one two:Nat) (F:Nat->Nat->Int):Prop where
 hj:j<L.length
 h1:one<L.length
 h2:two<L.length
 d:Dealt p t c (sv p t L one) (sv p t L two) F
 g:∀m,m<c->sv p t L j m=gat p c F m
theorem BookOK.app {j one two:Nat} {F:Nat->Nat->Int} (B:BookOK p t c L j one two F) (M:List (Int×Int)):BookOK p t c (L++M) j one two F:=by
 refine ⟨by rw [length_append];exact Nat.lt_add_right _ B.hj,by rw [length_append];exact Nat.lt_add_right _ B.h1,by rw [length_append];exact Nat.lt_add_right _ B.h2,⟨fun k hk=>?_⟩,fun m hm=>?_⟩
 . rw [ye8 B.h1,ye8 B.h2];exact B.d.row k hk
 . rw [ye8 B.hj];exact B.g m hm
theorem yug (h:Shp p t c) (hl:L.length<9) {one two:Nat} (h1:one<L.length) (h2:two<L.length) (hg:gs.length<=1000000) {q:MV->MH->List (Option MO)->Prop}
   (hq:∀s m B F,BookOK p t c (L++[((fs L one).1*(fs L two).1,B)]) L.length one two F->q (.ref (11+3*c)) (h21 p t c s m (eL p t (L++[((fs L one).1*(fs L two).1,B)])) (gs++[.ref (15+3*c+c*(4*c+13))])) ((blk p t c (nm L.length) F).map fun o=>some (brO c o))) :
   ylr p t c st n (eL p t L) gs (nm L.length) (nm one) (nm two) q:=by
 haveI b:=h.b;haveI tc:=h.tc;refine fresh.mk hl (there.mk h1 (by exact Nat.le_of_lt ‹_›) (there.mk h2 (by exact Nat.le_of_lt ‹_›) ⟨mulL (by decide) (by decide),yti h h1 h2 (by exact Nat.le_of_lt ‹_›) fun s m R q1 q2=>?_⟩));rw [nil_append];have row:∀k,k<c->∃d,R.getD k []=(sv p t L one k*sv p t L two k % (p:Int) :: d)/\d.length=t - 1/\Bd p d:=fun k hk=>by
   obtain ⟨d,e1,e2,e3⟩:=q2 k k (getElem?_range hk);exact ⟨d,by rw [getD_eq_getElem?_getD,e1];rfl,e2,e3⟩
 have D:Dealt p t c (sv p t L one) (sv p t L two) (fun2 p R):=⟨fun k hk=>by
   obtain ⟨d,e1,e2,e3⟩:=row k hk;exact ⟨d,e2,e3,fun m=>by unfold fun2;rw [e1]⟩⟩
 have G:∀m,m<c->gat p c (fun2 p R) m=((fs L one).1*(fs L two).1+wsum (wt p c) ((List.range c).map fun k=>(R.getD k []).tail.headD 0)*zx t m) % p:=fun m hm=>by
   refine yup h (b1:=(fs L one).2) (b2:=(fs L two).2) _ fun k hk=>?_;obtain ⟨d,e1,e2,e3⟩:=row k hk;unfold fun2;rw [e1,pv_z h e2 (k:=m) (by rfl),yc0 h1,yc0 h2,<-Int.mul_emod];refine Cg.md.trans (Cg.add Cg.md Cg.rfl)
 refine ype h (by exact Nat.le_of_lt ‹_›) (fun k m hk=>D.bd h hk) ⟨hg,?_⟩;rw [ygu (g:=gat p c (fun2 p R)) (ab:=((fs L one).1*(fs L two).1,wsum (wt p c) ((List.range c).map fun k=>(R.getD k []).tail.headD 0))) hl G];refine hq _ _ _ _ ⟨by simp,by rw [length_append];exact Nat.lt_add_right _ h1,by rw [length_append];exact Nat.lt_add_right _ h2,⟨fun k hk=>?_⟩,fun m hm=>?_⟩
 . rw [ye8 h1,ye8 h2];exact D.row k hk
 . rw [yc0 (by simp),G m hm];simp
theorem ys8 {F:Nat->Nat->Int} {row:List Int} {k:Nat} (e:∀m,F k m=pval p row (((m+1:Nat)):Int)):ptsF c F k=yaq p row (xs c):=by
 unfold ptsF rowF xs yaq;rw [map_map,List.zip_map'];exact map_congr_left fun m hm=>Prod.ext rfl (e m)
theorem yqn (h:Shp p t c) {row:List Int} {i:Nat}:∀k,k<((yaq p row (xs c)).take i).length->0<=py ((yaq p row (xs c)).take i) k/\py ((yaq p row (xs c)).take i) k<p:=fun k hk=>by
 rw [length_take,yct,yc2] at hk;unfold py;rw [yhu (by exact yqr hk),yf6 (by rw [yc2];exact yww hk)];exact ybh (by have:=h.b;exact ya4 this) _ _
theorem yga {l:List Int}:(intL l).length=l.length:=by simp [intL]
theorem yhx (h:Shp p t c) {u v:Nat->Int} {F:Nat->Nat->Int} (D:Dealt p t c u v F) {k:Nat} (hk:k<c):Bd p (rowF c F k):=fun v hv=>by
 obtain ⟨m,_,rfl⟩:=mem_map.mp hv;exact D.bd h hk
theorem yrx (h:Shp p t c) {u v:Nat->Int} {F:Nat->Nat->Int} (D:Dealt p t c u v F) {m:Nat}:Bd p (colN c F m):=fun v hv=>by
 obtain ⟨k,hk,rfl⟩:=mem_map.mp hv;exact D.bd h (mem_range.mp hk)
theorem yh8 (h:Shp p t c) {u v:Nat->Int} {F:Nat->Nat->Int} (D:Dealt p t c u v F) {k:Nat} (hk:k<c):∃row,ptsF c F k=yaq p row (xs c)/\Bd p row/\row.length=t/\row.headD 0=u k*v k % p/\(row.length=1\/row.length=2):=by
 obtain ⟨d,Z1⟩:=D.row k hk;haveI e1:=(zl Z1);haveI e2:=(zl (zr Z1));haveI e3:=(zr (zr Z1));clear Z1;haveI tc:=h.tc;refine ⟨_,ys8 e3,fun v hv=>?_,by rw [length_cons,e1];exact yp0 tc,rfl,by rw [length_cons,e1];lia⟩;rcases zmc hv with rfl | hv
 . exact md (by haveI:=h.b;exact ya4 this)
 . exact e2 v hv
theorem yrl (h:Shp p t c) {u v:Nat->Int} {F:Nat->Nat->Int} (D:Dealt p t c u v F) {X:Prop} (x:X):∀{l:List Nat},(∀k ∈ l,k<c)->fltN p t c F l X:=by
 intro zd
 induction zd with
 | nil=>
  exact fun zz=>x
 | cons k r zih=>
  exact fun hl=>by
   haveI hk:=hl k (.head _);haveI tc:=h.tc;obtain ⟨row,Z1⟩:=yh8 h D hk;haveI e1:=(zl Z1);haveI e2:=(zl (zr Z1));haveI e3:=(zl (zr (zr Z1)));haveI e4:=(zl (zr (zr (zr Z1))));haveI e5:=(zr (zr (zr (zr Z1))));clear Z1;haveI ll:(ptsF c F k).length=c:=by rw [e1,yct,yc2]
   haveI ht:thr p (ptsF c F k)=trim row:=by
     haveI:=yg2 h e2 (n:=c) (by lia) (Nat.le_refl _);rwa [take_of_length_le (by rw [yct,yc2];exact Nat.le_refl _),<-e1] at this
   haveI hle:=(yic e5).2;refine needIs.mk (thrN.mk h ?_ ⟨by rw [ht,yga];lia,⟨by rw [ht,yga];exact decide_eq_false (by lia),zih fun j hj=>hl j (.tail _ hj)⟩⟩ fun i hi=>mem_range.mp hi) (yhx h D hk);intro i hi;haveI:=yqn h (row:=row) (i:=c) i;rw [take_of_length_le (by rw [yct,yc2];exact Nat.le_refl _),<-e1] at this;exact this hi
theorem ysy (h:Shp p t c) (hl:L.length<=9) {j one two:Nat} {F:Nat->Nat->Int} (B:BookOK p t c L j one two F) {X:Prop} (x:X):∀{l:List Nat},(∀k ∈ l,k<c)->chkL p t c (eL p t L) (nm j) (nm one) (nm two) F l X:=by
 intro zd
 induction zd with
 | nil=>
  exact fun zz=>x
 | cons k r zih=>
  exact fun hr=>by
   haveI hk:=hr k (.head _);haveI tc:=h.tc;obtain ⟨row,Z1⟩:=yh8 h B.d hk;haveI e1:=(zl Z1);haveI e2:=(zl (zr Z1));haveI e3:=(zl (zr (zr Z1)));haveI e4:=(zl (zr (zr (zr Z1))));haveI e5:=(zr (zr (zr (zr Z1))));clear Z1;haveI ht:thr p ((ptsF c F k).take t)=trim row:=by rw [e1];exact yg2 h e2 (by exact Nat.le_of_eq ‹_›) (by exact ymh tc)
   haveI th:=yic e5;refine needIs.mk (thrN.mk h ?_ (getN.mk B.h1 hl (getN.mk B.h2 hl ⟨h.mul (yqa h B.h1),⟨⟨congrArg intL (ydh _).symm,by rw [ht,yga];lia⟩,⟨?_,getN.mk B.hj hl (needIs.mk (mul2N.mk ⟨?_,zih fun i hi=>hr i (.tail _ hi)⟩ (ypy h)) (yrx h B.d))⟩⟩⟩)) fun i hi=>mem_range.mp hi) (yhx h B.d hk)
   . rw [e1];exact yqn h
   . rw [ht,ydh,th.1,e4,decide_eq_true rfl];rfl
   . rw [decide_eq_true (B.g k hk)];rfl
theorem yuh (h:Shp p t c) (hl:L.length<=9) {j one two:Nat} {F:Nat->Nat->Int} (B:BookOK p t c L j one two F) {q:List MV->MH->Prop} (hq:q [] (hC p t c st n (eL p t L) gs (nm j) F)):ylq p t c st n (eL p t L) gs (nm j) (nm one) (nm two) F q:=by
 haveI b:=h.b;refine there.mk B.hj hl (there.mk B.h1 hl (there.mk B.h2 hl (needIs.mk ⟨⟨by exact yi2 b,by exact yi1 b⟩,yrl h B.d (ysy h hl B hq fun k hk=>mem_range.mp hk) fun k hk=>mem_range.mp hk⟩ fun v hv=>?_)));obtain ⟨k,Z1⟩:=List.mem_flatMap.mp hv;haveI hk:=(zl Z1);haveI hv:=(zr Z1);clear Z1;exact yhx h B.d (mem_range.mp hk) v hv
end
section
variable {G:Gx} {prog:Program} {w:World}
def tcall (G:Gx) (prog:Program) (w:World) (c:Nat) (f:Addr) (as:List MV) (H:MH) (q:MV->MH->Prop):Prop:=callX G prog w (tbo c) md21 60 false f (.ref 6 :: as) H q noX
def Runs (G:Gx) (prog:Program) (w:World) (p t c:Nat):Prop:=∀(st n:Int) (e:Nat->List (Str×MV)) (gs:List MV) (q:MV->MH->Prop) (name one two:Str) (kn:Int),
 tcall G prog w c ycl [.str name,.int kn] (h21 p t c st n e gs) (tk c q)=ylw p t c st n e gs q name kn/\
 tcall G prog w c yco [.str name,.str one,.str two] (h21 p t c st n e gs) (tk c q)=ylb p t c st n e gs q name one two/\
 tcall G prog w c yb4 [.str name,.int kn,.str one] (h21 p t c st n e gs) (tk c q)=yia p t c st n e gs q name one kn/\
 tcall G prog w c yb6 [.str name,.int kn,.str one] (h21 p t c st n e gs) (tk c q)=yh9 p t c st n e gs q name one kn/\
 tcall G prog w c ycd [.str name] (h21 p t c st n e gs) (tk c q)=ykf p t c st n e gs q name
theorem yeh {p t c:Nat} (h:Shp p t c):Runs G prog w p t c:=by
 refine Shp.cases (P:=Runs G prog w) ?_ ?_ ?_ ?_ ?_ ?_ ?_ ?_ h
 all_goals
   intro st n e gs q name one two kn;refine ⟨?_,?_,?_,?_,?_⟩
   all_goals kernel_rfl
def RunM (G:Gx) (prog:Program) (w:World) (p t c:Nat):Prop:=∀(st n:Int) (e:Nat->List (Str×MV)) (gs:List MV) (q:MV->MH->List (Option MO)->Prop) (name one two:Str),
 tcall G prog w c ybm [.str name,.str one,.str two] (h21 p t c st n e gs) (tkB c q)=ylr p t c st n e gs name one two q
theorem yte {p t c:Nat} (h:Shp p t c):RunM G prog w p t c:=by
 refine Shp.cases (P:=RunM G prog w) ?_ ?_ ?_ ?_ ?_ ?_ ?_ ?_ h
 all_goals
   intro st n e gs q name one two;kernel_rfl
def RunC (G:Gx) (prog:Program) (w:World) (p t c:Nat):Prop:=∀(st n:Int) (e:Nat->List (Str×MV)) (gs:List MV) (q:List MV->MH->Prop) (name one two:Str) (F:Nat->Nat->Int),
 tcall G prog w c ya5 [.str name,.str one,.str two,.ref (10+3*c)] (hC p t c st n e gs name F) (tkC c q)=ylq p t c st n e gs name one two F q
theorem ytr {p t c:Nat} (h:Shp p t c):RunC G prog w p t c:=by
 refine Shp.cases (P:=RunC G prog w) ?_ ?_ ?_ ?_ ?_ ?_ ?_ ?_ h
 all_goals
   intro st n e gs q name one two F;kernel_rfl
def RunI (G:Gx) (prog:Program) (w:World) (p t c:Nat):Prop:=∀(st n:Int) (q:MV->MH->Prop),
 tcall G prog w c ybu [.ref 2,.int t,.int c,.ref 4] (hI p st n) q=ys4 p t c st n q
theorem yr7 {p t c:Nat} (h:Shp p t c):RunI G prog w p t c:=by
 refine Shp.cases (P:=RunI G prog w) ?_ ?_ ?_ ?_ ?_ ?_ ?_ ?_ h
 all_goals
   intro st n q;kernel_rfl
end
noncomputable def ybg:List Str:=["numbers","name"]
noncomputable def ybj:CSs:=(.cons (.ite (.cmp .NotIn (.loc 1) (.loc 0)) (.cons (.raise "ShareError" (.cons (.bin .Add (.str "no number ") (.call "shown" (.cons (.loc 1) .nil))) .nil))
 .nil) .nil)
 (.cons (.ret (.sub (.loc 0) (.loc 1)))
 .nil))
noncomputable def yc1:List Str:=["prime","text","field","numbers","out","step","second","first"]
noncomputable def ye0:CSs:=(.cons (.setItem (.loc 3) (.sub (.loc 5) (.int 1)) (.bin .Mod (.ite (.cmp .In (.sub (.loc 5) (.int 0)) (.tup (.cons (.str "add") (.cons (.str "shift") .nil)))) (.bin .Add (.loc 7) (.loc 6)) (.bin .Mult (.loc 7) (.loc 6))) (.loc 0)))
 .nil)
noncomputable def ya1:CSs:=(.cons (.ite (.cmp .Eq (.sub (.loc 5) (.int 0)) (.str "open")) (.cons (.expr (.meth (.loc 4) "append" (.cons (.tup (.cons (.sub (.loc 5) (.int 1)) (.cons (.call "_number_of" (.cons (.loc 3) (.cons (.sub (.loc 5) (.int 1)) .nil))) .nil))) .nil)))
 (.cons CS.cont
 .nil)) .nil)
 (.cons (.expr (.call "need_name" (.cons (.sub (.loc 5) (.int 1)) .nil)))
 (.cons (.ite (.cmp .In (.sub (.loc 5) (.int 1)) (.loc 3)) (.cons (.raise "ShareError" (.cons (.bin .Add (.str "a number of that name: ") (.sub (.loc 5) (.int 1))) .nil))
 .nil) .nil)
 (.cons (.ite (.cmp .Eq (.sub (.loc 5) (.int 0)) (.str "put")) (.cons (.setItem (.loc 3) (.sub (.loc 5) (.int 1)) (.meth (.loc 2) "need" (.cons (.sub (.loc 5) (.int 2)) .nil)))
 (.cons CS.cont
 .nil)) .nil)
 (.cons (.assign 6 (.call "_number_of" (.cons (.loc 3) (.cons (.sub (.loc 5) (.int 3)) .nil))))
 (.cons (.assign 7 (.ite (.cmp .In (.sub (.loc 5) (.int 0)) (.tup (.cons (.str "add") (.cons (.str "multiply") .nil)))) (.call "_number_of" (.cons (.loc 3) (.cons (.sub (.loc 5) (.int 2)) .nil))) (.meth (.loc 2) "need" (.cons (.sub (.loc 5) (.int 2)) .nil))))
 ye0))))))
noncomputable def ydp:CSs:=(.cons (.assign 2 (.call "Field" (.cons (.loc 0) .nil)))
 (.cons (.assign 3 CE.dict0)
 (.cons (.assign 4 (.list .nil))
 (.cons (.for [5] (.call "steps_of" (.cons (.loc 1) .nil)) ya1)
 (.cons (.ret (.loc 4))
 .nil)))))
theorem yg8 {G:Gx} {prog:Program} {w:World} {f:Addr} {a:Nat} {es:List (Str×MV)} {x:Str} {v:MV} {H:MH} {xp:Addr->List MV->MH->Prop} (D:GDef G f ["numbers","name"] ybg ybj [])
   (ha:H[a]?=some (.dS a es)) (hv:yas es x=some v):CL G prog w 1 f [.ref a,.str x] H (fun r H'=>r=v/\H'=H) xp:=by
 refine D.cl rfl ?_;intro c e1 e2 ok hfm hint hnm hX;show TB c [some (.ref a),some (.str x)] _ _ _;unfold ybj;with_reducible (refine TB.cons ?_;refine TS.ite ?_;refine TT.cqNI ?_;refine TE.loc ‹_› (by with_unfolding_all rfl) ?_;refine TE.loc ‹_› (by with_unfolding_all rfl) ?_)
 refine ⟨_,Cq.ninDS ha,fun h=>(by rw [hv] at h;exact nb h),fun _=>?_⟩;with_reducible (refine TB.nil ?_;refine TB.cons ?_;refine TS.ret ?_;refine TE.sq ?_;refine TE.loc ‹_› (by with_unfolding_all rfl) ?_;refine TE.loc ‹_› (by with_unfolding_all rfl) ?_)
 exact ⟨_,Sq.dS ha hv,rfl,rfl⟩
theorem yj9 {G:Gx} {prog:Program} {w:World} {f C:Addr} {i kk:Nat} {p a:Int} {H:MH} {xp:Addr->List MV->MH->Prop} (D:GDef G f ["self","a"] yb3 yb8 []) (F:FieldK G C)
   (hF:Ins H i C kk [("prime",.int p)]) (h0:0<=a) (h1:a<p):CL G prog w 2 f [.ref i,.int a] H (fun v H'=>v=.int a/\H'=H) xp:=by
 haveI bs:=F.bs;haveI ga:=F.att;obtain ⟨fN,Z1⟩:=F.nn;haveI gN:=(zl Z1);haveI dN:=(zr Z1);clear Z1;refine D.cl rfl ?_;intro c e1 e2 ok hfm hint hnm hX;subst e1 e2;show TB c [some (.ref i),some (.int a)] _ _ _;unfold yb8;with_reducible (refine TB.cons ?_;refine TS.ret ?_;refine TE.call ‹_› ‹_› ?_;refine TEs.cons ?_;refine TE.loc ‹_› (by with_unfolding_all rfl) ?_;refine TEs.cons ?_;refine TE.int ?_;refine TEs.cons ?_;refine TE.op ‹_› ?_;refine TE.attr ‹_› ?_;refine TE.loc ‹_› (by with_unfolding_all rfl) ?_;refine ⟨_,_,_,_,_,rfl,by (first | assumption | exact Ext.ins ‹_› ‹_›),by with_unfolding_all rfl,by assumption,?_⟩;refine TE.int ?_;refine ⟨_,BinI.sub,?_⟩;refine TEs.cons ?_;refine TE.str ?_;refine TEs.nil ?_)
 exact (ycf dN bs h0 (by exact yv4 h1)).use (Nat.le_refl _) fun _ _ x=>x
structure PlK (G:Gx) (C fS fW:Addr):Prop where
 F:FieldK G C
 N:NameK G
 st:StK G fW
 gS:GFn G "steps_of" fS
 dS:GDef G fS ["text"] ybz yce []
 nd:∃f,GMth G C "need" f/\GDef G f ["self","a"] yb3 yb8 []
 no:∃f,GFn G "_number_of" f/\GDef G f ["numbers","name"] ybg ybj []
structure PlI (p:Int) (C:Addr) (ss:List Stp) (H0:MH) (iF kF dD o lst:Nat) (rs:List Nat) (i:Nat) (H:MH):Prop where
 fF:Ins H iF C kF [("prime",.int p)]
 fD:H[dD]?=some (.dS dD (esI (vals p (ss.take i))))
 fO:OutAt H o ((vals p ss).take (i - ss.length))
 fL:H[lst]?=some (.list (refL rs))
 fT:∀(j r:Nat) l,rs[j]?=some r->(yai ss)[j]?=some l->H[r]?=some (.tup (ltp l))
 fE:Ext H0 H
 hd:H0.length<=dD
 ho:H0.length<=o
 ne:lst≠o
theorem PlI.app {p:Int} {C:Addr} {ss:List Stp} {H0:MH} {iF kF dD o lst:Nat} {rs:List Nat} {i:Nat} {H:MH} (J:PlI p C ss H0 iF kF dD o lst rs i H) (x:MH):PlI p C ss H0 iF kF dD o lst rs i (H++x):=
 have e:=(Ext.refl H).app x
 ⟨e.ins J.fF,e _ _ J.fD,J.fO.ext e,e _ _ J.fL,fun j r l a b=>e _ _ (J.fT j r l a b),J.fE.trans e,J.hd,J.ho,J.ne⟩
section
variable {G:Gx} {c:Cx} {C fS fW:Addr} {p:Int} {ss:List Stp} {H0:MH} {iF kF dD o lst:Nat} {rs:List Nat} {i:Nat} {H:MH} {txt:Str} {w6 w7:Option MV}
theorem ynl (ok:Ok G c 110) (hfm:c.fm=none) (hint:interactive c.env=false) (K:PlK G C fS fW) (J:PlI p C ss H0 iF kF dD o lst rs (ss.length+i) H) {r:Nat} (hi:i<ss.length) (h8:ss.length<=8) (hr:H[r]?=some (.tup (ltp (.opn (nm i)))))
   {post:Fl->ML->MH->Prop} (hp:∀H',PlI p C ss H0 iF kF dD o lst rs (ss.length+i+1) H'->post .cont [some (.int p),some (.str txt),some (.ref iF),some (.ref dD),some (.ref o),some (.ref r),w6,w7] H') :
   TB c [some (.int p),some (.str txt),some (.ref iF),some (.ref dD),some (.ref o),some (.ref r),w6,w7] ya1 H post:=by
 obtain ⟨fN,Z1⟩:=K.no;haveI gN:=(zl Z1);haveI dN:=(zr Z1);clear Z1;haveI hle:(ltp (.opn (nm i))).length<=1000000:=zlb rfl;haveI lv:(vals p (ss.take (ss.length+i))).length=ss.length:=by rw [take_of_length_le (by exact Nat.le_add_right _ _),yay]
 haveI hv:yas (esI (vals p (ss.take (ss.length+i)))) (nm i)=some (.int ((vals p ss).getD i 0)):=by
   rw [yeg (by exact ydn hi lv) (by exact ymw h8 lv),take_of_length_le (by exact Nat.le_add_right _ _)]
 haveI lo:((vals p ss).take (ss.length+i - ss.length)).length=i:=by rw [length_take,yay];exact ypv hi
 haveI ho:=J.fO;obtain ⟨rs0,Z2⟩:=J.fO;haveI a0:=(zl Z2);haveI b0:=(zl (zr Z2));haveI c0:=(zr (zr Z2));clear Z2;unfold ya1;with_reducible (refine TB.cons ?_;refine TS.ite ?_;refine TT.cmp ?_;refine TE.sq ?_;refine TE.loc ‹_› (by with_unfolding_all rfl) ?_;refine TE.int ?_)
 refine ⟨_,Sq.tup (n:=0) (v:=.str "open") hr hle rfl,?_⟩;with_reducible (refine TE.str ?_)
 refine ⟨true,rfl,dL (by first | exact nf1 | exact nf2) ?_⟩;with_reducible (refine TB.cons ?_;refine TS.expr ‹_› ?_;refine TE.append ?_;refine TE.loc ‹_› (by with_unfolding_all rfl) ?_)
 refine ⟨o,_,rfl,a0,?_⟩;with_reducible (refine TE.tup ?_;refine TEs.cons ?_;refine TE.sq ?_;refine TE.loc ‹_› (by with_unfolding_all rfl) ?_;refine TE.int ?_)
 refine ⟨_,Sq.tup (n:=1) (v:=.str (nm i)) hr hle rfl,?_⟩;with_reducible (refine TEs.cons ?_;refine TE.call ‹_› ‹_› ?_;refine TEs.cons ?_;refine TE.loc ‹_› (by with_unfolding_all rfl) ?_;refine TEs.cons ?_;refine TE.sq ?_;refine TE.loc ‹_› (by with_unfolding_all rfl) ?_;refine TE.int ?_)
 refine ⟨_,Sq.tup (n:=1) (v:=.str (nm i)) hr hle rfl,?_⟩;with_reducible (refine TEs.nil ?_)
 refine (yg8 dN J.fD hv).useE (by decide) ?_;with_reducible (refine TEs.nil ?_)
 haveI e1:((vals p ss).take (ss.length+i - ss.length))++[(vals p ss).getD i 0]=(vals p ss).take (ss.length+i+1 - ss.length):=by
   haveI hi':(vals p ss)[i]?=some ((vals p ss).getD i 0):=by
     rw [getD_eq_getElem?_getD,getElem?_eq_getElem (by rw [yay];assumption)];rfl
   rw [show ss.length+i - ss.length=i by exact yqb,show ss.length+i+1 - ss.length=i+1 by exact yp8,take_succ,hi'];rfl
 haveI hE:=(Ext.refl H).app [.tup [.str (nm i),.int ((vals p ss).getD i 0)]];obtain ⟨ys,Z3⟩:=ho.put (v:=(vals p ss).getD i 0) hE (t:=H.length) (by rw [lo];exact yaf);haveI y1:=(zl Z3);haveI y2:=(zl (zr Z3));haveI y3:=(zr (zr Z3));clear Z3;refine ⟨zlb rfl,ys,y1,by rw [y2,lo];exact yq6 hi h8,?_⟩;rw [e1] at y3;haveI J1:=J.app [.tup [.str (nm i),.int ((vals p ss).getD i 0)]];refine TB.cons (TS.cont (hp _ ⟨⟨yak J1.fF.1 y1 (by simp),yak J1.fF.2 y1 (by simp)⟩,?_,y3,?_,fun j r l a b=>yak (J1.fT j r l a b) y1 (by simp),J1.fE.set J.ho,J.hd,J.ho,J.ne⟩))
 . haveI:=yak (y:=.list (ys++[.ref H.length])) J1.fD y1 (by simp);rw [take_of_length_le (by lia)] at this ⊢;exact this
 . rw [getElem?_set_ne (Ne.symm J.ne)];exact J1.fL
theorem yom (ok:Ok G c 110) (hfm:c.fm=none) (hint:interactive c.env=false) (K:PlK G C fS fW) (J:PlI p C ss H0 iF kF dD o lst rs i H) {r:Nat} {v:Int} (hs:ss[i]?=some (.put v)) (h8:ss.length<=8) (hv:0<=v/\v<p) (hr:H[r]?=some (.tup (ltp (linS i (.put v)))))
   {post:Fl->ML->MH->Prop} (hp:∀H',PlI p C ss H0 iF kF dD o lst rs (i+1) H'->post .cont [some (.int p),some (.str txt),some (.ref iF),some (.ref dD),some (.ref o),some (.ref r),w6,w7] H') :
   TB c [some (.int p),some (.str txt),some (.ref iF),some (.ref dD),some (.ref o),some (.ref r),w6,w7] ya1 H post:=by
 obtain ⟨fN,gN,dN⟩:=K.N.nn;obtain ⟨fD,gD,dD'⟩:=K.nd;have hlt:=(zgs hs).1;have hle:(ltp (linS i (.put v))).length<=1000000:=zlb rfl;have lv:(vals p (ss.take i)).length=i:=by rw [yay,length_take];exact yg3 hlt
 have hF:=J.fF;unfold ya1;with_reducible (refine TB.cons ?_;refine TS.ite ?_;refine TT.cmp ?_;refine TE.sq ?_;refine TE.loc ‹_› (by with_unfolding_all rfl) ?_;refine TE.int ?_)
 refine ⟨_,Sq.tup (n:=0) (v:=.str "put") hr hle rfl,?_⟩;with_reducible (refine TE.str ?_)
 refine ⟨false,rfl,dR (by first | exact nf1 | exact nf2) ?_⟩;with_reducible (refine TB.nil ?_;refine TB.cons ?_;refine TS.expr ‹_› ?_;refine TE.call ‹_› ‹_› ?_;refine TEs.cons ?_;refine TE.sq ?_;refine TE.loc ‹_› (by with_unfolding_all rfl) ?_;refine TE.int ?_)
 refine ⟨_,Sq.tup (n:=1) (v:=.str (nm i)) hr hle rfl,?_⟩;with_reducible (refine TEs.nil ?_)
 refine (ycw dN K.N (yiy i (by exact ydb h8 hlt))).useE (by decide) ?_;with_reducible (refine TB.cons ?_;refine TS.ite ?_;refine TT.cqIn ?_;refine TE.sq ?_;refine TE.loc ‹_› (by with_unfolding_all rfl) ?_;refine TE.int ?_)
 refine ⟨_,Sq.tup (n:=1) (v:=.str (nm i)) hr hle rfl,?_⟩;with_reducible (refine TE.loc ‹_› (by with_unfolding_all rfl) ?_)
 refine ⟨_,Cq.inDS J.fD,fun h=>?_,fun _=>?_⟩
 . have:=yez (ns:=vals p (ss.take i)) (by exact yhm h8 hlt lv);rw [lv] at this;rw [this] at h;exact nb h
 with_reducible (refine TB.nil ?_;refine TB.cons ?_;refine TS.ite ?_;refine TT.cmp ?_;refine TE.sq ?_;refine TE.loc ‹_› (by with_unfolding_all rfl) ?_;refine TE.int ?_)
 refine ⟨_,Sq.tup (n:=0) (v:=.str "put") hr hle rfl,?_⟩;with_reducible (refine TE.str ?_)
 refine ⟨true,rfl,dL (by first | exact nf1 | exact nf2) ?_⟩;with_reducible (refine TB.cons ?_;refine TS.setItem ?_;refine TE.meth ‹_› ?_;refine TE.loc ‹_› (by with_unfolding_all rfl) ?_;refine ⟨_,_,_,_,_,rfl,by (first | assumption | exact Ext.ins ‹_› ‹_›),by with_unfolding_all rfl,by assumption,?_⟩;refine TEs.cons ?_;refine TE.sq ?_;refine TE.loc ‹_› (by with_unfolding_all rfl) ?_;refine TE.int ?_)
 refine ⟨_,Sq.tup (n:=2) (v:=.int v) hr hle rfl,?_⟩;with_reducible (refine TEs.nil ?_)
 refine (yj9 dD' K.F J.fF hv.1 hv.2).useE (by decide) ?_;with_reducible (refine TE.loc ‹_› (by with_unfolding_all rfl) ?_;refine TE.sq ?_;refine TE.loc ‹_› (by with_unfolding_all rfl) ?_;refine TE.int ?_)
 refine ⟨_,Sq.tup (n:=1) (v:=.str (nm i)) hr hle rfl,?_⟩;refine ⟨_,Uq.dS J.fD (by rw [yh2,lv];exact yp2 h8 hlt),?_⟩;have e1:putD (esI (vals p (ss.take i))) (nm i) (.int v)=esI (vals p (ss.take (i+1))):=by
   have:=yh1 (ns:=vals p (ss.take i)) (v:=v) (by exact yhm h8 hlt lv);rw [lv] at this;rw [this,yd1 hs];rfl
 rw [e1];have hd:=J.fD;refine TB.cons (TS.cont (hp _ ⟨⟨yak J.fF.1 hd (by simp),yak J.fF.2 hd (by simp)⟩,?_,?_,yak J.fL hd (by simp),fun j r l a b=>yak (J.fT j r l a b) hd (by simp),J.fE.set J.hd,J.hd,J.ho,J.ne⟩))
 . rw [getElem?_set_self (zgs hd).1]
 . rw [show i+1 - ss.length=i - ss.length by exact ylx hlt];exact J.fO.off hd (by simp) (by simp)
theorem yif (ok:Ok G c 110) (hfm:c.fm=none) (J:PlI p C ss H0 iF kF dD o lst rs i H) {r:Nat} {s:Stp} {x y:Int} {m:Bool} {k:Str} {a2:MV} (hs:ss[i]?=some s) (h8:ss.length<=8) (hp0:0<p) (hp20:p<=1048576) (hev:ev p (vals p (ss.take i)) s=opI p m x y) (hx:0<=x/\x<p)
   (hk:([("add":Str),"shift"].any (·==k))=!m) (hr:H[r]?=some (.tup [.str k,.str (nm i),a2,.str (nm 0)])\/∃b,H[r]?=some (.tup [.str k,.str (nm i),a2,.str (nm b)]))
   {post:Fl->ML->MH->Prop} (hp:∀H',PlI p C ss H0 iF kF dD o lst rs (i+1) H'->post .next [some (.int p),some (.str txt),some (.ref iF),some (.ref dD),some (.ref o),some (.ref r),some (.int y),some (.int x)] H') :
   TB c [some (.int p),some (.str txt),some (.ref iF),some (.ref dD),some (.ref o),some (.ref r),some (.int y),some (.int x)] ye0 H post:=by
 obtain ⟨b,hr⟩:∃b,H[r]?=some (.tup [.str k,.str (nm i),a2,.str (nm b)]):=hr.elim (fun h=>⟨0,h⟩) fun h=>h;haveI hlt:=(zgs hs).1;haveI hle:[MV.str k,.str (nm i),a2,.str (nm b)].length<=1000000:=zlb rfl;haveI lv:(vals p (ss.take i)).length=i:=by rw [yay,length_take];exact ywl hk hlt
 unfold ye0;with_reducible (refine TB.cons ?_;refine TS.setItem ?_;refine TE.op ‹_› ?_;refine TE.ite ?_;refine TT.cqIn ?_;refine TE.sq ?_;refine TE.loc ‹_› (by with_unfolding_all rfl) ?_;refine TE.int ?_)
 refine ⟨_,Sq.tup (n:=0) (v:=.str k) hr hle rfl,?_⟩;with_reducible (refine TE.tup ?_;refine TEs.cons ?_;refine TE.str ?_;refine TEs.cons ?_;refine TE.str ?_;refine TEs.nil ?_)
 refine ⟨zlb rfl,?_⟩;haveI q:=Cq.inTS (c:=c) (H:=H++[.tup (strL ["add","shift"])]) (ys:=["add","shift"]) (x:=k) yaf;rw [hk] at q;haveI J1:=J.app [.tup (strL ["add","shift"])];haveI hr1:=(Ext.refl H).app [.tup (strL ["add","shift"])] _ _ hr;refine ⟨_,q,?_⟩;haveI e1:putD (esI (vals p (ss.take i))) (nm i) (.int (opI p m x y))=esI (vals p (ss.take (i+1))):=by
   haveI:=yh1 (ns:=vals p (ss.take i)) (v:=opI p m x y) (by exact yhm h8 hlt lv);rw [lv] at this;rw [this,yd1 hs,hev]
 haveI fin:∃H4,Uq c (H++[.tup (strL ["add","shift"])]) (.ref dD) (.str (nm i)) (.int (opI p m x y)) H4/\TB c [some (.int p),some (.str txt),some (.ref iF),some (.ref dD),some (.ref o),some (.ref r),some (.int y),some (.int x)] .nil H4 post:=by
   refine ⟨_,Uq.dS J1.fD (by rw [yh2,lv];exact yp2 h8 hlt),?_⟩;rw [e1];haveI hd:=J1.fD;refine TB.nil (hp _ ⟨⟨yak J1.fF.1 hd (by simp),yak J1.fF.2 hd (by simp)⟩,?_,?_,yak J1.fL hd (by simp),fun j r l a b=>yak (J1.fT j r l a b) hd (by simp),J1.fE.set J1.hd,J1.hd,J1.ho,J1.ne⟩)
   . rw [getElem?_set_self (zgs hd).1]
   . rw [show i+1 - ss.length=i - ss.length by exact ylx hlt];exact J1.fO.off hd (by simp) (by simp)
 cases m with
 | true=>
   refine (dR (by first | exact nf1 | exact nf2) ?_);with_reducible (refine TE.op ‹_› ?_;refine TE.loc ‹_› (by with_unfolding_all rfl) ?_;refine TE.loc ‹_› (by with_unfolding_all rfl) ?_;refine ⟨_,BinI.mul (mulL (by exact ywk hx) (by lia)),?_⟩;refine TE.loc ‹_› (by with_unfolding_all rfl) ?_;refine ⟨_,BinI.modP (by exact yre hp0),?_⟩;refine TE.loc ‹_› (by with_unfolding_all rfl) ?_;refine TE.sq ?_;refine TE.loc ‹_› (by with_unfolding_all rfl) ?_;refine TE.int ?_)
   refine ⟨_,Sq.tup (n:=1) (v:=.str (nm i)) hr1 hle rfl,?_⟩;exact .of fin
 | false=>
   refine (dL (by first | exact nf1 | exact nf2) ?_);with_reducible (refine TE.op ‹_› ?_;refine TE.loc ‹_› (by with_unfolding_all rfl) ?_;refine TE.loc ‹_› (by with_unfolding_all rfl) ?_;refine ⟨_,BinI.add,?_⟩;refine TE.loc ‹_› (by with_unfolding_all rfl) ?_;refine ⟨_,BinI.modP (by exact yre hp0),?_⟩;refine TE.loc ‹_› (by with_unfolding_all rfl) ?_;refine TE.sq ?_;refine TE.loc ‹_› (by with_unfolding_all rfl) ?_;refine TE.int ?_)
   refine ⟨_,Sq.tup (n:=1) (v:=.str (nm i)) hr1 hle rfl,?_⟩;exact .of fin
theorem yno (ok:Ok G c 110) (hfm:c.fm=none) (hint:interactive c.env=false) (K:PlK G C fS fW) (J:PlI p C ss H0 iF kF dD o lst rs i H) {r:Nat} {m:Bool} {a b:Nat} (hs:ss[i]?=some (.bin m a b)) (h8:ss.length<=8) (hp0:0<p) (hp20:p<=1048576) (hok:okP p ss) (hr:H[r]?=some (.tup (ltp (linS i (.bin m a b)))))
   {post:Fl->ML->MH->Prop} (hp:∀w6 w7 H',PlI p C ss H0 iF kF dD o lst rs (i+1) H'->post .next [some (.int p),some (.str txt),some (.ref iF),some (.ref dD),some (.ref o),some (.ref r),w6,w7] H') :
   TB c [some (.int p),some (.str txt),some (.ref iF),some (.ref dD),some (.ref o),some (.ref r),w6,w7] ya1 H post:=by
 obtain ⟨fN,Z1⟩:=K.N.nn;haveI gN:=(zl Z1);haveI dN:=(zr Z1);clear Z1;obtain ⟨fO,Z2⟩:=K.no;haveI gO:=(zl Z2);haveI dO:=(zr Z2);clear Z2;haveI Z3:=hok _ _ hs;haveI ha:=(zl Z3);haveI hb:=(zr Z3);clear Z3;haveI hlt:=(zgs hs).1;haveI lv:(vals p (ss.take i)).length=i:=by rw [yay,length_take];exact yg3 hlt
 haveI ga:=yeg (ns:=vals p (ss.take i)) (j:=a) (by exact ydn ha lv) (by exact yl8 h8 hlt lv);haveI gb:=yeg (ns:=vals p (ss.take i)) (j:=b) (by exact ydn hb lv) (by exact yl8 h8 hlt lv);haveI bd:0<=(vals p (ss.take i)).getD a 0/\(vals p (ss.take i)).getD a 0<p:=by
   refine ys2 hp0 (fun j s h=>?_) _ (by rw [getD_eq_getElem?_getD,getElem?_eq_getElem (by exact ydn ha lv)];exact List.getElem_mem _);rw [getElem?_take] at h;split at h
   . exact hok _ _ h
   . exact no h
 obtain ⟨k,ek,k1,k2,k3,k4⟩:∃k:Str,ltp (linS i (.bin m a b))=[.str k,.str (nm i),.str (nm a),.str (nm b)]/\decide (k="open")=false/\decide (k="put")=false/\([("add":Str),"multiply"].any (·==k))=true/\([("add":Str),"shift"].any (·==k))=!m:=by
   cases m
   . exact ⟨"add",by simp [ltp,linS,opS],by decide +kernel,by decide +kernel,by decide +kernel,by decide +kernel⟩
   . exact ⟨"multiply",by kernel_rfl,by decide +kernel,by decide +kernel,by decide +kernel,by decide +kernel⟩
 rw [ek] at hr;haveI hle:[MV.str k,.str (nm i),.str (nm a),.str (nm b)].length<=1000000:=zlb rfl;unfold ya1;with_reducible (refine TB.cons ?_;refine TS.ite ?_;refine TT.cmp ?_;refine TE.sq ?_;refine TE.loc ‹_› (by with_unfolding_all rfl) ?_;refine TE.int ?_)
 refine ⟨_,Sq.tup (n:=0) (v:=.str k) hr hle rfl,?_⟩;with_reducible (refine TE.str ?_)
 refine ⟨false,k1.symm,dR (by first | exact nf1 | exact nf2) ?_⟩;with_reducible (refine TB.nil ?_;refine TB.cons ?_;refine TS.expr ‹_› ?_;refine TE.call ‹_› ‹_› ?_;refine TEs.cons ?_;refine TE.sq ?_;refine TE.loc ‹_› (by with_unfolding_all rfl) ?_;refine TE.int ?_)
 refine ⟨_,Sq.tup (n:=1) (v:=.str (nm i)) hr hle rfl,?_⟩;with_reducible (refine TEs.nil ?_)
 refine (ycw dN K.N (yiy i (by exact ydb h8 hlt))).useE (by decide) ?_;with_reducible (refine TB.cons ?_;refine TS.ite ?_;refine TT.cqIn ?_;refine TE.sq ?_;refine TE.loc ‹_› (by with_unfolding_all rfl) ?_;refine TE.int ?_)
 refine ⟨_,Sq.tup (n:=1) (v:=.str (nm i)) hr hle rfl,?_⟩;with_reducible (refine TE.loc ‹_› (by with_unfolding_all rfl) ?_)
 refine ⟨_,Cq.inDS J.fD,fun h=>?_,fun _=>?_⟩
 . haveI:=yez (ns:=vals p (ss.take i)) (by exact yhm h8 hlt lv);rw [lv] at this;rw [this] at h;exact nb h
 with_reducible (refine TB.nil ?_;refine TB.cons ?_;refine TS.ite ?_;refine TT.cmp ?_;refine TE.sq ?_;refine TE.loc ‹_› (by with_unfolding_all rfl) ?_;refine TE.int ?_)
 refine ⟨_,Sq.tup (n:=0) (v:=.str k) hr hle rfl,?_⟩;with_reducible (refine TE.str ?_)
 refine ⟨false,k2.symm,dR (by first | exact nf1 | exact nf2) ?_⟩;with_reducible (refine TB.nil ?_;refine TB.cons ?_;refine TS.assign ‹_› ‹_› (by with_unfolding_all rfl) ?_;refine TE.call ‹_› ‹_› ?_;refine TEs.cons ?_;refine TE.loc ‹_› (by with_unfolding_all rfl) ?_;refine TEs.cons ?_;refine TE.sq ?_;refine TE.loc ‹_› (by with_unfolding_all rfl) ?_;refine TE.int ?_)
 refine ⟨_,Sq.tup (n:=3) (v:=.str (nm b)) hr hle rfl,?_⟩;with_reducible (refine TEs.nil ?_)
 refine (yg8 dO J.fD gb).useE (by decide) ?_;with_reducible (refine TB.cons ?_;refine TS.assign ‹_› ‹_› (by with_unfolding_all rfl) ?_;refine TE.ite ?_;refine TT.cqIn ?_;refine TE.sq ?_;refine TE.loc ‹_› (by with_unfolding_all rfl) ?_;refine TE.int ?_)
 refine ⟨_,Sq.tup (n:=0) (v:=.str k) hr hle rfl,?_⟩;with_reducible (refine TE.tup ?_;refine TEs.cons ?_;refine TE.str ?_;refine TEs.cons ?_;refine TE.str ?_;refine TEs.nil ?_)
 refine ⟨zlb rfl,?_⟩;haveI q:=Cq.inTS (c:=c) (H:=H++[.tup (strL ["add","multiply"])]) (ys:=["add","multiply"]) (x:=k) yaf;rw [k3] at q;haveI J1:=J.app [.tup (strL ["add","multiply"])];haveI hr1:=(Ext.refl H).app [.tup (strL ["add","multiply"])] _ _ hr;refine ⟨_,q,dL (by first | exact nf1 | exact nf2) ?_⟩;with_reducible (refine TE.call ‹_› ‹_› ?_;refine TEs.cons ?_;refine TE.loc ‹_› (by with_unfolding_all rfl) ?_;refine TEs.cons ?_;refine TE.sq ?_;refine TE.loc ‹_› (by with_unfolding_all rfl) ?_;refine TE.int ?_)
 refine ⟨_,Sq.tup (n:=2) (v:=.str (nm a)) hr1 hle rfl,?_⟩;with_reducible (refine TEs.nil ?_)
 refine (yg8 dO J1.fD ga).useE (by decide) ?_;exact yif (ss:=ss) (s:=.bin m a b) ok hfm J1 hs h8 hp0 hp20 rfl bd k4 (.inr ⟨b,hr1⟩) fun H' h=>hp _ _ H' h
theorem yoo (ok:Ok G c 110) (hfm:c.fm=none) (hint:interactive c.env=false) (K:PlK G C fS fW) (J:PlI p C ss H0 iF kF dD o lst rs i H) {r:Nat} {m:Bool} {v:Int} {b:Nat} (hs:ss[i]?=some (.kno m v b)) (h8:ss.length<=8) (hp0:0<p) (hp20:p<=1048576) (hok:okP p ss) (hr:H[r]?=some (.tup (ltp (linS i (.kno m v b)))))
   {post:Fl->ML->MH->Prop} (hp:∀w6 w7 H',PlI p C ss H0 iF kF dD o lst rs (i+1) H'->post .next [some (.int p),some (.str txt),some (.ref iF),some (.ref dD),some (.ref o),some (.ref r),w6,w7] H') :
   TB c [some (.int p),some (.str txt),some (.ref iF),some (.ref dD),some (.ref o),some (.ref r),w6,w7] ya1 H post:=by
 obtain ⟨fN,Z1⟩:=K.N.nn;haveI gN:=(zl Z1);haveI dN:=(zr Z1);clear Z1;obtain ⟨fO,Z2⟩:=K.no;haveI gO:=(zl Z2);haveI dO:=(zr Z2);clear Z2;obtain ⟨fD,Z3⟩:=K.nd;haveI gD:=(zl Z3);haveI dD':=(zr Z3);clear Z3;haveI Z4:=hok _ _ hs;haveI hv:=(zl Z4);haveI hb:=(zr Z4);clear Z4;haveI hlt:=(zgs hs).1;haveI lv:(vals p (ss.take i)).length=i:=by rw [yay,length_take];exact yg3 hlt
 haveI gb:=yeg (ns:=vals p (ss.take i)) (j:=b) (by exact ydn hb lv) (by exact yl8 h8 hlt lv);obtain ⟨k,ek,k1,k2,k3,k4⟩:∃k:Str,ltp (linS i (.kno m v b))=[.str k,.str (nm i),.int v,.str (nm b)]/\decide (k="open")=false/\decide (k="put")=false/\([("add":Str),"multiply"].any (·==k))=false/\([("add":Str),"shift"].any (·==k))=!m:=by
   cases m
   . exact ⟨"shift",by simp [ltp,linS,opS],by decide +kernel,by decide +kernel,by decide +kernel,by decide +kernel⟩
   . exact ⟨"scale",by kernel_rfl,by decide +kernel,by decide +kernel,by decide +kernel,by decide +kernel⟩
 rw [ek] at hr;haveI hle:[MV.str k,.str (nm i),.int v,.str (nm b)].length<=1000000:=zlb rfl;unfold ya1;with_reducible (refine TB.cons ?_;refine TS.ite ?_;refine TT.cmp ?_;refine TE.sq ?_;refine TE.loc ‹_› (by with_unfolding_all rfl) ?_;refine TE.int ?_)
 refine ⟨_,Sq.tup (n:=0) (v:=.str k) hr hle rfl,?_⟩;with_reducible (refine TE.str ?_)
 refine ⟨false,k1.symm,dR (by first | exact nf1 | exact nf2) ?_⟩;with_reducible (refine TB.nil ?_;refine TB.cons ?_;refine TS.expr ‹_› ?_;refine TE.call ‹_› ‹_› ?_;refine TEs.cons ?_;refine TE.sq ?_;refine TE.loc ‹_› (by with_unfolding_all rfl) ?_;refine TE.int ?_)
 refine ⟨_,Sq.tup (n:=1) (v:=.str (nm i)) hr hle rfl,?_⟩;with_reducible (refine TEs.nil ?_)
 refine (ycw dN K.N (yiy i (by exact ydb h8 hlt))).useE (by decide) ?_;with_reducible (refine TB.cons ?_;refine TS.ite ?_;refine TT.cqIn ?_;refine TE.sq ?_;refine TE.loc ‹_› (by with_unfolding_all rfl) ?_;refine TE.int ?_)
 refine ⟨_,Sq.tup (n:=1) (v:=.str (nm i)) hr hle rfl,?_⟩;with_reducible (refine TE.loc ‹_› (by with_unfolding_all rfl) ?_)
 refine ⟨_,Cq.inDS J.fD,fun h=>?_,fun _=>?_⟩
 . haveI:=yez (ns:=vals p (ss.take i)) (by exact yhm h8 hlt lv);rw [lv] at this;rw [this] at h;exact nb h
 with_reducible (refine TB.nil ?_;refine TB.cons ?_;refine TS.ite ?_;refine TT.cmp ?_;refine TE.sq ?_;refine TE.loc ‹_› (by with_unfolding_all rfl) ?_;refine TE.int ?_)
 refine ⟨_,Sq.tup (n:=0) (v:=.str k) hr hle rfl,?_⟩;with_reducible (refine TE.str ?_)
 refine ⟨false,k2.symm,dR (by first | exact nf1 | exact nf2) ?_⟩;with_reducible (refine TB.nil ?_;refine TB.cons ?_;refine TS.assign ‹_› ‹_› (by with_unfolding_all rfl) ?_;refine TE.call ‹_› ‹_› ?_;refine TEs.cons ?_;refine TE.loc ‹_› (by with_unfolding_all rfl) ?_;refine TEs.cons ?_;refine TE.sq ?_;refine TE.loc ‹_› (by with_unfolding_all rfl) ?_;refine TE.int ?_)
 refine ⟨_,Sq.tup (n:=3) (v:=.str (nm b)) hr hle rfl,?_⟩;with_reducible (refine TEs.nil ?_)
 refine (yg8 dO J.fD gb).useE (by decide) ?_;with_reducible (refine TB.cons ?_;refine TS.assign ‹_› ‹_› (by with_unfolding_all rfl) ?_;refine TE.ite ?_;refine TT.cqIn ?_;refine TE.sq ?_;refine TE.loc ‹_› (by with_unfolding_all rfl) ?_;refine TE.int ?_)
 refine ⟨_,Sq.tup (n:=0) (v:=.str k) hr hle rfl,?_⟩;with_reducible (refine TE.tup ?_;refine TEs.cons ?_;refine TE.str ?_;refine TEs.cons ?_;refine TE.str ?_;refine TEs.nil ?_)
 refine ⟨zlb rfl,?_⟩;haveI q:=Cq.inTS (c:=c) (H:=H++[.tup (strL ["add","multiply"])]) (ys:=["add","multiply"]) (x:=k) yaf;rw [k3] at q;haveI J1:=J.app [.tup (strL ["add","multiply"])];haveI hF:=J1.fF;haveI hr1:=(Ext.refl H).app [.tup (strL ["add","multiply"])] _ _ hr;refine ⟨_,q,dR (by first | exact nf1 | exact nf2) ?_⟩;with_reducible (refine TE.meth ‹_› ?_;refine TE.loc ‹_› (by with_unfolding_all rfl) ?_)
 refine ⟨_,_,_,_,_,rfl,hF,rfl,gD,?_⟩;with_reducible (refine TEs.cons ?_;refine TE.sq ?_;refine TE.loc ‹_› (by with_unfolding_all rfl) ?_;refine TE.int ?_)
 refine ⟨_,Sq.tup (n:=2) (v:=.int v) hr1 hle rfl,?_⟩;with_reducible (refine TEs.nil ?_)
 refine (yj9 dD' K.F J1.fF hv.1 hv.2).useE (by decide) ?_;exact yif (ss:=ss) (s:=.kno m v b) ok hfm J1 hs h8 hp0 hp20 rfl hv k4 (.inr ⟨b,hr1⟩) fun H' h=>hp _ _ H' h
end
structure TxtOf (txt:Str) (ss:List Stp) (lines:List Str):Prop where
 s:Txt.split txt "\n"=lines
 x:txt.length<=1000000
 l:lines.length=(yai ss).length
 w:∀(i:Nat) line l,lines[i]?=some line->(yai ss)[i]?=some l->Txt.words line=lws l/\ygs l/\line.length<=1000000
inductive PlJ (p:Int) (txt:Str) (C:Addr) (ss:List Stp) (H0:MH) (iF kF dD o lst:Nat) (rs:List Nat) (i:Nat):ML->MH->Prop where
 | mk (w5 w6 w7:Option MV) (H:MH) (J:PlI p C ss H0 iF kF dD o lst rs i H):PlJ p txt C ss H0 iF kF dD o lst rs i [some (.int p),some (.str txt),some (.ref iF),some (.ref dD),some (.ref o),w5,w6,w7] H
theorem ypn {G:Gx} {prog:Program} {w:World} {f fS fW C:Addr} {p:Int} {txt:Str} {lines:List Str} {ss:List Stp} {H:MH} {xp:Addr->List MV->MH->Prop} (D:GDef G f ["prime","text"] yc1 ydp []) (K:PlK G C fS fW)
   (hpp:isP p) (hp20:p<=1048576) (T:TxtOf txt ss lines) (hok:okP p ss) (h8:ss.length<=8) :
   CL G prog w 111 f [.int p,.str txt] H (fun v H'=>Ext H H'/\∃r,v=.ref r/\OutAt H' r (vals p ss)) xp:=by
 haveI bs:=K.F.bs;haveI gS:=K.gS;haveI hp0:0<p:=by haveI:=hpp.1;exact yc9 this
 refine D.cl rfl ?_;intro c e1 e2 ok hfm hint hnm hX;subst e1 e2;show TB c [some (.int p),some (.str txt),none,none,none,none,none,none] _ _ _;refine TB.gen3 fun post hpost=>?_;unfold ydp;refine TB.cons (TS.assign ok hfm rfl (TE.field ok (by decide) K.F (TE.loc ok rfl ⟨p,rfl,hpp,hp20,?_⟩)));refine TB.cons (TS.assign ok hfm rfl (TE.dict0 ok ⟨.inr rfl⟩ ?_));with_reducible (refine TB.cons ?_;refine TS.assign ‹_› ‹_› (by with_unfolding_all rfl) ?_;refine TE.list ?_;refine TEs.nil ?_)
 refine ⟨zlb rfl,?_⟩;haveI l1:(H++[MO.ns [("prime",.int p)]]++[MO.inst C H.length]).length=H.length+2:=by simp
 haveI f1:Ins (H++[MO.ns [("prime",.int p)]]++[MO.inst C H.length]) (H.length+1) C H.length [("prime",.int p)]:=⟨by simp,by simp⟩;haveI x1:Ext H (H++[MO.ns [("prime",.int p)]]++[MO.inst C H.length]):=((Ext.refl H).app _).app _;generalize H++[MO.ns [("prime",.int p)]]++[MO.inst C H.length]=H1 at l1 f1 x1 ⊢;haveI d1:(H1++[MO.dS H1.length []])[H1.length]?=some (.dS H1.length []):=yaf;haveI l2:(H1++[MO.dS H1.length []]).length=H.length+3:=by simp [l1]
 haveI f2:=((Ext.refl H1).app [MO.dS H1.length []]).ins f1;haveI x2:=x1.app [MO.dS H1.length []];generalize H1++[MO.dS H1.length []]=H2 at d1 l2 f2 x2 ⊢;haveI o3:(H2++[MO.list []])[H2.length]?=some (.list []):=yaf;haveI l3:(H2++[MO.list []]).length=H.length+4:=by simp [l2]
 haveI e3:=(Ext.refl H2).app [MO.list []];haveI f3:=e3.ins f2;haveI d3:=e3 _ _ d1;haveI x3:=x2.trans e3;generalize H2++[MO.list []]=H3 at o3 l3 e3 f3 d3 x3 ⊢;show TB c [some (.int p),some (.str txt),some (.ref (H.length+1)),some (.ref H1.length),some (.ref H2.length),none,none,none] _ _ _;refine TB.cons (TS.forL' ok hfm (TE.call ok gS (TEs.cons (TE.loc ok rfl (TEs.nil ((yjk K.dS K.st T.s T.x (by rw [ybl];exact yqt h8) T.l T.w).use (by decide) ?_))))));rintro _ H4 ⟨rfl,e4,rs,q1,q2,q3⟩;refine ⟨H3.length,refL rs,rfl,q1,PlJ p txt C ss H (H.length+1) H.length H1.length H2.length H3.length rs,
   .mk none none none _ ⟨e4.ins f3,e4 _ _ d3,⟨[],e4 _ _ o3,by simp,fun k t h=>by simp at h⟩,q1,fun j r l a b=>q3 j r l a b,x3.trans e4,by exact yv5 l1,by lia,by lia⟩,?_,?_,?_⟩
 . rintro i m1 H5 ⟨w5,w6,w7,_,J⟩;exact J.fL
 . rintro i m1 H5 v xt ⟨w5,w6,w7,_,J⟩ hv;unfold refL at hv;rw [getElem?_map] at hv;cases hy:rs[i]? with
   | none=>rw [hy] at hv;exact no hv
   | some r=>
     rw [hy] at hv
     (replace hv:=si hv;subst hv)
     haveI hi:i<ss.length+ss.length:=by rw [<-ybl,<-q2];exact (zgs hy).1
     refine ⟨[.ref r],rfl,?_⟩;haveI ok':=ok.wx xt;show TB (c.wx xt) [some (.int p),some (.str txt),some (.ref (H.length+1)),some (.ref H1.length),some (.ref H2.length),some (.ref r),w6,w7] ya1 H5 _;by_cases hlt:i<ss.length
     . haveI hs:ss[i]?=some ss[i]:=getElem?_eq_getElem hlt;generalize ss[i]=s at hs;haveI hr:=J.fT i r _ hy (ygf hs);cases s with
       | put v=>exact yom ok' hfm hint K J hs h8 (hok _ _ hs) hr fun H' J'=>.mk _ _ _ _ J'
       | bin m a b=>exact yno ok' hfm hint K J hs h8 hp0 hp20 hok hr fun w6 w7 H' J'=>.mk _ w6 w7 _ J'
       | kno m v b=>exact yoo ok' hfm hint K J hs h8 hp0 hp20 hok hr fun w6 w7 H' J'=>.mk _ w6 w7 _ J'
     . obtain ⟨k,rfl⟩:∃k,i=ss.length+k:=⟨i - ss.length,by exact ym8 hlt⟩;haveI hr:=J.fT _ r _ hy (ygi (by exact ygq hi));exact ynl ok' hfm hint K J (by exact ygq hi) h8 hr fun H' J'=>.mk _ _ _ _ J'
 . rintro m1 H5 ⟨w5,w6,w7,_,J⟩;with_reducible (refine TB.cons ?_;refine TS.ret ?_;refine TE.loc ‹_› (by with_unfolding_all rfl) ?_)
   haveI:=J.fO;rw [show (refL rs).length - ss.length=ss.length by unfold refL;rw [length_map,q2,ybl];lia,take_of_length_le (by rw [yay];exact Nat.le_refl _)] at this;exact hpost _ _ _ ⟨J.fE,_,rfl,this⟩
theorem yrj {ks:List Str}:∀{vs:List Value},vs.length=ks.length->(∀(j:Nat) v,vs[j]?=some v->∃k t,ks[j]?=some k/\v=.str k t)->StrsAre vs ks:=by
 induction ks with
 | nil=>intro vs hl _;rw [eq_nil_of_length_eq_zero hl];exact .nil
 | cons k ks ih=>
   intro vs hl hv;cases vs with
   | nil=>cases hl
   | cons v vs=>
     obtain ⟨k',t,e1,rfl⟩:=hv 0 v rfl;simp at e1;subst e1;exact .cons _ _ (ih (by exact Nat.succ.inj hl) fun j u hu=>by simpa using hv (j+1) u (by exact hu))
theorem yo3 {ρ:List Addr}:∀{ss:List Str} {vs:List Value},StrsAre vs ss->VRs ρ (ss.map .str) vs:=by
 intro zd
 induction zd with
 | nil=>
  exact fun {vs} h=>by cases h;rfl
 | cons _ _ zih=>
  exact fun {zz} h=>by
   cases h with
   | cons v r q=>exact ⟨_,_,rfl,⟨_,rfl⟩,zih q⟩
section
variable {c:Cx} {m:ML} {H:MH} {G:Gx} {d:Nat}
theorem BCw.sortDS (ok:Ok G c d) {a:Nat} {es:List (Str×MV)} {post:MV->MH->Prop} (ha:H[a]?=some (.dS a es)) (hsz:es.length<64)
   (h:∀ss:List Str,ss.length=es.length->post (.ref H.length) (H++[.list (ss.map .str)])):BCw c (.builtin "sorted") [.ref a] H post:=by
 refine ⟨?_⟩;intro mr ρ s Q E vs S hv k;obtain ⟨v,rfl,x,hx,rfl⟩:=yaw hv;obtain ⟨o,kvs,ho,hd,hp,lo⟩:=S.dS ha hx;refine S.op fun ml xt os F a1 a2 a3 N a5 back=>?_;have hD:s.heap.DictOf (PySem.strKind c.prog c.w) x kvs:=Heap.dictOf_iff.mpr ⟨o,ho,hd⟩;obtain ⟨ep,hat⟩:=hD.dictAt;refine kdu_sorted (kdl_dict (knd:=PySem.strKind c.prog c.w) (kvs:=kvs) (ep:=ep) lo) ok.hh F N hat (by rw [sizeLine_eq,hp.length];exact Nat.le_of_lt (Nat.lt_of_lt_of_le ‹_› (by decide))) ?_;intro D h1 tk ws F1 N1 l1 hl hw;have hkeys:kvs.map (·.1)=es.map (·.1):=hp.keys;have hI:StrsAre ws (es.map (·.1)):=yrj (by rw [hl,length_map,hp.length]) fun j u hu=>by
   obtain ⟨kk,y,e1,e2⟩:=hw j u hu;obtain ⟨t,rfl⟩:=Value.isStrOf_shape e2;exact ⟨kk,t,by rw [<-hkeys,getElem?_map,e1];rfl,rfl⟩
 have z:=N1 _ (.head _);refine wpAny_call_entry PyProof.Rows.slot_list_sort ⟨_,z.1,rfl⟩ PyProof.Rows.entry_list_sort (list_sort_treeK (n:=0) (vs:=ws) strKind_oneLt z.1 hI.keysOf (fun v₁ v₂ rest e=>keyKind_strs (by rw [<-e];exact hI)) (by rw [hl,hp.length];exact hsz) fun st' b1 b2=>⟨.none,rfl,?_⟩) (PyProof.Rows.args_list_sort _);obtain ⟨ss',b3,b4,_⟩:=sorted_out_str hI b1 b2;generalize (arrOf st').map (·.2)=out at b3 ⊢;obtain ⟨e,he⟩:=sortedHeap_at (out:=out) z.1;have hk:∀b o,b≠D->h1.get? b=some o->(sortedHeap h1 D ws out).get? b=some o:=fun b o hb q=>(sortedHeap_old hb (Heap.lt_size q)).trans q;have N2:News c.h₀ c.L (sortedHeap h1 D ws out) ((D,listOf out.toList.toArray e) :: (xt++ρ.zip os)):=fun p hp=>by
   rcases zmc hp with rfl | hp
   . exact ⟨by rw [Array.toArray_toList];exact he,z.2⟩
   . have P:=N1 p (.tail _ hp);exact ⟨hk _ _ (Nat.ne_of_lt (l1 p hp)) P.1,P.2⟩
 have F2:Fr c.h₀ c.L (sortedHeap h1 D ws out) ml:=by
   obtain ⟨oL,es',eP,q1,q2⟩:=F1.ns;exact ⟨⟨oL,es',eP,hk _ _ (Ne.symm z.2.1) q1,q2⟩,fun b o q=>hk b o (fun e=>by rw [e,z.2.2] at q;exact no q) (F1.keep b o q),F1.above⟩
 exact k [D] (.ref H.length) _ _ _ _ (h ss' (by rw [b4.length_eq,length_map])) ⟨_,yag a2,rfl⟩ (back _ _ _ (Led.alloc a1 a2 a3 a5 F2 N2 (fun p hp=>Nat.ne_of_lt (l1 p hp)) ⟨out.toList,e,yo3 b3,rfl⟩))
end
noncomputable def ydu:List Str:=["table","text","out","step"]
noncomputable def yat:CSs:=(.cons (.ite (.cmp .Eq (.sub (.loc 3) (.int 0)) (.str "open")) (.cons (.expr (.meth (.loc 2) "append" (.cons (.tup (.cons (.sub (.loc 3) (.int 1)) (.cons (.meth (.loc 0) "open" (.cons (.sub (.loc 3) (.int 1)) .nil)) .nil))) .nil)))
 .nil) (.cons (.ite (.cmp .Eq (.sub (.loc 3) (.int 0)) (.str "put")) (.cons (.expr (.meth (.loc 0) "put" (.cons (.sub (.loc 3) (.int 1)) (.cons (.sub (.loc 3) (.int 2)) .nil))))
 .nil) (.cons (.ite (.cmp .Eq (.sub (.loc 3) (.int 0)) (.str "add")) (.cons (.expr (.meth (.loc 0) "add" (.cons (.sub (.loc 3) (.int 1)) (.cons (.sub (.loc 3) (.int 2)) (.cons (.sub (.loc 3) (.int 3)) .nil)))))
 .nil) (.cons (.ite (.cmp .Eq (.sub (.loc 3) (.int 0)) (.str "multiply")) (.cons (.expr (.meth (.loc 0) "multiply" (.cons (.sub (.loc 3) (.int 1)) (.cons (.sub (.loc 3) (.int 2)) (.cons (.sub (.loc 3) (.int 3)) .nil)))))
 .nil) (.cons (.ite (.cmp .Eq (.sub (.loc 3) (.int 0)) (.str "shift")) (.cons (.expr (.meth (.loc 0) "shift" (.cons (.sub (.loc 3) (.int 1)) (.cons (.sub (.loc 3) (.int 2)) (.cons (.sub (.loc 3) (.int 3)) .nil)))))
 .nil) (.cons (.expr (.meth (.loc 0) "scale" (.cons (.sub (.loc 3) (.int 1)) (.cons (.sub (.loc 3) (.int 2)) (.cons (.sub (.loc 3) (.int 3)) .nil)))))
 .nil))
 .nil))
 .nil))
 .nil))
 .nil))
 .nil)
noncomputable def yfp:CSs:=(.cons (.assign 2 (.list .nil))
 (.cons (.for [3] (.call "steps_of" (.cons (.loc 1) .nil)) yat)
 (.cons (.ret (.loc 2))
 .nil)))
structure K21 (G:Gx) (sa:Addr) (ns:List Int):Prop where
 tb:TbOk G tb21
 bs:Bs G
 scr:ScrG G sa ns
 pl:∃fS fW,PlK G yaj fS fW
 fp:∃f,GFn G "plain" f/\GDef G f ["prime","text"] yc1 ydp []
 fr:∃f,GFn G "run" f/\GDef G f ["table","text"] ydu yfp []
section
variable {G:Gx} {prog:Program} {w:World} {sa:Addr} {ns:List Int}
theorem K21.df (K:K21 G sa ns) {f:Addr} (D:Df) (h:lkN tb21.df f=some D):GDef G f D.names D.nm D.b D.dm:=K.tb.df f D (ycu h)
theorem K21.f (K:K21 G sa ns) {g:Str} {f:Addr} (D:Df) (h1:lkS tb21.fn g=some f) (h2:lkN tb21.df f=some D):∃f,GFn G g f/\GDef G f D.names D.nm D.b D.dm:=⟨f,K.tb.fn g f (ya6 h1),K.df D h2⟩
theorem K21.m (K:K21 G sa ns) {n:Str} {C f:Addr} (h1:lkM tb21.mt C n=some f):GMth G C n f:=K.tb.mt C n f (yhq h1)
theorem K21.att (K:K21 G sa ns) {C:Addr} {n:Str} (h:hasM tb21.att C n=true):GAtt G C n:=(K.tb.att C n (ydv h)).1
theorem K21.tbo (K:K21 G sa ns) (c:Nat):TbOk G (tbo c):=⟨K.tb.fn,K.tb.df,K.tb.cl,K.tb.mt,K.tb.att,K.tb.xc,K.tb.vl,K.tb.bi,K.tb.ty,K.tb.rg,K.tb.tp,K.tb.gl⟩
theorem K21.nm (K:K21 G sa ns):NameK G:=let ⟨_,_,P⟩:=K.pl;P.N
theorem un.out {vs:List MV} {a:MV×List MV} (h:un vs=some a):vs=a.1 :: a.2:=by cases vs <;> (first | exact no h | (replace h:=si h;subst h));rfl
theorem unN.out {vs:List MV} {u:Unit} (h:unN vs=some u):vs=[]:=by cases vs <;> first | rfl | exact no h
theorem gB.out {α:Type} {b:Bool} {o:Option α} {v:α} (h:gB b o=some v):b=true/\o=some v:=by cases b <;> first | exact ⟨rfl,h⟩ | exact no h
theorem oraNeed.ok (K:K21 G sa ns) {args:List MV} {p:Prop×MV} {H:MH} (h:oraNeed args H=some p) (hp:p.1):CL G prog w 80 yb5 args H (fun v H'=>v=p.2/\H'=H) (fun _ _ _=>False):=by
 obtain ⟨a,e1,h⟩:=bnd h;obtain ⟨v,f1,h⟩:=bnd h;obtain ⟨b,e2,h⟩:=bnd h;obtain ⟨lo,f2,h⟩:=bnd h;obtain ⟨c,e3,h⟩:=bnd h;obtain ⟨hi,f3,h⟩:=bnd h;obtain ⟨d,e4,h⟩:=bnd h;obtain ⟨t,f4,h⟩:=bnd h;obtain ⟨u,e5,h⟩:=bnd h
 (replace h:=si h;subst h)
 rw [un.out e1,un.out e2,un.out e3,un.out e4,unN.out e5,vInt.out f1,vInt.out f2,vInt.out f3,vStr.out f4];exact (ycf (K.df _ (show lkN tb21.df yb5=some ⟨["value","least","most","what"],yal,yao,[]⟩ by kernel_rfl)) K.bs hp.1 hp.2).le (by decide)
theorem yn4 (K:K21 G sa ns) {x:Str} {H:MH} {xp:Addr->List MV->MH->Prop} (hx:okN x=true):CL G prog w 1 yb0 [.str x] H (fun v H'=>v=.str x/\H'=H) xp:=
 ycw (K.df _ (show lkN tb21.df yb0=some ⟨["text"],ybf,ybn,[]⟩ by kernel_rfl)) K.nm hx
theorem oraName.ok (K:K21 G sa ns) {args:List MV} {p:Prop×MV} {H:MH} (h:oraName args H=some p) (hp:p.1):CL G prog w 80 yb0 args H (fun v H'=>v=p.2/\H'=H) (fun _ _ _=>False):=by
 obtain ⟨a,e1,h⟩:=bnd h;obtain ⟨v,f1,h⟩:=bnd h;obtain ⟨u,e5,h⟩:=bnd h
 (replace h:=si h;subst h)
 rw [un.out e1,unN.out e5,vStr.out f1];exact (yn4 K hp).le (by decide)
theorem oraIs.ok (K:K21 G sa ns) {args:List MV} {p:Prop×MV} {H:MH} (h:oraIs args H=some p) (hp:p.1):CL G prog w 80 ybb args H (fun v H'=>v=p.2/\H'=H) (fun _ _ _=>False):=by
 obtain ⟨x1,e1,h⟩:=bnd h;obtain ⟨a,w1,h⟩:=bnd h;obtain ⟨x2,e2,h⟩:=bnd h;obtain ⟨v,w2,h⟩:=bnd h;obtain ⟨u,e5,h⟩:=bnd h;obtain ⟨qv,ef,h⟩:=bnd h;obtain ⟨pr,w3,h⟩:=bnd h
 (replace h:=si h;subst h)
 rw [vInt.out w3] at ef;rw [un.out e1,un.out e2,unN.out e5,vRef.out w1,vInt.out w2];refine (K.df _ (show lkN tb21.df ybb=some ⟨["self","value"],ybr,yap,[]⟩ by kernel_rfl)).cl rfl ?_;intro c e1 e2 ok hfm hint hnm hX;obtain ⟨a',C,kk,fs,Z1⟩:=(fldR.out K.tb ef).out;haveI q1:=(zl Z1);haveI q2:=(zl (zr Z1));haveI q3:=(zl (zr (zr Z1)));haveI q4:=(zr (zr (zr Z1)));clear Z1;show TB c [some (.ref a),some (.int v)] yap H _;unfold yap;refine TB.cons (TS.ret (TE.tst (TV.cmp2 (TE.int (TE.loc ok rfl ⟨_,rfl,fun h=>?_,fun _=>TE.attr ok (TE.loc ok rfl ⟨a',C,kk,fs,_,q1,q2,q3,q4,_,rfl,?_⟩)⟩)))))
 . haveI:=hp.1;simp at h;exact absurd ‹_› (Int.not_lt_of_ge ‹_›)
 . refine ⟨?_,rfl⟩;show MV.bool (decide (v<pr))=MV.bool true;rw [decide_eq_true hp.2]
theorem primeF.out {fs:List (Str×MV)} {p:Int} (h:primeF fs=some p):fs=([("prime",.int p)]:List (Str×MV)):=by
 cases fs with
 | nil=>exact no h
 | cons e r=>
   cases r with
   | cons _ _=>exact no h
   | nil=>
     obtain ⟨k,v⟩:=e;obtain ⟨h1,h2⟩:=gB.out h;rw [show v=.int p from vInt.out h2,show k="prime" from eq_of_beq h1]
theorem primeR.out {H:MH} {v:MV} {p:Int} (h:primeR H v=some p):∃a kk,v=.ref a/\Ins H a yaj kk [("prime",.int p)]:=by
 obtain ⟨q,e,h⟩:=bnd h;obtain ⟨a,C,kk,fs⟩:=q;obtain ⟨e1,e2⟩:=insX.out e;obtain ⟨eb,h⟩:=gB.out h;have eb:C=yaj:=Nat.eq_of_beq_eq_true eb;have e2:Ins H a C kk fs:=e2;rw [show fs=_ from primeF.out h,eb] at e2;exact ⟨a,kk,e1,e2⟩
theorem oraValue.ok (K:K21 G sa ns) {args:List MV} {p:Prop×MV} {H:MH} (h:oraValue args H=some p) (hp:p.1):CL G prog w 80 yfh args H (fun v H'=>v=p.2/\H'=H) (fun _ _ _=>False):=by
 obtain ⟨x1,e1,h⟩:=bnd h;obtain ⟨a,w1,h⟩:=bnd h;obtain ⟨x2,e2,h⟩:=bnd h;obtain ⟨r,w2,h⟩:=bnd h;obtain ⟨x3,e3,h⟩:=bnd h;obtain ⟨x,w3,h⟩:=bnd h;obtain ⟨u,e5,h⟩:=bnd h;obtain ⟨pr,er,h⟩:=bnd h;obtain ⟨q,eq,h⟩:=bnd h
 (replace h:=si h;subst h)
 rw [un.out e1,un.out e2,un.out e3,unN.out e5,vRef.out w1,vRef.out w2,vInt.out w3];obtain ⟨a',kk,d1,d2⟩:=primeR.out er;cases d1;obtain ⟨d3,d4⟩:=objL eq;cases d3;rw [hp.1] at d4;exact (yo7 (K.df _ (show lkN tb21.df yfh=some ⟨["field","row","x"],yet,yfn,[]⟩ by kernel_rfl)) K.bs (K.att (show hasM tb21.att yaj "prime"=true by kernel_rfl)) d2 d4 hp.2.1 hp.2.2).le (by decide)
theorem oraTrim.ok (K:K21 G sa ns) {args:List MV} {H:MH} {Q:MO->Prop} (h:oraTrim args H Q):CL G prog w 80 yd5 args H (fun v H'=>v=.ref H.length/\∃o,H'=H++[o]/\Q o) (fun _ _ _=>False):=by
 obtain ⟨x1,e1,h⟩:=goO.out h;obtain ⟨r,w1,h⟩:=goO.out h;obtain ⟨u,e5,h⟩:=goO.out h;obtain ⟨q,eq,h⟩:=goO.out h;obtain ⟨row,er,h⟩:=goO.out h;obtain ⟨el,h3⟩:=goB.out h;rw [un.out e1,unN.out e5,vRef.out w1];obtain ⟨e3,e4⟩:=objL eq;cases e3;rw [intsOf.out er] at e4;have el:=zlb el;rw [yae] at el;exact ((ymb (K.df _ (show lkN tb21.df yd5=some ⟨["row"],ydx,yd0,[]⟩ by kernel_rfl)) K.bs e4 (by exact Nat.le_trans ‹_› (by decide))).le (by decide)).mono (fun v H' ⟨a1,a2⟩=>⟨a1,_,a2,h3⟩) fun _ _ _ x=>x
theorem dict0.out (K:K21 G sa ns) {H:MH} {t:MV} {es:List (Str×MV)} (h:dict0 H t=some es):∃ps q j,Fld G H t "parties" ps/\subR H ps (.int 0)=some q/\Fld G H q "shares" (.ref j)/\H[j]?=some (.dS j es):=by
 obtain ⟨ps,e1,h⟩:=bnd h;obtain ⟨q,e2,h⟩:=bnd h;obtain ⟨r,e3,h⟩:=bnd h;obtain ⟨p,e4,h⟩:=bnd h;obtain ⟨e5,h⟩:=gB.out h
 (replace h:=si h;subst h)
 obtain ⟨f1,f2⟩:=ymf e4 e5;exact ⟨ps,q,p.1,fldR.out K.tb e1,e2,f1 ▸ fldR.out K.tb e3,f2⟩
theorem oraFresh.ok (K:K21 G sa ns) {args:List MV} {p:Prop×MV} {H:MH} (h:oraFresh args H=some p) (hp:p.1):CL G prog w 80 ybp args H (fun v H'=>v=p.2/\H'=H) (fun _ _ _=>False):=by
 obtain ⟨x1,e1,h⟩:=bnd h;obtain ⟨x2,e2,h⟩:=bnd h;obtain ⟨x,w2,h⟩:=bnd h;obtain ⟨u,e5,h⟩:=bnd h;obtain ⟨es,ed,h⟩:=bnd h
 (replace h:=si h;subst h)
 rw [un.out e1,un.out e2,unN.out e5,vStr.out w2];obtain ⟨t,tl⟩:=x1;obtain ⟨ps,q,j,Z1⟩:=dict0.out K ed;haveI f1:=(zl Z1);haveI f2:=(zl (zr Z1));haveI f3:=(zl (zr (zr Z1)));haveI f4:=(zr (zr (zr Z1)));clear Z1;refine CL.le (show 2<=80 by decide) ((K.df _ (show lkN tb21.df ybp=some ⟨["self","name"],yci,yba,[]⟩ by kernel_rfl)).cl rfl ?_);intro c e1 e2 ok hfm hint hnm hX;subst e1 e2;obtain ⟨a1,C1,k1,g1,Z2⟩:=f1.out;haveI r1:=(zl Z2);haveI r2:=(zl (zr Z2));haveI r3:=(zl (zr (zr Z2)));haveI r4:=(zr (zr (zr Z2)));clear Z2;obtain ⟨a2,C2,k2,g2,Z3⟩:=f3.out;haveI s1:=(zl Z3);haveI s2:=(zl (zr Z3));haveI s3:=(zl (zr (zr Z3)));haveI s4:=(zr (zr (zr Z3)));clear Z3;show TB c [some t,some (.str x)] yba H _;unfold yba;refine TB.cons (TS.expr hint (TE.call ok (K.tb.fn "need_name" yb0 (ya6 (by kernel_rfl))) (TEs.cons (TE.loc ok rfl (TEs.nil ((yn4 K hp.1).use (Nat.le_refl _) ?_))))));rintro _ _ ⟨rfl,rfl⟩;refine TB.cons (TS.ite (TT.cq (TE.loc ok rfl (TE.attr ok (TE.sq (TE.attr ok (TE.loc ok rfl ⟨a1,C1,k1,g1,_,r1,r2,r3,r4,TE.int ⟨q,subR.out f2,a2,C2,k2,g2,_,s1,s2,s3,s4,_,Cq.inDS f4,fun h=>?_,fun _=>?_⟩⟩)))))))
 . rw [hp.2] at h;exact nb h
 . exact TB.nil (TB.nil ⟨rfl,rfl⟩)
theorem oraThere.ok (K:K21 G sa ns) {args:List MV} {p:Prop×MV} {H:MH} (h:oraThere args H=some p) (hp:p.1):CL G prog w 80 ybo args H (fun v H'=>v=p.2/\H'=H) (fun _ _ _=>False):=by
 obtain ⟨x1,e1,h⟩:=bnd h;obtain ⟨x2,e2,h⟩:=bnd h;obtain ⟨x,w2,h⟩:=bnd h;obtain ⟨u,e5,h⟩:=bnd h;obtain ⟨es,ed,h⟩:=bnd h
 (replace h:=si h;subst h)
 rw [un.out e1,un.out e2,unN.out e5,vStr.out w2];obtain ⟨t,tl⟩:=x1;obtain ⟨ps,q,j,Z1⟩:=dict0.out K ed;haveI f1:=(zl Z1);haveI f2:=(zl (zr Z1));haveI f3:=(zl (zr (zr Z1)));haveI f4:=(zr (zr (zr Z1)));clear Z1;refine CL.le (show 2<=80 by decide) ((K.df _ (show lkN tb21.df ybo=some ⟨["self","name"],ycj,ybd,[]⟩ by kernel_rfl)).cl rfl ?_);intro c e1 e2 ok hfm hint hnm hX;subst e1 e2;obtain ⟨a1,C1,k1,g1,Z2⟩:=f1.out;haveI r1:=(zl Z2);haveI r2:=(zl (zr Z2));haveI r3:=(zl (zr (zr Z2)));haveI r4:=(zr (zr (zr Z2)));clear Z2;obtain ⟨a2,C2,k2,g2,Z3⟩:=f3.out;haveI s1:=(zl Z3);haveI s2:=(zl (zr Z3));haveI s3:=(zl (zr (zr Z3)));haveI s4:=(zr (zr (zr Z3)));clear Z3;show TB c [some t,some (.str x)] ybd H _;unfold ybd;refine TB.cons (TS.ite (TT.cq (TE.loc ok rfl (TE.attr ok (TE.sq (TE.attr ok (TE.loc ok rfl ⟨a1,C1,k1,g1,_,r1,r2,r3,r4,TE.int ⟨q,subR.out f2,a2,C2,k2,g2,_,s1,s2,s3,s4,_,Cq.ninDS f4,fun h=>?_,fun _=>?_⟩⟩)))))))
 . haveI hp':(yas es x).isSome=true:=hp;rw [hp'] at h;exact nb h
 . exact TB.nil (TB.nil ⟨rfl,rfl⟩)
theorem md21.ok (K:K21 G sa ns):MdOk G prog w md21:=by
 refine ⟨?_,?_⟩
 . intro a k h args p H e q;simp only [md21,mem_cons,Prod.mk.injEq,List.mem_nil_iff,or_false,reduceCtorEq,and_false,false_or] at h;rcases h with ⟨rfl,h⟩ | ⟨rfl,h⟩ | ⟨rfl,h⟩ | ⟨rfl,h⟩ | ⟨rfl,h⟩ | ⟨rfl,h⟩ <;> cases h
   . exact oraNeed.ok K e q
   . exact oraName.ok K e q
   . exact oraIs.ok K e q
   . exact oraValue.ok K e q
   . exact oraFresh.ok K e q
   . exact oraThere.ok K e q
 . intro a k h args H Q e;simp only [md21,mem_cons,Prod.mk.injEq,List.mem_nil_iff,or_false,reduceCtorEq,and_false,false_or] at h;obtain ⟨rfl,h⟩:=h;cases h;exact oraTrim.ok K e
theorem tcall.cl (K:K21 G sa ns) {c:Nat} {f:Addr} {as:List MV} {H:MH} {q:MV->MH->Prop} (h:tcall G prog w c f as H q):CL G prog w 120 f (.ref 6 :: as) H q (fun _ _ _=>False):=(callX.ok (K.tbo c) (md21.ok K) 60 false) f _ _ _ _ h
end
theorem ymy:∀{a b:List Nat},a.Nodup->b.Nodup->(∀x,x ∈ a↔x ∈ b)->a.Perm b:=by
 intro zd
 induction zd with
 | nil=>
  exact fun {b} zz zz h=>by
   have:b=[]:=List.eq_nil_iff_forall_not_mem.mpr fun x hx=>by have:=(h x).mpr hx;cases this
   rw [this]
 | cons x a zih=>
  exact fun {b} ha hb h=>by
   have hx:x ∈ b:=(h x).mp (.head _);obtain ⟨a1,a2⟩:=nodup_cons.mp ha;refine List.Perm.trans ((zih a2 (hb.erase x) fun y=>?_).cons x) (List.perm_cons_erase hx).symm;rw [hb.mem_erase_iff];constructor
   . intro hy;refine ⟨?_,(h y).mp (.tail _ hy)⟩;rintro rfl;exact a1 hy
   . rintro ⟨h1,h2⟩;rcases zmc ((h y).mpr h2) with e | e
     . exact absurd e h1
     . exact e
noncomputable def sel (σ:List Nat) (ρ:List Addr):List Addr:=σ.map fun i=>ρ.getD i 0
noncomputable def yde (σ:List Nat) (n:Nat):List Nat:=(List.range n).filter fun i=>!σ.contains i
theorem yjo {σ:List Nat} {ρ:List Addr} (hσ:σ.Nodup) (hb:∀i ∈ σ,i<ρ.length):(sel σ ρ++sel (yde σ ρ.length) ρ).Perm ρ:=by
 haveI h1:(σ++yde σ ρ.length).Perm (List.range ρ.length):=by
   refine ymy ?_ nodup_range fun x=>?_
   . refine nodup_append.mpr ⟨hσ,List.Pairwise.filter _ nodup_range,?_⟩;intro a ha b hb e;subst e;haveI:=(mem_filter.mp hb).2;simp [ha] at this
   . rw [mem_append];constructor
     . rintro (h | h)
       . exact mem_range.mpr (hb x h)
       . exact (mem_filter.mp h).1
     . intro h;by_cases e:x ∈ σ
       . exact .inl e
       . exact .inr (mem_filter.mpr ⟨h,by simp [e]⟩)
 haveI h2:=h1.map fun i=>ρ.getD i 0;rw [map_append] at h2;haveI h3:(List.range ρ.length).map (fun i=>ρ.getD i 0)=ρ:=by
   refine List.ext_getElem (by simp) fun i h1 h2=>?_;simp [getElem?_eq_getElem h2]
 rw [h3] at h2;exact h2
theorem ylt {σ:List Nat} {ρ:List Addr} {i j:Nat} (hs:σ[i]?=some j) (hj:j<ρ.length):(sel σ ρ)[i]?=ρ[j]?:=by
 unfold sel;rw [getElem?_map,hs,getElem?_eq_getElem hj];show some (ρ.getD j 0)=_;rw [getD_eq_getElem?_getD,getElem?_eq_getElem hj];rfl
def VM (ρ0 ρ:List Addr) (v0 v:MV):Prop:=∀vr,VR ρ0 v0 vr↔VR ρ v vr
def OM (ρ0 ρ:List Addr) (o0 o:MO):Prop:=∀(prog:Program) (w:World) x,OR prog w ρ0 o0 x↔OR prog w ρ o x
theorem Led.of {h₀ h:Heap} {L:Addr} {prog:Program} {w:World} {ml:Str->Option Value} {xs:List (Addr×Obj)} {ρ:List Addr} {H:MH} (F:Fr h₀ L h ml) (N:News h₀ L h xs) (hl:ρ.length=H.length)
   (ho:∀(i:Nat) o,H[i]?=some o->∃a x,ρ[i]?=some a/\OR prog w ρ o x/\News h₀ L h [(a,x)]) (hn:(xs.map (·.1)++ρ).Nodup):Led h₀ L prog w ml xs ρ H h:=by
 have get:∀(i:Nat) o,H[i]?=some o->∃a x,ρ[i]?=some a/\(ρ.map fun a=>(h.get? a).getD default)[i]?=some x/\OR prog w ρ o x/\News h₀ L h [(a,x)]:=fun i o e=>by
   obtain ⟨a,x,h1,h2,h3⟩:=ho i o e;refine ⟨a,x,h1,?_,h2,h3⟩;rw [getElem?_map,h1];show some ((h.get? a).getD default)=some x;rw [(h3 _ (.head _)).1];rfl
 refine ⟨F,ρ.map fun a=>(h.get? a).getD default,by rw [length_map,hl],hl,fun i o e=>?_,?_,hn⟩
 . obtain ⟨a,x,h1,h2,h3,h4⟩:=get i o e;exact ⟨x,h2,h3⟩
 . intro p hp;rcases zma hp with hp | hp
   . exact N p hp
   . obtain ⟨i,hi,e⟩:=List.mem_iff_getElem.mp hp;have hi1:i<ρ.length:=by rw [List.length_zip] at hi;exact yqr hi
     have hi2:i<H.length:=by exact qf92 hl hi1
     obtain ⟨a,x,h1,h2,h3,h4⟩:=get i _ (getElem?_eq_getElem hi2);have:p=(a,x):=by
       rw [<-e,List.getElem_zip];rw [getElem?_eq_getElem hi1] at h1;rw [getElem?_eq_getElem (by rw [length_map];exact hi1)] at h2;injection h1 with h1
       injection h2 with h2
       rw [h1,h2]
     rw [this];exact h4 _ (.head _)
section
variable {c:Cx} {G:Gx} {d:Nat} {H:MH}
noncomputable def xtOf (ρ:List Addr) (h:Heap) (l:List Nat):List (Addr×Obj):=(sel l ρ).map fun a=>(a,(h.get? a).getD default)
theorem yjh {ρ:List Addr} {h:Heap} {l:List Nat}:(xtOf ρ h l).map (·.1)=sel l ρ:=by
 unfold xtOf;rw [map_map];exact List.map_id'' (fun _=>rfl) _
theorem St.part {mr:Str->Option Value} {ρ:List Addr} {H0:MH} {h:Heap} (S:St c mr ρ H h) {σ:List Nat} (hσ:σ.Nodup) (hb:∀i ∈ σ,i<H.length) (hl:H0.length=σ.length)
   (ho:∀(i:Nat) o0,H0[i]?=some o0->∃j o,σ[i]?=some j/\H[j]?=some o/\OM (sel σ ρ) ρ o0 o):St (c.wx (c.xt++xtOf ρ h (yde σ H.length))) mr (sel σ ρ) H0 h:=by
 haveI Sl:=S.len;obtain ⟨ml,fr,ex,Z1⟩:=S;haveI h1:=(zl Z1);haveI h2:=(zl (zr Z1));haveI L0:=(zr (zr Z1));clear Z1;haveI Lg:∀{i:Nat} {o:MO},H[i]?=some o->∃a x,ρ[i]?=some a/\OR c.prog c.w ρ o x/\News c.h₀ c.L h [(a,x)]:=fun e=>L0.get e;haveI Z2:=L0;clear L0;obtain ⟨os,Z3⟩:=(zr Z2);haveI F:=(zl Z2);haveI a1:=(zl Z3);haveI a2:=(zl (zr Z3));haveI a3:=(zl (zr (zr Z3)));haveI N:=(zl (zr (zr (zr Z3))));haveI a5:=(zr (zr (zr (zr Z3))));clear Z3 Z2;haveI Nx:∀p ∈ fr++(c.xt++ex),h.get? p.1=some p.2/\p.1≠c.L/\c.h₀.get? p.1=none:=fun p hp=>N p (mem_append_left _ hp);refine ⟨ml,fr,ex,h1,h2,Led.of F ?_ (by unfold sel;rw [length_map,hl]) ?_ ?_⟩
 . intro p hp;rcases zma hp with hp | hp
   . exact Nx p (mem_append_left _ hp)
   . rcases zma hp with hp | hp
     . rcases zma hp with hp | hp
       . exact Nx p (mem_append_right _ (mem_append_left _ hp))
       . unfold xtOf at hp;obtain ⟨a,Z4⟩:=mem_map.mp hp;haveI Z5:=(zr Z4);subst Z5;haveI ha:=(zl Z4);clear Z4;unfold sel at ha;obtain ⟨i,Z6⟩:=mem_map.mp ha;haveI Z7:=(zr Z6);subst Z7;haveI hi:=(zl Z6);clear Z6;haveI hi:=mem_range.mp (mem_filter.mp hi).1;obtain ⟨a,x,Z8⟩:=Lg (getElem?_eq_getElem hi);haveI q1:=(zl Z8);haveI q2:=(zl (zr Z8));haveI q3:=(zr (zr Z8));clear Z8;haveI e:ρ.getD i 0=a:=by rw [getD_eq_getElem?_getD,q1];rfl
         haveI z:=q3 _ (.head _);rw [e];refine ⟨?_,z.2⟩;show h.get? a=some ((h.get? a).getD default);rw [z.1];rfl
     . exact Nx p (mem_append_right _ (mem_append_right _ hp))
 . intro i o0 e;obtain ⟨j,o,Z9⟩:=ho i o0 e;haveI s1:=(zl Z9);haveI s2:=(zl (zr Z9));haveI s3:=(zr (zr Z9));clear Z9;obtain ⟨a,x,Z10⟩:=Lg s2;haveI q1:=(zl Z10);haveI q2:=(zl (zr Z10));haveI q3:=(zr (zr Z10));clear Z10;haveI hj:j<ρ.length:=by rw [Sl];exact hb j (mem_of_getElem? s1)
   exact ⟨a,x,by rw [ylt s1 hj];exact q1,(s3 _ _ _).mpr q2,q3⟩
 . haveI P:=yjo (ρ:=ρ) hσ (by rw [Sl];exact hb);rw [Sl] at P;refine List.Perm.nodup (l:=(fr++(c.xt++ex)).map (·.1)++ρ) ?_ a5;show List.Perm _ ((fr++((c.xt++xtOf ρ h (yde σ H.length))++ex)).map (·.1)++sel σ ρ);simp only [map_append,yjh,append_assoc];refine List.Perm.append_left _ (List.Perm.append_left _ ?_);refine (List.Perm.append_left _ P.symm).trans ?_;refine List.Perm.trans ?_ (List.perm_append_comm_assoc ..);exact List.Perm.append_left _ List.perm_append_comm
noncomputable def σ' (σ:List Nat) (n i:Nat):Nat:=if i<σ.length then σ.getD i 0 else n+(i - σ.length)
theorem σ'_get {σ:List Nat} {ρ t:List Addr} {i:Nat} (hb:∀i ∈ σ,i<ρ.length) (hi:i<σ.length+t.length):(ρ++t)[σ' σ ρ.length i]?=(sel σ ρ++t)[i]?:=by
 haveI sl:(sel σ ρ).length=σ.length:=by simp [sel]
 unfold σ';by_cases e:i<σ.length
 . rw [if_pos e];haveI hs:σ[i]?=some (σ.getD i 0):=by rw [getD_eq_getElem?_getD,getElem?_eq_getElem e];rfl
   haveI hj:=hb _ (mem_of_getElem? hs);rw [getElem?_append_left hj,getElem?_append_left (by exact yi4 sl e),ylt hs hj]
 . rw [if_neg e,getElem?_append_right (by exact Nat.le_add_right _ _),getElem?_append_right (by exact qf97 sl e),sl];congr 1;lia
theorem St.whole {mr mr':Str->Option Value} {ρ t:List Addr} {H0' H':MH} {h h':Heap} (S:St c mr ρ H h) {σ:List Nat} (hσ:σ.Nodup) (hb:∀i ∈ σ,i<H.length)
   (S0:St (c.wx (c.xt++xtOf ρ h (yde σ H.length))) mr' (sel σ ρ++t) H0' h') (hl:H'.length=H.length+t.length)
   (ho:∀j,j<H.length->j ∉ σ->H'[j]?=H[j]?) (hn:∀(i:Nat) o0,H0'[i]?=some o0->∃o,H'[σ' σ H.length i]?=some o/\OM (sel σ ρ++t) (ρ++t) o0 o):St c mr' (ρ++t) H' h':=by
 have Sl:=S.len;have Sl0:=S0.len;have sl:(sel σ ρ).length=σ.length:=by simp [sel]
 obtain ⟨ml0,fr0,ex0,_,_,L0⟩:=S;have Lg:∀{i:Nat} {o:MO},H[i]?=some o->∃a x,ρ[i]?=some a/\OR c.prog c.w ρ o x/\News c.h₀ c.L h [(a,x)]:=fun e=>L0.get e;obtain ⟨ml,fr,ex,h1,h2,L1⟩:=S0;have Lg1:∀{i:Nat} {o:MO},H0'[i]?=some o->∃a x,(sel σ ρ++t)[i]?=some a/\OR c.prog c.w (sel σ ρ++t) o x/\News c.h₀ c.L h' [(a,x)]:=fun e=>L1.get e;obtain ⟨F,os,a1,a2,a3,N,a5⟩:=L1;have Nx:∀p ∈ fr++((c.xt++xtOf ρ h (yde σ H.length))++ex),h'.get? p.1=some p.2/\p.1≠c.L/\c.h₀.get? p.1=none:=fun p hp=>N p (mem_append_left _ hp);have hb':∀i ∈ σ,i<ρ.length:=by rw [Sl];exact hb
 refine ⟨ml,fr,ex,h1,h2,Led.of F ?_ (by rw [length_append,Sl,hl]) ?_ ?_⟩
 . intro p hp;refine Nx p ?_;rcases zma hp with hp | hp
   . exact mem_append_left _ hp
   . refine mem_append_right _ ?_;rcases zma hp with hp | hp
     . exact mem_append_left _ (mem_append_left _ hp)
     . exact mem_append_right _ hp
 . intro j o e;have hj:j<H.length+t.length:=by rw [<-hl];exact (zgs e).1
   rw [length_append,sl] at Sl0;have part:∀i,i<σ.length+t.length->σ' σ H.length i=j->∃a x,(ρ++t)[j]?=some a/\OR c.prog c.w (ρ++t) o x/\News c.h₀ c.L h' [(a,x)]:=fun i hi ei=>by
     have hi':i<H0'.length:=by lia
     obtain ⟨o',q1,q2⟩:=hn i _ (getElem?_eq_getElem hi');rw [ei,e] at q1
     (replace q1:=si q1;subst q1)
     obtain ⟨a,x,r1,r2,r3⟩:=Lg1 (getElem?_eq_getElem hi');refine ⟨a,x,?_,(q2 _ _ _).mp r2,r3⟩;rw [<-ei,<-Sl,σ'_get hb' hi];exact r1
   by_cases hlt:j<H.length
   . by_cases hm:j ∈ σ
     . obtain ⟨i,hi,ei⟩:=List.mem_iff_getElem.mp hm;refine part i (by exact Nat.lt_of_lt_of_le ‹_› (Nat.le_add_right _ _)) ?_;unfold σ';rw [if_pos hi,getD_eq_getElem?_getD,getElem?_eq_getElem hi];exact ei
     . rw [ho j hlt hm] at e;obtain ⟨a,x,q1,q2,q3⟩:=Lg e;refine ⟨a,x,yam q1,q2.mono,?_⟩;intro p hp;cases mem_singleton.mp hp;refine Nx (a,x) (mem_append_right _ (mem_append_left _ (mem_append_right _ ?_)));unfold xtOf;refine mem_map.mpr ⟨a,?_,?_⟩
       . unfold sel;refine mem_map.mpr ⟨j,mem_filter.mpr ⟨mem_range.mpr hlt,by simp [hm]⟩,?_⟩;rw [getD_eq_getElem?_getD,q1];rfl
       . rw [(q3 _ (.head _)).1];rfl
   . refine part (σ.length+(j - H.length)) (by lia) ?_;unfold σ';rw [if_neg (by lia)];lia
 . have P:=yjo (ρ:=ρ) hσ hb';rw [Sl] at P;refine List.Perm.nodup (l:=(fr++((c.xt++xtOf ρ h (yde σ H.length))++ex)).map (·.1)++(sel σ ρ++t)) ?_ a5;simp only [map_append,yjh,append_assoc];refine List.Perm.append_left _ (List.Perm.append_left _ ?_);refine (List.perm_append_comm_assoc ..).trans (List.Perm.append_left _ ?_);rw [<-append_assoc];refine List.Perm.append_right _ (List.Perm.trans List.perm_append_comm P)
theorem CL.frame {prog:Program} {w:World} {f:Addr} {args:List MV} {σ:List Nat} {P:MV->MH->Prop} {xp:Addr->List MV->MH->Prop} (hσ:σ.Nodup) (hb:∀i ∈ σ,i<H.length)
   (h:∀ρ:List Addr,ρ.length=H.length->∃(args0:List MV) (H0:MH) (post0:MV->MH->Prop),H0.length=σ.length/\(∀(i:Nat) o0,H0[i]?=some o0->∃j o,σ[i]?=some j/\H[j]?=some o/\OM (sel σ ρ) ρ o0 o)/\
     (∀vs,VRs ρ args vs->VRs (sel σ ρ) args0 vs)/\CL G prog w d f args0 H0 post0 (fun _ _ _=>False)/\
     ∀v0 H0' (t:List Addr),post0 v0 H0'->σ.length+t.length=H0'.length->∃v H',P v H'/\VM (sel σ ρ++t) (ρ++t) v0 v/\H'.length=H.length+t.length/\(∀j,j<H.length->j ∉ σ->H'[j]?=H[j]?)/\
       ∀(i:Nat) o0,H0'[i]?=some o0->∃o,H'[σ' σ H.length i]?=some o/\OM (sel σ ρ++t) (ρ++t) o0 o):CL G prog w d f args H P xp:=by
 intro c mr ρ s Q E vs e1 e2 ok S hv k kx;obtain ⟨args0,H0,post0,Z1⟩:=h ρ S.len;haveI h1:=(zl Z1);haveI h2:=(zl (zr Z1));haveI h3:=(zl (zr (zr Z1)));haveI h4:=(zl (zr (zr (zr Z1))));haveI h5:=(zr (zr (zr (zr Z1))));clear Z1;refine h4 (c.wx (c.xt++xtOf ρ s.heap (yde σ H.length))) mr (sel σ ρ) s Q E vs e1 e2 (ok.wx _) (S.part hσ hb h1 h2) (h3 vs hv) ?_ fun _ _ _ _ _ _ _ x=>x.elim;intro t v0 vr H0' h' tk hp hvr S';haveI hl:=S'.len;rw [length_append,show (sel σ ρ).length=σ.length by simp [sel]] at hl;obtain ⟨v,H',Z2⟩:=h5 v0 H0' t hp hl;haveI q1:=(zl Z2);haveI q2:=(zl (zr Z2));haveI q3:=(zl (zr (zr Z2)));haveI q4:=(zl (zr (zr (zr Z2))));haveI q5:=(zr (zr (zr (zr Z2))));clear Z2;exact k t v vr H' h' tk q1 ((q2 vr).mp hvr) (S.whole hσ hb S' q3 q4 q5)
end
noncomputable def rnV (f:Nat->Nat):MV->MV
 | .ref a=>.ref (f a)
 | v=>v
noncomputable def rnO (f:Nat->Nat):MO->MO
 | .list xs=>.list (xs.map (rnV f))
 | .tup xs=>.tup (xs.map (rnV f))
 | .inst c d=>.inst c (f d)
 | .ns fs=>.ns (fs.map fun p=>(p.1,rnV f p.2))
 | .dI j es=>.dI (f j) (es.map fun p=>(p.1,rnV f p.2))
 | .dS j es=>.dS (f j) (es.map fun p=>(p.1,rnV f p.2))
 | .view k d=>.view k (f d)
 | .exc c t=>.exc c (f t)
 | .setN n=>.setN n
 | .lany k=>.lany k
 | .junk=>.junk
section
variable {f:Nat->Nat} {ρ0 ρ:List Addr} (hg:∀i,ρ0[i]?=ρ[f i]?)
include hg
theorem yek:∀{v:MV} {vr:Value},VR ρ0 v vr↔VR ρ (rnV f v) vr:=@fun zd1=>@(match zd1 with
 | .ref a=>fun {vr}=>by
   show (∃x,ρ0[a]?=some x/\vr=.ref x)↔(∃x,ρ[f a]?=some x/\vr=.ref x);rw [hg]
 | .none=>fun {zz}=>Iff.rfl
 | .bool _=>fun {zz}=>Iff.rfl
 | .int _=>fun {zz}=>Iff.rfl
 | .str _=>fun {zz}=>Iff.rfl
 | .glob _=>fun {zz}=>Iff.rfl)
theorem yhg:∀{vs:List MV} {vr:List Value},VRs ρ0 vs vr↔VRs ρ (vs.map (rnV f)) vr:=by
 intro zd
 induction zd with
 | nil=>intro vr;exact Iff.rfl
 | cons v r zih=>
   intro vr;constructor
   . intro h;obtain ⟨a,b,e,h1,h2⟩:=h;exact ⟨a,b,e,(yek hg).mp h1,zih.mp h2⟩
   . intro h;obtain ⟨a,b,e,h1,h2⟩:=h;exact ⟨a,b,e,(yek hg).mpr h1,zih.mpr h2⟩
theorem yv9 {P:Params}:∀{fs:List (Str×MV)} {es:List DictEntry},NR P ρ0 fs es↔NR P ρ (fs.map fun p=>(p.1,rnV f p.2)) es:=by
 intro zd
 induction zd with
 | nil=>intro es;exact Iff.rfl
 | cons zp0 r zih=>
   intro es;constructor
   . intro h;obtain ⟨t,a,b,e,h1,h2⟩:=h;exact ⟨t,a,b,e,(yek hg).mp h1,zih.mp h2⟩
   . intro h;obtain ⟨t,a,b,e,h1,h2⟩:=h;exact ⟨t,a,b,e,(yek hg).mpr h1,zih.mpr h2⟩
theorem yqy {α:Type}:∀{fs:List (α×MV)} {es:List (α×Value)},PR ρ0 fs es↔PR ρ (fs.map fun p=>(p.1,rnV f p.2)) es:=by
 intro zd
 induction zd with
 | nil=>intro es;exact Iff.rfl
 | cons zp0 r zih=>
   intro es;constructor
   . intro h;obtain ⟨a,b,e,h1,h2⟩:=h;exact ⟨a,b,e,(yek hg).mp h1,zih.mp h2⟩
   . intro h;obtain ⟨a,b,e,h1,h2⟩:=h;exact ⟨a,b,e,(yek hg).mpr h1,zih.mpr h2⟩
theorem yg9 (o:MO):OM ρ0 ρ o (rnO f o):=by
 intro prog w x;cases o with
 | list xs=>exact exists_congr fun vs=>exists_congr fun n=>and_congr (yhg hg) Iff.rfl
 | tup xs=>exact exists_congr fun vs=>exists_congr fun n=>and_congr (yhg hg) Iff.rfl
 | inst c d=>show (∃y,ρ0[d]?=some y/\_)↔(∃y,ρ[f d]?=some y/\_);rw [hg]
 | ns fs=>exact exists_congr fun es=>exists_congr fun n=>and_congr (yv9 hg) Iff.rfl
 | dI j es=>show (∃y kvs,ρ0[j]?=some y/\_/\PR ρ0 es kvs/\_)↔(∃y kvs,ρ[f j]?=some y/\_/\PR ρ _ kvs/\_);rw [hg];exact exists_congr fun y=>exists_congr fun kvs=>and_congr Iff.rfl (and_congr Iff.rfl (and_congr (yqy hg) Iff.rfl))
 | dS j es=>show (∃y kvs,ρ0[j]?=some y/\_/\PR ρ0 es kvs/\_)↔(∃y kvs,ρ[f j]?=some y/\_/\PR ρ _ kvs/\_);rw [hg];exact exists_congr fun y=>exists_congr fun kvs=>and_congr Iff.rfl (and_congr Iff.rfl (and_congr (yqy hg) Iff.rfl))
 | view k d=>show (∃y,ρ0[d]?=some y/\_)↔(∃y,ρ[f d]?=some y/\_);rw [hg]
 | exc c t=>show (∃y vs,ρ0[t]?=some y/\_)↔(∃y vs,ρ[f t]?=some y/\_);rw [hg]
 | setN n=>exact Iff.rfl
 | lany k=>exact Iff.rfl
 | junk=>exact Iff.rfl
end
theorem σ'_all {σ ρ t:List Nat} (hb:∀i ∈ σ,i<ρ.length) (i:Nat):(sel σ ρ++t)[i]?=(ρ++t)[σ' σ ρ.length i]?:=by
 by_cases h:i<σ.length+t.length
 . exact (σ'_get hb h).symm
 . have sl:(sel σ ρ).length=σ.length:=by simp [sel]
   unfold σ';rw [if_neg (by lia),List.getElem?_eq_none (by rw [length_append,sl];exact Nat.not_lt.mp ‹_›),List.getElem?_eq_none (by rw [length_append];lia)]
theorem ylc {ρ:List Addr}:∀{a b:List MV} {vs:List Value},VRs ρ (a++b) vs↔∃x y,vs=x++y/\VRs ρ a x/\VRs ρ b y:=by
 intro zd
 induction zd with
 | nil=>
   intro b vs;constructor
   . intro h;exact ⟨[],vs,rfl,rfl,h⟩
   . intro h;obtain ⟨x,y,e,h1,h2⟩:=h;have hx:x=[]:=h1;subst hx;rw [e];exact h2
 | cons v a zih=>
   intro b vs;constructor
   . intro h;obtain ⟨u,r,e,h1,h2⟩:=h;obtain ⟨x,y,e2,h3,h4⟩:=zih.mp h2;exact ⟨u :: x,y,by rw [e,e2];rfl,⟨u,x,rfl,h1,h3⟩,h4⟩
   . intro h;obtain ⟨x,y,e,⟨u,r,e1,h1,h2⟩,h3⟩:=h;exact ⟨u,r++y,by rw [e,e1];rfl,h1,zih.mpr ⟨r,y,rfl,h2,h3⟩⟩
noncomputable def refs (rs:List Nat):List MV:=rs.map .ref
noncomputable def yda (ρ:List Addr) (rs:List Nat):List MV:=rs.map fun a=>.glob (ρ.getD a 0)
theorem ynj {ρ0 ρ:List Addr}:∀{rs:List Nat} {vs:List Value},(∀a ∈ rs,a<ρ.length)->(VRs ρ0 (yda ρ rs) vs↔VRs ρ (refs rs) vs):=by
 intro zd
 induction zd with
 | nil=>
  exact fun {zz} zz=>Iff.rfl
 | cons a rs zih=>
  exact fun {vs} h=>by
   have ha:=h a (.head _);have hr:ρ[a]?=some (ρ.getD a 0):=by rw [getD_eq_getElem?_getD,getElem?_eq_getElem ha];rfl
   have ih:=fun vs=>zih (vs:=vs) fun x hx=>h x (.tail _ hx);constructor
   . rintro ⟨u,r,e,h1,h2⟩;exact ⟨u,r,e,⟨_,hr,h1⟩,(ih r).mp h2⟩
   . rintro ⟨u,r,e,⟨x,hx,h1⟩,h2⟩;rw [hr] at hx
     (replace hx:=si hx;subst hx)
     exact ⟨u,r,e,h1,(ih r).mpr h2⟩
theorem yjr {f:Nat->Nat} {ρ0 ρ ρ1:List Addr} (hg:∀i,ρ0[i]?=ρ[f i]?) {rs:List Nat} {ks:List MV} (h:∀a ∈ rs,a<ρ1.length) (hp:∀a,a<ρ1.length->ρ[a]?=ρ1[a]?):OM ρ0 ρ (.list (yda ρ1 rs++ks)) (.list (refs rs++ks.map (rnV f))):=by
 intro prog w x;have e:yda ρ1 rs=yda ρ rs:=by
   refine map_congr_left fun a ha=>?_;rw [getD_eq_getElem?_getD,getD_eq_getElem?_getD,hp a (h a ha)]
 have hl:∀a ∈ rs,a<ρ.length:=fun a ha=>by
   have q:=hp a (h a ha);rw [getElem?_eq_getElem (h a ha)] at q;exact (zgs q).1
 refine exists_congr fun vs=>exists_congr fun n=>and_congr ?_ Iff.rfl;rw [ylc,ylc,e];exact exists_congr fun u=>exists_congr fun v=>and_congr Iff.rfl (and_congr (ynj hl) (yhg hg))
def Clo (n:Nat) (P:MH):Prop:=∀f:Nat->Nat,(∀i,i<n->f i=i)->P.map (rnO f)=P
theorem Clo.at {n:Nat} {P:MH} (h:Clo n P) {f:Nat->Nat} (hf:∀i,i<n->f i=i) {i:Nat} {o:MO} (e:P[i]?=some o):rnO f o=o:=by
 have q:=h f hf;have:(P.map (rnO f))[i]?=P[i]?:=by rw [q]
 rw [getElem?_map,e] at this;exact Option.some.inj this
noncomputable def sgm (N:Nat) (τ:List Nat):List Nat:=List.range N++τ
noncomputable def phi (N:Nat) (τ:List Nat) (n:Nat):Nat->Nat:=σ' (sgm N τ) n
theorem yjy {N i:Nat} {τ:List Nat} (h:i<N):(sgm N τ)[i]?=some i:=by
 unfold sgm;rw [getElem?_append_left (by simpa using h),getElem?_range h]
theorem ynx {N i:Nat} {τ:List Nat}:(sgm N τ)[N+i]?=τ[i]?:=by
 unfold sgm;rw [getElem?_append_right (by simp)];simp
theorem ydr {N:Nat} {τ:List Nat}:(sgm N τ).length=N+τ.length:=by simp [sgm]
theorem yeb {N n i:Nat} {τ:List Nat} (h:i<N):phi N τ n i=i:=by
 unfold phi σ';rw [if_pos (by rw [ydr];exact Nat.lt_of_lt_of_le ‹_› (Nat.le_add_right _ _)),getD_eq_getElem?_getD,yjy h];rfl
theorem ylm {N n i j:Nat} {τ:List Nat} (h:τ[i]?=some j):phi N τ n (N+i)=j:=by
 have:=(zgs h).1;unfold phi σ';rw [if_pos (by rw [ydr];exact Nat.add_lt_add_left ‹_› _),getD_eq_getElem?_getD,ynx,h];rfl
theorem ygo {N n i:Nat} {τ:List Nat}:phi N τ n (N+τ.length+i)=n+i:=by
 unfold phi σ';rw [if_neg (by rw [ydr];lia),ydr];lia
section
variable {G:Gx} {prog:Program} {w:World} {d:Nat}
theorem CL.tab {f:Addr} {N:Nat} {P B H:MH} {τ bks:List Nat} {args0 args:List MV} {Q:MV->MH->List MV->MH->Prop} {xp:Addr->List MV->MH->Prop}
   (hN:P.length+1=N) (hP:Clo N P) (hH:H.take N=P++[.list (refs bks)]) (hNl:N<=H.length) (hbk:∀a ∈ bks,a<H.length) (hτ:τ.Nodup) (hτN:∀i ∈ τ,N<=i/\i<H.length) (hBt:B.length=τ.length)
   (hB:∀(i:Nat) o,B[i]?=some o->∃j,τ[i]?=some j/\H[j]?=some (rnO (phi N τ H.length) o))
   (h:∀gs:List MV,gs.length=bks.length->CL G prog w d f args0 (P++[.list gs]++B) (fun v0 H0'=>∃P' ks X,Q v0 P' ks X/\P'.length=P.length/\Clo N P'/\H0'=P'++[.list (gs++ks)]++B++X) (fun _ _ _=>False))
   (ha:args=args0.map (rnV (phi N τ H.length))) :
   CL G prog w d f args H (fun v H'=>∃v0 P' ks X,Q v0 P' ks X/\v=rnV (phi N τ H.length) v0/\H'=P'++[.list (refs bks++ks.map (rnV (phi N τ H.length)))]++H.drop N++X.map (rnO (phi N τ H.length))) xp:=by
 have hb:∀i ∈ sgm N τ,i<H.length:=fun i hi=>by
   rcases zma hi with hi | hi
   . haveI:=mem_range.mp hi;exact Nat.lt_of_lt_of_le ‹_› ‹_›
   . exact (hτN i hi).2
 have hlo:∀i,i<N->H[i]?=(P++[MO.list (refs bks)])[i]?:=fun i hi=>by
   rw [<-hH,getElem?_take,if_pos hi]
 have hfix:∀i,i<N->phi N τ H.length i=i:=fun i hi=>yeb hi;refine CL.frame (σ:=sgm N τ) ?_ hb fun ρ hρ=>?_
 . refine nodup_append.mpr ⟨nodup_range,hτ,?_⟩;rintro a ha' b hb' rfl;haveI:=mem_range.mp ha';haveI:=(hτN a hb').1;exact absurd ‹_› (Nat.not_le_of_lt ‹_›)
 have hg0:∀i,(sel (sgm N τ) ρ)[i]?=ρ[phi N τ H.length i]?:=fun i=>by
   have:=σ'_all (t:=[]) (ρ:=ρ) (σ:=sgm N τ) (by rw [hρ];exact hb) i;rw [append_nil,append_nil,hρ] at this;exact this
 refine ⟨args0,P++[.list (yda ρ bks)]++B,_,?_,?_,?_,h (yda ρ bks) (by simp [yda]),?_⟩
 . rw [ydr,<-hBt,<-hN];simp;exact qf88
 . intro i o0 e;by_cases hi:i<N
   . refine ⟨i,?_⟩;rw [getElem?_append_left (by simp;lia)] at e;by_cases hi2:i<P.length
     . rw [getElem?_append_left hi2] at e;refine ⟨o0,yjy hi,by rw [hlo i hi,getElem?_append_left hi2];exact e,?_⟩;haveI q:=yg9 hg0 o0;rwa [hP.at hfix e] at q
     . have:i=P.length:=by lia
       subst this;rw [getElem?_append_right (Nat.le_refl _),Nat.sub_self] at e
       (replace e:=si e;subst e)
       refine ⟨.list (refs bks),yjy hi,by rw [hlo _ hi,getElem?_append_right (Nat.le_refl _),Nat.sub_self];rfl,?_⟩;have q:=yjr (f:=phi N τ H.length) hg0 (ρ1:=ρ) (rs:=bks) (ks:=[]) (by rw [hρ];exact hbk) (fun _ _=>rfl);simpa using q
   . have hl:(P++[MO.list (yda ρ bks)]).length=N:=by simp;assumption
     rw [getElem?_append_right (by lia),hl] at e;obtain ⟨j,q1,q2⟩:=hB _ _ e;refine ⟨j,_,?_,q2,yg9 hg0 o0⟩;haveI:=ynx (N:=N) (τ:=τ) (i:=i - N);rw [show N+(i - N)=i by lia] at this;rw [this,q1]
 . intro vs hv;rw [ha] at hv;exact (yhg hg0).mpr hv
 . rintro v0 H0' t ⟨P',ks,X,q1,q2,q3,rfl⟩ hl;have hgt:∀i,(sel (sgm N τ) ρ++t)[i]?=(ρ++t)[phi N τ H.length i]?:=fun i=>by
     have:=σ'_all (t:=t) (ρ:=ρ) (σ:=sgm N τ) (by rw [hρ];exact hb) i;rwa [hρ] at this
   have l1:(P'++[MO.list (refs bks++ks.map (rnV (phi N τ H.length)))]).length=N:=by simp;exact yp1 hN q2
   have l2:(P'++[MO.list (refs bks++ks.map (rnV (phi N τ H.length)))]++H.drop N).length=H.length:=by rw [length_append,l1,length_drop];exact yqp hN hNl
   have l3:(P'++[MO.list (yda ρ bks++ks)]).length=N:=by simp;exact yp1 hN q2
   have l4:(P'++[MO.list (yda ρ bks++ks)]++B).length=N+τ.length:=by rw [length_append,l3,hBt]
   have ht:t.length=X.length:=by rw [ydr,length_append,l4] at hl;exact yv6 hl
   refine ⟨_,_,⟨v0,P',ks,X,q1,rfl,rfl⟩,fun vr=>yek hgt,?_,?_,?_⟩
   . rw [length_append,l2,length_map,ht]
   . intro j hj hm;have hj2:N<=j:=Nat.le_of_not_lt fun q=>hm (mem_append_left _ (mem_range.mpr q));rw [getElem?_append_left (by exact yi4 l2 hj),getElem?_append_right (by lia),l1,getElem?_drop,show N+(j - N)=j by exact yqp hN hj2]
   . intro i o0 e;by_cases hi:i<N
     . show ∃o,(_++_)[phi N τ H.length i]?=some o/\_;rw [hfix i hi,getElem?_append_left (by lia),getElem?_append_left (by exact yqu hN l1 hi)];rw [getElem?_append_left (by lia),getElem?_append_left (by exact yqu hN l3 hi)] at e;by_cases hi2:i<P'.length
       . rw [getElem?_append_left hi2] at e ⊢;refine ⟨o0,e,?_⟩;haveI q:=yg9 hgt o0;rwa [q3.at hfix e] at q
       . have:i=P'.length:=by lia
         subst this;rw [getElem?_append_right (Nat.le_refl _),Nat.sub_self] at e ⊢
         (replace e:=si e;subst e)
         exact ⟨_,rfl,yjr (f:=phi N τ H.length) hgt (by rw [hρ];exact hbk) fun a ha'=>by rw [getElem?_append_left ha']⟩
     . by_cases hi2:i<N+τ.length
       . obtain ⟨k,rfl⟩:∃k,i=N+k:=⟨i - N,by lia⟩;rw [getElem?_append_left (by lia),getElem?_append_right (by lia),l3,Nat.add_sub_cancel_left] at e;obtain ⟨j,r1,r2⟩:=hB _ _ e;haveI hj:=hτN j (mem_of_getElem? r1);show ∃o,(_++_)[phi N τ H.length (N+k)]?=some o/\_;rw [ylm r1,getElem?_append_left (by lia),getElem?_append_right (by lia),l1,getElem?_drop,show N+(j - N)=j by lia];exact ⟨_,r2,yg9 hgt o0⟩
       . obtain ⟨k,rfl⟩:∃k,i=N+τ.length+k:=⟨i - (N+τ.length),by lia⟩;rw [getElem?_append_right (by lia),l4,Nat.add_sub_cancel_left] at e;show ∃o,(_++_)[phi N τ H.length (N+τ.length+k)]?=some o/\_;rw [ygo,getElem?_append_right (by exact ymp l2),l2,Nat.add_sub_cancel_left,getElem?_map,e];exact ⟨_,rfl,yg9 hgt o0⟩
end
theorem ypu {f g:Nat->Nat}:∀{o:MO},rnO f (rnO g o)=rnO (fun i=>f (g i)) o:=by
 have hv:∀v:MV,rnV f (rnV g v)=rnV (fun i=>f (g i)) v:=fun v=>by cases v <;> rfl
 have hl:∀l:List MV,(l.map (rnV g)).map (rnV f)=l.map (rnV fun i=>f (g i)):=fun l=>by
   rw [map_map];exact map_congr_left fun v _=>hv v
 have hp:∀{α:Type} (l:List (α×MV)),(l.map fun p=>(p.1,rnV g p.2)).map (fun p=>(p.1,rnV f p.2))=l.map fun p=>(p.1,rnV (fun i=>f (g i)) p.2):=fun l=>by
   rw [map_map];exact map_congr_left fun v _=>by show (v.1,rnV f (rnV g v.2))=_;rw [hv]
 intro o;cases o with
 | list xs=>exact congrArg MO.list (hl xs)
 | tup xs=>exact congrArg MO.tup (hl xs)
 | ns fs=>exact congrArg MO.ns (hp fs)
 | dI j es=>exact congrArg (MO.dI _) (hp es)
 | dS j es=>exact congrArg (MO.dS _) (hp es)
 | _=>rfl
theorem yt0 {n:Nat} {P:MH} (h:∀o ∈ P,∀f:Nat->Nat,(∀i,i<n->f i=i)->rnO f o=o):Clo n P:=fun f hf=>by
 have:P.map (rnO f)=P.map id:=map_congr_left fun o ho=>h o ho f hf;rw [this,List.map_id]
theorem yki {α:Type} {f:α->α} {l:List α} (h:∀a ∈ l,f a=a):l.map f=l:=by
 have:l.map f=l.map id:=map_congr_left h;rw [this,List.map_id]
section
variable {p t c:Nat} {st n:Int} {L:List (Int×Int)} {e:Nat->List (Str×MV)}
theorem yfu:∀c,((List.range c).flatMap (pty e)).length=3*c:=by
 intro zd
 induction zd with
 | zero=>
  exact rfl
 | succ c zih=>
   rw [range_succ,List.flatMap_append,length_append,zih];rfl
theorem ya8:(hP p t c st n e).length=8+3*c:=by
 unfold hP;simp only [length_cons,length_append,yfu,length_nil];lia
theorem yns {o:MO} (h:o ∈ hP p t c st n e):o=.list [.int 11,.int 101]\/o=.ns [("prime",.int p)]\/o=.inst yaj 1\/o=.ns [("state",.int st),("drawn",.int n)]\/o=.inst ycz 3\/
   o=.ns [("field",.ref 2),("needed",.int t),("source",.ref 4),("parties",.ref (7+3*c)),("books",.ref (8+3*c))]\/o=.inst yaa 5\/
   (∃k,k<c/\(o=.ns [("place",.int ((k:Nat)+1:Nat)),("shares",.ref (9+3*k))]\/o=.inst ydf (7+3*k)\/o=.dS (9+3*k) (e k)))\/o=.list ((List.range c).map fun k=>.ref (8+3*k)):=by
 unfold hP at h;simp only [mem_cons,mem_append,List.mem_flatMap,mem_range,List.not_mem_nil,or_false,pty] at h;exact h
theorem yu1 {f:Nat->Nat} {k:Nat}:((eL p t L k).map fun p=>(p.1,rnV f p.2))=eL p t L k:=by
 unfold eL esI;rw [map_map];exact map_congr_left fun _ _=>rfl
theorem yej:Clo (9+3*c) (hP p t c st n (eL p t L)):=by
 refine yt0 fun o ho f hf=>?_;rcases yns ho with rfl | rfl | rfl | rfl | rfl | rfl | rfl | ⟨k,hk,rfl | rfl | rfl⟩ | rfl
 . rfl
 . rfl
 . show MO.inst yaj (f 1)=_;rw [hf 1 (by exact yp7)]
 . rfl
 . show MO.inst ycz (f 3)=_;rw [hf 3 (by lia)]
 . show MO.ns [("field",.ref (f 2)),("needed",.int t),("source",.ref (f 4)),("parties",.ref (f (7+3*c))),("books",.ref (f (8+3*c)))]=_;rw [hf 2 (by exact yq8),hf 4 (by lia),hf (7+3*c) (by exact yq3),hf (8+3*c) (by exact yqz)]
 . show MO.inst yaa (f 5)=_;rw [hf 5 (by exact yrd)]
 . show MO.ns [("place",.int ((k:Nat)+1:Nat)),("shares",.ref (f (9+3*k)))]=_;rw [hf (9+3*k) (by exact yp6 hk)]
 . show MO.inst ydf (f (7+3*k))=_;rw [hf (7+3*k) (by lia)]
 . show MO.dS (f (9+3*k)) _=_;rw [hf (9+3*k) (by exact yp6 hk),yu1]
 . refine congrArg MO.list (yki fun v hv=>?_);obtain ⟨k,hk,rfl⟩:=mem_map.mp hv;have:=mem_range.mp hk;show MV.ref (f (8+3*k))=_;rw [hf _ (by lia)]
end
structure Nxt (N:Nat) (H H':MH):Prop where
 e:∀(i:Nat) o,N<=i->H[i]?=some o->H'[i]?=some o
 l:H.length<=H'.length
theorem Nxt.trans {N:Nat} {A B C:MH} (h:Nxt N A B) (q:Nxt N B C):Nxt N A C:=⟨fun i o hi e=>q.e i o hi (h.e i o hi e),Nat.le_trans h.l q.l⟩
theorem Ext.nxt {N:Nat} {A B:MH} (h:Ext A B):Nxt N A B:=⟨fun i o _ e=>h i o e,by
 rcases Nat.eq_zero_or_pos A.length with e | e
 . rw [e];exact Nat.zero_le _
 . have:=(zgs (h _ _ (getElem?_eq_getElem (show A.length - 1<A.length by exact qf37 e)))).1;exact qf38 e this⟩
theorem yh4 {A R Y:MH} {N:Nat} (hA:A.length=N):(A++R++Y).take N=A:=by
 subst hA;rw [append_assoc,List.take_left]
theorem yj6 {A H Y:MH} {N:Nat} (hA:A.length=N) (hN:N<=H.length):Nxt N H (A++H.drop N++Y):=⟨fun i o hi e=>by
 have hl:=(zgs e).1;rw [append_assoc,getElem?_append_right (by lia),getElem?_append_left (by rw [length_drop];lia),getElem?_drop,hA,show N+(i - N)=i by exact yl0 hi];exact e,by rw [length_append,length_append,length_drop,hA];lia⟩
structure Tab (p t c:Nat) (L:List (Int×Int)) (bks:List Nat) (st n:Int) (H:MH):Prop where
 h:H.take (9+3*c)=hP p t c st n (eL p t L)++[.list (refs bks)]
 l:9+3*c<=H.length
 b:∀a ∈ bks,a<H.length
section
variable {p t c:Nat} {st n:Int} {L:List (Int×Int)} {bks:List Nat} {H H':MH}
theorem Tab.at (T:Tab p t c L bks st n H) {i:Nat} (hi:i<9+3*c):H[i]?=(hP p t c st n (eL p t L)++[MO.list (refs bks)])[i]?:=by
 rw [<-T.h,getElem?_take,if_pos hi]
theorem Tab.keep (T:Tab p t c L bks st n H) (h:H'.take (9+3*c)=H.take (9+3*c)) (l:H.length<=H'.length):Tab p t c L bks st n H':=
 ⟨h.trans T.h,Nat.le_trans T.l l,fun a ha=>Nat.lt_of_lt_of_le (T.b a ha) l⟩
theorem Tab.ext (T:Tab p t c L bks st n H) (h:Ext H H'):Tab p t c L bks st n H':=by
 haveI X:Nxt 0 H H':=h.nxt;refine T.keep (List.ext_getElem? fun i=>?_) X.l;rw [getElem?_take,getElem?_take];split
 . rename_i hi;haveI:=h i _ (getElem?_eq_getElem (show i<H.length by haveI:=T.l;exact Nat.lt_of_lt_of_le ‹_› ‹_›));rw [this,getElem?_eq_getElem]
 . rfl
theorem Tab.set (T:Tab p t c L bks st n H) {o:Nat} {x:MO} (h:9+3*c<=o):Tab p t c L bks st n (H.set o x):=by
 refine T.keep (List.ext_getElem? fun i=>?_) (by rw [length_set];exact Nat.le_refl _);rw [getElem?_take,getElem?_take];split
 . rw [getElem?_set_ne (by lia)]
 . rfl
theorem Tab.tup (T:Tab p t c L bks st n H) {i:Nat} {xs:List MV} (e:H[i]?=some (.tup xs)):9+3*c<=i:=by
 refine Nat.le_of_not_lt fun hi=>?_;rw [T.at hi] at e;rcases zma (mem_of_getElem? e) with h | h
 . rcases yns h with h | h | h | h | h | h | h | ⟨k,hk,h | h | h⟩ | h <;> cases h
 . cases mem_singleton.mp h
theorem Tab.field (T:Tab p t c L bks st n H):Ins H 2 yaj 1 [("prime",.int p)]:=⟨by rw [T.at (by exact yq8)];rfl,by rw [T.at (by exact yp7)];rfl⟩
theorem Tab.self (T:Tab p t c L bks st n H):Ins H 6 yaa 5 [("field",.ref 2),("needed",.int t),("source",.ref 4),("parties",.ref (7+3*c)),("books",.ref (8+3*c))]:=⟨by rw [T.at (by exact yiz)];rfl,by rw [T.at (by exact yrd)];rfl⟩
theorem Tab.books (T:Tab p t c L bks st n H):H[8+3*c]?=some (.list (refs bks)):=by
 rw [T.at (by exact yqz),getElem?_append_right (by rw [ya8];exact Nat.le_refl _),ya8,Nat.sub_self];rfl
theorem Tab.parties (T:Tab p t c L bks st n H):H[7+3*c]?=some (.list ((List.range c).map fun k=>.ref (8+3*k))):=by
 rw [T.at (by exact yq3),getElem?_append_left (by rw [ya8];lia),show 7+3*c=3*c+7 by exact Nat.add_comm _ _];show ((List.range c).flatMap (pty (eL p t L))++[_])[3*c]?=_;rw [getElem?_append_right (by rw [yfu];exact Nat.le_refl _),yfu,Nat.sub_self];rfl
theorem Tab.party (T:Tab p t c L bks st n H) (hc:1<=c):Ins H 8 ydf 7 [("place",.int 1),("shares",.ref 9)]/\H[9]?=some (.dS 9 (eL p t L 0)):=by
 obtain ⟨c,rfl⟩:∃d,c=d+1:=⟨c - 1,by lia⟩;have q:∀i,i<3->H[7+i]?=(pty (eL p t L) 0)[i]?:=fun i hi=>by
   rw [T.at (by lia),getElem?_append_left (by rw [ya8];lia),show 7+i=i+7 by exact Nat.add_comm _ _];show ((List.range (c+1)).flatMap (pty (eL p t L))++[_])[i]?=_;rw [getElem?_append_left (by rw [yfu];lia),List.range_succ_eq_map,List.flatMap_cons,getElem?_append_left (show i<3 from hi)]
 exact ⟨⟨q 1 (by decide),q 0 (by decide)⟩,q 2 (by decide)⟩
end
section
variable {G:Gx} {prog:Program} {w:World} {sa:Addr} {ns:List Int} {p t c:Nat} {st n:Int} {L:List (Int×Int)} {bks:List Nat} {H:MH} {xp:Addr->List MV->MH->Prop}
def OpP (p t c:Nat) (bks:List Nat) (H:MH) (R:MV->List (Int×Int)->Prop) (v:MV) (H':MH):Prop:=∃st' n' L',R v L'/\Tab p t c L' bks st' n' H'/\Nxt (9+3*c) H H'
theorem yfe (K:K21 G sa ns) {f:Addr} {as:List MV} {R:MV->List (Int×Int)->Prop} (T:Tab p t c L bks st n H) (has:∀g:Nat->Nat,as.map (rnV g)=as) (hv:∀v L',R v L'->∀g,rnV g v=v)
   (h:∀(gs:List MV) (q:MV->MH->Prop),(∀v st' n' L',R v L'->q v (h21 p t c st' n' (eL p t L') gs))->tcall G prog w c f as (h21 p t c st n (eL p t L) gs) (tk c q)) :
   CL G prog w 120 f (.ref 6 :: as) H (OpP p t c bks H R) xp:=by
 refine (CL.tab (N:=9+3*c) (P:=hP p t c st n (eL p t L)) (B:=[]) (τ:=[]) (bks:=bks) (args0:=.ref 6 :: as) (Q:=fun v P' ks X=>ks=[]/\∃st' n' L',R v L'/\P'=hP p t c st' n' (eL p t L')) (by rw [ya8];exact Nat.add_right_comm _ _ _) yej T.h T.l T.b List.nodup_nil (fun i hi=>by cases hi) rfl
   (fun i o e=>by exact no e) (fun gs _=>?_) ?_).mono ?_ fun _ _ _ x=>x
 . rw [show hP p t c st n (eL p t L)++[MO.list gs]++[]=h21 p t c st n (eL p t L) gs from append_nil _];refine (tcall.cl K (h gs (fun v H1=>∃st' n' L',R v L'/\H1=h21 p t c st' n' (eL p t L') gs) fun v st' n' L' hR=>⟨st',n',L',hR,rfl⟩)).mono ?_ fun _ _ _ x=>x;rintro v H1 ⟨st',n',L',hR,e⟩;refine ⟨_,[],H1.drop (9+3*c),⟨rfl,st',n',L',hR,rfl⟩,by rw [ya8,ya8],yej,?_⟩;rw [append_nil,append_nil];haveI:=List.take_append_drop (9+3*c) H1;rw [e] at this;exact this.symm
 . rw [map_cons,has];show _=MV.ref (phi _ _ _ 6) :: as;rw [yeb (by exact yiz)]
 . rintro _ _ ⟨v0,P',ks,X,⟨rfl,st',n',L',hR,rfl⟩,rfl,rfl⟩;rw [hv _ _ hR,map_nil,append_nil];have hA:(hP p t c st' n' (eL p t L')++[MO.list (refs bks)]).length=9+3*c:=by rw [length_append,ya8];simp;exact Nat.add_right_comm _ _ _
   haveI X:=yj6 (Y:=X.map (rnO (phi (9+3*c) [] H.length))) hA T.l;exact ⟨st',n',L',hR,⟨yh4 hA,Nat.le_trans T.l X.l,fun a ha=>Nat.lt_of_lt_of_le (T.b a ha) X.l⟩,X⟩
variable (hS:Shp p t c) (K:K21 G sa ns) (T:Tab p t c L bks st n H)
include hS K T
theorem ywo (hl:L.length<9) {v:Int} (hv:0<=v/\v<p):CL G prog w 120 ycl [.ref 6,.str (nm L.length),.int v] H (OpP p t c bks H fun u L'=>u=.none/\∃b,L'=L++[(v,b)]) xp:=
 yfe K T (fun _=>rfl) (fun _ _ ⟨e,_⟩ _=>by rw [e];rfl) fun gs q hq=>Eq.mpr (yeh hS _ _ _ gs q (nm L.length) "" "" v).1 (yut hS hl hv fun s m b=>hq _ s m _ ⟨rfl,b,rfl⟩)
theorem ywv (hl:L.length<9) {one two:Nat} (h1:one<L.length) (h2:two<L.length):CL G prog w 120 yco [.ref 6,.str (nm L.length),.str (nm one),.str (nm two)] H (OpP p t c bks H fun u L'=>u=.none/\L'=L++[((fs L one).1+(fs L two).1,(fs L one).2+(fs L two).2)]) xp:=
 yfe K T (fun _=>rfl) (fun _ _ ⟨e,_⟩ _=>by rw [e];rfl) fun gs q hq=>Eq.mpr (yeh hS _ _ _ gs q (nm L.length) (nm one) (nm two) 0).2.1 (yuc hl h1 h2 (hq _ _ _ _ ⟨rfl,rfl⟩))
theorem yr6 (hl:L.length<9) {one:Nat} {v:Int} (hv:0<=v/\v<p) (h1:one<L.length):CL G prog w 120 yb4 [.ref 6,.str (nm L.length),.int v,.str (nm one)] H (OpP p t c bks H fun u L'=>u=.none/\L'=L++[(v*(fs L one).1,v*(fs L one).2)]) xp:=
 yfe K T (fun _=>rfl) (fun _ _ ⟨e,_⟩ _=>by rw [e];rfl) fun gs q hq=>Eq.mpr (yeh hS _ _ _ gs q (nm L.length) (nm one) "" v).2.2.1 (yo5 hS hl hv h1 (hq _ _ _ _ ⟨rfl,rfl⟩))
theorem yru (hl:L.length<9) {one:Nat} {v:Int} (hv:0<=v/\v<p) (h1:one<L.length):CL G prog w 120 yb6 [.ref 6,.str (nm L.length),.int v,.str (nm one)] H (OpP p t c bks H fun u L'=>u=.none/\L'=L++[(v+(fs L one).1,(fs L one).2)]) xp:=
 yfe K T (fun _=>rfl) (fun _ _ ⟨e,_⟩ _=>by rw [e];rfl) fun gs q hq=>Eq.mpr (yeh hS _ _ _ gs q (nm L.length) (nm one) "" v).2.2.2.1 (yox hl hv h1 (hq _ _ _ _ ⟨rfl,rfl⟩))
theorem yt9 (hl:L.length<=9) {one:Nat} (h1:one<L.length):CL G prog w 120 ycd [.ref 6,.str (nm one)] H (OpP p t c bks H fun u L'=>u=.int ((fs L one).1 % p)/\L'=L) xp:=
 yfe K T (fun _=>rfl) (fun _ _ ⟨e,_⟩ _=>by rw [e];rfl) fun gs q hq=>Eq.mpr (yeh hS _ _ _ gs q (nm one) "" "" 0).2.2.2.2 (ytp hS hl h1 (hq _ _ _ _ ⟨rfl,rfl⟩))
omit T in
theorem yu8 {xp:Addr->List MV->MH->Prop}:CL G prog w 120 ybu [.ref 6,.ref 2,.int t,.int c,.ref 4] (hI p st n) (fun v H'=>v=.none/\H'=h21 p t c st n (eL p t []) []) xp:=by
 haveI b:=hS.b;haveI tc:=hS.tc;haveI hc:(c:Int)<=min 200 ((p:Int) - 1):=by
   haveI:(c:Int)<=4:=by exact yqd tc
   rcases hS.p with rfl | rfl
   . exact Int.le_trans this (by decide)
   . exact Int.le_trans this (by decide)
 exact (tcall.cl K (Eq.mpr (yr7 hS st n (fun v H'=>v=.none/\H'=h21 p t c st n (eL p t []) [])) ⟨⟨by exact yqo tc,hc⟩,⟨⟨by exact yl3 tc,by exact yrh tc⟩,rfl,rfl⟩⟩)).mono (fun _ _ x=>x) fun _ _ _ x=>x.elim
end
section
variable {p t c:Nat} {name:Str} {F:Nat->Nat->Int}
theorem ylg {o:MO} (h:o ∈ blk p t c name F):o=.ns [("kind",.str "product"),("prime",.int p),("needed",.int t),("places",.ref (11+3*c)),("dealers",.ref (12+3*c)),("messages",.ref (13+3*c))]\/o=.inst yc7 (9+3*c)\/o=.list (intL (xs c))\/
   o=.list ((List.range c).flatMap fun k=>(List.range c).map fun m=>.ref (14+3*c+k*c+m))\/(∃k m,o=.tup [.int 1,.int (((k+1:Nat)):Int),.int (((m+1:Nat)):Int),.int (F k m)])\/o=.tup [.str name,.ref (10+3*c)]:=by
 unfold blk at h;simp only [mem_cons,mem_append,List.mem_flatMap,mem_map,List.not_mem_nil,or_false] at h;rcases h with h | h | h | h | h | ⟨k,_,m,_,h⟩ | h
 . exact .inl h
 . exact .inr (.inl h)
 . exact .inr (.inr (.inl h))
 . exact .inr (.inr (.inl h))
 . exact .inr (.inr (.inr (.inl h)))
 . exact .inr (.inr (.inr (.inr (.inl ⟨k,m,h.symm⟩))))
 . exact .inr (.inr (.inr (.inr (.inr h))))
theorem kcm {k m c:Nat} (hk:k<c) (hm:m<c):k*c+m<c*c:=by
 have:(k+1)*c<=c*c:=Nat.mul_le_mul_right c hk;have e:(k+1)*c=k*c+c:=Nat.succ_mul k c;lia
theorem ylu {f:Nat->Nat} {l:List Int}:(intL l).map (rnV f)=intL l:=yki fun v hv=>by
 obtain ⟨i,_,rfl⟩:=mem_map.mp hv;rfl
theorem yoc {o:MO} (h:o ∈ blk p t c name F) {f g:Nat->Nat} (hfg:∀i,i<15+3*c+c*c->f i=g i):rnO f o=rnO g o:=by
 rcases ylg h with rfl | rfl | rfl | rfl | ⟨k,m,rfl⟩ | rfl
 . show MO.ns [("kind",_),("prime",_),("needed",_),("places",.ref (f (11+3*c))),("dealers",.ref (f (12+3*c))),("messages",.ref (f (13+3*c)))]=_;rw [hfg (11+3*c) (by lia),hfg (12+3*c) (by lia),hfg (13+3*c) (by lia)];rfl
 . show MO.inst yc7 (f (9+3*c))=_;rw [hfg (9+3*c) (by lia)];rfl
 . show MO.list ((intL (xs c)).map (rnV f))=MO.list ((intL (xs c)).map (rnV g));rw [ylu,ylu]
 . refine congrArg MO.list (map_congr_left fun v hv=>?_);obtain ⟨k,Z1⟩:=List.mem_flatMap.mp hv;haveI hk:=(zl Z1);haveI hv:=(zr Z1);clear Z1;obtain ⟨m,Z2⟩:=mem_map.mp hv;haveI Z3:=(zr Z2);subst Z3;haveI hm:=(zl Z2);clear Z2;haveI:=kcm (mem_range.mp hk) (mem_range.mp hm);exact congrArg MV.ref (hfg _ (by omega))
 . rfl
 . show MO.tup [.str name,.ref (f (10+3*c))]=_;rw [hfg (10+3*c) (by lia)];rfl
theorem yv0 {o:MO} (h:o ∈ blk p t c name F):brO c o=rnO (bph c) o:=by
 have e:brV c=rnV (bph c):=funext fun v=>by cases v <;> rfl
 rcases ylg h with rfl | rfl | rfl | rfl | ⟨k,m,rfl⟩ | rfl <;> first | (dsimp only [brO,rnO];rw [e]) | dsimp only [brO,rnO]
theorem yfj {α:Type} {f:Nat->Nat->α}:∀d:Nat,((List.range d).flatMap fun k=>(List.range c).map fun m=>f k m).length=d*c:=by
 intro zd
 induction zd with
 | zero=>
  exact by simp
 | succ d zih=>
   rw [range_succ,List.flatMap_append,length_append,zih,Nat.succ_mul];simp
theorem yhz:(blk p t c name F).length=6+c*c:=by
 unfold blk;simp only [length_cons,length_append,yfj,length_nil]
 try lia
theorem yji:(bpos c).length=6+c*c:=by
 unfold bpos;simp only [length_cons,length_append,yfj,length_nil]
 try exact Nat.add_right_comm _ _ _
theorem yon:(bpos c)[5+c*c]?=some (6+c*(4*c+13)):=by
 haveI:([1,2,3,4,5]++((List.range c).flatMap fun k=>(List.range c).map fun m=>11+c+k*(2*c+5)+m)).length=5+c*c:=by
   simp only [length_cons,length_append,yfj,length_nil]
   try lia
 unfold bpos;rw [getElem?_append_right (by rw [this];exact Nat.le_refl _),this,Nat.sub_self];rfl
theorem yst (hS:Shp p t c):(bpos c).Nodup:=by
 have:c=1\/c=2\/c=3\/c=4:=by have:=hS.tc;lia
 rcases this with rfl | rfl | rfl | rfl <;> decide +kernel
end
structure BkAt (p t c M:Nat) (name:Str) (F:Nat->Nat->Int) (r:Nat) (H:MH):Prop where
 ex:∃τ:List Nat,τ.Nodup/\(∀x ∈ τ,M<=x)/\τ.length=6+c*c/\τ[5+c*c]?=some r/\∀(i:Nat) o,(blk p t c name F)[i]?=some o->∃x,τ[i]?=some x/\∀n,H[x]?=some (rnO (phi (9+3*c) τ n) o)
theorem BkAt.nxt {p t c M N:Nat} {name:Str} {F:Nat->Nat->Int} {r:Nat} {H H':MH} (h:BkAt p t c M name F r H) (X:Nxt N H H') (hN:N<=M):BkAt p t c M name F r H':=by
 obtain ⟨τ,a,b,d,e,f⟩:=h;refine ⟨τ,a,b,d,e,fun i o q=>?_⟩;obtain ⟨x,Z1⟩:=f i o q;haveI q1:=(zl Z1);haveI q2:=(zr Z1);clear Z1;exact ⟨x,q1,fun n=>X.e x _ (Nat.le_trans hN (b x (mem_of_getElem? q1))) (q2 n)⟩
theorem BkAt.set {p t c M:Nat} {name:Str} {F:Nat->Nat->Int} {r:Nat} {H:MH} {o:Nat} {y:MO} (h:BkAt p t c M name F r H) (ho:o<M):BkAt p t c M name F r (H.set o y):=by
 obtain ⟨τ,a,b,d,e,f⟩:=h;refine ⟨τ,a,b,d,e,fun i z q=>?_⟩;obtain ⟨x,Z1⟩:=f i z q;haveI q1:=(zl Z1);haveI q2:=(zr Z1);clear Z1;haveI:=b x (mem_of_getElem? q1);exact ⟨x,q1,fun n=>by rw [getElem?_set_ne (by lia)];exact q2 n⟩
section
variable {G:Gx} {prog:Program} {w:World} {sa:Addr} {ns:List Int} {p t c:Nat} {st n:Int} {L:List (Int×Int)} {bks:List Nat} {H:MH} {xp:Addr->List MV->MH->Prop}
def MulP (p t c M:Nat) (L:List (Int×Int)) (bks:List Nat) (H:MH) (one two:Nat) (H':MH):Prop:=∃st' n' B F r,BookOK p t c (L++[((fs L one).1*(fs L two).1,B)]) L.length one two F/\
 Tab p t c (L++[((fs L one).1*(fs L two).1,B)]) (bks++[r]) st' n' H'/\Nxt (9+3*c) H H'/\BkAt p t c M (nm L.length) F r H'
theorem ytj {N:Nat}:refs bks++[MV.ref (15+3*c+c*(4*c+13))].map (rnV (phi (9+3*c) [] N))=refs (bks++[N+(6+c*(4*c+13))]):=by
 haveI er:phi (9+3*c) [] N (15+3*c+c*(4*c+13))=N+(6+c*(4*c+13)):=by
   haveI:=ygo (N:=9+3*c) (n:=N) (τ:=[]) (i:=6+c*(4*c+13));rwa [show 9+3*c+([]:List Nat).length+(6+c*(4*c+13))=15+3*c+c*(4*c+13) by simp;lia] at this
 show refs bks++[MV.ref (phi _ _ _ _)]=_;rw [er];unfold refs;rw [map_append];rfl
theorem ysf {N d:Nat} {τ:List Nat} (hτ:τ=(bpos c).map fun i=>N+i) {n j:Nat} (hj:j<15+3*c+c*c):phi (9+3*c) [] N (bph c j)=phi (9+3*c) τ n j:=by
 by_cases h:j<9+3*c
 . have:bph c j=j:=by
     unfold bph;rw [show Nat.ble (9+3*c) j=false from by
       cases q:Nat.ble (9+3*c) j with
       | false=>rfl
       | true=>have:=zlb q;exact absurd ‹_› (Nat.not_le_of_lt ‹_›)]
   rw [this,yeb h,yeb h]
 . obtain ⟨d,rfl⟩:∃d,j=9+3*c+d:=⟨j - (9+3*c),by omega⟩;have hd:d<(bpos c).length:=by rw [yji];exact ywz hj
   have:bph c (9+3*c+d)=9+3*c+([]:List Nat).length+(bpos c).getD d 0:=by
     unfold bph;rw [show Nat.ble (9+3*c) (9+3*c+d)=true from Nat.ble_eq_true_of_le (by exact Nat.le_add_right _ _),Nat.add_sub_cancel_left];rfl
   rw [this,ygo,ylm (j:=N+(bpos c).getD d 0) (by rw [hτ,getElem?_map,getD_eq_getElem?_getD,getElem?_eq_getElem hd];rfl)]
theorem yuy {name:Str} {F:Nat->Nat->Int} {X A:MH} {M:Nat} (hS:Shp p t c) (hN:9+3*c<=H.length) (hA:A.length=9+3*c) (hM:M<=H.length) (hX:(bpos c).map (fun i=>X[i]?)=(blk p t c name F).map fun o=>some (brO c o)) :
   BkAt p t c M name F (H.length+(6+c*(4*c+13))) (A++H.drop (9+3*c)++X.map (rnO (phi (9+3*c) [] H.length))):=by
 have hτ:∀(i k:Nat),(bpos c)[i]?=some k->((bpos c).map fun i=>H.length+i)[i]?=some (H.length+k):=fun i k e=>by rw [getElem?_map,e];rfl
 refine ⟨(bpos c).map fun i=>H.length+i,?_,?_,by rw [length_map,yji],hτ _ _ yon,fun i o e=>?_⟩
 . unfold List.Nodup;rw [pairwise_map];exact (yst hS).imp fun {a b} h q=>h (by lia)
 . intro x hx;obtain ⟨k,_,rfl⟩:=mem_map.mp hx;exact Nat.le_trans ‹_› (Nat.le_add_right _ _)
 . have e1:=congrArg (fun l=>l[i]?) hX;simp only [getElem?_map,e] at e1;cases ek:(bpos c)[i]? with
   | none=>rw [ek] at e1;exact no e1
   | some k=>
     rw [ek] at e1;haveI e2:X[k]?=some (brO c o):=Option.some.inj e1;refine ⟨_,hτ i k ek,fun n'=>?_⟩;haveI hm:=mem_of_getElem? e;have hl:(A++H.drop (9+3*c)).length=H.length:=by rw [length_append,hA,length_drop];exact yrg hN
     rw [getElem?_append_right (by exact ymp hl),hl,Nat.add_sub_cancel_left,getElem?_map,e2,yv0 hm];show some (rnO _ (rnO _ o))=_;rw [ypu];exact congrArg some (yoc hm fun j hj=>ysf (d:=0) rfl hj)
theorem BkAt.lt {name:Str} {F:Nat->Nat->Int} {M r:Nat} (A:BkAt p t c M name F r H):r<H.length:=by
 obtain ⟨τ,_,_,_,r1,r2⟩:=A;obtain ⟨x,r3,r4⟩:=r2 (5+c*c) _ (getElem?_eq_getElem (by rw [yhz];lia));rw [r1] at r3
 (replace r3:=si r3;subst r3)
 exact (zgs (r4 0)).1
theorem ysb {F:Nat->Nat->Int} {X:MH} {B s m:Int} {one two M:Nat} (hS:Shp p t c) (T:Tab p t c L bks st n H) (hB:BookOK p t c (L++[((fs L one).1*(fs L two).1,B)]) L.length one two F)
   (hA:(hP p t c s m (eL p t (L++[((fs L one).1*(fs L two).1,B)]))++[MO.list (refs (bks++[H.length+(6+c*(4*c+13))]))]).length=9+3*c) (hM:M<=H.length) (hX:(bpos c).map (fun i=>X[i]?)=(blk p t c (nm L.length) F).map fun o=>some (brO c o)) :
   MulP p t c M L bks H one two (hP p t c s m (eL p t (L++[((fs L one).1*(fs L two).1,B)]))++[MO.list (refs (bks++[H.length+(6+c*(4*c+13))]))]++H.drop (9+3*c)++X.map (rnO (phi (9+3*c) [] H.length))):=by
 haveI bk:=yuy hS T.l hA hM hX;haveI nx:=yj6 (Y:=X.map (rnO (phi (9+3*c) [] H.length))) hA T.l;refine ⟨s,m,B,F,_,hB,⟨yh4 hA,Nat.le_trans T.l nx.l,fun a ha=>?_⟩,nx,bk⟩;rcases zma ha with ha | ha
 . exact Nat.lt_of_lt_of_le (T.b a ha) nx.l
 . rw [mem_singleton.mp ha];exact bk.lt
theorem yvp (hS:Shp p t c) (K:K21 G sa ns) (T:Tab p t c L bks st n H) (hl:L.length<9) {one two M:Nat} (h1:one<L.length) (h2:two<L.length) (hg:bks.length<=1000000) (hM:M<=H.length) :
   CL G prog w 120 ybm [.ref 6,.str (nm L.length),.str (nm one),.str (nm two)] H (fun _=>MulP p t c M L bks H one two) xp:=by
 refine (CL.tab (N:=9+3*c) (P:=hP p t c st n (eL p t L)) (B:=[]) (τ:=[]) (bks:=bks) (args0:=[.ref 6,.str (nm L.length),.str (nm one),.str (nm two)])
   (Q:=fun v P' ks X=>∃s m B F,BookOK p t c (L++[((fs L one).1*(fs L two).1,B)]) L.length one two F/\P'=hP p t c s m (eL p t (L++[((fs L one).1*(fs L two).1,B)]))/\ks=[.ref (15+3*c+c*(4*c+13))]/\
     (bpos c).map (fun i=>X[i]?)=(blk p t c (nm L.length) F).map fun o=>some (brO c o)) (by rw [ya8];exact Nat.add_right_comm _ _ _) yej T.h T.l T.b List.nodup_nil (fun i hi=>by cases hi) rfl
   (fun i o e=>by exact no e) (fun gs hgs=>?_) ?_).mono ?_ fun _ _ _ x=>x
 . rw [show hP p t c st n (eL p t L)++[MO.list gs]++[]=h21 p t c st n (eL p t L) gs from append_nil _];refine (tcall.cl K (Eq.mpr (yte hS st n (eL p t L) gs (fun v H1 l=>∃s m B F,BookOK p t c (L++[((fs L one).1*(fs L two).1,B)]) L.length one two F/\H1=h21 p t c s m (eL p t (L++[((fs L one).1*(fs L two).1,B)])) (gs++[.ref (15+3*c+c*(4*c+13))])/\
     l=(blk p t c (nm L.length) F).map fun o=>some (brO c o)) (nm L.length) (nm one) (nm two)) (yug hS hl h1 h2 (by rw [hgs];exact hg) fun s m B F hB=>⟨s,m,B,F,hB,rfl,rfl⟩))).mono ?_ fun _ _ _ x=>x
   rintro v H1 ⟨s,m,B,F,hB,e,e2⟩;refine ⟨_,_,H1.drop (9+3*c),⟨s,m,B,F,hB,rfl,rfl,?_⟩,by rw [ya8,ya8],yej,?_⟩
   . rw [<-e2];refine map_congr_left fun i _=>?_;rw [getElem?_drop,ycc]
   . rw [append_nil];have:=List.take_append_drop (9+3*c) H1;rw [e] at this;exact this.symm
 . show _=[MV.ref (phi _ _ _ 6),_,_,_];rw [yeb (by exact yiz)];rfl
 . rintro _ _ ⟨v0,P',ks,X,⟨s,m,B,F,hB,rfl,rfl,hX⟩,rfl,rfl⟩;rw [ytj];have hA:(hP p t c s m (eL p t (L++[((fs L one).1*(fs L two).1,B)]))++[MO.list (refs (bks++[H.length+(6+c*(4*c+13))]))]).length=9+3*c:=by rw [length_append,ya8];simp;exact Nat.add_right_comm _ _ _
   exact ysb hS T hB hA hM hX
theorem BkAt.pair {M:Nat} {name:Str} {F:Nat->Nat->Int} {r:Nat} (A:BkAt p t c M name F r H):∃b,H[r]?=some (.tup [.str name,.ref b]):=by
 obtain ⟨τ,a1,a2,a3,a4,a5⟩:=A;haveI hb:(blk p t c name F)[5+c*c]?=some (.tup [.str name,.ref (10+3*c)]):=by
   haveI q:∀A:MH,A.length=5+c*c->(A++[MO.tup [.str name,.ref (10+3*c)]])[5+c*c]?=some (.tup [.str name,.ref (10+3*c)]):=fun A hA=>by
     rw [getElem?_append_right (by exact Nat.le_of_eq ‹_›),hA,Nat.sub_self];rfl
   refine q (_ :: _ :: _ :: _ :: _ :: _) ?_;simp only [length_cons,yfj];exact yrc
 obtain ⟨x,q1,q2⟩:=a5 _ _ hb;rw [a4] at q1
 (replace q1:=si q1;subst q1)
 exact ⟨_,q2 0⟩
theorem yw1 (hS:Shp p t c) (K:K21 G sa ns) (T:Tab p t c L bks st n H) (hl:L.length<=9) {j one two M r b:Nat} {F:Nat->Nat->Int} (B:BookOK p t c L j one two F) (A:BkAt p t c M (nm j) F r H) (hM:9+3*c<=M) (hb:H[r]?=some (.tup [.str (nm j),.ref b])) :
   CL G prog w 120 ya5 [.ref 6,.str (nm j),.str (nm one),.str (nm two),.ref b] H (fun v H'=>(∃x,v=.ref x/\H'[x]?=some (.list []))/\Tab p t c L bks st n H'/\Nxt (9+3*c) H H') xp:=by
 obtain ⟨τ,a1,a2,a3,a4,a5⟩:=A;haveI hbl:(blk p t c (nm j) F)[5+c*c]?=some (.tup [.str (nm j),.ref (10+3*c)]):=by
   haveI q:∀A:MH,A.length=5+c*c->(A++[MO.tup [.str (nm j),.ref (10+3*c)]])[5+c*c]?=some (.tup [.str (nm j),.ref (10+3*c)]):=fun A hA=>by
     rw [getElem?_append_right (by exact Nat.le_of_eq ‹_›),hA,Nat.sub_self];rfl
   refine q (_ :: _ :: _ :: _ :: _ :: _) ?_;simp only [length_cons,yfj];exact yrc
 haveI eb:b=phi (9+3*c) τ H.length (10+3*c):=by
   obtain ⟨x,Z1⟩:=a5 _ _ hbl;haveI q1:=(zl Z1);haveI q2:=(zr Z1);clear Z1;rw [a4] at q1
   (replace q1:=si q1;subst q1)
   haveI:=q2 H.length;rw [hb] at this;injection this with this
   injection this with this
   injection this with _ this
   injection this with this
   injection this
 haveI hB:∀(i:Nat) o,(blk p t c (nm j) F)[i]?=some o->∃x,τ[i]?=some x/\H[x]?=some (rnO (phi (9+3*c) τ H.length) o):=fun i o e=>(a5 i o e).imp fun x q=>⟨q.1,q.2 H.length⟩;refine (CL.tab (N:=9+3*c) (P:=hP p t c st n (eL p t L)) (B:=blk p t c (nm j) F) (τ:=τ) (bks:=bks) (args0:=[.ref 6,.str (nm j),.str (nm one),.str (nm two),.ref (10+3*c)])
   (Q:=fun v P' ks X=>P'=hP p t c st n (eL p t L)/\ks=[]/\∃x,v=.ref (9+3*c+τ.length+x)/\X[x]?=some (.list [])) (by rw [ya8];exact Nat.add_right_comm _ _ _) yej T.h T.l T.b a1 (fun i hi=>⟨Nat.le_trans hM (a2 i hi),?_⟩) (by rw [yhz,a3]) hB (fun gs hgs=>?_) ?_).mono ?_ fun _ _ _ x=>x
 . obtain ⟨k,hk,e⟩:=List.mem_iff_getElem.mp hi;obtain ⟨x,Z2⟩:=hB k _ (getElem?_eq_getElem (by rw [yhz,<-a3];exact hk));haveI q1:=(zl Z2);haveI q2:=(zr Z2);clear Z2;rw [getElem?_eq_getElem hk,e] at q1
   (replace q1:=si q1;subst q1)
   exact (zgs q2).1
 . refine (tcall.cl K (Eq.mpr (ytr hS st n (eL p t L) gs (fun l H1=>l=[]/\H1=hC p t c st n (eL p t L) gs (nm j) F) (nm j) (nm one) (nm two) F) (yuh hS hl B ⟨rfl,rfl⟩))).mono ?_ fun _ _ _ x=>x;intro v H1 h;obtain ⟨q,Z3⟩:=goO.out h;haveI eq:=(zl Z3);haveI h:=(zr Z3);clear Z3;haveI Z4:=goB.out h;haveI el:=(zl Z4);haveI h3:=(zl (zr Z4));haveI h4:=(zr (zr Z4));clear Z4;haveI Z5:=objL eq;haveI e3:=(zl Z5);haveI e4:=(zr Z5);clear Z5;haveI el:=zlb el;rw [h3] at e4;obtain ⟨x,hx⟩:∃x,q.1=15+3*c+c*c+x:=⟨q.1 - (15+3*c+c*c),by omega⟩;rw [hx] at e3 e4;refine ⟨_,[],H1.drop (15+3*c+c*c),⟨rfl,rfl,x,?_,?_⟩,rfl,yej,?_⟩
   . rw [e3,a3];congr 1;exact yu0
   . rw [getElem?_drop];exact e4
   . rw [append_nil];haveI:=List.take_append_drop (15+3*c+c*c) H1;rw [h4] at this;exact this.symm
 . show _=[MV.ref (phi _ _ _ 6),_,_,_,MV.ref (phi _ _ _ (10+3*c))];rw [yeb (by exact yiz),eb];rfl
 . rintro _ _ ⟨v0,P',ks,X,⟨rfl,rfl,x,rfl,hx⟩,rfl,rfl⟩;rw [map_nil,append_nil];haveI hA:(hP p t c st n (eL p t L)++[MO.list (refs bks)]).length=9+3*c:=by rw [length_append,ya8];simp;exact yvg
   haveI nx:=yj6 (Y:=X.map (rnO (phi (9+3*c) τ H.length))) hA T.l;refine ⟨⟨H.length+x,?_,?_⟩,⟨yh4 hA,Nat.le_trans T.l nx.l,fun a ha=>Nat.lt_of_lt_of_le (T.b a ha) nx.l⟩,nx⟩
   . show MV.ref (phi _ _ _ _)=_;rw [ygo]
   . haveI:(hP p t c st n (eL p t L)++[MO.list (refs bks)]++H.drop (9+3*c)).length=H.length:=by
       rw [length_append,hA,length_drop];haveI:=T.l;exact yrg this
     rw [getElem?_append_right (by exact ymp this),this,Nat.add_sub_cancel_left,getElem?_map,hx];rfl
end
noncomputable def mul1 (j:Nat):Stp->List (Nat×Nat×Nat)
 | .bin true a b=>[(j,a,b)]
 | _=>[]
theorem yj7 {j:Nat} {s:Stp}:(mul1 j s).length<=1:=by
 cases s with
 | bin b _ _=>cases b <;> first | exact Nat.le_refl 1 | exact Nat.zero_le 1
 | _=>exact Nat.zero_le 1
theorem ypb {j:Nat} {s:Stp} {q:Nat×Nat×Nat} (h:q ∈ mul1 j s):q.1=j:=by
 cases s with
 | bin b x y=>cases b with
   | true=>rw [mem_singleton.mp h]
   | false=>cases h
 | _=>cases h
noncomputable def yab:Nat->List Stp->List (Nat×Nat×Nat)
 | _,[]=>[]
 | j,s :: r=>mul1 j s++yab (j+1) r
theorem yd3 {s:Stp}:∀{ss:List Stp} {j:Nat},yab j (ss++[s])=yab j ss++mul1 (j+ss.length) s:=by
 intro zd
 induction zd with
 | nil=>
  exact fun {j}=>by show mul1 j s++[]=[]++mul1 (j+0) s;simp
 | cons a ss zih=>
  exact fun {j}=>by
   show mul1 j a++yab (j+1) (ss++[s])=(mul1 j a++yab (j+1) ss)++_;rw [zih,append_assoc,length_cons,show j+1+ss.length=j+(ss.length+1) by exact Nat.add_right_comm _ _ _]
structure Bks (p t c M:Nat) (ss:List Stp) (L:List (Int×Int)) (bks:List Nat) (H:MH):Prop where
 len:bks.length=(yab 0 ss).length
 a:∀(u r j a b:Nat),bks[u]?=some r->(yab 0 ss)[u]?=some (j,a,b)->∃F,BookOK p t c L j a b F/\BkAt p t c M (nm j) F r H
section
variable {p t c M N:Nat} {ss:List Stp} {L:List (Int×Int)} {bks:List Nat} {H H':MH}
theorem Bks.nxt (h:Bks p t c M ss L bks H) (X:Nxt N H H') (hN:N<=M):Bks p t c M ss L bks H':=⟨h.len,fun u r j a b e1 e2=>(h.a u r j a b e1 e2).imp fun F q=>⟨q.1,q.2.nxt X hN⟩⟩
theorem Bks.set (h:Bks p t c M ss L bks H) {o:Nat} {y:MO} (ho:o<M):Bks p t c M ss L bks (H.set o y):=⟨h.len,fun u r j a b e1 e2=>(h.a u r j a b e1 e2).imp fun F q=>⟨q.1,q.2.set ho⟩⟩
theorem Bks.other (h:Bks p t c M ss L bks H) {s:Stp} {ab:Int×Int} (e:mul1 ss.length s=[]):Bks p t c M (ss++[s]) (L++[ab]) bks H:=by
 have e2:yab 0 (ss++[s])=yab 0 ss:=by rw [yd3,Nat.zero_add,e,append_nil]
 refine ⟨by rw [e2];exact h.len,fun u r j a b e1 e3=>?_⟩;rw [e2] at e3;obtain ⟨F,q1,q2⟩:=h.a u r j a b e1 e3;exact ⟨F,q1.app _,q2⟩
theorem Bks.mul (h:Bks p t c M ss L bks H) {one two r:Nat} {ab:Int×Int} {F:Nat->Nat->Int} (hl:L.length=ss.length) (B:BookOK p t c (L++[ab]) L.length one two F) (A:BkAt p t c M (nm L.length) F r H):Bks p t c M (ss++[.bin true one two]) (L++[ab]) (bks++[r]) H:=by
 have e2:yab 0 (ss++[.bin true one two])=yab 0 ss++[(L.length,one,two)]:=by rw [yd3,Nat.zero_add,hl];rfl
 refine ⟨by rw [e2,length_append,length_append,h.len];rfl,fun u r' j a b e1 e3=>?_⟩;rw [e2] at e3;by_cases hu:u<bks.length
 . rw [getElem?_append_left hu] at e1;rw [getElem?_append_left (by rw [<-h.len];exact hu)] at e3;obtain ⟨F',q1,q2⟩:=h.a u r' j a b e1 e3;exact ⟨F',q1.app _,q2⟩
 . rw [getElem?_append_right (by exact Nat.not_lt.mp ‹_›)] at e1;rw [getElem?_append_right (by rw [<-h.len];exact Nat.not_lt.mp ‹_›),<-h.len] at e3;have hz:u - bks.length=0:=by
     have:=(zgs e1).1;simp at this;assumption
   rw [hz] at e1 e3
   (replace e1:=si e1;subst e1)
   cases e3;exact ⟨F,B,A⟩
end
theorem OutAt.nxt {p t c:Nat} {st n:Int} {L:List (Int×Int)} {bks:List Nat} {H H':MH} {o:Nat} {ns:List Int} (h:OutAt H o ns) (T:Tab p t c L bks st n H) (X:Nxt (9+3*c) H H') (ho:9+3*c<=o):OutAt H' o ns:=
 h.imp fun rs q=>⟨X.e _ _ ho q.1,q.2.1,fun k t e=>X.e _ _ (T.tup (q.2.2 k t e)) (q.2.2 k t e)⟩
structure RuI (p t c:Nat) (ss:List Stp) (H0:MH) (o lst:Nat) (rs:List Nat) (i:Nat) (L:List (Int×Int)) (bks:List Nat) (st n:Int) (H:MH):Prop where
 tab:Tab p t c L bks st n H
 len:L.length=(ss.take i).length
 val:∀j,j<L.length->(fs L j).1 % (p:Int)=(vals p (ss.take i)).getD j 0
 bk:Bks p t c (o+1) (ss.take i) L bks H
 fO:OutAt H o ((vals p ss).take (i - ss.length))
 fL:H[lst]?=some (.list (refL rs))
 fT:∀(j r:Nat) l,rs[j]?=some r->(yai ss)[j]?=some l->H[r]?=some (.tup (ltp l))
 nx:Nxt (9+3*c) H0 H
 h0:9+3*c<=H0.length
 ho:H0.length<=o
 hl:9+3*c<=lst
 ne:lst≠o
section
variable {G:Gx} {prog:Program} {w:World} {sa:Addr} {ns:List Int} {p t c:Nat} {st n:Int} {L:List (Int×Int)} {bks:List Nat} {H:MH} {xp:Addr->List MV->MH->Prop} {q:MV->MH->Prop}
theorem CL.opk {f:Addr} {args:List MV} {R:MV->List (Int×Int)->Prop} (h:CL G prog w 120 f args H (OpP p t c bks H R) xp) (hp:∀st' n' L' v H',R v L'->Tab p t c L' bks st' n' H'->Nxt (9+3*c) H H'->q v H'):CL G prog w 130 f args H q xp:=
 h.use (by decide) fun v H' q=>by
   obtain ⟨st',n',L',a,b,d⟩:=q;exact hp st' n' L' _ _ a b d
variable (hS:Shp p t c) (K:K21 G sa ns) (T:Tab p t c L bks st n H)
include hS K T
theorem ywt (hl:L.length<9) {v:Int} (hv:0<=v/\v<p) (hp:∀st' n' b H',Tab p t c (L++[(v,b)]) bks st' n' H'->Nxt (9+3*c) H H'->q .none H'):CL G prog w 130 ycl [.ref 6,.str (nm L.length),.int v] H q xp:=
 (ywo hS K T hl hv).opk fun st' n' L' u H' h T' X=>by
   obtain ⟨rfl,b,rfl⟩:=h;exact hp _ _ _ _ T' X
theorem ywi (hl:L.length<9) {one two:Nat} (h1:one<L.length) (h2:two<L.length) (hp:∀st' n' b H',Tab p t c (L++[((fs L one).1+(fs L two).1,b)]) bks st' n' H'->Nxt (9+3*c) H H'->q .none H'):CL G prog w 130 yco [.ref 6,.str (nm L.length),.str (nm one),.str (nm two)] H q xp:=
 (ywv hS K T hl h1 h2).opk fun st' n' L' u H' h T' X=>by
   obtain ⟨rfl,rfl⟩:=h;exact hp _ _ _ _ T' X
theorem ysj (hl:L.length<9) {one:Nat} {v:Int} (hv:0<=v/\v<p) (h1:one<L.length) (hp:∀st' n' b H',Tab p t c (L++[(v*(fs L one).1,b)]) bks st' n' H'->Nxt (9+3*c) H H'->q .none H'):CL G prog w 130 yb4 [.ref 6,.str (nm L.length),.int v,.str (nm one)] H q xp:=
 (yr6 hS K T hl hv h1).opk fun st' n' L' u H' h T' X=>by
   obtain ⟨rfl,rfl⟩:=h;exact hp _ _ _ _ T' X
theorem ysu (hl:L.length<9) {one:Nat} {v:Int} (hv:0<=v/\v<p) (h1:one<L.length) (hp:∀st' n' b H',Tab p t c (L++[(v+(fs L one).1,b)]) bks st' n' H'->Nxt (9+3*c) H H'->q .none H'):CL G prog w 130 yb6 [.ref 6,.str (nm L.length),.int v,.str (nm one)] H q xp:=
 (yru hS K T hl hv h1).opk fun st' n' L' u H' h T' X=>by
   obtain ⟨rfl,rfl⟩:=h;exact hp _ _ _ _ T' X
theorem yt8 (hl:L.length<=9) {one:Nat} {v:Int} (h1:one<L.length) (hv:(fs L one).1 % (p:Int)=v) (hp:∀st' n' H',Tab p t c L bks st' n' H'->Nxt (9+3*c) H H'->q (.int v) H'):CL G prog w 130 ycd [.ref 6,.str (nm one)] H q xp:=
 (yt9 hS K T hl h1).opk fun st' n' L' u H' h T' X=>by
   obtain ⟨rfl,e⟩:=h;rw [e] at T';rw [hv];exact hp _ _ _ T' X
theorem yva (hl:L.length<9) {one two M:Nat} (h1:one<L.length) (h2:two<L.length) (hg:bks.length<=1000000) (hM:M<=H.length)
   (hp:∀st' n' B F r H' v,BookOK p t c (L++[((fs L one).1*(fs L two).1,B)]) L.length one two F->Tab p t c (L++[((fs L one).1*(fs L two).1,B)]) (bks++[r]) st' n' H'->Nxt (9+3*c) H H'->BkAt p t c M (nm L.length) F r H'->q v H') :
   CL G prog w 130 ybm [.ref 6,.str (nm L.length),.str (nm one),.str (nm two)] H q xp:=
 (yvp hS K T hl h1 h2 hg hM).use (by decide) fun v H' q=>by
   obtain ⟨st',n',B,F,r,Z1⟩:=q;haveI a:=(zl Z1);haveI b:=(zl (zr Z1));haveI d:=(zl (zr (zr Z1)));haveI e:=(zr (zr (zr Z1)));clear Z1;exact hp st' n' B F r H' v a b d e
end
section
variable {G:Gx} {cx:Cx} {sa:Addr} {ns:List Int} {p t c:Nat} {ss:List Stp} {H0:MH} {o lst:Nat} {rs:List Nat} {i:Nat} {L L':List (Int×Int)} {bks bks':List Nat} {st n st' n':Int} {H H':MH} {txt:Str}
theorem yo8 {s:Stp} {ab:Int×Int} (hs:ss[i]?=some s) (hl:L.length=i) (hv:∀j,j<L.length->(fs L j).1 % (p:Int)=(vals p (ss.take i)).getD j 0) (hab:ab.1 % (p:Int)=ev p (vals p (ss.take i)) s) :
   ∀j,j<(L++[ab]).length->(fs (L++[ab]) j).1 % (p:Int)=(vals p (ss.take (i+1))).getD j 0:=by
 intro j hj;have hlt:=(zgs hs).1;have lv:(vals p (ss.take i)).length=i:=by rw [yay,length_take];exact yg3 hlt
 rw [yd1 hs];unfold fs;by_cases h:j<L.length
 . rw [getD_eq_getElem?_getD,getElem?_append_left h,<-getD_eq_getElem?_getD,getD_eq_getElem?_getD (l:=vals p (ss.take i)++_),getElem?_append_left (by lia),<-getD_eq_getElem?_getD];exact hv j h
 . have e:j=L.length:=by
     rw [length_append,length_singleton] at hj;exact yp3 hj h
   subst e;rw [getD_eq_getElem?_getD,getElem?_append_right (Nat.le_refl _),Nat.sub_self,getD_eq_getElem?_getD,getElem?_append_right (by lia),hl,lv,Nat.sub_self];exact hab
theorem RuI.step {s:Stp} {ab:Int×Int} (J:RuI p t c ss H0 o lst rs i L bks st n H) (hs:ss[i]?=some s) (T:Tab p t c (L++[ab]) bks' st' n' H') (X:Nxt (9+3*c) H H') (hv:ab.1 % (p:Int)=ev p (vals p (ss.take i)) s) (hb:Bks p t c (o+1) (ss.take i++[s]) (L++[ab]) bks' H') :
   RuI p t c ss H0 o lst rs (i+1) (L++[ab]) bks' st' n' H':=by
 haveI hlt:=(zgs hs).1;haveI hl:L.length=i:=by rw [J.len,length_take];exact yg3 hlt
 haveI et:ss.take (i+1)=ss.take i++[s]:=by rw [take_succ,hs];rfl
 refine ⟨T,by rw [et,length_append,length_append,J.len];rfl,yo8 hs hl J.val hv,by rw [et];exact hb,?_,X.e _ _ J.hl J.fL,fun j r l a b=>X.e _ _ (J.tab.tup (J.fT j r l a b)) (J.fT j r l a b),J.nx.trans X,J.h0,J.ho,J.hl,J.ne⟩;rw [show i+1 - ss.length=i - ss.length by exact ylx hlt];exact J.fO.nxt J.tab X (Nat.le_trans J.h0 J.ho)
theorem RuI.other {s:Stp} {ab:Int×Int} (J:RuI p t c ss H0 o lst rs i L bks st n H) (hs:ss[i]?=some s) (T:Tab p t c (L++[ab]) bks st' n' H') (X:Nxt (9+3*c) H H') (hv:ab.1 % (p:Int)=ev p (vals p (ss.take i)) s) (hm:∀j,mul1 j s=[]) :
   RuI p t c ss H0 o lst rs (i+1) (L++[ab]) bks st' n' H':=J.step hs T X hv ((J.bk.nxt X (Nat.le_succ_of_le (Nat.le_trans J.h0 J.ho))).other (hm _))
variable (ok:Ok G cx 130) (hfm:cx.fm=none) (hint:interactive cx.env=false) (hS:Shp p t c) (K:K21 G sa ns) (J:RuI p t c ss H0 o lst rs i L bks st n H)
include ok hfm hint hS K
theorem yr9 {r:Nat} (J:RuI p t c ss H0 o lst rs (ss.length+i) L bks st n H) (hi:i<ss.length) (h8:ss.length<=8) (hr:H[r]?=some (.tup (ltp (.opn (nm i)))))
   {post:Fl->ML->MH->Prop} (hp:∀L bks st n H',RuI p t c ss H0 o lst rs (ss.length+i+1) L bks st n H'->post .next [some (.ref 6),some (.str txt),some (.ref o),some (.ref r)] H') :
   TB cx [some (.ref 6),some (.str txt),some (.ref o),some (.ref r)] yat H post:=by
 haveI hle:(ltp (.opn (nm i))).length<=1000000:=zlb rfl;haveI hl:L.length=ss.length:=by rw [J.len,length_take];lia
 haveI lo:((vals p ss).take (ss.length+i - ss.length)).length=i:=by rw [length_take,yay];exact ypv hi
 haveI hv:(fs L i).1 % (p:Int)=(vals p ss).getD i 0:=by
   rw [J.val i (by exact ydn hi hl),take_of_length_le (by exact Nat.le_add_right _ _)]
 haveI hI:=J.tab.self;haveI gO:GMth G yaa "open" ycd:=K.m (by kernel_rfl);obtain ⟨rs0,Z1⟩:=J.fO;haveI a0:=(zl Z1);haveI b0:=(zl (zr Z1));haveI c0:=(zr (zr Z1));clear Z1;haveI hN:=Nat.le_trans J.h0 J.ho;unfold yat;with_reducible (refine TB.cons ?_;refine TS.ite ?_;refine TT.cmp ?_;refine TE.sq ?_;refine TE.loc ‹_› (by with_unfolding_all rfl) ?_;refine TE.int ?_)
 refine ⟨_,Sq.tup (n:=0) (v:=.str "open") hr hle rfl,?_⟩;with_reducible (refine TE.str ?_)
 refine ⟨true,rfl,dL (by first | exact nf1 | exact nf2) ?_⟩;with_reducible (refine TB.cons ?_;refine TS.expr ‹_› ?_;refine TE.append ?_;refine TE.loc ‹_› (by with_unfolding_all rfl) ?_)
 refine ⟨o,_,rfl,a0,?_⟩;with_reducible (refine TE.tup ?_;refine TEs.cons ?_;refine TE.sq ?_;refine TE.loc ‹_› (by with_unfolding_all rfl) ?_;refine TE.int ?_)
 refine ⟨_,Sq.tup (n:=1) (v:=.str (nm i)) hr hle rfl,?_⟩;with_reducible (refine TEs.cons ?_;refine TE.meth ‹_› ?_;refine TE.loc ‹_› (by with_unfolding_all rfl) ?_;refine ⟨_,_,_,_,_,rfl,by (first | assumption | exact Ext.ins ‹_› ‹_›),by with_unfolding_all rfl,by assumption,?_⟩;refine TEs.cons ?_;refine TE.sq ?_;refine TE.loc ‹_› (by with_unfolding_all rfl) ?_;refine TE.int ?_)
 refine ⟨_,Sq.tup (n:=1) (v:=.str (nm i)) hr hle rfl,?_⟩;with_reducible (refine TEs.nil ?_)
 refine yt8 hS K J.tab (by exact ymw h8 hl) (by exact ydn hi hl) hv fun st' n' H1 T1 X1=>?_;with_reducible (refine TEs.nil ?_)
 haveI e1:((vals p ss).take (ss.length+i - ss.length))++[(vals p ss).getD i 0]=(vals p ss).take (ss.length+i+1 - ss.length):=by
   haveI hi':(vals p ss)[i]?=some ((vals p ss).getD i 0):=by
     rw [getD_eq_getElem?_getD,getElem?_eq_getElem (by rw [yay];assumption)];rfl
   rw [show ss.length+i - ss.length=i by exact yqb,show ss.length+i+1 - ss.length=i+1 by exact yp8,take_succ,hi'];rfl
 haveI hE:=(Ext.refl H1).app [.tup [.str (nm i),.int ((vals p ss).getD i 0)]];obtain ⟨ys,Z2⟩:=(J.fO.nxt J.tab X1 hN).put (v:=(vals p ss).getD i 0) hE (t:=H1.length) (by rw [lo];exact yaf);haveI y1:=(zl Z2);haveI y2:=(zl (zr Z2));haveI y3:=(zr (zr Z2));clear Z2;refine ⟨zlb rfl,ys,y1,by rw [y2,lo];exact yq6 hi h8,?_⟩;rw [e1] at y3;haveI X2:Nxt (9+3*c) H (H1++[.tup [.str (nm i),.int ((vals p ss).getD i 0)]]):=X1.trans hE.nxt;with_reducible (refine TB.nil ?_;refine TB.nil ?_)
 haveI et:∀k,ss.length<=k->ss.take k=ss:=fun k hk=>take_of_length_le hk;refine hp L bks st' n' _ ⟨(T1.ext hE).set hN,by rw [hl,et _ (by exact ypz)],?_,?_,y3,?_,fun j r l a b=>yak (X2.e _ _ (J.tab.tup (J.fT j r l a b)) (J.fT j r l a b)) y1 (by exact fun h=>nomatch h),?_,J.h0,J.ho,J.hl,J.ne⟩
 . rw [et _ (by exact ypz)];haveI:=J.val;rwa [et _ (by exact qf28)] at this
 . haveI:=(J.bk.nxt X2 (Nat.le_succ_of_le hN)).set (o:=o) (y:=.list (ys++[.ref H1.length])) (Nat.lt_succ_self o);rw [et _ (by lia)] at this ⊢;exact this
 . rw [getElem?_set_ne (Ne.symm J.ne)];exact X2.e _ _ J.hl J.fL
 . haveI X3:=J.nx.trans X2;exact ⟨fun k z hk e=>by
     rw [getElem?_set_ne (by haveI:=(zgs e).1;haveI:=J.ho;lia)];exact X3.e k z hk e,by rw [length_set];exact X3.l⟩
include J
theorem ysk {r:Nat} {v:Int} (hs:ss[i]?=some (.put v)) (h8:ss.length<=8) (hv:0<=v/\v<p) (hr:H[r]?=some (.tup (ltp (linS i (.put v)))))
   {post:Fl->ML->MH->Prop} (hp:∀L bks st n H',RuI p t c ss H0 o lst rs (i+1) L bks st n H'->post .next [some (.ref 6),some (.str txt),some (.ref o),some (.ref r)] H') :
   TB cx [some (.ref 6),some (.str txt),some (.ref o),some (.ref r)] yat H post:=by
 haveI hlt:=(zgs hs).1;haveI hl:i=L.length:=by rw [J.len,length_take];exact yhf hlt
 subst hl;haveI hle:(ltp (linS L.length (.put v))).length<=1000000:=zlb rfl;haveI hI:=J.tab.self;haveI gO:GMth G yaa "put" ycl:=K.m (by kernel_rfl);unfold yat;with_reducible (refine TB.cons ?_;refine TS.ite ?_;refine TT.cmp ?_;refine TE.sq ?_;refine TE.loc ‹_› (by with_unfolding_all rfl) ?_;refine TE.int ?_)
 refine ⟨_,Sq.tup (n:=0) (v:=.str "put") hr hle rfl,?_⟩;with_reducible (refine TE.str ?_)
 refine ⟨false,rfl,dR (by first | exact nf1 | exact nf2) ?_⟩;with_reducible (refine TB.cons ?_;refine TS.ite ?_;refine TT.cmp ?_;refine TE.sq ?_;refine TE.loc ‹_› (by with_unfolding_all rfl) ?_;refine TE.int ?_)
 refine ⟨_,Sq.tup (n:=0) (v:=.str "put") hr hle rfl,?_⟩;with_reducible (refine TE.str ?_)
 refine ⟨true,rfl,dL (by first | exact nf1 | exact nf2) ?_⟩;with_reducible (refine TB.cons ?_;refine TS.expr ‹_› ?_;refine TE.meth ‹_› ?_;refine TE.loc ‹_› (by with_unfolding_all rfl) ?_;refine ⟨_,_,_,_,_,rfl,by (first | assumption | exact Ext.ins ‹_› ‹_›),by with_unfolding_all rfl,by assumption,?_⟩;refine TEs.cons ?_;refine TE.sq ?_;refine TE.loc ‹_› (by with_unfolding_all rfl) ?_;refine TE.int ?_)
 refine ⟨_,Sq.tup (n:=1) (v:=.str (nm L.length)) hr hle rfl,?_⟩;with_reducible (refine TEs.cons ?_;refine TE.sq ?_;refine TE.loc ‹_› (by with_unfolding_all rfl) ?_;refine TE.int ?_)
 refine ⟨_,Sq.tup (n:=2) (v:=.int v) hr hle rfl,?_⟩;with_reducible (refine TEs.nil ?_)
 refine ywt hS K J.tab (by exact ydb h8 hlt) hv fun st' n' b H1 T1 X1=>?_;with_reducible (refine TB.nil ?_;refine TB.nil ?_;refine TB.nil ?_)
 exact hp _ _ _ _ _ (J.other hs T1 X1 (Int.emod_eq_of_lt hv.1 hv.2) fun _=>rfl)
theorem yr3 {r a b:Nat} (hs:ss[i]?=some (.bin false a b)) (h8:ss.length<=8) (ha:a<i) (hb:b<i) (hr:H[r]?=some (.tup (ltp (linS i (.bin false a b)))))
   {post:Fl->ML->MH->Prop} (hp:∀L bks st n H',RuI p t c ss H0 o lst rs (i+1) L bks st n H'->post .next [some (.ref 6),some (.str txt),some (.ref o),some (.ref r)] H') :
   TB cx [some (.ref 6),some (.str txt),some (.ref o),some (.ref r)] yat H post:=by
 haveI hlt:=(zgs hs).1;haveI hl:i=L.length:=by rw [J.len,length_take];exact yhf hlt
 subst hl;rw [show ltp (linS L.length (.bin false a b))=[.str "add",.str (nm L.length),.str (nm a),.str (nm b)] by simp [ltp,linS,opS]] at hr;haveI hle:[MV.str "add",.str (nm L.length),.str (nm a),.str (nm b)].length<=1000000:=zlb rfl;haveI hI:=J.tab.self;haveI gO:GMth G yaa "add" yco:=K.m (by kernel_rfl);unfold yat;with_reducible (refine TB.cons ?_;refine TS.ite ?_;refine TT.cmp ?_;refine TE.sq ?_;refine TE.loc ‹_› (by with_unfolding_all rfl) ?_;refine TE.int ?_)
 refine ⟨_,Sq.tup (n:=0) (v:=.str "add") hr hle rfl,?_⟩;with_reducible (refine TE.str ?_)
 refine ⟨false,rfl,dR (by first | exact nf1 | exact nf2) ?_⟩;with_reducible (refine TB.cons ?_;refine TS.ite ?_;refine TT.cmp ?_;refine TE.sq ?_;refine TE.loc ‹_› (by with_unfolding_all rfl) ?_;refine TE.int ?_)
 refine ⟨_,Sq.tup (n:=0) (v:=.str "add") hr hle rfl,?_⟩;with_reducible (refine TE.str ?_)
 refine ⟨false,rfl,dR (by first | exact nf1 | exact nf2) ?_⟩;with_reducible (refine TB.cons ?_;refine TS.ite ?_;refine TT.cmp ?_;refine TE.sq ?_;refine TE.loc ‹_› (by with_unfolding_all rfl) ?_;refine TE.int ?_)
 refine ⟨_,Sq.tup (n:=0) (v:=.str "add") hr hle rfl,?_⟩;with_reducible (refine TE.str ?_)
 refine ⟨true,rfl,dL (by first | exact nf1 | exact nf2) ?_⟩;with_reducible (refine TB.cons ?_;refine TS.expr ‹_› ?_;refine TE.meth ‹_› ?_;refine TE.loc ‹_› (by with_unfolding_all rfl) ?_;refine ⟨_,_,_,_,_,rfl,by (first | assumption | exact Ext.ins ‹_› ‹_›),by with_unfolding_all rfl,by assumption,?_⟩;refine TEs.cons ?_;refine TE.sq ?_;refine TE.loc ‹_› (by with_unfolding_all rfl) ?_;refine TE.int ?_)
 refine ⟨_,Sq.tup (n:=1) (v:=.str (nm L.length)) hr hle rfl,?_⟩;with_reducible (refine TEs.cons ?_;refine TE.sq ?_;refine TE.loc ‹_› (by with_unfolding_all rfl) ?_;refine TE.int ?_)
 refine ⟨_,Sq.tup (n:=2) (v:=.str (nm a)) hr hle rfl,?_⟩;with_reducible (refine TEs.cons ?_;refine TE.sq ?_;refine TE.loc ‹_› (by with_unfolding_all rfl) ?_;refine TE.int ?_)
 refine ⟨_,Sq.tup (n:=3) (v:=.str (nm b)) hr hle rfl,?_⟩;with_reducible (refine TEs.nil ?_)
 refine ywi hS K J.tab (by exact ydb h8 hlt) ha hb fun st' n' b2 H1 T1 X1=>?_;with_reducible (refine TB.nil ?_;refine TB.nil ?_;refine TB.nil ?_;refine TB.nil ?_)
 refine hp _ _ _ _ _ (J.other hs T1 X1 ?_ fun _=>rfl);show _=(_+_) % (p:Int);rw [<-J.val a ha,<-J.val b hb,<-Int.add_emod]
theorem yr1 {r a b:Nat} (hs:ss[i]?=some (.bin true a b)) (h8:ss.length<=8) (ha:a<i) (hb:b<i) (hr:H[r]?=some (.tup (ltp (linS i (.bin true a b)))))
   {post:Fl->ML->MH->Prop} (hp:∀L bks st n H',RuI p t c ss H0 o lst rs (i+1) L bks st n H'->post .next [some (.ref 6),some (.str txt),some (.ref o),some (.ref r)] H') :
   TB cx [some (.ref 6),some (.str txt),some (.ref o),some (.ref r)] yat H post:=by
 haveI hlt:=(zgs hs).1;haveI hl:i=L.length:=by rw [J.len,length_take];exact yhf hlt
 subst hl;rw [show ltp (linS L.length (.bin true a b))=[.str "multiply",.str (nm L.length),.str (nm a),.str (nm b)] by kernel_rfl] at hr;haveI hle:[MV.str "multiply",.str (nm L.length),.str (nm a),.str (nm b)].length<=1000000:=zlb rfl;haveI hI:=J.tab.self;haveI gO:GMth G yaa "multiply" ybm:=K.m (by kernel_rfl);haveI ho:o<H.length:=by
   obtain ⟨_,Z1⟩:=J.fO;haveI e:=(zl Z1);clear Z1;exact (zgs e).1
 haveI hm:∀{ss:List Stp} {j:Nat},(yab j ss).length<=ss.length:=fun {ss}=>by
   induction ss with
   | nil=>intro j;exact Nat.le_refl 0
   | cons s r ih=>
     intro j;show (mul1 j s++yab (j+1) r).length<=r.length+1;haveI h1:(mul1 j s).length<=1:=yj7;haveI h2:=@ih (j+1);rw [length_append];exact yrb h1 h2
 haveI hbk:bks.length<=8:=by
   haveI h1:=@hm (ss.take L.length) 0;haveI h2:=J.bk.len;rw [length_take] at h1;lia
 unfold yat;with_reducible (refine TB.cons ?_;refine TS.ite ?_;refine TT.cmp ?_;refine TE.sq ?_;refine TE.loc ‹_› (by with_unfolding_all rfl) ?_;refine TE.int ?_)
 refine ⟨_,Sq.tup (n:=0) (v:=.str "multiply") hr hle rfl,?_⟩;with_reducible (refine TE.str ?_)
 refine ⟨false,rfl,dR (by first | exact nf1 | exact nf2) ?_⟩;with_reducible (refine TB.cons ?_;refine TS.ite ?_;refine TT.cmp ?_;refine TE.sq ?_;refine TE.loc ‹_› (by with_unfolding_all rfl) ?_;refine TE.int ?_)
 refine ⟨_,Sq.tup (n:=0) (v:=.str "multiply") hr hle rfl,?_⟩;with_reducible (refine TE.str ?_)
 refine ⟨false,rfl,dR (by first | exact nf1 | exact nf2) ?_⟩;with_reducible (refine TB.cons ?_;refine TS.ite ?_;refine TT.cmp ?_;refine TE.sq ?_;refine TE.loc ‹_› (by with_unfolding_all rfl) ?_;refine TE.int ?_)
 refine ⟨_,Sq.tup (n:=0) (v:=.str "multiply") hr hle rfl,?_⟩;with_reducible (refine TE.str ?_)
 refine ⟨false,rfl,dR (by first | exact nf1 | exact nf2) ?_⟩;with_reducible (refine TB.cons ?_;refine TS.ite ?_;refine TT.cmp ?_;refine TE.sq ?_;refine TE.loc ‹_› (by with_unfolding_all rfl) ?_;refine TE.int ?_)
 refine ⟨_,Sq.tup (n:=0) (v:=.str "multiply") hr hle rfl,?_⟩;with_reducible (refine TE.str ?_)
 refine ⟨true,rfl,dL (by first | exact nf1 | exact nf2) ?_⟩;with_reducible (refine TB.cons ?_;refine TS.expr ‹_› ?_;refine TE.meth ‹_› ?_;refine TE.loc ‹_› (by with_unfolding_all rfl) ?_;refine ⟨_,_,_,_,_,rfl,by (first | assumption | exact Ext.ins ‹_› ‹_›),by with_unfolding_all rfl,by assumption,?_⟩;refine TEs.cons ?_;refine TE.sq ?_;refine TE.loc ‹_› (by with_unfolding_all rfl) ?_;refine TE.int ?_)
 refine ⟨_,Sq.tup (n:=1) (v:=.str (nm L.length)) hr hle rfl,?_⟩;with_reducible (refine TEs.cons ?_;refine TE.sq ?_;refine TE.loc ‹_› (by with_unfolding_all rfl) ?_;refine TE.int ?_)
 refine ⟨_,Sq.tup (n:=2) (v:=.str (nm a)) hr hle rfl,?_⟩;with_reducible (refine TEs.cons ?_;refine TE.sq ?_;refine TE.loc ‹_› (by with_unfolding_all rfl) ?_;refine TE.int ?_)
 refine ⟨_,Sq.tup (n:=3) (v:=.str (nm b)) hr hle rfl,?_⟩;with_reducible (refine TEs.nil ?_)
 refine yva (M:=o+1) hS K J.tab (by exact ydb h8 hlt) ha hb (by exact Nat.le_trans ‹_› (by decide)) ho fun st' n' B F r1 H1 v hB T1 X1 A=>?_;with_reducible (refine TB.nil ?_;refine TB.nil ?_;refine TB.nil ?_;refine TB.nil ?_;refine TB.nil ?_)
 refine hp _ _ _ _ _ (J.step hs T1 X1 ?_ ((J.bk.nxt X1 (Nat.le_succ_of_le (Nat.le_trans J.h0 J.ho))).mul J.len hB A));show _=(_*_) % (p:Int);rw [<-J.val a ha,<-J.val b hb,<-Int.mul_emod]
theorem yoj {r b:Nat} {v:Int} (hs:ss[i]?=some (.kno false v b)) (h8:ss.length<=8) (hv:0<=v/\v<p) (hb:b<i) (hr:H[r]?=some (.tup (ltp (linS i (.kno false v b)))))
   {post:Fl->ML->MH->Prop} (hp:∀L bks st n H',RuI p t c ss H0 o lst rs (i+1) L bks st n H'->post .next [some (.ref 6),some (.str txt),some (.ref o),some (.ref r)] H') :
   TB cx [some (.ref 6),some (.str txt),some (.ref o),some (.ref r)] yat H post:=by
 have hlt:=(zgs hs).1;have hl:i=L.length:=by rw [J.len,length_take];exact yhf hlt
 subst hl;rw [show ltp (linS L.length (.kno false v b))=[.str "shift",.str (nm L.length),.int v,.str (nm b)] by simp [ltp,linS,opS]] at hr;have hle:[MV.str "shift",.str (nm L.length),.int v,.str (nm b)].length<=1000000:=zlb rfl;have hI:=J.tab.self;have gO:GMth G yaa "shift" yb6:=K.m (by kernel_rfl);unfold yat;with_reducible (refine TB.cons ?_;refine TS.ite ?_;refine TT.cmp ?_;refine TE.sq ?_;refine TE.loc ‹_› (by with_unfolding_all rfl) ?_;refine TE.int ?_)
 refine ⟨_,Sq.tup (n:=0) (v:=.str "shift") hr hle rfl,?_⟩;with_reducible (refine TE.str ?_)
 refine ⟨false,rfl,dR (by first | exact nf1 | exact nf2) ?_⟩;with_reducible (refine TB.cons ?_;refine TS.ite ?_;refine TT.cmp ?_;refine TE.sq ?_;refine TE.loc ‹_› (by with_unfolding_all rfl) ?_;refine TE.int ?_)
 refine ⟨_,Sq.tup (n:=0) (v:=.str "shift") hr hle rfl,?_⟩;with_reducible (refine TE.str ?_)
 refine ⟨false,rfl,dR (by first | exact nf1 | exact nf2) ?_⟩;with_reducible (refine TB.cons ?_;refine TS.ite ?_;refine TT.cmp ?_;refine TE.sq ?_;refine TE.loc ‹_› (by with_unfolding_all rfl) ?_;refine TE.int ?_)
 refine ⟨_,Sq.tup (n:=0) (v:=.str "shift") hr hle rfl,?_⟩;with_reducible (refine TE.str ?_)
 refine ⟨false,rfl,dR (by first | exact nf1 | exact nf2) ?_⟩;with_reducible (refine TB.cons ?_;refine TS.ite ?_;refine TT.cmp ?_;refine TE.sq ?_;refine TE.loc ‹_› (by with_unfolding_all rfl) ?_;refine TE.int ?_)
 refine ⟨_,Sq.tup (n:=0) (v:=.str "shift") hr hle rfl,?_⟩;with_reducible (refine TE.str ?_)
 refine ⟨false,rfl,dR (by first | exact nf1 | exact nf2) ?_⟩;with_reducible (refine TB.cons ?_;refine TS.ite ?_;refine TT.cmp ?_;refine TE.sq ?_;refine TE.loc ‹_› (by with_unfolding_all rfl) ?_;refine TE.int ?_)
 refine ⟨_,Sq.tup (n:=0) (v:=.str "shift") hr hle rfl,?_⟩;with_reducible (refine TE.str ?_)
 refine ⟨true,rfl,dL (by first | exact nf1 | exact nf2) ?_⟩;with_reducible (refine TB.cons ?_;refine TS.expr ‹_› ?_;refine TE.meth ‹_› ?_;refine TE.loc ‹_› (by with_unfolding_all rfl) ?_;refine ⟨_,_,_,_,_,rfl,by (first | assumption | exact Ext.ins ‹_› ‹_›),by with_unfolding_all rfl,by assumption,?_⟩;refine TEs.cons ?_;refine TE.sq ?_;refine TE.loc ‹_› (by with_unfolding_all rfl) ?_;refine TE.int ?_)
 refine ⟨_,Sq.tup (n:=1) (v:=.str (nm L.length)) hr hle rfl,?_⟩;with_reducible (refine TEs.cons ?_;refine TE.sq ?_;refine TE.loc ‹_› (by with_unfolding_all rfl) ?_;refine TE.int ?_)
 refine ⟨_,Sq.tup (n:=2) (v:=.int v) hr hle rfl,?_⟩;with_reducible (refine TEs.cons ?_;refine TE.sq ?_;refine TE.loc ‹_› (by with_unfolding_all rfl) ?_;refine TE.int ?_)
 refine ⟨_,Sq.tup (n:=3) (v:=.str (nm b)) hr hle rfl,?_⟩;with_reducible (refine TEs.nil ?_)
 refine ysu hS K J.tab (by exact ydb h8 hlt) hv hb fun st' n' b2 H1 T1 X1=>?_;with_reducible (refine TB.nil ?_;refine TB.nil ?_;refine TB.nil ?_;refine TB.nil ?_;refine TB.nil ?_;refine TB.nil ?_)
 refine hp _ _ _ _ _ (J.other hs T1 X1 ?_ fun _=>rfl);show _=(v+_) % (p:Int);rw [<-J.val _ hb];exact Cg.add Cg.rfl Cg.md.symm
theorem ynb {r b:Nat} {v:Int} (hs:ss[i]?=some (.kno true v b)) (h8:ss.length<=8) (hv:0<=v/\v<p) (hb:b<i) (hr:H[r]?=some (.tup (ltp (linS i (.kno true v b)))))
   {post:Fl->ML->MH->Prop} (hp:∀L bks st n H',RuI p t c ss H0 o lst rs (i+1) L bks st n H'->post .next [some (.ref 6),some (.str txt),some (.ref o),some (.ref r)] H') :
   TB cx [some (.ref 6),some (.str txt),some (.ref o),some (.ref r)] yat H post:=by
 haveI hlt:=(zgs hs).1;haveI hl:i=L.length:=by rw [J.len,length_take];exact yhf hlt
 subst hl;rw [show ltp (linS L.length (.kno true v b))=[.str "scale",.str (nm L.length),.int v,.str (nm b)] by kernel_rfl] at hr;haveI hle:[MV.str "scale",.str (nm L.length),.int v,.str (nm b)].length<=1000000:=zlb rfl;haveI hI:=J.tab.self;haveI gO:GMth G yaa "scale" yb4:=K.m (by kernel_rfl);unfold yat;with_reducible (refine TB.cons ?_;refine TS.ite ?_;refine TT.cmp ?_;refine TE.sq ?_;refine TE.loc ‹_› (by with_unfolding_all rfl) ?_;refine TE.int ?_)
 refine ⟨_,Sq.tup (n:=0) (v:=.str "scale") hr hle rfl,?_⟩;with_reducible (refine TE.str ?_)
 refine ⟨false,rfl,dR (by first | exact nf1 | exact nf2) ?_⟩;with_reducible (refine TB.cons ?_;refine TS.ite ?_;refine TT.cmp ?_;refine TE.sq ?_;refine TE.loc ‹_› (by with_unfolding_all rfl) ?_;refine TE.int ?_)
 refine ⟨_,Sq.tup (n:=0) (v:=.str "scale") hr hle rfl,?_⟩;with_reducible (refine TE.str ?_)
 refine ⟨false,rfl,dR (by first | exact nf1 | exact nf2) ?_⟩;with_reducible (refine TB.cons ?_;refine TS.ite ?_;refine TT.cmp ?_;refine TE.sq ?_;refine TE.loc ‹_› (by with_unfolding_all rfl) ?_;refine TE.int ?_)
 refine ⟨_,Sq.tup (n:=0) (v:=.str "scale") hr hle rfl,?_⟩;with_reducible (refine TE.str ?_)
 refine ⟨false,rfl,dR (by first | exact nf1 | exact nf2) ?_⟩;with_reducible (refine TB.cons ?_;refine TS.ite ?_;refine TT.cmp ?_;refine TE.sq ?_;refine TE.loc ‹_› (by with_unfolding_all rfl) ?_;refine TE.int ?_)
 refine ⟨_,Sq.tup (n:=0) (v:=.str "scale") hr hle rfl,?_⟩;with_reducible (refine TE.str ?_)
 refine ⟨false,rfl,dR (by first | exact nf1 | exact nf2) ?_⟩;with_reducible (refine TB.cons ?_;refine TS.ite ?_;refine TT.cmp ?_;refine TE.sq ?_;refine TE.loc ‹_› (by with_unfolding_all rfl) ?_;refine TE.int ?_)
 refine ⟨_,Sq.tup (n:=0) (v:=.str "scale") hr hle rfl,?_⟩;with_reducible (refine TE.str ?_)
 refine ⟨false,rfl,dR (by first | exact nf1 | exact nf2) ?_⟩;with_reducible (refine TB.cons ?_;refine TS.expr ‹_› ?_;refine TE.meth ‹_› ?_;refine TE.loc ‹_› (by with_unfolding_all rfl) ?_;refine ⟨_,_,_,_,_,rfl,by (first | assumption | exact Ext.ins ‹_› ‹_›),by with_unfolding_all rfl,by assumption,?_⟩;refine TEs.cons ?_;refine TE.sq ?_;refine TE.loc ‹_› (by with_unfolding_all rfl) ?_;refine TE.int ?_)
 refine ⟨_,Sq.tup (n:=1) (v:=.str (nm L.length)) hr hle rfl,?_⟩;with_reducible (refine TEs.cons ?_;refine TE.sq ?_;refine TE.loc ‹_› (by with_unfolding_all rfl) ?_;refine TE.int ?_)
 refine ⟨_,Sq.tup (n:=2) (v:=.int v) hr hle rfl,?_⟩;with_reducible (refine TEs.cons ?_;refine TE.sq ?_;refine TE.loc ‹_› (by with_unfolding_all rfl) ?_;refine TE.int ?_)
 refine ⟨_,Sq.tup (n:=3) (v:=.str (nm b)) hr hle rfl,?_⟩;with_reducible (refine TEs.nil ?_)
 refine ysj hS K J.tab (by exact ydb h8 hlt) hv hb fun st' n' b2 H1 T1 X1=>?_;with_reducible (refine TB.nil ?_;refine TB.nil ?_;refine TB.nil ?_;refine TB.nil ?_;refine TB.nil ?_;refine TB.nil ?_)
 refine hp _ _ _ _ _ (J.other hs T1 X1 ?_ fun _=>rfl);show _=(v*_) % (p:Int);rw [<-J.val _ hb];exact Cg.mul Cg.rfl Cg.md.symm
end
inductive RunJ (p t c:Nat) (txt:Str) (ss:List Stp) (H0:MH) (o lst:Nat) (rs:List Nat) (i:Nat):ML->MH->Prop where
 | mk (w3:Option MV) (L:List (Int×Int)) (bks:List Nat) (st n:Int) (H:MH) (J:RuI p t c ss H0 o lst rs i L bks st n H):RunJ p t c txt ss H0 o lst rs i [some (.ref 6),some (.str txt),some (.ref o),w3] H
structure RunE (p t c:Nat) (ss:List Stp) (H:MH) (r:Nat) (L:List (Int×Int)) (bks:List Nat) (st n:Int) (M:Nat) (H':MH):Prop where
 nx:Nxt (9+3*c) H H'
 o:OutAt H' r (vals p ss)
 tab:Tab p t c L bks st n H'
 len:L.length=ss.length
 hM:9+3*c<=M
 bk:Bks p t c M ss L bks H'
theorem yun {G:Gx} {prog:Program} {w:World} {sa:Addr} {ns:List Int} {f:Addr} {p t c:Nat} {st n:Int} {txt:Str} {lines:List Str} {ss:List Stp} {H:MH} {xp:Addr->List MV->MH->Prop} (D:GDef G f ["table","text"] ydu yfp []) (hS:Shp p t c) (K:K21 G sa ns)
   (T:Tab p t c [] [] st n H) (TT:TxtOf txt ss lines) (hok:okP p ss) (h8:ss.length<=8) :
   ∀{q:MV->MH->Prop},(∀r L bks st n M H',RunE p t c ss H r L bks st n M H'->q (.ref r) H')->CL G prog w 131 f [.ref 6,.str txt] H q xp:=by
 intro q hq;obtain ⟨fS,fW,P⟩:=K.pl;refine D.cl rfl ?_;intro cx e1 e2 ok hfm hint hnm hX;subst e1 e2;show TB cx [some (.ref 6),some (.str txt),none,none] _ _ _;refine TB.gen3 fun post hpost=>?_;unfold yfp;with_reducible (refine TB.cons ?_;refine TS.assign ‹_› ‹_› (by with_unfolding_all rfl) ?_;refine TE.list ?_;refine TEs.nil ?_)
 refine ⟨zlb rfl,?_⟩;haveI l0:=T.l;haveI o1:(H++[MO.list []])[H.length]?=some (.list []):=yaf;haveI l1:(H++[MO.list []]).length=H.length+1:=by exact length_append ..
 haveI e1:=(Ext.refl H).app [MO.list []];haveI T1:=T.ext e1;generalize H++[MO.list []]=H1 at o1 l1 e1 T1 ⊢;show TB cx [some (.ref 6),some (.str txt),some (.ref H.length),none] _ _ _;refine TB.cons (TS.forL' ok hfm (TE.call ok P.gS (TEs.cons (TE.loc ok rfl (TEs.nil ((yjk P.dS P.st TT.s TT.x (by rw [ybl];exact yqt h8) TT.l TT.w).use (by decide) ?_))))));rintro _ H2 ⟨rfl,e2,rs,q1,q2,q3⟩;refine ⟨H1.length,refL rs,rfl,q1,RunJ p t c txt ss H H.length H1.length rs,
   .mk none [] [] st n _ ⟨T1.ext e2,rfl,fun j hj=>by exact absurd hj (Nat.not_lt_zero _),⟨rfl,fun u r j a b e _=>by exact no e⟩,⟨[],e2 _ _ o1,by simp,fun k t h=>by exact no h⟩,q1,q3,(e1.trans e2).nxt,l0,Nat.le_refl _,by exact yqe l0 l1,by lia⟩,?_,?_,?_⟩
 . rintro i m1 H5 ⟨w3,L,bks,st,n,_,J⟩;exact J.fL
 . rintro i m1 H5 v xt ⟨w3,L,bks,st,n,_,J⟩ hv;unfold refL at hv;rw [getElem?_map] at hv;cases hy:rs[i]? with
   | none=>rw [hy] at hv;exact no hv
   | some r=>
     rw [hy] at hv
     (replace hv:=si hv;subst hv)
     haveI hi:i<ss.length+ss.length:=by rw [<-ybl,<-q2];exact (zgs hy).1
     refine ⟨[.ref r],rfl,?_⟩;haveI ok':=ok.wx xt;show TB (cx.wx xt) [some (.ref 6),some (.str txt),some (.ref H.length),some (.ref r)] yat H5 _;by_cases hlt:i<ss.length
     . haveI hs:ss[i]?=some ss[i]:=getElem?_eq_getElem hlt;generalize ss[i]=s at hs;haveI hr:=J.fT i r _ hy (ygf hs);haveI hk:=hok _ _ hs;cases s with
       | put v=>exact ysk ok' hfm hint hS K J hs h8 hk hr fun _ _ _ _ H' J'=>.mk _ _ _ _ _ _ J'
       | bin m a b=>cases m with
         | false=>exact yr3 ok' hfm hint hS K J hs h8 hk.1 hk.2 hr fun _ _ _ _ H' J'=>.mk _ _ _ _ _ _ J'
         | true=>exact yr1 ok' hfm hint hS K J hs h8 hk.1 hk.2 hr fun _ _ _ _ H' J'=>.mk _ _ _ _ _ _ J'
       | kno m v b=>cases m with
         | false=>exact yoj ok' hfm hint hS K J hs h8 hk.1 hk.2 hr fun _ _ _ _ H' J'=>.mk _ _ _ _ _ _ J'
         | true=>exact ynb ok' hfm hint hS K J hs h8 hk.1 hk.2 hr fun _ _ _ _ H' J'=>.mk _ _ _ _ _ _ J'
     . obtain ⟨k,rfl⟩:∃k,i=ss.length+k:=⟨i - ss.length,by exact ym8 hlt⟩;haveI hr:=J.fT _ r _ hy (ygi (by exact ygq hi));exact yr9 ok' hfm hint hS K J (by exact ygq hi) h8 hr fun _ _ _ _ H' J'=>.mk _ _ _ _ _ _ J'
 . rintro m1 H5 ⟨w3,L,bks,st,n,_,J⟩;with_reducible (refine TB.cons ?_;refine TS.ret ?_;refine TE.loc ‹_› (by with_unfolding_all rfl) ?_)
   haveI el:(refL rs).length=ss.length+ss.length:=by unfold refL;rw [length_map,q2,ybl]
   rw [el] at J;haveI et:ss.take (ss.length+ss.length)=ss:=take_of_length_le (by exact ywu);haveI h1:=J.fO;haveI h2:=J.bk;haveI h3:=J.len;rw [et] at h2 h3;rw [Nat.add_sub_cancel,take_of_length_le (by rw [yay];exact Nat.le_refl _)] at h1;exact hpost _ _ _ (hq _ L bks st n _ H5 ⟨J.nx,h1,J.tab,h3,by exact yws l0,h2⟩)
theorem yq5:("\n":Str)=⟨#[10]⟩:=by kernel_rfl
theorem yfi {x:Str}:x.length=x.cps.toList.length:=rfl
theorem yax {x y:Str}:(x++y).cps.toList=x.cps.toList++y.cps.toList:=by
 show (x.cps++y.cps).toList=_;simp
theorem yfk {x y:Str} (h:x.cps.toList=y.cps.toList):x=y:=by
 apply Str.ext';exact Array.toList_inj.mp h
noncomputable def okW (v:Str):Bool:=Nat.ble 1 v.cps.toList.length && Nat.ble v.cps.toList.length 4 && v.cps.toList.all fun ch=>Nat.ble 33 ch && Nat.ble ch 122 && !(Unicode.isSpace ch)
theorem yfs {v:Str} (h:okW v=true):(1<=v.length/\v.length<=4)/\∀ch ∈ v.cps.toList,ch≠10/\Unicode.isSpace ch=false:=by
 haveI Z1:=zba h;haveI h1:=(zl Z1);haveI h2:=(zr Z1);clear Z1;haveI Z2:=zba h1;haveI h0:=(zl Z2);haveI h1:=(zr Z2);clear Z2;refine ⟨⟨zlb h0,zlb h1⟩,fun ch hc=>?_⟩;haveI Z3:=zba (all_eq_true.mp h2 ch hc);haveI a:=(zl Z3);haveI b:=(zr Z3);clear Z3;haveI Z4:=zba a;haveI a:=(zl Z4);clear Z4;haveI:=zlb a;exact ⟨by lia,by simpa using b⟩
theorem nmW:∀j,j<9->okW (nm j)=true:=by decide +kernel
theorem figW:∀v:Nat,v<101->okW (fig v)=true:=by decide +kernel
theorem opW:∀m,okW (opS m)=true:=by decide +kernel
noncomputable def figB (v:Nat):Bool:=Nat.ble 1 (fig v).length && Nat.ble (fig v).length 9 && ((fig v).cps.toList.all fun ch=>Nat.ble 48 ch && Nat.ble ch 57) && (PySem.intText? (fig v)==some (v:Int))
theorem ysr:∀v,v<101->figB v=true:=by decide +kernel
theorem figs {v:Int} (h:0<=v/\v<101):Figs (fig v) v:=by
 obtain ⟨n,rfl⟩:∃n:Nat,v=n:=⟨v.toNat,by lia⟩;haveI q:=ysr n (by omega);unfold figB at q;haveI Z1:=zba q;haveI q:=(zl Z1);haveI q4:=(zr Z1);clear Z1;haveI Z2:=zba q;haveI q:=(zl Z2);haveI q3:=(zr Z2);clear Z2;haveI Z3:=zba q;haveI q1:=(zl Z3);haveI q2:=(zr Z3);clear Z3;refine ⟨zlb q1,zlb q2,fun ch hc=>?_,eq_of_beq q4⟩;haveI Z4:=zba (all_eq_true.mp q3 ch hc);haveI a:=(zl Z4);haveI b:=(zr Z4);clear Z4;exact ⟨zlb a,zlb b⟩
noncomputable def nmB (j:Nat):Bool:=!decide (nm j="open") && Nat.ble (nm j).length 12 && match (nm j).cps[0]? with
 | some ch=>!decide (ch ∈ ("0123456789":Str).cps.toList)
 | none=>false
theorem yue:∀j,j<9->nmB j=true:=by decide +kernel
set_option tactic.hygienic true in
theorem nmB.out {j:Nat} (h:j<9):nm j≠"open"/\(nm j).length<=12/\∃ch,(nm j).cps[0]?=some ch/\ch ∉ ("0123456789":Str).cps.toList:=by
 haveI q:=yue j h;unfold nmB at q;haveI Z1:=zba q;haveI q:=(zl Z1);haveI q3:=(zr Z1);clear Z1;haveI Z2:=zba q;haveI q1:=(zl Z2);haveI q2:=(zr Z2);clear Z2;refine ⟨by simpa using q1,zlb q2,?_⟩;split at q3
 . rename_i ch e;exact ⟨ch,e,by simpa using q3⟩
 . exact nb q3
noncomputable def lnT (l:Lin):Str:=Txt.join ⟨#[32]⟩ (lws l)
def wsB (l:Lin):Prop:=∀v ∈ lws l,okW v=true
theorem yum (l:Lin):∃w r,lws l=w :: r/\(w :: r).length<=5:=by
 cases l <;> exact ⟨_,_,rfl,by simp⟩
theorem yne {k:Nat}:∀{r:List (List Nat)} {w:List Nat} {b:Nat},(∀v ∈ w :: r,v.length<=b)->(jn k (w :: r)).length<=(r.length+1)*(b+1):=by
 intro zd
 induction zd with
 | nil=>
  exact fun {w} {b} h=>by
   haveI:=h w (.head _);show w.length<=_;lia
 | cons v r zih=>
  exact fun {w} {b} h=>by
   haveI h1:=h w (.head _);haveI h2:=zih (w:=v) (b:=b) fun u hu=>h u (.tail _ hu);show (w++k :: jn k (v :: r)).length<=_;rw [length_append,length_cons,length_cons];haveI:(r.length+1+1)*(b+1)=(r.length+1)*(b+1)+(b+1):=Nat.succ_mul _ _;lia
theorem yuv {k:Nat}:∀{r:List (List Nat)} {w:List Nat} {ch:Nat},ch ∈ jn k (w :: r)->ch=k\/∃v ∈ w :: r,ch ∈ v:=by
 intro zd
 induction zd with
 | nil=>
  exact fun {w} {ch} h=>.inr ⟨w,.head _,h⟩
 | cons v r zih=>
  exact fun {w} {ch} h=>by
   rcases zma (show ch ∈ w++k :: jn k (v :: r) from h) with h | h
   . exact .inr ⟨w,.head _,h⟩
   . rcases zmc h with h | h
     . exact .inl h
     . rcases zih h with h | ⟨u,h1,h2⟩
       . exact .inl h
       . exact .inr ⟨u,.tail _ h1,h2⟩
theorem yjv {l:Lin} (h:wsB l):Txt.words (lnT l)=lws l/\(lnT l).length<=25/\10 ∉ (lnT l).cps.toList:=by
 obtain ⟨w,r,e,hl⟩:=yum l;unfold lnT;unfold wsB at h;rw [e] at h ⊢;refine ⟨ym4 fun v hv=>?_,?_,fun hc=>?_⟩
 . obtain ⟨⟨a,_⟩,b⟩:=yfs (h v hv);exact ⟨by lia,fun ch hc=>(b ch hc).2⟩
 . rw [yfi,yaz,map_cons];have:=yne (k:=32) (r:=r.map (·.cps.toList)) (w:=w.cps.toList) (b:=4) fun v hv=>by
     rw [<-map_cons (f:=fun v:Str=>v.cps.toList)] at hv;obtain ⟨u,hu,rfl⟩:=mem_map.mp hv;exact (yfs (h u hu)).1.2
   rw [length_map] at this;rw [length_cons] at hl;have h2:(r.length+1)*(4+1)<=25:=by lia
   exact Nat.le_trans this h2
 . rw [yaz,map_cons] at hc;rcases yuv hc with hc | ⟨v,hv,hc⟩
   . cases hc
   . rw [<-map_cons (f:=fun v:Str=>v.cps.toList)] at hv;obtain ⟨u,hu,rfl⟩:=mem_map.mp hv;exact ((yfs (h u hu)).2 10 hc).1 rfl
theorem yub {j:Nat} {s:Stp} {p:Int} (hp:p<=101) (hj:j<9) (h:okS p j s):wsB (linS j s):=by
 have fw:∀{v:Int},0<=v/\v<p->okW (fig v)=true:=fun {v} hv=>by
   obtain ⟨n,rfl⟩:∃n:Nat,v=n:=⟨v.toNat,by lia⟩;exact figW n (by lia)
 have eW:okW "="=true:=by decide +kernel
 intro v hv;cases s with
 | put u=>
   rcases zmc hv with rfl | hv
   . exact nmW j hj
   rcases zmc hv with rfl | hv
   . exact eW
   rcases zmc hv with rfl | hv
   . exact fw h
   cases hv
 | bin m a b=>
   rcases zmc hv with rfl | hv
   . exact nmW j hj
   rcases zmc hv with rfl | hv
   . exact eW
   rcases zmc hv with rfl | hv
   . exact nmW a (Nat.lt_trans h.1 hj)
   rcases zmc hv with rfl | hv
   . exact opW m
   rcases zmc hv with rfl | hv
   . exact nmW b (Nat.lt_trans h.2 hj)
   cases hv
 | kno m u b=>
   rcases zmc hv with rfl | hv
   . exact nmW j hj
   rcases zmc hv with rfl | hv
   . exact eW
   rcases zmc hv with rfl | hv
   . exact fw h.1
   rcases zmc hv with rfl | hv
   . exact opW m
   rcases zmc hv with rfl | hv
   . exact nmW b (Nat.lt_trans h.2 hj)
   cases hv
theorem ys0 {j:Nat} (hj:j<9):wsB (.opn (nm j)):=by
 intro v hv;rcases zmc hv with rfl | hv
 . decide +kernel
 rcases zmc hv with rfl | hv
 . exact nmW j hj
 cases hv
theorem ypm {j:Nat} {s:Stp} {p:Int} (hp:p<=101) (hj:j<9) (h:okS p j s):ygs (linS j s):=by
 haveI q:=nmB.out hj;haveI om:∀m,opS m="+"\/opS m="*":=fun m=>by cases m <;> simp [opS]
 cases s with
 | put u=>exact ⟨q.1,figs ⟨h.1,Int.lt_of_lt_of_le h.2 hp⟩⟩
 | bin m a b=>
   haveI qa:=nmB.out (j:=a) (Nat.lt_trans h.1 hj);exact ⟨q.1,om m,qa.2.1,qa.2.2⟩
 | kno m u b=>exact ⟨q.1,om m,figs ⟨h.1.1,Int.lt_of_lt_of_le h.1.2 hp⟩⟩
noncomputable def yiw (ss:List Stp):Str:=Txt.join "\n" ((yai ss).map lnT)
theorem ygh {ss:List Stp} {p:Int} (hp:p<=101) (h8:ss.length<=8) (hok:okP p ss) {i:Nat} {l:Lin} (e:(yai ss)[i]?=some l):wsB l/\ygs l:=by
 by_cases hi:i<ss.length
 . have hs:ss[i]?=some ss[i]:=getElem?_eq_getElem hi;rw [ygf hs] at e
   (replace e:=si e;subst e)
   exact ⟨yub hp (by exact ydb h8 hi) (hok _ _ hs),ypm hp (by exact ydb h8 hi) (hok _ _ hs)⟩
 . have hl:=(zgs e).1;rw [ybl] at hl;obtain ⟨k,rfl⟩:∃k,i=ss.length+k:=⟨i - ss.length,by exact ym8 hi⟩;rw [ygi (by exact ygq hl)] at e
   (replace e:=si e;subst e)
   exact ⟨ys0 (by lia),trivial⟩
theorem TxtOf.mk' {ss:List Stp} {p:Int} (hp:p<=101) (h0:0<ss.length) (h8:ss.length<=8) (hok:okP p ss):TxtOf (yiw ss) ss ((yai ss).map lnT):=by
 have hm:∀v ∈ (yai ss).map lnT,v.length<=25/\10 ∉ v.cps.toList:=fun v hv=>by
   obtain ⟨l,hl,rfl⟩:=mem_map.mp hv;obtain ⟨i,hi⟩:=List.mem_iff_getElem?.mp hl;exact (yjv (ygh hp h8 hok hi).1).2
 have hl:((yai ss).map lnT).length=ss.length+ss.length:=by rw [length_map,ybl]
 refine ⟨?_,?_,by exact length_map ..,fun i line l e1 e2=>?_⟩
 . unfold yiw;cases e:(yai ss).map lnT with
   | nil=>rw [e] at hl;simp at hl;lia
   | cons w r=>
     rw [yq5];exact yl9 (by decide) fun v hv=>(hm v (by rw [e];exact hv)).2
 . unfold yiw;cases e:(yai ss).map lnT with
   | nil=>rw [e] at hl;simp at hl;exact zlb rfl
   | cons w r=>
     rw [yq5,yfi,yaz,map_cons];have:=yne (k:=10) (r:=r.map (·.cps.toList)) (w:=w.cps.toList) (b:=25) fun v hv=>by
       rw [<-map_cons (f:=fun v:Str=>v.cps.toList)] at hv;obtain ⟨u,hu,rfl⟩:=mem_map.mp hv;exact (hm u (by rw [e];exact hu)).1
     rw [e,length_cons] at hl;rw [length_map] at this;have h2:(r.length+1)*(25+1)<=1000000:=by lia
     exact Nat.le_trans this h2
 . rw [getElem?_map,e2] at e1
   (replace e1:=si e1;subst e1)
   obtain ⟨a,b⟩:=ygh hp h8 hok e2;obtain ⟨q1,q2,_⟩:=yjv a;exact ⟨q1,b,by exact Nat.le_trans ‹_› (by decide)⟩
theorem yhv {j:Nat} {v:Int}:lnT (linS j (.put v))=nm j++" = "++fig v:=by
 apply yfk;show (Txt.join ⟨#[32]⟩ [nm j,"=",fig v]).cps.toList=_;rw [yaz,yax,yax];show (nm j).cps.toList++32 :: ([61]++32 :: (fig v).cps.toList)=_++[32,61,32]++_;simp
noncomputable def opT:Bool->Str
 | true=>" * "
 | false=>" + "
theorem yry {j a b:Nat} {m:Bool}:lnT (linS j (.bin m a b))=nm j++" = "++(nm a++opT m++nm b):=by
 apply yfk;show (Txt.join ⟨#[32]⟩ [nm j,"=",nm a,opS m,nm b]).cps.toList=_;rw [yaz,yax,yax,yax,yax];cases m
 . show (nm j).cps.toList++32 :: ([61]++32 :: ((nm a).cps.toList++32 :: ([43]++32 :: (nm b).cps.toList)))=_++[32,61,32]++(_++[32,43,32]++_);simp
 . show (nm j).cps.toList++32 :: ([61]++32 :: ((nm a).cps.toList++32 :: ([42]++32 :: (nm b).cps.toList)))=_++[32,61,32]++(_++[32,42,32]++_);simp
theorem yr5 {j b:Nat} {v:Int} {m:Bool}:lnT (linS j (.kno m v b))=nm j++" = "++(fig v++opT m++nm b):=by
 apply yfk;show (Txt.join ⟨#[32]⟩ [nm j,"=",fig v,opS m,nm b]).cps.toList=_;rw [yaz,yax,yax,yax,yax];cases m
 . show (nm j).cps.toList++32 :: ([61]++32 :: ((fig v).cps.toList++32 :: ([43]++32 :: (nm b).cps.toList)))=_++[32,61,32]++(_++[32,43,32]++_);simp
 . show (nm j).cps.toList++32 :: ([61]++32 :: ((fig v).cps.toList++32 :: ([42]++32 :: (nm b).cps.toList)))=_++[32,61,32]++(_++[32,42,32]++_);simp
noncomputable def k21_law_nm:List Str:=["script","field","needed","table","lines","steps","k","n","one","two","name","known","kind","text"]
noncomputable def ygy:CSs:=(.cons (.assign 7 (.call "_law_cell" (.cons (.loc 0) (.cons (.bin .Add (.int 7) (.loc 6)) .nil))))
 (.cons (.assign 8 (.bin .Add (.str "x") (.call "str" (.cons (.bin .Mod (.loc 7) (.call "len" (.cons (.loc 4) .nil))) .nil))))
 (.cons (.assign 9 (.bin .Add (.str "x") (.call "str" (.cons (.bin .Mod (.bin .FloorDiv (.loc 7) (.int 7)) (.call "len" (.cons (.loc 4) .nil))) .nil))))
 (.cons (.assign 10 (.bin .Add (.str "x") (.call "str" (.cons (.call "len" (.cons (.loc 4) .nil)) .nil))))
 (.cons (.assign 11 (.call "str" (.cons (.bin .Mod (.bin .FloorDiv (.loc 7) (.int 49)) (.attr (.loc 1) "prime")) .nil)))
 (.cons (.assign 12 (.bin .Mod (.call "_law_cell" (.cons (.loc 0) (.cons (.bin .Add (.int 14) (.loc 6)) .nil))) (.int 4)))
 (.cons (.expr (.meth (.loc 4) "append" (.cons (.bin .Add (.bin .Add (.loc 10) (.str " = ")) (.sub (.list (.cons (.bin .Add (.bin .Add (.loc 8) (.str " + ")) (.loc 9)) (.cons (.bin .Add (.bin .Add (.loc 8) (.str " * ")) (.loc 9)) (.cons (.bin .Add (.bin .Add (.loc 11) (.str " * ")) (.loc 8)) (.cons (.bin .Add (.bin .Add (.loc 11) (.str " + ")) (.loc 8)) .nil))))) (.loc 12))) .nil)))
 (.cons (.ite (.cmp .Eq (.loc 12) (.int 1)) (.cons (.expr (.meth (.loc 5) "append" (.cons (.tup (.cons (.loc 10) (.cons (.loc 8) (.cons (.loc 9) .nil)))) .nil)))
 .nil) .nil)
 .nil))))))))
noncomputable def yjt:CSs:=(.cons (.assignT [10,8,9] (.sub (.loc 5) (.loc 6)))
 (.cons (.ite (.cmp .NotEq (.meth (.loc 3) "check" (.cons (.loc 10) (.cons (.loc 8) (.cons (.loc 9) (.cons (.sub (.sub (.attr (.loc 3) "books") (.loc 6)) (.int 1)) .nil))))) (.list .nil)) (.cons (.ret (.bool false))
 .nil) .nil)
 .nil))
noncomputable def yqv:CSs:=(.cons (.ret (.meth (.loc 3) "can_multiply" .nil))
 .nil)
noncomputable def ymj:CSs:=(.cons (.ite (.cmp .NotEq (.call "len" (.cons (.meth (.loc 3) "names" .nil) .nil)) (.call "len" (.cons (.loc 4) .nil))) (.cons (.ret (.bool false))
 .nil) .nil)
 yqv)
noncomputable def ym0:CSs:=(.cons (.for [6] (.call "range" (.cons (.call "len" (.cons (.loc 5) .nil)) .nil)) yjt)
 ymj)
noncomputable def yl2:CSs:=(.cons (.ite (.cmp .NotEq (.comp (.loc 14) ["name","book"] (.attr (.loc 3) "books") .nil) (.comp (.loc 14) ["name","one","two"] (.loc 5) .nil)) (.cons (.ret (.bool false))
 .nil) .nil)
 ym0)
noncomputable def ymn:CSs:=(.cons (.ite (.cmp .NotEq (.call "run" (.cons (.loc 3) (.cons (.loc 13) .nil))) (.call "plain" (.cons (.attr (.loc 1) "prime") (.cons (.loc 13) .nil)))) (.cons (.ret (.bool false))
 .nil) .nil)
 yl2)
noncomputable def yme:CSs:=(.cons (.assign 13 (.meth (.str "\n") "join" (.cons (.bin .Add (.loc 4) (.comp (.bin .Add (.str "open x") (.call "str" (.cons (.loc 14) .nil))) ["k"] (.call "range" (.cons (.call "len" (.cons (.loc 4) .nil)) .nil)) .nil)) .nil)))
 ymn)
noncomputable def yms:CSs:=(.cons (.for [6] (.call "range" (.cons (.bin .Mod (.call "_law_cell" (.cons (.loc 0) (.cons (.int 6) .nil))) (.int 7)) .nil)) ygy)
 yme)
noncomputable def yml:CSs:=(.cons (.assign 4 (.list (.cons (.bin .Add (.str "x0 = ") (.call "str" (.cons (.bin .Mod (.call "_law_cell" (.cons (.loc 0) (.cons (.int 4) .nil))) (.attr (.loc 1) "prime")) .nil))) (.cons (.bin .Add (.str "x1 = ") (.call "str" (.cons (.bin .Mod (.call "_law_cell" (.cons (.loc 0) (.cons (.int 5) .nil))) (.attr (.loc 1) "prime")) .nil))) .nil))))
 (.cons (.assign 5 (.list .nil))
 yms))
noncomputable def k21_law:CSs:=(.cons (.assign 1 (.call "Field" (.cons (.sub (.list (.cons (.int 11) (.cons (.int 101) .nil))) (.bin .Mod (.call "_law_cell" (.cons (.loc 0) (.cons (.int 0) .nil))) (.int 2))) .nil)))
 (.cons (.assign 2 (.bin .Add (.int 1) (.bin .Mod (.call "_law_cell" (.cons (.loc 0) (.cons (.int 1) .nil))) (.int 2))))
 (.cons (.assign 3 (.call "Table" (.cons (.loc 1) (.cons (.loc 2) (.cons (.bin .Add (.bin .Sub (.bin .Mult (.int 2) (.loc 2)) (.int 1)) (.bin .Mod (.call "_law_cell" (.cons (.loc 0) (.cons (.int 2) .nil))) (.int 2))) (.cons (.call "Source" (.cons (.bin .Mod (.call "_law_cell" (.cons (.loc 0) (.cons (.int 3) .nil))) (.bin .Pow (.int 10) (.int 9))) .nil)) .nil))))))
 yml)))
noncomputable def od1 (k:Nat) (v:Int):PyData:=.tuple [.str (nm k),.int v]
noncomputable def odF:Nat->List Int->List PyData
 | _,[]=>[]
 | k,v :: r=>od1 k v :: odF (k+1) r
theorem ysi:∀{ns:List Int} {k:Nat},(odF k ns).length=ns.length:=by
 intro zd
 induction zd with
 | nil=>
  exact fun {zz}=>rfl
 | cons v r zih=>
  exact fun {k}=>congrArg (·+1) (zih (k:=k+1))
theorem yoe:∀{ns:List Int} {k j:Nat},j<ns.length->(odF k ns)[j]?=some (od1 (k+j) (ns.getD j 0)):=@fun zd1 zd2 zd3=>@(match zd1,zd2,zd3 with
 | [],_,_=>fun h=>by cases h
 | v :: r,k,0=>fun zz=>rfl
 | v :: r,k,j+1=>fun h=>by
   show (odF (k+1) r)[j]?=_;rw [yoe (by exact Nat.lt_of_succ_lt_succ h),show k+1+j=k+(j+1) by exact Nat.add_right_comm _ _ _];rfl)
theorem yri:∀k,k<9->PyData.strOk (nm k)=true:=by decide +kernel
theorem yr8:∀{ns:List Int} {k:Nat},k+ns.length<=9->PyData.canLayAll0 (odF k ns)=true:=by
 intro zd
 induction zd with
 | nil=>
  exact fun {zz} zz=>rfl
 | cons v r zih=>
  exact fun {k} h=>by
   show (PyData.canLay0 (od1 k v) && PyData.canLayAll0 (odF (k+1) r))=true;rw [length_cons] at h;rw [zih (by lia)];simp [od1,PyData.canLay0,PyData.canLayAll0,yri k (by lia)]
theorem yro:∀{ns:List Int} {k:Nat},PyData.eqvAll (odF k ns) (odF k ns)=true:=by
 intro zd
 induction zd with
 | nil=>
  exact fun {zz}=>rfl
 | cons v r zih=>
  exact fun {k}=>by
   show (PyData.eqv (od1 k v) (od1 k v) && PyData.eqvAll (odF (k+1) r) (odF (k+1) r))=true;rw [zih];simp [od1,PyData.eqv,PyData.eqvAll]
theorem yn8:∀{ns:List Int} {k:Nat},PyData.depthAll (odF k ns)<=5:=by
 intro zd
 induction zd with
 | nil=>
  exact fun {zz}=>by show PyData.depthAll []<=5;simp [PyData.depthAll]
 | cons v r zih=>
  exact fun {k}=>by
   have:=zih (k:=k+1);show PyData.depthAll (PyData.tuple [.str (nm k),.int v] :: odF (k+1) r)<=5;simp [PyData.depthAll,PyData.depth];lia
theorem yg1 {ns:List Int} (h:ns.length<=9):PySem.SeqAt.shaped (.list (odF 0 ns))=true:=by
 have h1:=yr8 (ns:=ns) (k:=0) (by exact Nat.add_le_add_left ‹_› _);have h2:=yn8 (ns:=ns) (k:=0);unfold PySem.SeqAt.shaped;rw [Bool.and_eq_true];refine ⟨by show PyData.canLay0 _=true;simp only [PyData.canLay0];exact h1,decide_eq_true ?_⟩;simp only [PyData.depth];omega
theorem OutAt.rd {H:MH} {o:Nat} {ns:List Int} (h:OutAt H o ns):RD H (.ref o) (.list (odF 0 ns)):=by
 obtain ⟨rs,h1,h2,h3⟩:=h;refine RD.list h1 (by rw [ysi];simp [refL,h2]) ?_;intro k v d e1 e2;unfold refL at e1;rw [getElem?_map] at e1;cases hr:rs[k]? with
 | none=>rw [hr] at e1;exact no e1
 | some r=>
   rw [hr] at e1
   (replace e1:=si e1;subst e1)
   rw [yoe (by rw [<-h2];exact (zgs hr).1),Nat.zero_add] at e2
   (replace e2:=si e2;subst e2)
   refine RD.tup (h3 k r hr) rfl ?_;intro k v d e1 e2
   match k with
   | 0=>(replace e1:=si e1;subst e1);(replace e2:=si e2;subst e2);exact .str
   | 1=>(replace e1:=si e1;subst e1);(replace e2:=si e2;subst e2);exact .int
   | k+2=>exact no e1
noncomputable def sdL (xs:List Str):List PyData:=xs.map .str
theorem ys9:∀xs:List Str,(∀x ∈ xs,PyData.strOk x=true)->PyData.canLayAll0 (sdL xs)=true:=by
 intro zd
 induction zd with
 | nil=>
  exact fun zz=>rfl
 | cons v r zih=>
  exact fun h=>by
   show (PyData.canLay0 (.str v) && PyData.canLayAll0 (sdL r))=true;rw [zih fun x hx=>h x (.tail _ hx)];simp [PyData.canLay0,h v (.head _)]
theorem ylj:∀xs:List Str,PyData.eqvAll (sdL xs) (sdL xs)=true
 | []=>rfl
 | v :: r=>by
   show (PyData.eqv (.str v) (.str v) && PyData.eqvAll (sdL r) (sdL r))=true;rw [ylj];simp [PyData.eqv]
theorem ynk:∀xs:List Str,PyData.depthAll (sdL xs)<=5:=by
 intro zd
 induction zd with
 | nil=>
  exact by show PyData.depthAll []<=5;simp [PyData.depthAll]
 | cons v r zih=>
   have:=zih;show PyData.depthAll (PyData.str v :: sdL r)<=5;simp [PyData.depthAll,PyData.depth];assumption
theorem ygv {xs:List Str} (h:∀x ∈ xs,PyData.strOk x=true):PySem.SeqAt.shaped (.list (sdL xs))=true:=by
 have h1:=ys9 xs h;have h2:=ynk xs;unfold PySem.SeqAt.shaped;rw [Bool.and_eq_true];refine ⟨by show PyData.canLay0 _=true;simp only [PyData.canLay0];exact h1,decide_eq_true ?_⟩;simp only [PyData.depth];omega
theorem yla {H:MH} {a:Nat} {xs:List Str} (h:H[a]?=some (.list (strL xs))):RD H (.ref a) (.list (sdL xs)):=by
 refine RD.list h (by simp [strL,sdL]) ?_;intro k v d e1 e2;unfold strL at e1;unfold sdL at e2;rw [getElem?_map] at e1 e2;cases hr:xs[k]? with
 | none=>rw [hr] at e1;exact no e1
 | some r=>
   rw [hr] at e1 e2
   (replace e1:=si e1;subst e1)
   (replace e2:=si e2;subst e2)
   exact .str
def StAt (H:MH) (a:Nat) (ms:List (Nat×Nat×Nat)):Prop:=∃rs,H[a]?=some (.list (refL rs))/\rs.length=ms.length/\∀(u r j x y:Nat),rs[u]?=some r->ms[u]?=some (j,x,y)->H[r]?=some (.tup [.str (nm j),.str (nm x),.str (nm y)])
theorem StAt.nxt {p t c:Nat} {st n:Int} {L:List (Int×Int)} {bks:List Nat} {H H':MH} {a:Nat} {ms:List (Nat×Nat×Nat)} (h:StAt H a ms) (T:Tab p t c L bks st n H) (X:Nxt (9+3*c) H H') (ha:9+3*c<=a):StAt H' a ms:=
 h.imp fun rs q=>⟨X.e _ _ ha q.1,q.2.1,fun u r j x y e1 e2=>X.e _ _ (T.tup (q.2.2 u r j x y e1 e2)) (q.2.2 u r j x y e1 e2)⟩
theorem StAt.ext {H H':MH} {a:Nat} {ms:List (Nat×Nat×Nat)} (h:StAt H a ms) (E:Ext H H'):StAt H' a ms:=h.imp fun rs q=>⟨E _ _ q.1,q.2.1,fun u r j x y e1 e2=>E _ _ (q.2.2 u r j x y e1 e2)⟩
theorem StAt.off {H:MH} {a o:Nat} {ms:List (Nat×Nat×Nat)} {xs:List MV} {y:MO} (h:StAt H a ms) (ho:H[o]?=some (.list xs)) (hn:a≠o):StAt (H.set o y) a ms:=
 h.imp fun rs q=>⟨by rw [getElem?_set_ne (Ne.symm hn)];exact q.1,q.2.1,fun u r j x y e1 e2=>yak (q.2.2 u r j x y e1 e2) ho (by exact fun h=>nomatch h)⟩
theorem StAt.put {H H':MH} {a r j x y:Nat} {ms:List (Nat×Nat×Nat)} (h:StAt H a ms) (E:Ext H H') (hr:H'[r]?=some (.tup [.str (nm j),.str (nm x),.str (nm y)])):∃ys,H'[a]?=some (.list ys)/\ys.length=ms.length/\StAt (H'.set a (.list (ys++[.ref r]))) a (ms++[(j,x,y)]):=by
 obtain ⟨rs,q1,q2,q3⟩:=h;haveI q1':=E _ _ q1;haveI hlt:=(zgs q1').1;refine ⟨_,q1',by simp [refL,q2],rs++[r],?_,by simp [q2],fun u r' j' x' y' e1 e2=>?_⟩
 . rw [getElem?_set_self hlt];simp [refL]
 . by_cases hu:u<rs.length
   . rw [getElem?_append_left hu] at e1;rw [getElem?_append_left (by exact qf92 q2 hu)] at e2;exact yak (E _ _ (q3 u r' j' x' y' e1 e2)) q1' (by exact fun h=>nomatch h)
   . rw [getElem?_append_right (by exact Nat.not_lt.mp ‹_›)] at e1;rw [getElem?_append_right (by lia)] at e2;have hz:u - rs.length=0:=by
       haveI:=(zgs e1).1;simp at this;assumption
     rw [<-q2,hz] at e2;rw [hz] at e1
     (replace e1:=si e1;subst e1)
     cases e2;exact yak hr q1' (by exact fun h=>nomatch h)
structure EdI (p t c M aL aS:Nat) (ss:List Stp) (L:List (Int×Int)) (bks:List Nat) (st n:Int) (H:MH):Prop where
 tab:Tab p t c L bks st n H
 len:L.length=ss.length
 h8:ss.length<=8
 bk:Bks p t c M ss L bks H
 hM:9+3*c<=M
 fL:∃xs,H[aL]?=some (.list xs)/\xs.length=ss.length
 fS:StAt H aS (yab 0 ss)
 hL:9+3*c<=aL
 hS:9+3*c<=aS
theorem EdI.nxt {p t c M aL aS:Nat} {ss:List Stp} {L:List (Int×Int)} {bks:List Nat} {st n:Int} {H H':MH} (J:EdI p t c M aL aS ss L bks st n H) (T:Tab p t c L bks st n H') (X:Nxt (9+3*c) H H'):EdI p t c M aL aS ss L bks st n H':=
 ⟨T,J.len,J.h8,J.bk.nxt X J.hM,J.hM,J.fL.imp fun xs q=>⟨X.e _ _ J.hL q.1,q.2⟩,J.fS.nxt J.tab X J.hS,J.hL,J.hS⟩
theorem EdI.ext {p t c M aL aS:Nat} {ss:List Stp} {L:List (Int×Int)} {bks:List Nat} {st n:Int} {H H':MH} (J:EdI p t c M aL aS ss L bks st n H) (E:Ext H H'):EdI p t c M aL aS ss L bks st n H':=J.nxt (J.tab.ext E) E.nxt
theorem yts:∀{ss:List Stp} {j:Nat} {q:Nat×Nat×Nat},q ∈ yab j ss->q.1<j+ss.length:=by
 intro zd
 induction zd with
 | nil=>
  exact fun {zz} {q} h=>by cases h
 | cons s r zih=>
  exact fun {j} {q} h=>by
   rw [length_cons];rcases zma (show q ∈ mul1 j s++yab (j+1) r from h) with h | h
   . have:q.1=j:=ypb h;lia
   . have:=zih h;lia
theorem ye1:∀{ss:List Stp} {j:Nat},(yab j ss).length<=ss.length:=by
 intro zd
 induction zd with
 | nil=>
  exact fun {zz}=>Nat.le_refl 0
 | cons s r zih=>
  exact fun {j}=>by
   show (mul1 j s++yab (j+1) r).length<=r.length+1;have h1:(mul1 j s).length<=1:=yj7;have h2:=zih (j:=j+1);rw [length_append];exact yrb h1 h2
inductive CkJ (sa:Addr) (p t c M aL aS:Nat) (ss:List Stp) (L:List (Int×Int)) (bks:List Nat) (st n:Int) (i:Nat):ML->MH->Prop where
 | mk (w6 w7 w8 w9 w10 w11 w12 w13:Option MV) (H:MH) (J:EdI p t c M aL aS ss L bks st n H):CkJ sa p t c M aL aS ss L bks st n i [some (.glob sa),some (.ref 2),some (.int (t:Nat)),some (.ref 6),some (.ref aL),some (.ref aS),w6,w7,w8,w9,w10,w11,w12,w13] H
inductive CkT (p t c M aS:Nat) (L:List (Int×Int)) (bks:List Nat) (i:Nat) (H:MH):Prop where
 | mk (rs:List Nat) (r j x y b z:Nat) (F:Nat->Nat->Int) (B:BookOK p t c L j x y F) (A:BkAt p t c M (nm j) F b H) (q1:H[aS]?=some (.list (refL rs))) (hl:(refL rs).length<=1000000) (hr:(refL rs)[((i:Nat):Int).toNat]?=some (.ref r))
     (hs:H[r]?=some (.tup [.str (nm j),.str (nm x),.str (nm y)])) (hbl:(refs bks).length<=1000000) (hb:(refs bks)[((i:Nat):Int).toNat]?=some (.ref b)) (hz:H[b]?=some (.tup [.str (nm j),.ref z])):CkT p t c M aS L bks i H
theorem EdI.turn {p t c M aL aS:Nat} {ss:List Stp} {L:List (Int×Int)} {bks:List Nat} {st n:Int} {H:MH} {i:Nat} (J:EdI p t c M aL aS ss L bks st n H) (hi:i<(yab 0 ss).length):CkT p t c M aS L bks i H:=by
 haveI hml:=Nat.le_trans (ye1 (ss:=ss) (j:=0)) J.h8;obtain ⟨rs,Z1⟩:=J.fS;haveI q1:=(zl Z1);haveI q2:=(zl (zr Z1));haveI q3:=(zr (zr Z1));clear Z1;obtain ⟨r,hr⟩:∃r,rs[i]?=some r:=⟨_,getElem?_eq_getElem (by exact ydn hi q2)⟩;obtain ⟨⟨j,x,y⟩,hm⟩:∃q,(yab 0 ss)[i]?=some q:=⟨_,getElem?_eq_getElem hi⟩;obtain ⟨b,hb⟩:∃b,bks[i]?=some b:=⟨_,getElem?_eq_getElem (by rw [J.bk.len];exact hi)⟩;obtain ⟨F,Z2⟩:=J.bk.a i b j x y hb hm;haveI B:=(zl Z2);haveI A:=(zr Z2);clear Z2;obtain ⟨z,hz⟩:=A.pair;refine ⟨rs,r,j,x,y,b,z,F,B,A,q1,by simp [refL,q2];exact Nat.le_trans ‹_› (by decide),?_,q3 i r j x y hr hm,by unfold refs;rw [length_map,J.bk.len];exact Nat.le_trans ‹_› (by decide),?_,hz⟩
 . show (refL rs)[i]?=_;unfold refL;rw [getElem?_map,hr];rfl
 . show (refs bks)[i]?=_;unfold refs;rw [getElem?_map,hb];rfl
theorem ywy {G:Gx} {prog:Program} {w:World} {sa:Addr} {ns:List Int} {p t c:Nat} {st n:Int} {L:List (Int×Int)} {bks:List Nat} {H:MH} {xp:Addr->List MV->MH->Prop} {q:MV->MH->Prop} (hS:Shp p t c) (K:K21 G sa ns) (T:Tab p t c L bks st n H) (hl:L.length<=9) {j one two M r b:Nat} {F:Nat->Nat->Int} (B:BookOK p t c L j one two F) (A:BkAt p t c M (nm j) F r H) (hM:9+3*c<=M) (hb:H[r]?=some (.tup [.str (nm j),.ref b]))
   (hp:∀x H',H'[x]?=some (.list [])->Tab p t c L bks st n H'->Nxt (9+3*c) H H'->q (.ref x) H'):CL G prog w 200 ya5 [.ref 6,.str (nm j),.str (nm one),.str (nm two),.ref b] H q xp:=by
 refine (yw1 hS K T hl B A hM hb).use (by decide) ?_;rintro _ H' ⟨⟨x,rfl,hx⟩,a,d⟩;exact hp x H' hx a d
theorem rd0 {Hx:MH} {a:Nat} (h:Hx[a]?=some (.list [])):RD Hx (.ref a) (.list []):=RD.list h rfl fun k v d e=>by exact no e
section
variable {G:Gx} {cx:Cx} {sa:Addr} {ns:List Int} {p t c M aL aS:Nat} {ss:List Stp} {L:List (Int×Int)} {bks:List Nat} {st n:Int} {H:MH} {w6 w7 w8 w9 w10 w11 w12 w13:Option MV}
theorem yud {prog:Program} {w:World} {xp:Addr->List MV->MH->Prop} (hS:Shp p t c) (K:K21 G sa ns) (T:Tab p t c L bks st n H):CL G prog w 1 ya3 [.ref 6] H (fun v _=>v=.bool true) xp:=by
 have bs:=K.bs;have tc:=hS.t;refine (K.df _ (show lkN tb21.df ya3=some ⟨["self"],yck,ybt,[]⟩ by kernel_rfl)).cl rfl ?_;intro cx e1 e2 ok hfm hint hnm hX;show TB cx [some (.ref 6)] _ _ _;unfold ybt;refine TB.cons (TS.ret (TE.tst (TV.cmp (TE.len ok bs (TE.attr ok (TE.loc ok rfl ⟨6,yaa,5,_,.ref (7+3*c),rfl,T.self,by with_unfolding_all rfl,K.att (by kernel_rfl),BC.len T.parties (by simp;lia) (TE.op ok (TE.op ok (TE.int (TE.attr ok (TE.loc ok rfl ⟨6,yaa,5,_,.int t,rfl,T.self,by with_unfolding_all rfl,K.att (by kernel_rfl),_,BinI.mul (mulL (by decide) (by decide)),TE.int ⟨_,BinI.sub,_,rfl,?_⟩⟩)))))⟩))))));show MV.bool (decide (_<=_))=MV.bool true;rw [decide_eq_true (by simp;lia)]
theorem ypd {prog:Program} {w:World} {xp:Addr->List MV->MH->Prop} (hS:Shp p t c) (K:K21 G sa ns) (T:Tab p t c L bks st n H) (hl:L.length<=8):CL G prog w 1 yb7 [.ref 6] H (fun v H'=>∃xs,v=.ref H.length/\H'=H++[.list xs]/\xs.length=L.length) xp:=by
 haveI tc:=hS.tc;haveI Z1:=T.party (by lia);haveI hp:=(zl Z1);haveI hd:=(zr Z1);clear Z1;refine (K.df _ (show lkN tb21.df yb7=some ⟨["self"],ydy,ydj,[]⟩ by kernel_rfl)).cl rfl ?_;intro cx e1 e2 ok hfm hint hnm hX;show TB cx [some (.ref 6)] _ _ _;unfold ydj;haveI h0:((List.range c).map fun k=>MV.ref (8+3*k))[0]?=some (.ref 8):=by
   rw [getElem?_map,getElem?_range (by lia)];rfl
 refine TB.cons (TS.ret (TE.bc ok (K.tb.bi "sorted" .sorted (ya6 (by kernel_rfl))).1 (by kernel_rfl) (by decide) (TEs.cons (TE.attr ok (TE.sq (TE.attr ok (TE.loc ok rfl ⟨6,yaa,5,_,.ref (7+3*c),rfl,T.self,by with_unfolding_all rfl,K.att (by kernel_rfl),TE.int ⟨.ref 8,Sq.list T.parties ⟨by simp;lia,.inl ⟨by decide,h0⟩⟩,
   8,ydf,7,_,.ref 9,rfl,hp,by with_unfolding_all rfl,K.att (by kernel_rfl),TEs.nil (BCw.sortDS ok hd (by rw [yec];exact Nat.lt_of_le_of_lt ‹_› (by decide)) fun xs hx=>?_).out⟩⟩)))))))
 exact ⟨_,rfl,rfl,by rw [length_map,hx,yec]⟩
variable (ok:Ok G cx 200) (hfm:cx.fm=none) (hint:interactive cx.env=false) (hS:Shp p t c) (K:K21 G sa ns)
include ok hfm hint hS K
theorem ys1 (J:EdI p t c M aL aS ss L bks st n H):TB cx [some (.glob sa),some (.ref 2),some (.int (t:Nat)),some (.ref 6),some (.ref aL),some (.ref aS),w6,w7,w8,w9,w10,w11,w12,w13] ymj H (fun fl _ _=>retv fl=.bool true):=by
 haveI bs:=K.bs;haveI gN:GMth G yaa "names" yb7:=K.m (by kernel_rfl);haveI gC:GMth G yaa "can_multiply" ya3:=K.m (by kernel_rfl);unfold ymj;refine TB.cons (TS.ite (TT.cmp (TE.len ok bs (TE.meth0 ok (TE.loc ok rfl ⟨6,yaa,5,_,yb7,rfl,J.tab.self,by with_unfolding_all rfl,gN,(ypd hS K J.tab (by rw [J.len];exact J.h8)).use (by decide) ?_⟩)))));rintro _ _ ⟨xs,rfl,rfl,hx⟩;haveI h8:=J.h8;haveI hl:=J.len;haveI J1:=J.ext ((Ext.refl H).app [MO.list xs]);obtain ⟨ys,Z1⟩:=J1.fL;haveI q1:=(zl Z1);haveI q2:=(zr Z1);clear Z1;refine BC.len yaf (by lia) (TE.len ok bs (TE.loc ok rfl (BC.len q1 (by exact yhb h8 q2) ⟨_,rfl,fun h=>?_,fun _=>TB.nil ?_⟩)))
 . rw [hx,hl,q2] at h;simp at h
 unfold yqv;refine TB.cons (TS.ret (TE.meth0 ok (TE.loc ok rfl ⟨6,yaa,5,_,ya3,rfl,J1.tab.self,by with_unfolding_all rfl,gC,(yud hS K J1.tab).use (by decide) ?_⟩)));rintro _ _ rfl;rfl
theorem yoy (J:EdI p t c M aL aS ss L bks st n H) {i:Nat} (hi:i<(yab 0 ss).length) (gK:GMth G yaa "check" ya5) (gA:GAtt G yaa "books") {post:Fl->ML->MH->Prop} :
   TB cx [some (.glob sa),some (.ref 2),some (.int (t:Nat)),some (.ref 6),some (.ref aL),some (.ref aS),some (.int (i:Int)),w7,w8,w9,w10,w11,w12,w13] yjt H (ymm (CkJ sa p t c M aL aS ss L bks st n) i post):=by
 obtain ⟨rs,r,j,x,y,b,z,F,B,A,q1,hl,hr,hs,hbl,hb,hz⟩:=J.turn hi;haveI hI:=J.tab.self;haveI h8:=J.h8;haveI hL:=J.len;unfold yjt;refine TB.cons (TS.assignT ok hfm (TE.sq (TE.loc ok rfl (TE.loc ok rfl ⟨_,Sq.list q1 ⟨hl,.inl ⟨Int.natCast_nonneg _,hr⟩⟩,_,⟨by decide,rfl,r,rfl,hs⟩,?_⟩))));show TB cx [some (.glob sa),some (.ref 2),some (.int (t:Nat)),some (.ref 6),some (.ref aL),some (.ref aS),some (.int (i:Int)),w7,some (.str (nm x)),some (.str (nm y)),some (.str (nm j)),w11,w12,w13] _ H _;refine TB.cons (TS.ite (TT.cq (TE.meth ok (TE.loc ok rfl ⟨6,yaa,5,_,ya5,rfl,hI,by with_unfolding_all rfl,gK,TEs.cons (TE.loc ok rfl (TEs.cons (TE.loc ok rfl (TEs.cons (TE.loc ok rfl (TEs.cons (TE.sq (TE.sq (TE.attr ok (TE.loc ok rfl ⟨6,yaa,5,_,.ref (8+3*c),rfl,hI,by with_unfolding_all rfl,gA,
   TE.loc ok rfl ⟨_,Sq.list J.tab.books ⟨hbl,.inl ⟨Int.natCast_nonneg _,hb⟩⟩,TE.int ⟨_,Sq.tup (n:=1) (v:=.ref z) hz (zlb rfl) rfl,TEs.nil (ywy hS K J.tab (by exact ymw h8 hL) B A J.hM hz fun v H2 hv T2 X2=>?_)⟩⟩⟩))))))))))⟩))))
 haveI J2:=J.nxt T2 X2;haveI E3:=(Ext.refl H2).app [MO.list []];exact TE.list (TEs.nil ⟨Nat.zero_le _,_,Cq.neD ok (rd0 (E3 _ _ hv)) (rd0 yaf) rfl rfl,dR (by simp [PyData.eqv,PyData.eqvAll]) (TB.nil (TB.nil (.mk _ _ _ _ _ _ _ _ _ (J2.ext E3))))⟩)
theorem ytd (J:EdI p t c M aL aS ss L bks st n H):TB cx [some (.glob sa),some (.ref 2),some (.int (t:Nat)),some (.ref 6),some (.ref aL),some (.ref aS),w6,w7,w8,w9,w10,w11,w12,w13] ym0 H (fun fl _ _=>retv fl=.bool true):=by
 haveI bs:=K.bs;haveI gK:GMth G yaa "check" ya5:=K.m (by kernel_rfl);haveI gA:GAtt G yaa "books":=K.att (by kernel_rfl);haveI hml:=Nat.le_trans (ye1 (ss:=ss) (j:=0)) J.h8;obtain ⟨rs,Z1⟩:=id J.fS;haveI q1:=(zl Z1);haveI q2:=(zl (zr Z1));clear Z1;haveI hrl:(refL rs).length=(yab 0 ss).length:=by simp [refL,q2]
 refine TB.gen3 fun post hpost=>?_;unfold ym0;refine TB.cons (TS.forR ok hfm bs.range CEs.ne (TEs.cons (TE.len ok bs (TE.loc ok rfl (BC.len q1 (by exact yhb hml hrl) (TEs.nil ⟨0,_,⟨.inl ⟨rfl,rfl⟩,by decide,by decide,by lia,by exact yqc hml hrl⟩,
   CkJ sa p t c M aL aS ss L bks st n,.mk _ _ _ _ _ _ _ _ _ J,?_,?_⟩))))) ⟨_,rfl⟩)
 . rintro i m1 H1 xt ⟨w6,w7,w8,w9,w10,w11,w12,w13,_,J⟩ hi;rw [Int.zero_add] at *;exact yoy (cx:=cx.wx xt) (ok.wx xt) hfm hint hS K J (by lia) gK gA
 . rintro m1 H1 ⟨w6,w7,w8,w9,w10,w11,w12,w13,_,J⟩;exact TB.mono (ys1 ok hfm hint hS K J) hpost
theorem ys7 (J:EdI p t c M aL aS ss L bks st n H):TB cx [some (.glob sa),some (.ref 2),some (.int (t:Nat)),some (.ref 6),some (.ref aL),some (.ref aS),w6,w7,w8,w9,w10,w11,w12,w13] yl2 H (fun fl _ _=>retv fl=.bool true):=by
 haveI hml:=Nat.le_trans (ye1 (ss:=ss) (j:=0)) J.h8;haveI hI:=J.tab.self;have hbl:(refs bks).length=(yab 0 ss).length:=by
   unfold refs;rw [length_map,J.bk.len]
 have snoc:∀{i j x y:Nat},(yab 0 ss)[i]?=some (j,x,y)->strL (((yab 0 ss).take i).map fun q=>nm q.1)++[.str (nm j)]=strL (((yab 0 ss).take (i+1)).map fun q=>nm q.1):=fun {i j x y} e=>by
   rw [take_succ,e];unfold strL;simp
 have hst:∀x ∈ (yab 0 ss).map (fun q=>nm q.1),PyData.strOk x=true:=fun x hx=>by
   obtain ⟨q,hq,rfl⟩:=mem_map.mp hx;haveI:=yts hq;haveI:=J.h8;exact yri _ (by lia)
 have le:∀i,(strL (((yab 0 ss).take i).map fun q=>nm q.1)).length<=i:=fun i=>by
   unfold strL;rw [length_map,length_map,length_take];exact yv7
 unfold yl2;refine TB.cons (TS.ite (TT.cq (TE.comp ok (Src.list ok (TE.attr ok (TE.loc ok rfl ⟨6,yaa,5,_,.ref (8+3*c),rfl,hI,by with_unfolding_all rfl,K.att (by kernel_rfl),8+3*c,_,_,rfl,J.tab.books,
   Turns.list (xs:=refs bks) (by exact yhb hml hbl) (fun i ys H1=>H1=H/\ys=strL (((yab 0 ss).take i).map fun q=>nm q.1)) ⟨rfl,rfl⟩ ?_ ?_ ?_⟩))))))
 . rintro i ys H1 ⟨e0,rfl⟩;rw [e0];exact ⟨le i,J.tab.books⟩
 . rintro i ys H1 v ⟨e0,rfl⟩ hv;subst e0;have hi:i<(yab 0 ss).length:=by rw [<-hbl];exact (zgs hv).1
   obtain ⟨⟨j,x,y⟩,hm⟩:∃q,(yab 0 ss)[i]?=some q:=⟨_,getElem?_eq_getElem hi⟩;obtain ⟨b,hb⟩:∃b,bks[i]?=some b:=⟨_,getElem?_eq_getElem (by rw [J.bk.len];exact hi)⟩;obtain ⟨F,B,A⟩:=J.bk.a i b j x y hb hm;obtain ⟨z,hz⟩:=A.pair;have hv':v=.ref b:=by
     unfold refs at hv;rw [getElem?_map,hb] at hv;exact (Option.some.inj hv).symm
   subst hv';refine ⟨_,⟨by decide,rfl,b,rfl,hz⟩,fun c' sub hnm'=>⟨fun q=>(by exact nt q),fun _=>?_⟩⟩;haveI ok':=sub.ok;show TE c' [some (.glob sa),some (.ref 2),some (.int (t:Nat)),some (.ref 6),some (.ref aL),some (.ref aS),w6,w7,w8,w9,w10,w11,w12,w13,some (.str (nm j)),some (.ref z)] _ _ _;exact TE.loc ok' rfl ⟨rfl,snoc hm⟩
 rintro ys H1 ⟨e0,rfl⟩;subst e0;rw [hbl,take_length];have E1:=(Ext.refl H1).app [MO.list (strL ((yab 0 ss).map fun q=>nm q.1))];haveI f1:(H1++[MO.list (strL ((yab 0 ss).map fun q=>nm q.1))])[H1.length]?=some (.list (strL ((yab 0 ss).map fun q=>nm q.1))):=yaf;haveI J1:=J.ext E1;generalize H1++[MO.list (strL ((yab 0 ss).map fun q=>nm q.1))]=H2 at f1 J1 ⊢;obtain ⟨rs,q1,q2,q3⟩:=id J1.fS;have hrl:(refL rs).length=(yab 0 ss).length:=by simp [refL,q2]
 refine TE.comp ok (Src.list ok (TE.loc ok rfl ⟨aS,_,_,rfl,q1,Turns.list (xs:=refL rs) (by exact yhb hml hrl) (fun i ys H3=>H3=H2/\ys=strL (((yab 0 ss).take i).map fun q=>nm q.1)) ⟨rfl,rfl⟩ ?_ ?_ ?_⟩))
 . rintro i ys H3 ⟨e0,rfl⟩;rw [e0];exact ⟨le i,q1⟩
 . rintro i ys H3 v ⟨e0,rfl⟩ hv;subst e0;have hi:i<(yab 0 ss).length:=by rw [<-hrl];exact (zgs hv).1
   obtain ⟨⟨j,x,y⟩,hm⟩:∃q,(yab 0 ss)[i]?=some q:=⟨_,getElem?_eq_getElem hi⟩;obtain ⟨r,hr⟩:∃r,rs[i]?=some r:=⟨_,getElem?_eq_getElem (by exact yi4 q2 hi)⟩;have hv':v=.ref r:=by
     unfold refL at hv;rw [getElem?_map,hr] at hv;exact (Option.some.inj hv).symm
   subst hv';refine ⟨_,⟨by decide,rfl,r,rfl,q3 i r j x y hr hm⟩,fun c' sub hnm'=>⟨fun q=>(by exact nt q),fun _=>?_⟩⟩;haveI ok':=sub.ok;show TE c' [some (.glob sa),some (.ref 2),some (.int (t:Nat)),some (.ref 6),some (.ref aL),some (.ref aS),w6,w7,w8,w9,w10,w11,w12,w13,some (.str (nm j)),some (.str (nm x)),some (.str (nm y))] _ _ _;exact TE.loc ok' rfl ⟨rfl,snoc hm⟩
 rintro ys H3 ⟨e0,rfl⟩;subst e0;rw [hrl,take_length];have E2:=(Ext.refl H3).app [MO.list (strL ((yab 0 ss).map fun q=>nm q.1))];refine ⟨_,Cq.neD ok (yla (E2 _ _ f1)) (yla yaf) (ygv hst) (ygv hst),fun h=>?_,fun _=>TB.nil (ytd ok hfm hint hS K (J1.ext E2))⟩;have:PyData.eqv (.list (sdL ((yab 0 ss).map fun q=>nm q.1))) (.list (sdL ((yab 0 ss).map fun q=>nm q.1)))=true:=by simp only [PyData.eqv];exact ylj _
 rw [this] at h;exact nb h
end
theorem K21.law {G:Gx} {sa:Addr} {ns:List Int} (K:K21 G sa ns):LawK G sa ns:=⟨K.bs,K.scr,K.f (g:="_law_cell") (f:=yke) ⟨["script","k"],ycn,ycy,[]⟩ (by kernel_rfl) (by kernel_rfl)⟩
theorem K21.src {G:Gx} {sa:Addr} {ns:List Int} (K:K21 G sa ns):SrcK G ycz:=
 ⟨K.bs,K.f (g:="need_number") (f:=yb5) ⟨["value","least","most","what"],yal,yao,[]⟩ (by kernel_rfl) (by kernel_rfl),
   ⟨yfv,K.tb.cl _ _ _ (ya6 (by kernel_rfl)),K.df ⟨["self","seed"],ybv,ybx,[]⟩ (by kernel_rfl)⟩,
   K.att (by kernel_rfl),K.att (by kernel_rfl),(K.tb.att _ _ (ydv (by kernel_rfl))).2,(K.tb.att _ _ (ydv (by kernel_rfl))).2,
   ⟨ygp,K.m (by kernel_rfl),K.df ⟨["self","below"],ycp,ydk,[]⟩ (by kernel_rfl)⟩⟩
noncomputable def txl (ss:List Stp):List Str:=ss.mapIdx fun j s=>lnT (linS j s)
theorem yft {ss:List Stp}:(txl ss).length=ss.length:=by simp [txl]
theorem ypt {ss:List Stp} {s:Stp}:txl (ss++[s])=txl ss++[lnT (linS ss.length s)]:=by simp [txl,List.mapIdx_append]
theorem ytg {ss:List Stp}:txl ss++(List.range ss.length).map (fun k=>lnT (.opn (nm k)))=(yai ss).map lnT:=by
 unfold txl yai;rw [map_append,map_map];congr 1;refine List.ext_getElem? fun i=>?_;rw [getElem?_map,List.getElem?_mapIdx,List.getElem?_mapIdx];cases ss[i]? <;> rfl
theorem yrq {k:Nat}:lnT (.opn (nm k))=("open x":Str)++fig (k:Int):=by
 apply yfk;show (Txt.join ⟨#[32]⟩ ["open",nm k]).cps.toList=_;rw [yaz,yax];show ("open":Str).cps.toList++32 :: (nm k).cps.toList=_;rw [show (nm k).cps.toList=("x":Str).cps.toList++(fig (k:Int)).cps.toList from yax];rfl
theorem ys5 {b:Nat}:∀{xs:List Str},(∀v ∈ xs,v.length<=b)->(xs.map (·.length)).sum<=xs.length*b:=by
 intro zd
 induction zd with
 | nil=>
  exact fun zz=>Nat.zero_le _
 | cons v r zih=>
  exact fun h=>by
   have h1:=h v (.head _);have h2:=zih fun u hu=>h u (.tail _ hu);rw [map_cons,List.sum_cons,length_cons,Nat.succ_mul];exact ywh h1 h2
theorem ypa {p:Int} {ss:List Stp} {s:Stp} (h:okP p ss) (hs:okS p ss.length s):okP p (ss++[s]):=by
 intro j u e;by_cases hj:j<ss.length
 . rw [getElem?_append_left hj] at e;exact h j u e
 . rw [getElem?_append_right (by exact Nat.not_lt.mp ‹_›)] at e;have hz:j - ss.length=0:=by
     have:=(zgs e).1;simp at this;assumption
   rw [hz] at e
   (replace e:=si e;subst e)
   rwa [show j=ss.length by lia]
structure LnI (p t c aL aS:Nat) (ss:List Stp) (st n:Int) (H:MH):Prop where
 tab:Tab p t c [] [] st n H
 fL:H[aL]?=some (.list (strL (txl ss)))
 fS:StAt H aS (yab 0 ss)
 ok:okP p ss
 hL:9+3*c<=aL
 hS:9+3*c<=aS
 ne:aL≠aS
inductive LnJ (sa:Addr) (p t c aL aS:Nat) (st n:Int) (w13:Option MV) (i:Nat):ML->MH->Prop where
 | mk (ss:List Stp) (w6 w7 w8 w9 w10 w11 w12:Option MV) (H:MH) (hl:ss.length=2+i) (J:LnI p t c aL aS ss st n H):LnJ sa p t c aL aS st n w13 i [some (.glob sa),some (.ref 2),some (.int (t:Nat)),some (.ref 6),some (.ref aL),some (.ref aS),w6,w7,w8,w9,w10,w11,w12,w13] H
theorem LnI.ext {p t c aL aS:Nat} {ss:List Stp} {st n:Int} {H H':MH} (J:LnI p t c aL aS ss st n H) (E:Ext H H'):LnI p t c aL aS ss st n H':=⟨J.tab.ext E,E _ _ J.fL,J.fS.ext E,J.ok,J.hL,J.hS,J.ne⟩
section
variable {G:Gx} {cx:Cx} {d:Nat} {m:ML} {H:MH}
theorem TE.figX (bs:Bs G) (ok:Ok G cx d) {e:CE} {i:Int} {post:MV->MH->Prop} (hi:0<=i/\i<2 ^ 64) (h:TE cx m e H (fun v H1=>v=.int i/\H1=H)) (k:(fig i).length<=2000->post (.str (fig i)) H):TE cx m (.call "str" (.cons e .nil)) H post:=by
 refine TE.bstr ok bs (h.mono ?_);rintro _ _ ⟨rfl,rfl⟩;refine BC.strI (Nat.lt_trans (m:=2 ^ 64) (by lia) (Nat.pow_lt_pow_right (by decide) (by decide))) fun x hx hl=>?_;subst hx;exact k hl
theorem TE.pre (bs:Bs G) (ok:Ok G cx d) {e:CE} {i:Int} {pre:Str} {post:MV->MH->Prop} (hp:pre.length<=1000) (hi:0<=i/\i<2 ^ 64) (h:TE cx m e H (fun v H1=>v=.int i/\H1=H)) (k:post (.str (pre++fig i)) H) :
   TE cx m (.bin .Add (.str pre) (.call "str" (.cons e .nil))) H post:=
 TE.op ok (TE.str (TE.figX bs ok hi h fun hl=>⟨_,BinI.cat (by lia),k⟩))
theorem TE.cat (ok:Ok G cx d) {a b:CE} {x y:Str} {post:MV->MH->Prop} (hx:x.length<=100) (hy:y.length<=100) (h1:∀q,q (.str x) H->TE cx m a H q) (h2:∀q,q (.str y) H->TE cx m b H q) (k:post (.str (x++y)) H):TE cx m (.bin .Add a b) H post:=
 TE.op ok (h1 _ (h2 _ ⟨_,BinI.cat (by lia),k⟩))
end
theorem yfo {x y:Str}:(x++y).length=x.length+y.length:=by rw [yfi,yfi,yfi,yax,length_append]
section
variable {G:Gx} {cx:Cx} {sa:Addr} {ns:List Int} {p t c aL aS:Nat} {ss:List Stp} {st n:Int} {H:MH} {w3 w4 w5 w6 w7 w8 w9 w10 w11 w12 w13:Option MV}
variable (ok:Ok G cx 200) (hfm:cx.fm=none) (hint:interactive cx.env=false) (hS:Shp p t c) (K:K21 G sa ns)
include ok hfm hint hS K
theorem ysm (J:LnI p t c aL aS ss st n H) (h0:0<ss.length) (h8:ss.length<=8):TB cx [some (.glob sa),some (.ref 2),some (.int (t:Nat)),some (.ref 6),some (.ref aL),some (.ref aS),w6,w7,w8,w9,w10,w11,w12,some (.str (yiw ss))] ymn H (fun fl _ _=>retv fl=.bool true):=by
 obtain ⟨fR,Z1⟩:=K.fr;haveI gR:=(zl Z1);haveI dR:=(zr Z1);clear Z1;obtain ⟨fP,Z2⟩:=K.fp;haveI gP:=(zl Z2);haveI dP:=(zr Z2);clear Z2;obtain ⟨fS,fW,PL⟩:=K.pl;haveI b:=hS.b;haveI TX:=TxtOf.mk' b.2 h0 h8 J.ok;haveI hpp:isP p:=by
   rcases hS.p with rfl | rfl
   . exact yq4
   . exact ynu
 haveI hvl:(vals p ss).length<=9:=by rw [yay];exact Nat.le_succ_of_le ‹_›
 unfold ymn;refine TB.cons (TS.ite (TT.cq (TE.call ok gR (TEs.cons (TE.loc ok rfl (TEs.cons (TE.loc ok rfl (TEs.nil ((yun dR hS K J.tab TX J.ok h8 fun r1 L bks st' n' M H1 E=>?_).le (by decide))))))))));refine TE.call ok gP (TEs.cons (TE.attr ok (TE.loc ok rfl ⟨2,yaj,1,_,.int p,rfl,E.tab.field,by with_unfolding_all rfl,K.att (by kernel_rfl),TEs.cons (TE.loc ok rfl (TEs.nil ((ypn dP PL hpp (by exact yi1 b) TX J.ok h8).use (by decide) ?_)))⟩)));rintro _ H2 ⟨E2,r2,rfl,o2⟩;refine ⟨_,Cq.neD ok (E.o.ext E2).rd o2.rd (yg1 hvl) (yg1 hvl),fun h=>?_,fun _=>TB.nil (ys7 (M:=M) ok hfm hint hS K (EdI.ext ⟨E.tab,E.len,h8,E.bk,E.hM,⟨_,E.nx.e _ _ J.hL J.fL,by simp [strL,yft]⟩,J.fS.nxt J.tab E.nx J.hS,J.hL,J.hS⟩ E2))⟩;haveI:PyData.eqv (.list (odF 0 (vals p ss))) (.list (odF 0 (vals p ss)))=true:=by simp only [PyData.eqv];exact yro
 rw [this] at h;exact nb h
theorem yr2 (J:LnI p t c aL aS ss st n H) (h0:0<ss.length) (h8:ss.length<=8):TB cx [some (.glob sa),some (.ref 2),some (.int (t:Nat)),some (.ref 6),some (.ref aL),some (.ref aS),w6,w7,w8,w9,w10,w11,w12,w13] yme H (fun fl _ _=>retv fl=.bool true):=by
 haveI bs:=K.bs;haveI b:=hS.b;haveI ll:(strL (txl ss)).length=ss.length:=by simp [strL,yft]
 unfold yme;refine TB.cons (TS.assign ok hfm rfl (TE.mcall (TE.str ?_)));refine Mth.join.out _ _ _ ?_;refine TEs.cons (TE.addL (TE.loc ok rfl (TE.comp ok (Src.range ok bs.range (TEs.cons (TE.len ok bs (TE.loc ok rfl (BC.len J.fL (by exact yhb h8 ll) (TEs.nil ⟨0,_,⟨.inl ⟨rfl,rfl⟩,by exact yu2,by exact yvk,by exact yvd h0 ll,by exact yqc h8 ll⟩,
   Turns.range (x:="k") rfl (by lia) (fun i ys H1=>H1=H/\ys=strL ((List.range i).map fun k=>lnT (.opn (nm k)))) ⟨rfl,rfl⟩ ?_ ?_ ?_⟩)))))))))
 . rintro i ys H1 ⟨_,rfl⟩;simp [strL]
 . rintro i ys H1 ⟨e0,rfl⟩ hi c' sub hnm';subst e0;haveI ok':=sub.ok;rw [Int.zero_add] at *;refine ⟨fun q=>(by exact nt q),fun _=>?_⟩;show TE c' [some (.glob sa),some (.ref 2),some (.int (t:Nat)),some (.ref 6),some (.ref aL),some (.ref aS),w6,w7,w8,w9,w10,w11,w12,w13,some (.int (i:Int))] _ _ _;refine TE.pre bs ok' (by decide +kernel) (i:=(i:Int)) (by lia) (TE.loc ok' rfl ⟨rfl,rfl⟩) ⟨rfl,?_⟩;rw [range_succ,map_append];unfold strL;rw [map_append];show _=_++[MV.str (lnT (.opn (nm i)))];rw [yrq]
 rintro ys H1 ⟨e0,rfl⟩;subst e0;rw [show ((((strL (txl ss)).length:Nat):Int) - 0).toNat=ss.length by rw [ll];lia];haveI E1:=(Ext.refl H1).app [MO.list (strL ((List.range ss.length).map fun k=>lnT (.opn (nm k))))];refine ⟨aL,H1.length,_,_,rfl,rfl,E1 _ _ J.fL,yaf,by simp [strL,yft];exact ywe h8,TEs.nil ⟨_,(yai ss).map lnT,⟨rfl,?_⟩,⟨by decide +kernel,?_⟩,?_⟩⟩
 . rw [<-ytg];unfold strL;rw [map_append];exact yaf
 . haveI:=ys5 (b:=25) (xs:=(yai ss).map lnT) fun v hv=>by
     obtain ⟨l,hl,rfl⟩:=mem_map.mp hv;obtain ⟨i,hi⟩:=List.mem_iff_getElem?.mp hl;exact (yjv (ygh b.2 h8 J.ok hi).1).2.1
   rw [length_map,ybl] at this ⊢;lia
 . exact ysm ok hfm hint hS K ((J.ext E1).ext ((Ext.refl _).app _)) h0 h8
noncomputable def ybw (q:Nat) (a b:Nat) (v:Int):Stp:=match q with
 | 0=>.bin false a b
 | 1=>.bin true a b
 | 2=>.kno true v a
 | _=>.kno false v a
noncomputable def rhsT (s:Stp):Str:=match s with
 | .put v=>fig v
 | .bin m a b=>nm a++opT m++nm b
 | .kno m v b=>fig v++opT m++nm b
omit ok hfm hint hS K in
theorem ytm {j:Nat}:∀{s:Stp},lnT (linS j s)=nm j++" = "++rhsT s
 | .put _=>yhv
 | .bin _ _ _=>yry
 | .kno _ _ _=>yr5
omit ok hfm hint hS K in
theorem ykg {j:Nat} (h:j<9):(nm j).length<=4:=(yfs (nmW j h)).1.2
omit ok hfm hint hS K in
theorem yr0 {v:Int} (h:0<=v/\v<101):(fig v).length<=9:=(figs h).h1
omit ok hfm hint hS K in
theorem div49:(7:Int)≠0/\(7:Int).natAbs<1073741824/\(49:Int)≠0/\(49:Int).natAbs<1073741824:=by decide
omit ok hfm hint hS K in
theorem ytv {q a b:Nat} {v:Int} {j:Nat} (hq:q<4) (ha:a<j) (hb:b<j) (hv:0<=v/\v<p):okS p j (ybw q a b v):=by
 cases q with
 | zero=>exact ⟨ha,hb⟩
 | succ q=>cases q with
   | zero=>exact ⟨ha,hb⟩
   | succ q=>cases q with
     | zero=>exact ⟨hv,ha⟩
     | succ q=>cases q with
       | zero=>exact ⟨hv,ha⟩
       | succ q=>exact absurd hq (by exact yqh hq)
omit ok hfm hint hS K in
theorem ytc {q a b:Nat} {v:Int} {j:Nat} (hq:q<4) (h:q≠1):mul1 j (ybw q a b v)=[]:=by
 cases q with
 | zero=>rfl
 | succ q=>cases q with
   | zero=>exact absurd rfl h
   | succ q=>cases q with
     | zero=>rfl
     | succ q=>cases q with
       | zero=>rfl
       | succ q=>exact absurd hq (by exact yqh hq)
noncomputable def rhs4 (a b:Nat) (v:Int):List Str:=[nm a++" + "++nm b,nm a++" * "++nm b,fig v++" * "++nm a,fig v++" + "++nm a]
omit ok hfm hint hS K in
theorem yui {q a b:Nat} {v:Int} (hq:q<4):((rhs4 a b v).map MV.str)[((q:Nat):Int).toNat]?=some (.str (rhsT (ybw q a b v))):=
 match q,hq with
 | 0,_=>rfl
 | 1,_=>rfl
 | 2,_=>rfl
 | 3,_=>rfl
omit ok hfm hint hS K in
theorem len3:(" + ":Str).length=3/\(" * ":Str).length=3/\(" = ":Str).length=3:=by decide +kernel
omit ok hfm hint hS K in
theorem yss {q a b:Nat} {v:Int} (hq:q<4) (ha:(nm a).length<=4) (hb:(nm b).length<=4) (hv:(fig v).length<=9):(rhsT (ybw q a b v)).length<=20:=by
 have h:=len3;have key:∀{x y z:Str},x.length<=9->y.length=3->z.length<=4->(x++y++z).length<=20:=fun h1 h2 h3=>by rw [yfo,yfo];lia
 match q,hq with
 | 0,_=>exact key (by exact Nat.le_trans ‹_› (by decide)) h.1 hb
 | 1,_=>exact key (by exact yw0 ha) h.2.1 hb
 | 2,_=>exact key hv h.2.1 ha
 | 3,_=>exact key hv h.1 ha
theorem ypj (J:LnI p t c aL aS ss st n H) (h0:0<ss.length) (h8:ss.length<8) {k:Nat} {post:Fl->ML->MH->Prop}
   (hp:∀s w7 w8 w9 w10 w11 w12 H',LnI p t c aL aS (ss++[s]) st n H'->post .next [some (.glob sa),some (.ref 2),some (.int (t:Nat)),some (.ref 6),some (.ref aL),some (.ref aS),some (.int (k:Int)),w7,w8,w9,w10,w11,w12,w13] H') :
   TB cx [some (.glob sa),some (.ref 2),some (.int (t:Nat)),some (.ref 6),some (.ref aL),some (.ref aS),some (.int (k:Int)),w7,w8,w9,w10,w11,w12,w13] ygy H post:=by
 haveI bs:=K.bs;haveI LK:=K.law;haveI b:=hS.b;haveI ll:(strL (txl ss)).length=ss.length:=by simp [strL,yft]
 haveI ga:GAtt G yaj "prime":=K.att (by kernel_rfl);haveI hF:=J.tab.field;unfold ygy;refine TB.cons (TS.assign ok hfm rfl (TE.cell ok (by decide) LK rfl (TE.op ok (TE.int (TE.loc ok rfl ⟨_,BinI.add,7+(k:Int),.mk (by lia),?_⟩)))));generalize cell ns (7+(k:Int)).toNat=n1;obtain ⟨a,ha,ha8⟩:∃a:Nat,n1 % (((strL (txl ss)).length:Nat):Int)=(a:Int)/\a<ss.length:=by
   rw [ll];haveI h1:0<=n1 % ((ss.length:Nat):Int):=Int.emod_nonneg _ (by exact yp4 h0);haveI h2:n1 % ((ss.length:Nat):Int)<(ss.length:Nat):=Int.emod_lt_of_pos _ (by exact Int.ofNat_lt.mpr ‹_›);exact ⟨(n1 % ((ss.length:Nat):Int)).toNat,by exact yqg h1,by exact yqs h0 h2⟩
 obtain ⟨e,he,he8⟩:∃e:Nat,n1.fdiv 7 % (((strL (txl ss)).length:Nat):Int)=(e:Int)/\e<ss.length:=by
   rw [ll];haveI h1:0<=n1.fdiv 7 % ((ss.length:Nat):Int):=Int.emod_nonneg _ (by exact yp4 h0);haveI h2:n1.fdiv 7 % ((ss.length:Nat):Int)<(ss.length:Nat):=Int.emod_lt_of_pos _ (by exact ywf h0);exact ⟨(n1.fdiv 7 % ((ss.length:Nat):Int)).toNat,by exact yqg h1,by exact yqs h0 h2⟩
 refine TB.cons (TS.assign ok hfm rfl (TE.pre bs ok (by decide +kernel) (i:=(a:Int)) (by exact yqx h8 ha ha8) (TE.op ok (TE.loc ok rfl (TE.len ok bs (TE.loc ok rfl (BC.len J.fL (by exact yi6 h8 ll) ⟨_,BinI.modP (by exact yql h0 ll),by rw [ha],rfl⟩))))) ?_));refine TB.cons (TS.assign ok hfm rfl (TE.pre bs ok (by decide +kernel) (i:=(e:Int)) (by exact yqx h8 he he8) (TE.op ok (TE.op ok (TE.loc ok rfl (TE.int ⟨_,BinI.div div49.1 div49.2.1,TE.len ok bs (TE.loc ok rfl (BC.len J.fL (by exact yi6 h8 ll) ⟨_,BinI.modP (by exact yql h0 ll),by rw [he],rfl⟩))⟩)))) ?_));refine TB.cons (TS.assign ok hfm rfl (TE.pre bs ok (by decide +kernel) (i:=(ss.length:Int)) (by lia) (TE.len ok bs (TE.loc ok rfl (BC.len J.fL (by exact yi6 h8 ll) ⟨by rw [ll],rfl⟩))) ?_));haveI hv:0<=n1.fdiv 49 % (p:Int)/\n1.fdiv 49 % (p:Int)<p:=⟨Int.emod_nonneg _ (by exact yqm b),Int.emod_lt_of_pos _ (by exact ya4 b)⟩;refine TB.cons (TS.assign ok hfm rfl (TE.figX bs ok (i:=n1.fdiv 49 % (p:Int)) (by exact ymk b hv) (TE.op ok (TE.op ok (TE.loc ok rfl (TE.int ⟨_,BinI.div div49.2.2.1 div49.2.2.2,TE.attr ok (TE.loc ok rfl ⟨2,yaj,1,_,.int p,rfl,hF,by with_unfolding_all rfl,ga,_,BinI.modP (by exact ya4 b),rfl,rfl⟩)⟩)))) fun _=>?_));generalize n1.fdiv 49 % (p:Int)=v at hv;refine TB.cons (TS.assign ok hfm rfl (TE.op ok (TE.cell ok (by decide) LK rfl (TE.op ok (TE.int (TE.loc ok rfl ⟨_,BinI.add,14+(k:Int),.mk (by exact yu6),TE.int ⟨_,BinI.modP (by decide),?_⟩⟩))))));obtain ⟨q,hq,hq4⟩:∃q:Nat,cell ns (14+(k:Int)).toNat % 4=(q:Int)/\q<4:=⟨(cell ns (14+(k:Int)).toNat % 4).toNat,by lia,by lia⟩;rw [hq];show TB cx [some (.glob sa),some (.ref 2),some (.int (t:Nat)),some (.ref 6),some (.ref aL),some (.ref aS),some (.int (k:Int)),some (.int n1),some (.str (nm a)),some (.str (nm e)),some (.str (nm ss.length)),some (.str (fig v)),some (.int (q:Int)),w13] _ _ _;haveI la:=ykg (j:=a) (by exact yqi h8 ha ha8);haveI le:=ykg (j:=e) (by exact yqi h8 he he8);haveI lj:=ykg (j:=ss.length) (by exact yu3 h8);haveI lv:=yr0 (v:=v) (by lia);obtain ⟨lp,lm,lq⟩:=len3;haveI hs:okS p ss.length (ybw q a e v):=ytv hq4 ha8 he8 hv;haveI hr:=yss (q:=q) hq4 la le lv;haveI loc:∀{i:Nat} {x:Str} {H:MH} {m:ML},m[i]?=some (some (.str x))->∀q,q (.str x) H->TE cx m (.loc i) H q:=fun h q x=>TE.loc ok h x;haveI lit:∀{x:Str} {H:MH} {m:ML},∀q,q (.str x) H->TE cx m (.str x) H q:=fun q x=>TE.str x;haveI cat2:∀{i j:Nat} {x y z:Str} {H:MH} {m:ML},m[i]?=some (some (.str x))->m[j]?=some (some (.str z))->x.length<=50->y.length<=50->z.length<=50->∀q,q (.str (x++y++z)) H->TE cx m (.bin .Add (.bin .Add (.loc i) (.str y)) (.loc j)) H q:=fun h1 h2 l1 l2 l3 q k=>
   TE.cat ok (by rw [yfo];exact ywg l1 l2) (by exact ym2 l3) (fun q k=>TE.cat ok (by exact ym2 l1) (by exact ym2 l2) (loc h1) lit k) (loc h2) k
 refine TB.cons (TS.expr hint (TE.append (TE.loc ok rfl ⟨aL,_,rfl,J.fL,?_⟩)));refine TE.op ok (TE.cat ok (by exact ywn lj) (by exact yvq lq) (loc rfl) lit (TE.sq (TE.list (TEs.cons (cat2 rfl rfl (by exact yfr la) (by exact yi3 lp) (by exact yfr le) _ (TEs.cons (cat2 rfl rfl (by exact yfr la) (by exact yi3 lm) (by exact yfr le) _ (TEs.cons (cat2 rfl rfl (by exact yp9 lv) (by exact yi3 lm) (by exact yfr la) _ (TEs.cons (cat2 rfl rfl (by exact yp9 lv) (by exact yi3 lp) (by exact yfr la) _ (TEs.nil ⟨zlb rfl,?_⟩))))))))))));haveI E1:=(Ext.refl H).app [MO.list ((rhs4 a e v).map MV.str)];refine TE.loc ok rfl ⟨_,Sq.list (xs:=(rhs4 a e v).map MV.str) yaf ⟨zlb rfl,.inl ⟨by exact yvm,yui hq4⟩⟩,_,BinI.cat (by rw [yfo];lia),_,E1 _ _ J.fL,by exact yi6 h8 ll,?_⟩;haveI J1:=J.ext E1;haveI fL1:=E1 _ _ J.fL;change TB cx _ _ ((H++[MO.list ((rhs4 a e v).map MV.str)]).set aL _) _;generalize H++[MO.list ((rhs4 a e v).map MV.str)]=H1 at E1 J1 fL1 ⊢;haveI eL:strL (txl ss)++[MV.str (nm ss.length++" = "++rhsT (ybw q a e v))]=strL (txl (ss++[ybw q a e v])):=by
   rw [ypt,ytm];unfold strL;rw [map_append];rfl
 rw [eL];haveI aLlt:=(zgs fL1).1;haveI T2:Tab p t c [] [] st n (H1.set aL (.list (strL (txl (ss++[ybw q a e v]))))):=J1.tab.set J.hL;haveI f2:(H1.set aL (MO.list (strL (txl (ss++[ybw q a e v])))))[aL]?=some (.list (strL (txl (ss++[ybw q a e v])))):=getElem?_set_self aLlt;haveI s2:StAt (H1.set aL (.list (strL (txl (ss++[ybw q a e v]))))) aS (yab 0 ss):=J1.fS.off fL1 (Ne.symm J.ne);generalize H1.set aL (.list (strL (txl (ss++[ybw q a e v]))))=H2 at T2 f2 s2 ⊢;haveI kP:=ypa J.ok hs;refine TB.cons (TS.ite (TT.cmp (TE.loc ok rfl (TE.int ⟨_,rfl,fun h=>?_,fun h=>?_⟩))))
 . haveI h:((q:Nat):Int)=1:=of_decide_eq_true h;haveI h:q=1:=by lia
   subst h;obtain ⟨rs0,Z1⟩:=id s2;haveI a0:=(zl Z1);clear Z1;refine TB.cons (TS.expr hint (TE.append (TE.loc ok rfl ⟨aS,_,rfl,a0,TE.tup (TEs.cons (loc rfl _ (TEs.cons (loc rfl _ (TEs.cons (loc rfl _ (TEs.nil ⟨zlb rfl,?_⟩)))))))⟩)));haveI E2:=(Ext.refl H2).app [MO.tup [.str (nm ss.length),.str (nm a),.str (nm e)]];obtain ⟨ys,Z2⟩:=s2.put (j:=ss.length) (x:=a) (y:=e) E2 yaf;haveI y1:=(zl Z2);haveI y2:=(zl (zr Z2));haveI y3:=(zr (zr Z2));clear Z2;haveI hml:=ye1 (ss:=ss) (j:=0);refine ⟨ys,y1,by lia,TB.nil (TB.nil (hp (ybw 1 a e v) _ _ _ _ _ _ _ ⟨(T2.ext E2).set J.hS,?_,?_,kP,J.hL,J.hS,J.ne⟩))⟩
   . rw [getElem?_set_ne (Ne.symm J.ne)];exact E2 _ _ f2
   . rw [yd3,Nat.zero_add];exact y3
 . haveI h:¬((q:Nat):Int)=1:=of_decide_eq_false h;refine TB.nil (TB.nil (hp (ybw q a e v) _ _ _ _ _ _ _ ⟨T2,f2,?_,kP,J.hL,J.hS,J.ne⟩));rw [yd3,Nat.zero_add];haveI:mul1 ss.length (ybw q a e v)=[]:=ytc hq4 fun e=>h (by rw [e];rfl);rw [this,append_nil];exact s2
theorem ysp (J:LnI p t c aL aS ss st n H) (h2:ss.length=2):TB cx [some (.glob sa),some (.ref 2),some (.int (t:Nat)),some (.ref 6),some (.ref aL),some (.ref aS),w6,w7,w8,w9,w10,w11,w12,w13] yms H (fun fl _ _=>retv fl=.bool true):=by
 have bs:=K.bs;have LK:=K.law;unfold yms;refine TB.cons (TS.forR ok hfm bs.range CEs.ne (TEs.cons (TE.op ok (TE.cell ok (by decide) LK rfl (TE.int ⟨6,.mk (by decide),TE.int ⟨_,BinI.modP (by decide),TEs.nil ⟨0,_,⟨.inl ⟨rfl,rfl⟩,by decide,by decide,by lia,by lia⟩,
   LnJ sa p t c aL aS st n w13,.mk ss _ _ _ _ _ _ _ _ h2 J,?_,?_⟩⟩⟩)))) ⟨_,rfl⟩)
 . rintro i m1 H1 xt ⟨ss,w6,w7,w8,w9,w10,w11,w12,_,hl,J⟩ hi;rw [Int.zero_add] at *;show TB (cx.wx xt) [some (.glob sa),some (.ref 2),some (.int (t:Nat)),some (.ref 6),some (.ref aL),some (.ref aS),some (.int (i:Int)),w7,w8,w9,w10,w11,w12,w13] ygy H1 _;exact ypj (cx:=cx.wx xt) (ok.wx xt) hfm hint hS K J (by lia) (by lia) fun s w7 w8 w9 w10 w11 w12 H' J'=>.mk _ _ _ _ _ _ _ _ _ (by rw [length_append,hl];rfl) J'
 . rintro m1 H1 ⟨ss,w6,w7,w8,w9,w10,w11,w12,_,hl,J⟩;exact yr2 ok hfm hint hS K J (by lia) (by lia)
theorem ysv (T:Tab p t c [] [] st n H):TB cx [some (.glob sa),some (.ref 2),some (.int (t:Nat)),some (.ref 6),w4,w5,w6,w7,w8,w9,w10,w11,w12,w13] yml H (fun fl _ _=>retv fl=.bool true):=by
 haveI bs:=K.bs;haveI LK:=K.law;haveI b:=hS.b;haveI ga:GAtt G yaj "prime":=K.att (by kernel_rfl);haveI cm:∀(j:Nat) {w4 w5:Option MV},TE cx [some (.glob sa),some (.ref 2),some (.int (t:Nat)),some (.ref 6),w4,w5,w6,w7,w8,w9,w10,w11,w12,w13] (.bin .Mod (.call "_law_cell" (.cons (.loc 0) (.cons (.int (j:Int)) .nil))) (.attr (.loc 1) "prime")) H (fun v H1=>v=.int (cell ns j % (p:Int))/\H1=H):=fun j=>
   TE.op ok (TE.cell ok (by decide) LK rfl (TE.int ⟨(j:Int),.mk (by exact Int.natCast_nonneg _),TE.attr ok (TE.loc ok rfl ⟨2,yaj,1,_,.int p,rfl,T.field,by with_unfolding_all rfl,ga,_,BinI.modP (by exact ya4 b),by rw [Int.toNat_natCast],rfl⟩)⟩))
 haveI hv:∀j,0<=cell ns j % (p:Int)/\cell ns j % (p:Int)<p:=fun j=>⟨Int.emod_nonneg _ (by exact yqm b),Int.emod_lt_of_pos _ (by exact ya4 b)⟩;haveI h4:=hv 4;haveI h5:=hv 5;haveI e4:("x0 = ":Str)++fig (cell ns 4 % (p:Int))=lnT (linS 0 (.put (cell ns 4 % (p:Int)))):=by
   rw [yhv];congr 1
 haveI e5:("x1 = ":Str)++fig (cell ns 5 % (p:Int))=lnT (linS 1 (.put (cell ns 5 % (p:Int)))):=by
   rw [yhv];congr 1
 unfold yml;refine TB.cons (TS.assign ok hfm rfl (TE.list (TEs.cons (TE.pre bs ok (by decide +kernel) (by exact ymk b h4) (cm 4) (TEs.cons (TE.pre bs ok (by decide +kernel) (by exact ymk b h5) (cm 5) (TEs.nil ⟨zlb rfl,?_⟩)))))));rw [e4,e5];haveI E1:=(Ext.refl H).app [MO.list [MV.str (lnT (linS 0 (.put (cell ns 4 % (p:Int))))),MV.str (lnT (linS 1 (.put (cell ns 5 % (p:Int)))))]];haveI f1:(H++[MO.list [MV.str (lnT (linS 0 (.put (cell ns 4 % (p:Int))))),MV.str (lnT (linS 1 (.put (cell ns 5 % (p:Int)))))]])[H.length]?=some (.list (strL (txl [.put (cell ns 4 % (p:Int)),.put (cell ns 5 % (p:Int))]))):=yaf;haveI l1:(H++[MO.list [MV.str (lnT (linS 0 (.put (cell ns 4 % (p:Int))))),MV.str (lnT (linS 1 (.put (cell ns 5 % (p:Int)))))]]).length=H.length+1:=by exact length_append ..
 haveI T1:=T.ext E1;haveI hl:=T.l;change TB cx _ _ (H++[MO.list [MV.str (lnT (linS 0 (.put (cell ns 4 % (p:Int))))),MV.str (lnT (linS 1 (.put (cell ns 5 % (p:Int)))))]]) _;generalize H++[MO.list [MV.str (lnT (linS 0 (.put (cell ns 4 % (p:Int))))),MV.str (lnT (linS 1 (.put (cell ns 5 % (p:Int)))))]]=H1 at E1 f1 l1 T1 ⊢;refine TB.cons (TS.assign ok hfm rfl (TE.list (TEs.nil ⟨Nat.zero_le _,?_⟩)));haveI E2:=(Ext.refl H1).app [MO.list []];refine ysp ok hfm hint hS K (aL:=H.length) (aS:=H1.length) (ss:=[.put (cell ns 4 % (p:Int)),.put (cell ns 5 % (p:Int))]) ⟨T1.ext E2,E2 _ _ f1,⟨[],yaf,rfl,fun u r j x y e=>by exact no e⟩,?_,hl,by exact yqe hl l1,by lia⟩ rfl;intro j s e
 match j,e with
 | 0,e=>(replace e:=si e;subst e);exact h4
 | 1,e=>(replace e:=si e;subst e);exact h5
 | j+2,e=>exact no e
end
theorem law21 {G:Gx} {cx:Cx} {sa:Addr} {ns:List Int} (ok:Ok G cx 200) (hfm:cx.fm=none) (hint:interactive cx.env=false) (K:K21 G sa ns):TB cx (start k21_law_nm [.glob sa]) k21_law [] (fun fl _ _=>retv fl=.bool true):=by
 haveI bs:=K.bs;haveI LK:=K.law;haveI SK:=K.src;obtain ⟨_,_,PL⟩:=K.pl;show TB cx [some (.glob sa),none,none,none,none,none,none,none,none,none,none,none,none,none] k21_law [] _;unfold k21_law;obtain ⟨p,hp,ep⟩:∃P:Nat,(P=11\/P=101)/\([11,101]:List Int).getD (cell ns 0 % 2).toNat 0=P:=by
   haveI:cell ns 0 % 2=0\/cell ns 0 % 2=1:=by lia
   rcases this with e | e <;> rw [e]
   . exact ⟨11,.inl rfl,rfl⟩
   . exact ⟨101,.inr rfl,rfl⟩
 obtain ⟨t,et,ht⟩:∃t:Nat,1+cell ns 1 % 2=(t:Int)/\(t=1\/t=2):=⟨(1+cell ns 1 % 2).toNat,by lia,by lia⟩;obtain ⟨c,ec,hc⟩:∃c:Nat,2*(t:Int) - 1+cell ns 2 % 2=(c:Int)/\(c+1=2*t\/c=2*t):=⟨(2*(t:Int) - 1+cell ns 2 % 2).toNat,by lia,by lia⟩;haveI hS:Shp p t c:=⟨hp,by lia⟩;haveI hpp:isP p:=by
   rcases hp with rfl | rfl
   . exact yq4
   . exact ynu
 haveI b:=hS.b;refine TB.cons (TS.assign ok hfm rfl (TE.field ok (by decide) PL.F (TE.sq (TE.list (TEs.cons (TE.int (TEs.cons (TE.int (TEs.nil ⟨zlb rfl,TE.op ok (TE.cell ok (by decide) LK rfl (TE.int ⟨0,.mk (by decide),TE.int ⟨_,BinI.modP (by decide),_,Sq.listI (ns:=[11,101]) rfl (by decide) (by exact ywm) (by show _<(2:Int);exact ywb),p,congrArg MV.int ep,hpp,by exact yi1 b,?_⟩⟩))⟩)))))))));refine TB.cons (TS.assign ok hfm rfl (TE.op ok (TE.int (TE.op ok (TE.cell ok (by decide) LK rfl (TE.int ⟨1,.mk (by decide),TE.int ⟨_,BinI.modP (by decide),_,BinI.add,?_⟩⟩))))));show TB cx [some (.glob sa),some (.ref 2),some (.int (1+cell ns 1 % 2)),none,none,none,none,none,none,none,none,none,none,none] _ [.list [.int 11,.int 101],.ns [("prime",.int p)],.inst yaj 1] _;rw [et];refine TB.cons (TS.assign ok hfm rfl (TE.new (d:=120) (ok.le (by decide)) (K.tb.cl "Table" yaa ybu (ya6 (by kernel_rfl))) (TEs.cons (TE.loc ok rfl (TEs.cons (TE.loc ok rfl (TEs.cons (TE.op ok (TE.op ok (TE.op ok (TE.int (TE.loc ok rfl ⟨_,BinI.mul (mulL (by decide) (by decide)),TE.int ⟨_,BinI.sub,TE.op ok (TE.cell ok (by decide) LK rfl (TE.int ⟨2,.mk (by decide),TE.int ⟨_,BinI.modP (by decide),_,BinI.add,?_⟩⟩))⟩⟩))))))))))));show TEs cx _ _ _ _;rw [show 2*(t:Int) - 1+cell ns (Int.toNat 2) % 2=(c:Int) from ec];refine TEs.cons (TE.source ok (by decide) SK (TE.op ok (TE.cell ok (by decide) LK rfl (TE.int ⟨3,.mk (by decide),TE.op ok (TE.int (TE.int ⟨_,BinI.pow (by decide) (by decide) (by decide),_,BinI.modP (by decide),_,rfl,?_,?_,TEs.nil ?_⟩))⟩))))
 . exact Int.emod_nonneg _ (by decide)
 . exact Int.le_trans (Int.le_of_lt (Int.emod_lt_of_pos _ (by decide))) (by decide)
 show CL G cx.prog cx.w 120 ybu [.ref 6,.ref 2,.int (t:Nat),.int (c:Nat),.ref 4] (hI p _ 0) _ _;refine (yu8 hS K).useE (Nat.le_refl _) ?_;refine ⟨rfl,?_⟩;show TB cx [some (.glob sa),some (.ref 2),some (.int (t:Nat)),some (.ref 6),none,none,none,none,none,none,none,none,none,none] _ _ _;refine ysv (st:=cell ns (Int.toNat 3) % 10 ^ Int.toNat 9 % 2147483648) (n:=0) ok hfm hint hS K ⟨?_,?_,fun a ha=>by cases ha⟩
 . exact take_of_length_le (by show (hP _ _ _ _ _ _++[_]).length<=_;rw [length_append,ya8];simp;exact yvw)
 . show _<=(hP _ _ _ _ _ _++[_]).length;rw [length_append,ya8];simp;exact yvu
theorem len1 {α:Type} {n:Nat} {P:List α->Prop} (h:∀a l,l.length=n->P (a :: l)):∀l:List α,l.length=n+1->P l:=by
 intro l hl;cases l with
 | nil=>cases hl
 | cons a r=>exact h a r (Nat.succ.inj hl)
noncomputable def yg5 (h:Heap) (l:List Nat):Frag:=l.filterMap fun a=>(h.get? a).map fun o=>(a,o)
theorem ypq {h:Heap} {l:List Nat}:(yg5 h l).In h:=by
 intro a o;unfold yg5
 induction l with
 | nil=>exact fun e=>no e
 | cons b r ih=>
   intro e;rw [List.filterMap_cons] at e;cases hb:h.get? b with
   | none=>rw [hb] at e;exact ih e
   | some o'=>
     rw [hb] at e;dsimp only [Option.map] at e;rw [show ∀l:Frag,List.lookup a ((b,o') :: l)=match a==b with | true=>some o' | false=>List.lookup a l from fun _=>rfl] at e;cases q:a==b with
     | true=>rw [q] at e;rw [beq_iff_eq.mp q];exact hb.trans e
     | false=>rw [q] at e;exact ih e
noncomputable def tbX:Tb:={ tb21 with
 fn:=List.append tb21.fn [(("whole":Str),(62:Addr)),("steps_of",434),("plain",448),("run",441),("_number_of",455)]
 df:=List.append tb21.df [(62,⟨["text"],yc4,ydq,[]⟩),(434,⟨["text"],ybz,yce,[]⟩),(448,⟨["prime","text"],yc1,ydp,[]⟩),(441,⟨["table","text"],ydu,yfp,[]⟩),(455,⟨["numbers","name"],ybg,ybj,[]⟩)] }
noncomputable def dIn (b:List Stmt) (n:Str):List Stmt:=(theDefIn b n).elim [] (·.2.1)
noncomputable def cIn (n:Str):List Stmt:=(theClassW PySem.Challenge.pw_ui0506_21 n).elim [] (·.2.1)
noncomputable def dBs:List (Nat×List Stmt):=tbX.fn.map (fun q=>(q.2,dIn PySem.Challenge.pw_ui0506_21.main.body q.1))++tbX.cl.map (fun q=>(q.2.2,dIn (cIn q.1) "__init__"))++tbX.mt.map (fun q=>(q.2.2,dIn (cIn ((tbX.cl.find? fun c=>Nat.beq c.2.1 q.1).elim "" (·.1))) q.2.1))
noncomputable def adX:List Nat:=[3,142,141,295,294,418,417,484,483,328,327,31,30,225,233]++dBs.map (·.1)++dBs.map (·.1 - 1)
theorem reOk:tbX.df.map (fun p=>some (reSs p.2.b p.2.nm ((lkN dBs p.1).getD [])))=(tbX.df.map (·.1)).map (lkN dBs):=by kernel_rfl
noncomputable def trN:List Str:=["self","kind","prime","needed","places","dealers"]
noncomputable def bsN:List Str:=["len","max","min","sum","list","range","reversed","type","int","str"]
noncomputable def ckb (K:Frag):Bool:=tbk K tbX && tbX.df.tail.all (fun p=>defb K p.1 p.2.names p.2.nm p.2.b && p.2.dm.isEmpty) && defd K 240 trN yar ya9 && bsN.all (frek K)
inductive CkK (K:Frag):Prop
 | mk (b:ckb K=true) (d:(dBs.map fun q=>yca K q.1)=dBs.map (·.2)) (t:∀S v1 v2 v3 v4 v5,yg4 K 240 S [v1,v2,v3,v4,v5]=some (trN.zip [v1,v2,v3,v4,v5,.none]))
noncomputable def obs (s:Shared):Bool×List (List Stmt)×(Setting->Value->Value->Value->Value->Value->Option (List (Str×Value))):=
 (ckb (yg5 s.heap adX),dBs.map fun q=>yca (yg5 s.heap adX) q.1,fun S v1 v2 v3 v4 v5=>yg4 (yg5 s.heap adX) 240 S [v1,v2,v3,v4,v5])
noncomputable def val:Bool×List (List Stmt)×(Setting->Value->Value->Value->Value->Value->Option (List (Str×Value))):=
 (true,dBs.map (·.2),fun S v1 v2 v3 v4 v5=>some (trN.zip [v1,v2,v3,v4,v5,.none]))
inductive Says (h:Heap):Prop
 | mk (K:Frag) (i:K.In h) (c:CkK K)
theorem says_of {s:Shared} (e:obs s=val):Says s.heap:=⟨_,ypq,congrArg (·.1) e,congrArg (·.2.1) e,fun S v1 v2 v3 v4 v5=>congrArg (fun x=>x.2.2 S v1 v2 v3 v4 v5) e⟩
theorem Says.keeps {h h':Heap} (x:Says h) (k:∀b o,h.get? b=some o->h'.get? b=some o):Says h':=by
 cases x with
 | mk K i c=>exact ⟨K,i.keeps k,c⟩
section
variable {G:Gx} (h:CkK G.K)
include h
theorem c_re {f:Addr} {D:Df} (m:(f,D) ∈ tbX.df):reSs D.b D.nm (yca G.K f)=yca G.K f:=by
 cases h with
 | mk b d t=>
   have e:=reOk;rw [map_map] at e;have e:=List.map_inj_left.mp e _ m;dsimp only [Function.comp] at e;cases hb:lkN dBs f with
   | none=>rw [hb] at e;exact ns e
   | some b=>
     rw [hb] at e;have e:=si e;rw [show yca G.K f=b from List.map_inj_left.mp d _ (ycu hb)];exact e
theorem c_b:tbk G.K tbX=true/\tbX.df.tail.all (fun p=>defb G.K p.1 p.2.names p.2.nm p.2.b && p.2.dm.isEmpty)=true/\defd G.K 240 trN yar ya9=true/\bsN.all (frek G.K)=true:=by
 cases h with
 | mk b d t=>
   have h1:=zba b;have h2:=zba h1.1;have h3:=zba h2.1;exact ⟨h3.1,h3.2,h2.2,h1.2⟩
theorem c_tr:GDef G 240 trN yar ya9 [MV.none]:=by
 refine GDef.ofD (dv:=[.none]) (c_b h).2.2.1 (c_re h (D:=⟨_,yar,ya9,[MV.none]⟩) (.head _)) ⟨.none,[],rfl,rfl,rfl⟩ ?_;intro S vs hl;replace hl:vs.length=5:=Nat.succ.inj hl;cases h with
 | mk b d t=>
   revert hl
   revert vs
   refine len1 fun v1=>len1 fun v2=>len1 fun v3=>len1 fun v4=>len1 fun v5 r hr=>?_;rw [List.length_eq_zero_iff.mp hr];exact t S v1 v2 v3 v4 v5
theorem c_df {f:Addr} {D:Df} (m:(f,D) ∈ tbX.df):GDef G f D.names D.nm D.b D.dm:=by
 rcases zmc (show (f,D) ∈ _ :: tbX.df.tail from m) with e | q
 . cases e;exact c_tr h
 . have:=zba (all_eq_true.mp (c_b h).2.1 _ q);rw [show D.dm=[] from isEmpty_iff.mp this.2];exact GDef.of this.1 (c_re h m)
theorem c_tb:TbOk G tbX:=TbOk.ofD (c_b h).1 fun f D m=>c_df h m
theorem c_bs:Bs G:=by
 have e:=(c_b h).2.2.2;have k:=fun x m=>frek.out (all_eq_true.mp e x m);exact ⟨k _ (.head _),k _ (.tail _ (.head _)),k _ (.tail _ (.tail _ (.head _))),k _ (.tail _ (.tail _ (.tail _ (.head _)))),k _ (.tail _ (.tail _ (.tail _ (.tail _ (.head _))))),k _ (.tail _ (.tail _ (.tail _ (.tail _ (.tail _ (.head _)))))),k _ (.tail _ (.tail _ (.tail _ (.tail _ (.tail _ (.tail _ (.head _))))))),k _ (.tail _ (.tail _ (.tail _ (.tail _ (.tail _ (.tail _ (.tail _ (.head _)))))))),k _ (.tail _ (.tail _ (.tail _ (.tail _ (.tail _ (.tail _ (.tail _ (.tail _ (.head _))))))))),k _ (.tail _ (.tail _ (.tail _ (.tail _ (.tail _ (.tail _ (.tail _ (.tail _ (.tail _ (.head _))))))))))⟩
end
theorem wsaid:(PySem.Challenge.rw_ui0506_21).wellSaid=true:=by kernel_rfl
noncomputable def qv:Program:=view PySem.Challenge.pw_ui0506_21 [0,2,3,4,5,6,7,8,10,11,12,13,14,15,16,17,18,20,21,22,23,24,25,26,28,29,30,31,33,34,35,36,37,38,39,41,43,44]
noncomputable def qlo:List PySem.Str:=["GREATEST","KINDS"]
noncomputable def qlv:List (PySem.Str×WData):=[("GREATEST",.int 1048576)]
set_option hygiene false in
local macro_rules | `(tactic| k_head)=>`(tactic| (
 refine PySem.W.holds_open (q:=Mine.qv) (loose:=Mine.qlo) (Xt:=fun s=>xlAt Mine.qv Mine.qlv s && recOk [] s) (XP:=XL Mine.qv Mine.qlv) (Yf:=Mine.obs) (Ya:=fun _=>Mine.val) (YP:=fun _ h=>Mine.Says h) (N:=6518) ?hl (fun _ _ e=>Mine.says_of e) (fun _ _ _ x k=>x.keeps k) (fun s e=>xl_of s (zba e).1) XL.keeps (by rfl) (by rfl) (by rfl) (fun s e=>recFacts_of (zba e).2) (by rfl) (by first | assumption | decide +kernel) (by decide +kernel) ⟨rfl,rfl,rfl,rfl,rfl,by decide +kernel⟩ ?hw ?hc
 (case hl=>(refine Mine.left_quick ?_;intro w;kernel_rfl))))
set_option hygiene false in
local macro_rules | `(tactic| o_law)=>`(tactic| refine PySem.W.holds_law Mine.wsaid fun said=>?_)
open_top hd for PySem.Challenge.rw_ui0506_21
noncomputable def scrEx (a:Addr) (ns:List Int):Heap->Prop:=fun h=>∃vs:List Value,h.IsList a vs.toArray/\IntsAre vs ns/\ns.length<=63
section
variable {G:Gx} (h:CkK G.K)
include h
theorem z_f {g:Str} {f:Addr} (D:Df) (h1:lkS tbX.fn g=some f) (h2:lkN tbX.df f=some D):GFn G g f/\GDef G f D.names D.nm D.b D.dm:=⟨(c_tb h).fn g f (ya6 h1),(c_tb h).df f D (ycu h2)⟩
theorem yhe:GFn G "need_number" 48/\GDef G 48 ["value","least","most","what"] yal yao []:=z_f h ⟨["value","least","most","what"],yal,yao,[]⟩ (by kernel_rfl) (by kernel_rfl)
theorem ykh:GFn G "is_prime" 69/\GDef G 69 ["n"] yby ycg []:=z_f h ⟨["n"],yby,ycg,[]⟩ (by kernel_rfl) (by kernel_rfl)
theorem yip:GFn G "need_name" 55/\GDef G 55 ["text"] ybf ybn []:=z_f h ⟨["text"],ybf,ybn,[]⟩ (by kernel_rfl) (by kernel_rfl)
theorem yih:GFn G "whole" 62/\GDef G 62 ["text"] yc4 ydq []:=z_f h ⟨["text"],yc4,ydq,[]⟩ (by kernel_rfl) (by kernel_rfl)
theorem yfa:GFn G "steps_of" 434/\GDef G 434 ["text"] ybz yce []:=z_f h ⟨["text"],ybz,yce,[]⟩ (by kernel_rfl) (by kernel_rfl)
theorem yik:GFn G "_number_of" 455/\GDef G 455 ["numbers","name"] ybg ybj []:=z_f h ⟨["numbers","name"],ybg,ybj,[]⟩ (by kernel_rfl) (by kernel_rfl)
theorem ync:GFn G "plain" 448/\GDef G 448 ["prime","text"] yc1 ydp []:=z_f h ⟨["prime","text"],yc1,ydp,[]⟩ (by kernel_rfl) (by kernel_rfl)
theorem yto:GFn G "run" 441/\GDef G 441 ["table","text"] ydu yfp []:=z_f h ⟨["table","text"],ydu,yfp,[]⟩ (by kernel_rfl) (by kernel_rfl)
theorem z_d {f:Addr} (D:Df) (h2:lkN tbX.df f=some D):GDef G f D.names D.nm D.b D.dm:=(c_tb h).df f D (ycu h2)
theorem yso:FieldK G 142:=by
 obtain ⟨v,e,t,q⟩:=(c_tb h).vl "GREATEST" (.int 1048576) (ya6 (by kernel_rfl));subst q;exact ⟨⟨83,(c_tb h).cl _ _ _ (.head _),z_d h ⟨["self","prime"],yb1,yb9,[]⟩ (by kernel_rfl)⟩,⟨_,yhe h⟩,⟨_,ykh h⟩,((c_tb h).att _ _ (.head _)).1,((c_tb h).att _ _ (.head _)).2,⟨t,e⟩,c_bs h⟩
theorem z_pl:PlK G 142 434 62:=by
 have gd:=(c_tb h).vl "DIGITS" (.str DIGS) (ya6 (by kernel_rfl));have ge:=gd;obtain ⟨v,e,t,q⟩:=ge;obtain ⟨v',e',t',q'⟩:=(c_tb h).vl "LETTERS" (.str LETS) (ya6 (by kernel_rfl));subst q q';exact ⟨yso h,⟨c_bs h,⟨_,e'⟩,⟨_,e⟩,⟨_,yip h⟩⟩,⟨c_bs h,(yih h).1,(yih h).2,gd⟩,(yfa h).1,(yfa h).2,⟨90,(c_tb h).mt _ _ _ (.head _),z_d h ⟨["self","a"],yb3,yb8,[]⟩ (by kernel_rfl)⟩,⟨_,yik h⟩⟩
theorem z_tb:TbOk G tb21:=
 let T:=c_tb h
 ⟨fun g f q=>T.fn g f (mem_append_left _ q),fun f D q=>T.df f D (mem_append_left _ q),T.cl,T.mt,T.att,T.xc,T.vl,T.bi,T.ty,T.rg,T.tp,T.gl⟩
theorem z_K {sa:Addr} {ns:List Int} (e:G.ex=scrEx sa ns):K21 G sa ns:=⟨z_tb h,c_bs h,fun h x=>by rw [e] at x;exact x,⟨_,_,z_pl h⟩,⟨_,ync h⟩,⟨_,yto h⟩⟩
end
end Mine
theorem PySem.Challenge.cw_ui0506_21_holds : PySem.Challenge.rw_ui0506_21.Holds := by
  refine _root_.Mine.hd ?_
  intro w s₀ s₁ mg mb G Y fa o pm cd doc dV kV ho hd hcd hD hmg hg args vals as hpre hlay hrd hwl hlo
  obtain ⟨K, KX, KC⟩ := Y
  refine Ground.open G ?_
  intro T B D TE TW
  wrow_args hpre hlay hrd hwl hlo
  refine enter_call ?_
  have e0 := hD.none rfl
  subst e0
  refine Mine.law_entry 200 (by decide) (G := ⟨K, _, _, _, mg, mb, Mine.scrEx _ _⟩) (x := "script") (nm := Mine.k21_law_nm) (k := Mine.k21_law) KX ⟨_, by assumption, by assumption, by omega⟩ T ho hd hcd rfl rfl rfl rfl ?_ ?_ ?_ ?_ ?_ ?_
  · exact BindsTo.of_eq (Mine.bind_plain rfl rfl (show List.Nodup [("script" : Str)] by simp) rfl)
  · kernel_rfl
  · kernel_rfl
  · kernel_rfl
  · intro c e1 e2 e3 ok hfm hint hnm hX
    exact Mine.law21 ok hfm hint (Mine.z_K KC rfl)
  · intro L m h' tk F
    exact GoodW.toG (goodW_bool F hg (fun cls => rfl) (postW_of rfl rfl (by simp [W.same])))
