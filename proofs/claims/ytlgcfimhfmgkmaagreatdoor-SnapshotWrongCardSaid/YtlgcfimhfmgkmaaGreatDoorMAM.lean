/- Lemmas for the statement. -/
import Derived.OrdersHeld
import Derived.OrdersIn
import Derived.TacticsIn
import Derived.RegionTactic
import Derived.Test.YtlgcfimhfmgkmaaGreatDoorMAL
set_option linter.unusedVariables false
set_option linter.unusedSimpArgs false
set_option maxRecDepth 100000
set_option maxHeartbeats 4000000
namespace Go.Proofs.YtlgcfimhfmgkmaaGreatDoor
open Go.RowKit
section
open Go
section
variable {P:Program} {ops:Array Oper} {Q:Exit→Act→World→Prop} {md:Region.Mode} {C:World→Prop} {c:Nat}
def Gs (C:World→Prop) (c:Nat) (L:Array Bool) (w:World):Prop:=L.getD c false=true∨C w
def Zz (P:Program) (md:Region.Mode) (ops:Array Oper) (Q:Exit→Act→World→Prop) (C:World→Prop) (c:Nat):Nat→Array Bool→Act→World→Prop
 | 0,listed,a,w=>Region.ready md ops listed=[]∧Q .normal a w
 | fuel+1,listed,a,w=>
  (Region.ready md ops listed=[]→Q .normal a w) ∧
  ∀ i∈Region.ready md ops listed,wpOp P ops Q i (fun a' w'=>Gs C c (listed.setIfInBounds i true) w'∧Zz P md ops Q C c fuel (listed.setIfInBounds i true) a' w') a w
theorem Zg5:∀ (fuel:Nat) (listed:Array Bool) (a:Act) (w:World),Zz P md ops Q C c fuel listed a w→wpAny P md ops Q fuel listed a w
 | 0,_,_,_,h=>h
 | fuel+1,_,_,_,h=>⟨h.1,fun i hi=>wpOp_mono (fun a' w' h'=>Zg5 fuel _ a' w' h'.2) (h.2 i hi)⟩
def Closed (md:Region.Mode) (ops:Array Oper) (L:Array Bool):Prop:=
 ∀ j oj,ops[j]?=some oj→L.getD j false=true→∀ e∈oj.after,Region.binds md e=true→L.getD e.on false=true
def Zc2 (md:Region.Mode) (ops:Array Oper) (L:Array Bool):Bool:=
 (List.range ops.size).all fun j=>!L.getD j false || match ops[j]? with
  | some o=>o.after.all fun e=>!Region.binds md e || L.getD e.on false
  | none=>true
theorem Zg6 {L:Array Bool} (h:Zc2 md ops L=true):Closed md ops L:=by
 intro j oj hj hl e he hb
 have h1:=List.all_eq_true.1 h j (List.mem_range.2 (Array.getElem?_eq_some_iff.1 hj).1)
 rw [hl,hj] at h1
 simp only [Bool.not_true,Bool.false_or] at h1
 have h2:=Array.all_eq_true_iff_forall_mem.1 h1 e he
 rw [hb] at h2
 simpa using h2
def JG (md:Region.Mode) (ops:Array Oper):Nat→Nat→Nat→Bool
 | 0,k,i=>k==i
 | n+1,k,i=>k==i || match ops[k]? with
  | some o=>o.after.any fun e=>Region.binds md e&&JG md ops n e.on i
  | none=>false
theorem Zeu {L:Array Bool} {i:Nat} (hc:Closed md ops L):∀ (n k:Nat),JG md ops n k i=true→L.getD k false=true→L.getD i false=true
 | 0,k,h,hl=>by
  have:k=i:=by simpa [JG] using h
  subst this;exact hl
 | n+1,k,h,hl=>by
  unfold JG at h
  rw [Bool.or_eq_true] at h
  rcases h with h | h
  ·have:k=i:=by simpa using h
   subst this;exact hl
  ·rcases ho:ops[k]? with _ | o
   ·rw [ho] at h;cases h
   ·rw [ho] at h
    obtain ⟨e,he,hb⟩:=Array.any_eq_true'.1 h
    rw [Bool.and_eq_true] at hb
    exact Zeu hc n e.on hb.2 (hc k o ho hl e he hb.1)
theorem Zbr {listed:Array Bool} {i:Nat} (h:listed.getD i true=false):listed.getD i false=false:=by
 rcases Nat.lt_or_ge i listed.size with h' | h'
 ·simp [h'] at h ⊢;exact h
 ·simp [Array.getElem?_eq_none h'] at h
theorem Closed.set {i:Nat} {L:Array Bool} (h:Closed md ops L) (hi:i∈Region.ready md ops L):Closed md ops (L.setIfInBounds i true):=by
 obtain ⟨_,oi,hoi,hall⟩:=mem_ready.1 hi
 intro j oj hj hl e he hb
 by_cases hij:i=j
 ·subst hij
  have:oj=oi:=Option.some.inj (hj.symm.trans hoi)
  subst this
  exact getD_set_true (hall e he hb)
 ·rw [getD_set_ne false hij] at hl
  exact getD_set_true (h j oj hj hl e he hb)
theorem Tq81 {p:Prop} (h:p:=by
 refine ⟨hS',ih (listed.setIfInBounds j true) a' w' (hcl.set hj) hfree' (ready_mono hr (Ne.symm hji)) h3.1 hS' ?_⟩
 rw [Array.setIfInBounds_comm _ _ hji]
 exact h3.2.2):p:=h
theorem Tq58 {p:Prop} (h:p:=by
 have h1:=hall e he hb
 have h0:=(mem_ready.1 hr).1
 rw [heq,Zbr h0] at h1
 cases h1):p:=h
theorem Tq36 {p:Prop} (h:p:=by
 rcases h3.2.1 with h | h
 ·rw [Array.setIfInBounds_comm _ _ (Ne.symm hji),getD_set_ne false (Ne.symm hci)] at h
  exact Or.inl h
 ·exact Or.inr h):p:=h
theorem ZmS {i:Nat} {oi:Oper} {v:Value} (hi:ops[i]?=some oi) (hsel:∀ (j:Nat) (o:Oper) cs b,ops[j]?=some o→o.op≠.select cs b)
  (hQ:∀ c a w,Q (.panic c) (a.put oi.dst v) w→Q (.panic c) a w) (n:Nat) (hre:JG md ops n c i=true) (hci:c≠i) :
  ∀ (fuel:Nat) (listed:Array Bool) (a:Act) (w:World),Closed md ops listed →
   (∀ j oj,ops[j]?=some oj→j≠i→listed.getD j true=false→(∀ e∈oj.after,Region.binds md e=true→e.on≠i)→oi.apart ops oj=true) →
   i∈Region.ready md ops listed→YieldsIf P ops C oi v a→Gs C c listed w →
   Zz P md ops Q C c fuel (listed.setIfInBounds i true) (a.put oi.dst v) w→Zz P md ops Q C c (fuel+1) listed a w:=by
 have look:∀ (listed:Array Bool) (w:World),Closed md ops listed→i∈Region.ready md ops listed→Gs C c listed w→C w:=fun listed w hcl hr hS=>by
  rcases hS with h | h
  ·have h1:=Zeu hcl n c hre h
   rw [Zbr (mem_ready.1 hr).1] at h1
   cases h1
  ·exact h
 intro fuel
 induction fuel with
 | zero=>
  intro listed a w hcl _ hr hy hS H
  refine ⟨fun h=>(by rw [h] at hr;cases hr),fun j hj=>?_⟩
  by_cases hji:j=i
  ·subst hji;exact hy.wpOp hi (look _ _ hcl hr hS) ⟨Or.inr (look _ _ hcl hr hS),H⟩
  ·have:=ready_mono hj hji
   rw [H.1] at this
   cases this
 | succ fuel ih=>
  intro listed a w hcl hfree hr hy hS H
  refine ⟨fun h=>(by rw [h] at hr;cases hr),fun j hj=>?_⟩
  by_cases hji:j=i
  ·subst hji;exact hy.wpOp hi (look _ _ hcl hr hS) ⟨Or.inr (look _ _ hcl hr hS),H⟩
  ·have h1:=H.2 j (ready_mono hj hji)
   obtain ⟨hjun,oj,hoj,hall⟩:=mem_ready.1 hj
   have hnot:∀ e∈oj.after,Region.binds md e=true→e.on≠i:=fun e he hb heq=>by
    exact Tq58
   have h2:=wpOp_putIf hoj (hfree j oj hoj hji hjun hnot) (fun cs b=>hsel i oi cs b hi) (fun cs b=>hsel j oj cs b hoj) hQ hy h1
   have hfree':∀ k ok,ops[k]?=some ok→k≠i→(listed.setIfInBounds j true).getD k true=false →
     (∀ e∈ok.after,Region.binds md e=true→e.on≠i)→oi.apart ops ok=true:=fun k ok hk hki hun hno=>by
    refine hfree k ok hk hki ?_ hno
    by_cases hjk:j=k
    ·subst hjk;exact hjun
    ·rw [getD_set_ne true hjk] at hun;exact hun
   refine wpOp_mono (fun a' w' h3=>?_) h2
   have hS':Gs C c (listed.setIfInBounds j true) w':=by
    exact Tq36
   exact Tq81
theorem Tq82 {p:Prop} (h:p:=by
 refine ⟨hS',ih (listed.setIfInBounds j true) a' w' hfree' (ready_mono hr (Ne.symm hji)) h3.1 hS' ?_⟩
 rw [Array.setIfInBounds_comm _ _ hji]
 exact h3.2.2):p:=h
theorem ZmT {i:Nat} {oi:Oper} {v:Value} (hi:ops[i]?=some oi) (hsel:∀ (j:Nat) (o:Oper) cs b,ops[j]?=some o→o.op≠.select cs b)
  (hQ:∀ c a w,Q (.panic c) (a.put oi.dst v) w→Q (.panic c) a w) (hci:c≠i) :
  ∀ (fuel:Nat) (listed:Array Bool) (a:Act) (w:World),
   (∀ j oj,ops[j]?=some oj→j≠i→listed.getD j true=false→(∀ e∈oj.after,Region.binds md e=true→e.on≠i)→oi.apart ops oj=true) →
   i∈Region.ready md ops listed→YieldsIf P ops (fun _=>True) oi v a→Gs C c listed w →
   Zz P md ops Q C c fuel (listed.setIfInBounds i true) (a.put oi.dst v) w→Zz P md ops Q C c (fuel+1) listed a w:=by
 have up:∀ (listed:Array Bool) (w:World),Gs C c listed w→Gs C c (listed.setIfInBounds i true) w:=fun listed w h=>h.imp getD_set_true id
 intro fuel
 induction fuel with
 | zero=>
  intro listed a w _ hr hy hS H
  refine ⟨fun h=>(by rw [h] at hr;cases hr),fun j hj=>?_⟩
  by_cases hji:j=i
  ·subst hji;exact hy.wpOp hi trivial ⟨up _ _ hS,H⟩
  ·have:=ready_mono hj hji
   rw [H.1] at this
   cases this
 | succ fuel ih=>
  intro listed a w hfree hr hy hS H
  refine ⟨fun h=>(by rw [h] at hr;cases hr),fun j hj=>?_⟩
  by_cases hji:j=i
  ·subst hji;exact hy.wpOp hi trivial ⟨up _ _ hS,H⟩
  ·have h1:=H.2 j (ready_mono hj hji)
   obtain ⟨hjun,oj,hoj,hall⟩:=mem_ready.1 hj
   have hnot:∀ e∈oj.after,Region.binds md e=true→e.on≠i:=fun e he hb heq=>by
    exact Tq58
   have h2:=wpOp_putIf hoj (hfree j oj hoj hji hjun hnot) (fun cs b=>hsel i oi cs b hi) (fun cs b=>hsel j oj cs b hoj) hQ hy h1
   have hfree':∀ k ok,ops[k]?=some ok→k≠i→(listed.setIfInBounds j true).getD k true=false →
     (∀ e∈ok.after,Region.binds md e=true→e.on≠i)→oi.apart ops ok=true:=fun k ok hk hki hun hno=>by
    refine hfree k ok hk hki ?_ hno
    by_cases hjk:j=k
    ·subst hjk;exact hjun
    ·rw [getD_set_ne true hjk] at hun;exact hun
   refine wpOp_mono (fun a' w' h3=>?_) h2
   have hS':Gs C c (listed.setIfInBounds j true) w':=by
    exact Tq36
   exact Tq82
theorem Zb6 {i:Nat} {oi:Oper} {v:Value} {fuel:Nat} {listed:Array Bool} {a:Act} {w:World} (n:Nat) (hi:ops[i]?=some oi)
  (hs:Region.noSelect ops=true) (hf:Region.free md ops listed i=true) (hr:(Region.ready md ops listed).contains i=true) (hcl:Zc2 md ops listed=true) (hre:JG md ops n c i=true) (hci:(c != i)=true)
  (hQ:∀ c a w,Q (.panic c) (a.put oi.dst v) w→Q (.panic c) a w) (hy:YieldsIf P ops C oi v a) (hS:C w)
  (h:Zz P md ops Q C c fuel (listed.setIfInBounds i true) (a.put oi.dst v) w):Zz P md ops Q C c (fuel+1) listed a w:=
 ZmS hi (Region.noSelect_spec hs) hQ n hre (by simpa using hci) fuel listed a w (Zg6 hcl) (Region.free_spec hi hf) (by simpa using hr) hy (Or.inr hS) h
theorem Yy {id:Nat} {a:Act} {w:World} (C:World→Prop) (c:Nat) (hm:P.follows .mixedOrders=true)
  (h:Zz P .any ops Q C c ops.size (Array.replicate ops.size false) a { w with drawn:=w.drawn+1 }):(Code.region id ops true).wp P Q a w:=
 wp_region_any hm (Zg5 _ _ _ _ h)
theorem Zc3 {i:Nat} {oi:Oper} {v:Value} {fuel:Nat} {listed:Array Bool} {a:Act} {w:World} (hi:ops[i]?=some oi)
  (hs:Region.noSelect ops=true) (hf:Region.free md ops listed i=true) (hr:(Region.ready md ops listed).contains i=true) (hci:(c != i)=true)
  (hQ:∀ c a w,Q (.panic c) (a.put oi.dst v) w→Q (.panic c) a w) (hy:YieldsIf P ops (fun _=>True) oi v a) (hS:Gs C c listed w)
  (h:Zz P md ops Q C c fuel (listed.setIfInBounds i true) (a.put oi.dst v) w):Zz P md ops Q C c (fuel+1) listed a w:=
 ZmT hi (Region.noSelect_spec hs) hQ (by simpa using hci) fuel listed a w (Region.free_spec hi hf) (by simpa using hr) hy hS h
theorem ZmU {j:Nat} {fuel:Nat} {listed:Array Bool} {a:Act} {w:World} (hr:Region.ready md ops listed=[j])
  (h:wpOp P ops Q j (fun a' w'=>Gs C c (listed.setIfInBounds j true) w'∧Zz P md ops Q C c fuel (listed.setIfInBounds j true) a' w') a w):Zz P md ops Q C c (fuel+1) listed a w:=by
 refine ⟨fun h0=>(by rw [hr] at h0;cases h0),fun i hi=>?_⟩
 have:i=j:=by rw [hr] at hi;simpa using hi
 subst this
 exact h
theorem tkp (i:Nat) {oi:Oper} {v:Value} {fuel:Nat} {listed:Array Bool} {a:Act} {w:World} (hi:ops[i]?=some oi) (hS:Gs C c listed w) (h:Zz P md ops Q C c fuel (listed.setIfInBounds i true) (a.put oi.dst v) w)
  (hs:Region.noSelect ops=true:=by kernel_rfl) (hf:Region.free md ops listed i=true:=by kernel_rfl) (hr:(Region.ready md ops listed).contains i=true:=by kernel_rfl) (hci:(c != i)=true:=by decide)
  (hQ:∀ c a w,Q (.panic c) (a.put oi.dst v) w→Q (.panic c) a w:=by exact fun _ _ _ h=>h) (hw:Region.wanted oi (yielded ops a.tmps)=true:=by kernel_rfl)
  (hy:∀ W,True→(execOp a.eval oi).run P W=.ok (.value v) W:=by intro W hW;clear hW;go_simp;try with_reducible rfl):Zz P md ops Q C c (fuel+1) listed a w:=Zc3 hi hs hf hr hci hQ (Or.inl ⟨hw,hy⟩) hS h
theorem tkq (i:Nat) {oi:Oper} {v:Value} {fuel:Nat} {listed:Array Bool} {a:Act} {w:World} (hi:ops[i]?=some oi) (h:Zz P md ops Q C c fuel (listed.setIfInBounds i true) (a.put oi.dst v) w)
  (hs:Region.noSelect ops=true:=by kernel_rfl) (hf:Region.free md ops listed i=true:=by kernel_rfl) (hr:(Region.ready md ops listed).contains i=true:=by kernel_rfl) (hci:(c != i)=true:=by decide)
  (hQ:∀ c a w,Q (.panic c) (a.put oi.dst v) w→Q (.panic c) a w:=by exact fun _ _ _ h=>h) (hw:Region.wanted oi (yielded ops a.tmps)=true:=by kernel_rfl) (hS:listed.getD c false=true:=by kernel_rfl)
  (hy:∀ W,True→(execOp a.eval oi).run P W=.ok (.value v) W:=by intro W hW;clear hW;go_simp;try with_reducible rfl):Zz P md ops Q C c (fuel+1) listed a w:=Zc3 hi hs hf hr hci hQ (Or.inl ⟨hw,hy⟩) (Or.inl hS) h
theorem tkl (i:Nat) {oi:Oper} {v:Value} {fuel:Nat} {listed:Array Bool} {a:Act} {w:World} (hi:ops[i]?=some oi) (hS:C w) (hy:∀ W,C W→(execOp a.eval oi).run P W=.ok (.value v) W) (h:Zz P md ops Q C c fuel (listed.setIfInBounds i true) (a.put oi.dst v) w)
  (hs:Region.noSelect ops=true:=by kernel_rfl) (hf:Region.free md ops listed i=true:=by kernel_rfl) (hr:(Region.ready md ops listed).contains i=true:=by kernel_rfl) (hcl:Zc2 md ops listed=true:=by kernel_rfl) (hre:JG md ops 60 c i=true:=by kernel_rfl) (hci:(c != i)=true:=by decide)
  (hQ:∀ c a w,Q (.panic c) (a.put oi.dst v) w→Q (.panic c) a w:=by exact fun _ _ _ h=>h) (hw:Region.wanted oi (yielded ops a.tmps)=true:=by kernel_rfl):Zz P md ops Q C c (fuel+1) listed a w:=Zb6 60 hi hs hf hr hcl hre hci hQ (Or.inl ⟨hw,hy⟩) hS h
theorem Zi (j:Nat) {o:Oper} {fuel:Nat} {listed:Array Bool} {a:Act} {w:World} (ho:ops[j]?=some o) (h:∀ K':Act→World→Prop,(∀ a' w',(Gs C c (listed.setIfInBounds j true) w'∧Zz P md ops Q C c fuel (listed.setIfInBounds j true) a' w')→K' a' w')→if Region.wanted o (yielded ops a.tmps)=true then Oper.wp P o a w K' Q else K' (a.put o.dst undef) w)
  (hr:Region.ready md ops listed=[j]:=by kernel_rfl):Zz P md ops Q C c (fuel+1) listed a w:=ZmU hr (wpOp_step ho h)
theorem ZX {listed:Array Bool} {a:Act} {w:World} (hr:Region.ready md ops listed=[]) (h:Q .normal a w):∀ fuel,Zz P md ops Q C c fuel listed a w
 | 0=>⟨hr,h⟩
 | _+1=>⟨fun _=>h,by rw [hr];simp⟩
end
section
variable {F:Fence} {n:Nat} {P:Program} {ops:Array Oper} {Q:Exit→Act→World→Prop} {md:Region.Mode} {C:World→Prop} {c:Nat}
def Zev (ops:Array Oper):Bool:=ops.all fun o=>match o.op with | .defer ..=>false | _=>true
theorem Zg7 (h:Zev ops=true) (j:Nat) (o:Oper) (cl:Call) (ho:ops[j]?=some o):o.op≠.defer cl:=by
 intro heq
 have:=Array.all_eq_true_iff_forall_mem.1 h o (Array.mem_of_getElem? ho)
 simp [heq] at this
def XY (F:Fence) (n:Nat) (P:Program) (md:Region.Mode) (ops:Array Oper) (Q:Exit→Act→World→Prop) (C:World→Prop) (c:Nat):Nat→Array Bool→Act→World→Prop
 | 0,listed,a,w=>Region.ready md ops listed=[]∧Q .normal a w
 | fuel+1,listed,a,w=>
  (Region.ready md ops listed=[]→Q .normal a w) ∧
  ∀ i∈Region.ready md ops listed,wpOpIn F n P ops Q i (fun a' w'=>Gs C c (listed.setIfInBounds i true) w'∧XY F n P md ops Q C c fuel (listed.setIfInBounds i true) a' w') a w
theorem Zg8:∀ (fuel:Nat) (listed:Array Bool) (a:Act) (w:World),XY F n P md ops Q C c fuel listed a w→wpAnyIn F n P md ops Q fuel listed a w
 | 0,_,_,_,h=>h
 | fuel+1,_,_,_,h=>⟨h.1,fun i hi=>wpOpIn_mono (fun a' w' h'=>Zg8 fuel _ a' w' h'.2) (h.2 i hi)⟩
def QO (P:Program) (ops:Array Oper) (C:World→Prop) (o:Oper) (v:Value) (a:Act):Prop:=YieldsIf P ops C o v a∧∀ w,o.about P w a.eval=none
theorem QO.wpOpIn {i:Nat} {o:Oper} {v:Value} {a:Act} (hnd:∀ cl,o.op≠.defer cl) (hi:ops[i]?=some o) (hy:QO P ops C o v a)
  {K:Act→World→Prop} {w:World} (hS:C w) (h:K (a.put o.dst v) w):wpOpIn F n P ops Q i K a w:=by
 unfold Go.wpOpIn
 simp only [hi]
 have hab:∀ f,o.about P w a.eval=some f→F.fn f:=fun f hf=>by rw [hy.2 w] at hf;cases hf
 rcases hy.1 with ⟨hw,hv⟩|⟨hw,rfl⟩
 ·simp only [hw,if_true,Oper.wpIn,Oper.semAt_eq F.round a.eval o hnd,hv w hS,Oper.uponIn];exact ⟨hab,h⟩
 ·simp only [hw,Bool.false_eq_true,if_false];exact ⟨hab,h⟩
theorem QO.of_same {o:Oper} {v:Value} {a a':Act} (hy:QO P ops C o v a) (he:execOp a'.eval o=execOp a.eval o)
  (hw:Region.wanted o (yielded ops a'.tmps)=Region.wanted o (yielded ops a.tmps)) (hb:∀ w,o.about P w a'.eval=o.about P w a.eval):QO P ops C o v a':=
 ⟨hy.1.of_same he hw,fun w=>by rw [hb w];exact hy.2 w⟩
theorem Tq83 {p:Prop} (h:p:=by
 cases e with
 | returned u=>exact ⟨keep a hy u,by rw [←Act.put_comm a v u h2];exact he⟩
 | panicked c=>exact hQ _ _ _ he
 | outgrown=>exact he):p:=h
theorem Zg9 {j:Nat} {oi oj:Oper} {v:Value} (hnd:∀ cl,oj.op≠.defer cl) (hj:ops[j]?=some oj) (hap:oi.apart ops oj=true)
  (hsi:∀ cs b,oi.op≠.select cs b) (hsj:∀ cs b,oj.op≠.select cs b)
  (hQ:∀ c a w,Q (.panic c) (a.put oi.dst v) w→Q (.panic c) a w) {K:Act→World→Prop} {a:Act} {w:World}
  (hy:QO P ops C oi v a) (h:wpOpIn F n P ops Q j K (a.put oi.dst v) w) :
  wpOpIn F n P ops Q j (fun a' w'=>QO P ops C oi v a'∧K (a'.put oi.dst v) w') a w:=by
 obtain ⟨h1,h2,h3⟩:=Oper.apart_spec hap
 have keep:∀ (a:Act),QO P ops C oi v a→∀ u,QO P ops C oi v (a.put oj.dst u):=fun a hy u=>
  hy.of_same (execOp_put oi hsi a oj.dst u h3) (wanted_put oi a oj.dst u h3) (fun w=>about_put oi w a oj.dst u h3)
 have keepD:∀ d,QO P ops C oi v { a with defers:=d :: a.defers }:=fun d=>hy.of_same rfl rfl (fun _=>rfl)
 unfold wpOpIn at *
 simp only [hj] at *
 rw [wanted_put oj a oi.dst v h1,about_put oj w a oi.dst v h1] at h
 split
 ·rename_i hw
  simp only [hw,if_true] at h
  unfold Oper.wpIn at *
  rw [about_put oj w a oi.dst v h1] at h
  refine ⟨h.1,?_⟩
  have h:=h.2
  rw [Oper.semAt_eq F.round _ oj hnd,execOp_put oj hsj a oi.dst v h1] at h
  rw [Oper.semAt_eq F.round _ oj hnd]
  generalize (execOp a.eval oj).run P w=r at *
  cases r with
  | ok x w'=>
   cases x<;>simp only [Oper.uponIn] at h ⊢
   case value u=>exact ⟨keep a hy u,by rw [←Act.put_comm a v u h2];exact h⟩
   case skip=>exact ⟨keep a hy _,by rw [←Act.put_comm a v undef h2];exact h⟩
   case defer d=>
    refine ⟨keep _ (keepD d) _,?_⟩
    rw [←Act.put_comm _ v undef h2,←Act.put_defers]
    exact h
   case enter f args=>
    refine ⟨h.1,CallsIn.mono h.2 fun e w'' he=>?_⟩
    exact Tq83
   case row row args=>exact ⟨h.1,RowsIn.mono h.2 fun u w'' he=>⟨keep a hy u,by rw [←Act.put_comm a v u h2];exact he⟩⟩
   case round l f tmps assign body=>
    refine ⟨h.1,RoundIn.mono h.2 fun e w'' he=>?_⟩
    exact Tq83
  | halt x w'=>
   cases x<;>simp only [Oper.uponIn] at h ⊢
   case panic u=>exact hQ _ _ _ h
 ·rename_i hw
  simp only [hw] at h
  exact ⟨h.1,keep a hy _,by rw [←Act.put_comm a v undef h2];exact h.2⟩
theorem ZmV {i:Nat} {oi:Oper} {v:Value} (hnd:∀ (j:Nat) (o:Oper) (cl:Call),ops[j]?=some o→o.op≠.defer cl) (hi:ops[i]?=some oi) (hsel:∀ (j:Nat) (o:Oper) cs b,ops[j]?=some o→o.op≠.select cs b)
  (hQ:∀ c a w,Q (.panic c) (a.put oi.dst v) w→Q (.panic c) a w) (m:Nat) (hre:JG md ops m c i=true) (hci:c≠i) :
  ∀ (fuel:Nat) (listed:Array Bool) (a:Act) (w:World),Closed md ops listed →
   (∀ j oj,ops[j]?=some oj→j≠i→listed.getD j true=false→(∀ e∈oj.after,Region.binds md e=true→e.on≠i)→oi.apart ops oj=true) →
   i∈Region.ready md ops listed→QO P ops C oi v a→Gs C c listed w →
   XY F n P md ops Q C c fuel (listed.setIfInBounds i true) (a.put oi.dst v) w→XY F n P md ops Q C c (fuel+1) listed a w:=by
 have look:∀ (listed:Array Bool) (w:World),Closed md ops listed→i∈Region.ready md ops listed→Gs C c listed w→C w:=fun listed w hcl hr hS=>by
  rcases hS with h | h
  ·have h1:=Zeu hcl m c hre h
   rw [Zbr (mem_ready.1 hr).1] at h1
   cases h1
  ·exact h
 intro fuel
 induction fuel with
 | zero=>
  intro listed a w hcl _ hr hy hS H
  refine ⟨fun h=>(by rw [h] at hr;cases hr),fun j hj=>?_⟩
  by_cases hji:j=i
  ·subst hji;exact hy.wpOpIn (fun cl=>hnd _ _ cl hi) hi (look _ _ hcl hr hS) ⟨Or.inr (look _ _ hcl hr hS),H⟩
  ·have:=ready_mono hj hji
   rw [H.1] at this
   cases this
 | succ fuel ih=>
  intro listed a w hcl hfree hr hy hS H
  refine ⟨fun h=>(by rw [h] at hr;cases hr),fun j hj=>?_⟩
  by_cases hji:j=i
  ·subst hji;exact hy.wpOpIn (fun cl=>hnd _ _ cl hi) hi (look _ _ hcl hr hS) ⟨Or.inr (look _ _ hcl hr hS),H⟩
  ·have h1:=H.2 j (ready_mono hj hji)
   obtain ⟨hjun,oj,hoj,hall⟩:=mem_ready.1 hj
   have hnot:∀ e∈oj.after,Region.binds md e=true→e.on≠i:=fun e he hb heq=>by
    exact Tq58
   have h2:=Zg9 (fun cl=>hnd _ _ cl hoj) hoj (hfree j oj hoj hji hjun hnot) (fun cs b=>hsel i oi cs b hi) (fun cs b=>hsel j oj cs b hoj) hQ hy h1
   have hfree':∀ k ok,ops[k]?=some ok→k≠i→(listed.setIfInBounds j true).getD k true=false →
     (∀ e∈ok.after,Region.binds md e=true→e.on≠i)→oi.apart ops ok=true:=fun k ok hk hki hun hno=>by
    refine hfree k ok hk hki ?_ hno
    by_cases hjk:j=k
    ·subst hjk;exact hjun
    ·rw [getD_set_ne true hjk] at hun;exact hun
   refine wpOpIn_mono (fun a' w' h3=>?_) h2
   have hS':Gs C c (listed.setIfInBounds j true) w':=by
    exact Tq36
   exact Tq81
theorem ZmW {i:Nat} {oi:Oper} {v:Value} (hnd:∀ (j:Nat) (o:Oper) (cl:Call),ops[j]?=some o→o.op≠.defer cl) (hi:ops[i]?=some oi) (hsel:∀ (j:Nat) (o:Oper) cs b,ops[j]?=some o→o.op≠.select cs b)
  (hQ:∀ c a w,Q (.panic c) (a.put oi.dst v) w→Q (.panic c) a w) (hci:c≠i) :
  ∀ (fuel:Nat) (listed:Array Bool) (a:Act) (w:World),
   (∀ j oj,ops[j]?=some oj→j≠i→listed.getD j true=false→(∀ e∈oj.after,Region.binds md e=true→e.on≠i)→oi.apart ops oj=true) →
   i∈Region.ready md ops listed→QO P ops (fun _=>True) oi v a→Gs C c listed w →
   XY F n P md ops Q C c fuel (listed.setIfInBounds i true) (a.put oi.dst v) w→XY F n P md ops Q C c (fuel+1) listed a w:=by
 have up:∀ (listed:Array Bool) (w:World),Gs C c listed w→Gs C c (listed.setIfInBounds i true) w:=fun listed w h=>h.imp getD_set_true id
 intro fuel
 induction fuel with
 | zero=>
  intro listed a w _ hr hy hS H
  refine ⟨fun h=>(by rw [h] at hr;cases hr),fun j hj=>?_⟩
  by_cases hji:j=i
  ·subst hji;exact hy.wpOpIn (fun cl=>hnd _ _ cl hi) hi trivial ⟨up _ _ hS,H⟩
  ·have:=ready_mono hj hji
   rw [H.1] at this
   cases this
 | succ fuel ih=>
  intro listed a w hfree hr hy hS H
  refine ⟨fun h=>(by rw [h] at hr;cases hr),fun j hj=>?_⟩
  by_cases hji:j=i
  ·subst hji;exact hy.wpOpIn (fun cl=>hnd _ _ cl hi) hi trivial ⟨up _ _ hS,H⟩
  ·have h1:=H.2 j (ready_mono hj hji)
   obtain ⟨hjun,oj,hoj,hall⟩:=mem_ready.1 hj
   have hnot:∀ e∈oj.after,Region.binds md e=true→e.on≠i:=fun e he hb heq=>by
    exact Tq58
   have h2:=Zg9 (fun cl=>hnd _ _ cl hoj) hoj (hfree j oj hoj hji hjun hnot) (fun cs b=>hsel i oi cs b hi) (fun cs b=>hsel j oj cs b hoj) hQ hy h1
   have hfree':∀ k ok,ops[k]?=some ok→k≠i→(listed.setIfInBounds j true).getD k true=false →
     (∀ e∈ok.after,Region.binds md e=true→e.on≠i)→oi.apart ops ok=true:=fun k ok hk hki hun hno=>by
    refine hfree k ok hk hki ?_ hno
    by_cases hjk:j=k
    ·subst hjk;exact hjun
    ·rw [getD_set_ne true hjk] at hun;exact hun
   refine wpOpIn_mono (fun a' w' h3=>?_) h2
   have hS':Gs C c (listed.setIfInBounds j true) w':=by
    exact Tq36
   exact Tq82
theorem Zew {i:Nat} {oi:Oper} {v:Value} {fuel:Nat} {listed:Array Bool} {a:Act} {w:World} (m:Nat) (hi:ops[i]?=some oi) (hnd:Zev ops=true)
  (hs:Region.noSelect ops=true) (hf:Region.free md ops listed i=true) (hr:(Region.ready md ops listed).contains i=true) (hcl:Zc2 md ops listed=true) (hre:JG md ops m c i=true) (hci:(c != i)=true)
  (hQ:∀ c a w,Q (.panic c) (a.put oi.dst v) w→Q (.panic c) a w) (hy:YieldsIf P ops C oi v a) (hab:∀ w,oi.about P w a.eval=none) (hS:C w)
  (h:XY F n P md ops Q C c fuel (listed.setIfInBounds i true) (a.put oi.dst v) w):XY F n P md ops Q C c (fuel+1) listed a w:=
 ZmV (fun j o cl ho=>Zg7 hnd j o cl ho) hi (Region.noSelect_spec hs) hQ m hre (by simpa using hci) fuel listed a w (Zg6 hcl) (Region.free_spec hi hf) (by simpa using hr) ⟨hy,hab⟩ (Or.inr hS) h
theorem JH {i:Nat} {oi:Oper} {v:Value} {fuel:Nat} {listed:Array Bool} {a:Act} {w:World} (hi:ops[i]?=some oi) (hnd:Zev ops=true)
  (hs:Region.noSelect ops=true) (hf:Region.free md ops listed i=true) (hr:(Region.ready md ops listed).contains i=true) (hci:(c != i)=true)
  (hQ:∀ c a w,Q (.panic c) (a.put oi.dst v) w→Q (.panic c) a w) (hy:YieldsIf P ops (fun _=>True) oi v a) (hab:∀ w,oi.about P w a.eval=none) (hS:Gs C c listed w)
  (h:XY F n P md ops Q C c fuel (listed.setIfInBounds i true) (a.put oi.dst v) w):XY F n P md ops Q C c (fuel+1) listed a w:=
 ZmW (fun j o cl ho=>Zg7 hnd j o cl ho) hi (Region.noSelect_spec hs) hQ (by simpa using hci) fuel listed a w (Region.free_spec hi hf) (by simpa using hr) ⟨hy,hab⟩ hS h
theorem Zha {j:Nat} {fuel:Nat} {listed:Array Bool} {a:Act} {w:World} (hr:Region.ready md ops listed=[j])
  (h:wpOpIn F n P ops Q j (fun a' w'=>Gs C c (listed.setIfInBounds j true) w'∧XY F n P md ops Q C c fuel (listed.setIfInBounds j true) a' w') a w):XY F n P md ops Q C c (fuel+1) listed a w:=by
 refine ⟨fun h0=>(by rw [hr] at h0;cases h0),fun i hi=>?_⟩
 have:i=j:=by rw [hr] at hi;simpa using hi
 subst this
 exact h
theorem ZmX {listed:Array Bool} {a:Act} {w:World} (hr:Region.ready md ops listed=[]) (h:Q .normal a w):∀ fuel,XY F n P md ops Q C c fuel listed a w
 | 0=>⟨hr,h⟩
 | _+1=>⟨fun _=>h,by rw [hr];simp⟩
theorem ZmY {id:Nat} {a:Act} {w:World} (C:World→Prop) (c:Nat) (hm:P.follows .mixedOrders=true)
  (h:XY F n P .any ops Q C c ops.size (Array.replicate ops.size false) a { w with drawn:=w.drawn+1 }):(Code.region id ops true).wpIn F n P Q a w:=
 wpIn_region_any hm (Zg8 _ _ _ _ h)
end
end
end Go.Proofs.YtlgcfimhfmgkmaaGreatDoor
namespace Go.Proofs.YtlgcfimhfmgkmaaGreatDoor
open Go.RowKit
section
open M (blen zig zag)
structure DX where
 db:Nat
 mb:Nat
 bb:Nat
 m1:Nat
 m2:Nat
 B:Nat
 bw:Nat
 G:List Nat
 A:Option Addr
 n:Nat
 cap:Nat
 f:Nat→Nat
abbrev DX.bit (X:DX):Nat→Nat:=Zx X.n X.f
def XN (bw:Nat):Obj:=.cells #[.pointer (some ⟨bw,0,none⟩)] 209 (0,0)
def XE (X:DX) (Fd:List Nat) (k:ZE) (c:St × Bun):List Part:=[Y8 X.B X.bw X.G X.A X.n X.cap X.f Fd c.1,Yr k c.2,ZU X.m1 X.m2 k,Zb X.mb (ZJ X.m1 X.m2),Zb X.bb ZI,Zb X.db (XN X.bw)]
structure DS (w0 W:World) (X:DX) (c:St × Bun) (F:List Nat):Prop where
 ex:∃ (Fd:List Nat) (k:ZE),F=blocks (XE X Fd k c)∧Ses w0 W (XE X Fd k c)∧Yx k c.2∧k.n1≤c.1.cnt∧k.n2≤c.1.cnt
 ne:X.m1≠X.m2
 ok:DOk X.bit dsz c
theorem Ses.zero7 {w0 w:World} {a b c d e f:Part} {bb:Nat} (h:Ses w0 w [a,b,c,d,e,Zb bb ZI,f]):Ses w0 (w.setCell ⟨bb,0,none⟩ (.int .i64 0)) [a,b,c,d,e,Zb bb ZI,f]:=by
 have h1:Ses w0 w (Zb bb ZI :: [a,b,c,d,e,f]):=h.perm (List.perm_middle (l₁:=[a,b,c,d,e]) (l₂:=[f]))
 have hb:w.heap[bb]?=some ZI:=h1.sep.head
 have h2:=h1.turn1 (p':=Zb bb ZI) ((Fr.refl [bb] w).store (by simp) 0 (.int .i64 0)) (Zb4 (block_setCell hb 0 _))
 exact h2.perm (List.perm_middle (l₁:=[a,b,c,d,e]) (l₂:=[f])).symm
theorem DS.next {w0 w w':World} {X:DX} {c c':St × Bun} {Fd Fd':List Nat} {k k':ZE} (hS:Ses w0 w (XE X Fd k c)) (h':Ses w0 w' (XD w0 w (blocks (XE X Fd k c)) :: XE X Fd' k' c')) (hR:Yx k' c'.2) (hn1:k'.n1≤c'.1.cnt) (hn2:k'.n2≤c'.1.cnt) (hne:X.m1≠X.m2) (hok:DOk X.bit dsz c') :
  ∃ F',DS w0 w' X c' F'∧Fr (blocks (XE X Fd k c)) w F' w':=
 ⟨_,⟨⟨Fd',k',rfl,(hS.frame h').1,hR,hn1,hn2⟩,hne,hok⟩,(hS.frame h').2⟩
theorem ZmZ (X:DX) (c:St × Bun) (F:List Nat) (n:Int) (s:Nat) (h0:-1≤n) (h1:n≤18) (w0 w:World) (h:DS w0 w X c F) (hc:c.1.cnt<32768) (hs:Yu (c.2 (Zp n)) c.1=s) :
  Calls Tryz.prog 124 #[.int .i64 n,.pointer (some ⟨X.bb,0,none⟩),.pointer (some ⟨X.db,0,none⟩),.pointer (some ⟨X.mb,0,none⟩)] w fun e w'=>e=.returned (.int .i64 (s:Nat))∧∃ F',DS w0 w' X (step X.bit c (Zp n,s)) F'∧Fr F w F' w':=by
 have hmx:Tryz.prog.follows .mixedOrders=true:=by kernel_rfl
 obtain ⟨⟨Fd,k,eF,hS,hR,hn1,hn2⟩,hne,hok⟩:=h
 have hr:=hS.rest
 have hmb:w.heap[X.mb]?=some (ZJ X.m1 X.m2):=hS.sep.tail.tail.tail.head
 have hbb:w.heap[X.bb]?=some ZI:=hS.sep.tail.tail.tail.tail.head
 have hdb:w.heap[X.db]?=some (XN X.bw):=hS.sep.tail.tail.tail.tail.tail.head
 have c2:w.cell? ⟨X.bb,0,none⟩=some (.int .i64 0):=Za hbb 0 _ rfl
 have HC:w.drew.cell? ⟨X.db,0,none⟩=some (.pointer (some ⟨X.bw,0,none⟩))∧w.drew.cell? ⟨X.mb,0,none⟩=some (.map (some X.m1))∧w.drew.cell? ⟨X.mb,1,none⟩=some (.map (some X.m2)):=⟨Za hdb 0 _ rfl,(Y9 hmb).1,(Y9 hmb).2⟩
 have hp1:Ses w0 w.drew (Yr k c.2 :: ZU X.m1 X.m2 k :: Y8 X.B X.bw X.G X.A X.n X.cap X.f Fd c.1 :: XD w0 w (blocks (XE X Fd k c)) :: [Zb X.mb (ZJ X.m1 X.m2),Zb X.bb ZI,Zb X.db (XN X.bw)]):=(Ses.es1 hr).below (Below.refl _ _).drew
 have FM:=ZgW n h0 h1 X.m1 X.m2 hne k c.2 w0 w.drew _ hp1 hR (by omega)
 have H:=Qh (Qi hS (Qi hok (Qi hc (Qi hs (Qi hne (Qi eF (Qi hn1 hn2)))))))
 clear hS hok hc hs hne eF hn1 hn2 hr hp1 hR hmb hbb hdb
 go_enter Tryz.func124,Tryz.ntmps124
 go_upto_region 4 with fail
 refine Yy (fun W=>W.cell? ⟨X.db,0,none⟩=some (.pointer (some ⟨X.bw,0,none⟩))∧W.cell? ⟨X.mb,0,none⟩=some (.map (some X.m1))∧W.cell? ⟨X.mb,1,none⟩=some (.map (some X.m2))) 4 hmx ?_
 change Zz _ _ _ _ _ _ _ _ _ (World.drew _)
 refine tkp 2 rfl (Or.inr HC) ?_
 refine tkl 0 rfl HC (by intro W ⟨hC0,hC1,hC2⟩;go_simp;try with_reducible rfl) ?_
 refine tkl 1 rfl HC (by intro W ⟨hC0,hC1,hC2⟩;go_simp;try with_reducible rfl) ?_
 refine Zi 3 rfl (fun K hK=>?_)
 go_simp
 refine FM.mono ?_
 rintro e w1 ⟨k1,rfl,⟨hj,hR1,n1,n2⟩,hs1⟩
 have hp2:Ses w0 w1 (Y8 X.B X.bw X.G X.A X.n X.cap X.f Fd c.1 :: Yr k1 c.2 :: ZU X.m1 X.m2 k1 :: XD w0 w (blocks (XE X Fd k c)) :: [Zb X.mb (ZJ X.m1 X.m2),Zb X.bb ZI,Zb X.db (XN X.bw)]):=hs1.third'
 have m1c:=Y9 (hp2.sep.tail.tail.tail.tail.head:w1.heap[X.mb]?=some (ZJ X.m1 X.m2))
 have d1c:w1.heap[X.db]?=some (XN X.bw):=hp2.sep.tail.tail.tail.tail.tail.tail.head
 have HC1:w1.cell? ⟨X.db,0,none⟩=some (.pointer (some ⟨X.bw,0,none⟩))∧w1.cell? ⟨X.mb,0,none⟩=some (.map (some X.m1))∧w1.cell? ⟨X.mb,1,none⟩=some (.map (some X.m2)):=⟨Za d1c 0 _ rfl,m1c.1,m1c.2⟩
 have FP:=hp2.kget (Zp n) H.out.2.2.1 H.out.2.1.iv hj
 rw [H.out.2.2.2.1] at FP
 have H1:=Qh (Qi hR1 (Qi n1 (Qi n2 hj)))
 clear hs1 hp2 hR1 n1 n2 hj FM m1c d1c
 refine hK _ _ ?_;clear hK K
 refine ⟨Or.inr HC1,?_⟩
 refine Zi 4 rfl (fun K hK=>?_)
 go_simp
 refine FP.mono ?_
 rintro e w2 ⟨rfl,F2,hs2⟩
 have hb2:w2.heap[X.bb]?=some ZI:=hs2.sep.tail.tail.tail.tail.tail.head
 have e2:w2.cell? ⟨X.bb,0,none⟩=some (.int .i64 0):=Za hb2 0 _ rfl
 have e3:=Zd hb2 0
 have H2:=Qh (Qi hs2 hb2)
 clear hs2 hb2 FP
 refine hK _ _ ?_;clear hK K
 refine ⟨Or.inl (by kernel_rfl),?_⟩
 refine tkq 5 rfl ?_
 refine tkq 6 rfl ?_
 refine tkq 7 rfl ?_
 refine tkq 8 rfl ?_
 refine Zi 9 rfl (fun K hK=>?_)
 go_simp
 refine hK _ _ ?_;clear hK K
 refine ⟨Or.inl (by kernel_rfl),?_⟩
 refine ZX (by kernel_rfl) ?_ _
 go_wp2_with fail
 go_ret
 refine ⟨rfl,?_⟩
 obtain ⟨hS,hok,hc,hs,hne,eF,hn1,hn2⟩:=H.out
 obtain ⟨hR',k1',k2',hj⟩:=H1.out
 obtain ⟨ho1,ho2⟩:=hok.step (Zbo X.n X.f) (o:=(Zp n,s)) hs
 have hcn:=(hok.ok.step (bit:=X.bit) ho2).2
 have h3:=(H2.out.1.zero7).fourth
 rw [eF]
 exact DS.next hS (X:=X) (c':=step X.bit c (Zp n,s)) h3 (hR'.step hj _) (by rw [hcn];omega) (by rw [hcn];omega) hne ho1
theorem Zm0 (X:DX) (c:St × Bun) (F:List Nat) (n v:Int) (h0:-3≤n) (h1:n≤1000) (v0:-9223372036854775808≤v) (v1:v≤9223372036854775807) (w0 w:World) (h:DS w0 w X c F) (hc:c.1.cnt+65≤32768) (hs:Reads X.bit c (Yh n v)) :
  Calls Tryz.prog 126 #[.int .i64 n,.pointer (some ⟨X.bb,0,none⟩),.pointer (some ⟨X.db,0,none⟩),.pointer (some ⟨X.mb,0,none⟩)] w fun e w'=>e=.returned (.int .i64 v)∧∃ F',DS w0 w' X (steps X.bit c (Yh n v)) F'∧Fr F w F' w':=by
 have hmx:Tryz.prog.follows .mixedOrders=true:=by kernel_rfl
 obtain ⟨⟨Fd,k,eF,hS,hR,hn1,hn2⟩,hne,hok⟩:=h
 have hr:=hS.rest
 have hmb:w.heap[X.mb]?=some (ZJ X.m1 X.m2):=hS.sep.tail.tail.tail.head
 have hbb:w.heap[X.bb]?=some ZI:=hS.sep.tail.tail.tail.tail.head
 have hdb:w.heap[X.db]?=some (XN X.bw):=hS.sep.tail.tail.tail.tail.tail.head
 have c2:w.cell? ⟨X.bb,0,none⟩=some (.int .i64 0):=Za hbb 0 _ rfl
 have HC:w.drew.cell? ⟨X.db,0,none⟩=some (.pointer (some ⟨X.bw,0,none⟩))∧w.drew.cell? ⟨X.mb,0,none⟩=some (.map (some X.m1))∧w.drew.cell? ⟨X.mb,1,none⟩=some (.map (some X.m2)):=⟨Za hdb 0 _ rfl,(Y9 hmb).1,(Y9 hmb).2⟩
 have hp1:Ses w0 w.drew (Yr k c.2 :: ZU X.m1 X.m2 k :: Y8 X.B X.bw X.G X.A X.n X.cap X.f Fd c.1 :: XD w0 w (blocks (XE X Fd k c)) :: [Zb X.mb (ZJ X.m1 X.m2),Zb X.bb ZI,Zb X.db (XN X.bw)]):=(Ses.es1 hr).below (Below.refl _ _).drew
 have FM:=ZgY n h0 h1 X.m1 X.m2 hne k c.2 w0 w.drew _ hp1 hR (by omega)
 have H:=Qh (Qi hS (Qi hok (Qi hc (Qi hs (Qi hne (Qi eF (Qi (Qi hn1 hn2) (Qi v0 v1))))))))
 clear hS hok hc hs hne eF hn1 hn2 hr hp1 hR hmb hbb hdb v0 v1
 go_enter Tryz.func126,Tryz.ntmps126
 go_upto_region 4 with fail
 refine Yy (fun W=>W.cell? ⟨X.db,0,none⟩=some (.pointer (some ⟨X.bw,0,none⟩))∧W.cell? ⟨X.mb,0,none⟩=some (.map (some X.m1))∧W.cell? ⟨X.mb,1,none⟩=some (.map (some X.m2))) 4 hmx ?_
 change Zz _ _ _ _ _ _ _ _ _ (World.drew _)
 refine tkp 2 rfl (Or.inr HC) ?_
 refine tkl 0 rfl HC (by intro W ⟨hC0,hC1,hC2⟩;go_simp;try with_reducible rfl) ?_
 refine tkl 1 rfl HC (by intro W ⟨hC0,hC1,hC2⟩;go_simp;try with_reducible rfl) ?_
 refine Zi 3 rfl (fun K hK=>?_)
 go_simp
 refine FM.mono ?_
 rintro e w1 ⟨k1,nb,rfl,⟨hj,hR1,n1,n2⟩,hs1⟩
 have hp2:Ses w0 w1 (Y8 X.B X.bw X.G X.A X.n X.cap X.f Fd c.1 :: Yr k1 c.2 :: ZU X.m1 X.m2 k1 :: XD w0 w (blocks (XE X Fd k c)) :: [Zb X.mb (ZJ X.m1 X.m2),Zb X.bb ZI,Zb X.db (XN X.bw)]):=hs1.third'
 have m1c:=Y9 (hp2.sep.tail.tail.tail.tail.head:w1.heap[X.mb]?=some (ZJ X.m1 X.m2))
 have d1c:w1.heap[X.db]?=some (XN X.bw):=hp2.sep.tail.tail.tail.tail.tail.tail.head
 have HC1:w1.cell? ⟨X.db,0,none⟩=some (.pointer (some ⟨X.bw,0,none⟩))∧w1.cell? ⟨X.mb,0,none⟩=some (.map (some X.m1))∧w1.cell? ⟨X.mb,1,none⟩=some (.map (some X.m2)):=⟨Za d1c 0 _ rfl,m1c.1,m1c.2⟩
 have FP:=hp2.getInt nb (zig (XM v)) hj H.out.2.2.1 (Zc0 n) H.out.2.1 H.out.2.2.2.1 (by have:=Zem v;simpa using this)
 rw [M.zag_zig (by simpa using ZgH v),Zmg H.out.2.2.2.2.2.2.2.1 H.out.2.2.2.2.2.2.2.2] at FP
 have Y5:KAt w1 k1.J k1.bm k1.g k1.nums c.2:=hp2.sep.tail.head
 have hJ:=(Y5.num _ hj).2
 have H1:=Qh (Qi hR1 (Qi n1 (Qi n2 hJ)))
 clear hs1 hp2 hR1 n1 n2 hj hJ Y5 FM m1c d1c
 refine hK _ _ ?_;clear hK K
 refine ⟨Or.inr HC1,?_⟩
 refine Zi 4 rfl (fun K hK=>?_)
 go_simp
 refine FP.mono ?_
 rintro e w2 ⟨rfl,F2,hs2⟩
 have hb2:w2.heap[X.bb]?=some ZI:=hs2.sep.tail.tail.tail.tail.tail.head
 have e2:w2.cell? ⟨X.bb,0,none⟩=some (.int .i64 0):=Za hb2 0 _ rfl
 have e3:=Zd hb2 0
 have H2:=Qh (Qi hs2 hb2)
 clear hs2 hb2 FP
 refine hK _ _ ?_;clear hK K
 refine ⟨Or.inl (by kernel_rfl),?_⟩
 refine tkq 5 rfl ?_
 refine tkq 6 rfl ?_
 refine tkq 7 rfl ?_
 refine tkq 8 rfl ?_
 refine Zi 9 rfl (fun K hK=>?_)
 go_simp
 refine hK _ _ ?_;clear hK K
 refine ⟨Or.inl (by kernel_rfl),?_⟩
 refine ZX (by kernel_rfl) ?_ _
 go_wp2_with fail
 go_ret
 refine ⟨rfl,?_⟩
 obtain ⟨hS,hok,hc,hs,hne,eF,⟨hn1,hn2⟩,v0,v1⟩:=H.out
 obtain ⟨hR',k1',k2',hJ⟩:=H1.out
 obtain ⟨ho1,ho2⟩:=DOk.steps (Zbo X.n X.f) _ _ hok hs
 have hcn:=(hok.ok.steps (bit:=X.bit) ho2).2
 have hl:=(QN n v).2.2
 have h3:=(H2.out.1.zero7).fourth
 have hR2:Yx k1 (steps X.bit c (Yh n v)).2:=hR'.steps _ c (fun o ho=>by
  rcases Zg0 _ _ o ho with e | e | e<;>rw [e]
  ·exact hJ.1
  ·exact hJ.2.1
  ·exact hJ.2.2)
 rw [eF]
 exact DS.next hS (X:=X) (c':=steps X.bit c (Yh n v)) h3 hR2 (by rw [hcn];omega) (by rw [hcn];omega) hne ho1
end
end Go.Proofs.YtlgcfimhfmgkmaaGreatDoor
