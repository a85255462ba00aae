/- Lemmas for the statement. -/
import Derived.Test.YtlgcfimhfmgkmaaGreatDoorMAU
set_option linter.unusedVariables false
set_option linter.unusedSimpArgs false
namespace Go.Proofs.YtlgcfimhfmgkmaaGreatDoor
section
open Go.RowKit Go.Shelf
def Ym (l:List Ent):Prop:=l.Pairwise (fun x y=>x.id<y.id)
theorem YG {t:Int} {es:List Ent} (h:Zl t es=true):Ym es:=by
 unfold Zl Xt at h
 simp only [Bool.and_eq_true,decide_eq_true_eq] at h
 exact List.pairwise_map.1 h.1.2
theorem Z4 {t:Int} {es:List Ent} (h:Zl t es=true):∀ e,e∈es→1≤e.id∧e.id≤65536:=fun e he=>Jb (Y0 h e he)
theorem Ym.eq {l:List Ent} (h:Ym l) {x y:Ent} (hx:x∈l) (hy:y∈l) (e:x.id=y.id):x=y:=by
 induction l with
 | nil=>cases hx
 | cons a l ih=>
  have h':=List.pairwise_cons.1 h
  rcases List.mem_cons.1 hx with e1 | hx
  ·rcases List.mem_cons.1 hy with e2 | hy
   ·rw [e1,e2]
   ·have:=h'.1 y hy;rw [e1] at e;omega
  ·rcases List.mem_cons.1 hy with e2 | hy
   ·have:=h'.1 x hx;rw [e2] at e;omega
   ·exact ih h'.2 hx hy
theorem ZeU:∀ {l m:List Ent},Ym l→Ym m→(∀ x,x∈l↔x∈m)→l=m
 | [],[],_,_,_=>rfl
 | [],y :: m,_,_,h=>by have:=(h y).2 (.head _);cases this
 | x :: l,[],_,_,h=>by have:=(h x).1 (.head _);cases this
 | x :: l,y :: m,hl,hm,h=>by
  have h1:=List.pairwise_cons.1 hl
  have h2:=List.pairwise_cons.1 hm
  have e:x=y:=by
   rcases List.mem_cons.1 ((h x).1 (.head _)) with e | hx
   ·exact e
   ·rcases List.mem_cons.1 ((h y).2 (.head _)) with e | hy
    ·exact e.symm
    ·have:=h1.1 y hy;have:=h2.1 x hx;omega
  subst e
  rw [ZeU h1.2 h2.2 (fun z=>?_)]
  constructor
  ·intro hz
   rcases List.mem_cons.1 ((h z).1 (.tail _ hz)) with rfl | hz'
   ·have:=h1.1 z hz;omega
   ·exact hz'
  ·intro hz
   rcases List.mem_cons.1 ((h z).2 (.tail _ hz)) with rfl | hz'
   ·have:=h2.1 z hz;omega
   ·exact hz'
def Jc (x:Ent):List Ent→List Ent
 | []=>[x]
 | y :: l=>if x.id≤y.id then x :: y :: l else y :: Jc x l
def ZaZ (l:List Ent):List Ent:=l.foldr Jc []
theorem ZeV (x z:Ent):∀ l,z∈Jc x l↔z=x∨z∈l
 | []=>by simp [Jc]
 | y :: l=>by
  unfold Jc
  split
  ·simp
  ·rw [List.mem_cons,ZeV x z l,List.mem_cons]
   constructor
   ·rintro (h | h | h)
    ·exact .inr (.inl h)
    ·exact .inl h
    ·exact .inr (.inr h)
   ·rintro (h | h | h)
    ·exact .inr (.inl h)
    ·exact .inl h
    ·exact .inr (.inr h)
theorem ZhL (x:Ent):∀ l,(Jc x l).length=l.length+1
 | []=>rfl
 | y :: l=>by
  unfold Jc
  split
  ·rfl
  ·rw [List.length_cons,ZhL x l,List.length_cons]
theorem Zdg (l:List Ent):(ZaZ l).length=l.length:=by
 induction l with
 | nil=>rfl
 | cons x l ih=>show (Jc x (ZaZ l)).length=_;rw [ZhL,ih,List.length_cons]
theorem ZhM (z:Ent) (l:List Ent):z∈ZaZ l↔z∈l:=by
 induction l with
 | nil=>simp [ZaZ]
 | cons x l ih=>show z∈Jc x (ZaZ l)↔_;rw [ZeV,ih,List.mem_cons]
theorem ZhN {x:Ent}:∀ {l:List Ent},Ym l→(∀ y,y∈l→x.id≠y.id)→Ym (Jc x l)
 | [],_,_=>List.pairwise_singleton _ _
 | y :: l,h,hn=>by
  have h':=List.pairwise_cons.1 h
  unfold Jc
  have hxy:=hn y (.head _)
  split
  ·rename_i hle
   refine List.pairwise_cons.2 ⟨fun z hz=>?_,h⟩
   rcases List.mem_cons.1 hz with rfl | hz
   ·omega
   ·have:=h'.1 z hz;omega
  ·rename_i hle
   refine List.pairwise_cons.2 ⟨fun z hz=>?_,ZhN h'.2 (fun z hz=>hn z (.tail _ hz))⟩
   rcases (ZeV x z l).1 hz with rfl | hz
   ·omega
   ·exact h'.1 z hz
def NoD (l:List Ent):Prop:=l.Pairwise (fun x y=>x.id≠y.id)
theorem Ym.nod {l:List Ent} (h:Ym l):NoD l:=List.Pairwise.imp (fun h=>by omega) h
theorem ZnT {l:List Ent} (h:NoD l):Ym (ZaZ l):=by
 induction l with
 | nil=>exact List.Pairwise.nil
 | cons x l ih=>
  have h':=List.pairwise_cons.1 h
  exact ZhN (ih h'.2) (fun y hy=>h'.1 y ((ZhM y l).1 hy))
theorem ZhO {ids:List Int} {k:Int}:YN ids k=0↔k∉ids:=by
 unfold YN
 constructor
 ·intro h hk
  have:0<(ids.filter (fun x=>decide (x=k))).length:=List.length_pos_of_mem (List.mem_filter.2 ⟨hk,by simp⟩)
  omega
 ·intro hk
  have:ids.filter (fun x=>decide (x=k))=[]:=List.filter_eq_nil_iff.2 (fun x hx=>by simp;rintro rfl;exact hk hx)
  rw [this];rfl
theorem ZnU {ids:List Int} {k:Int}:0<YN ids k↔k∈ids:=by
 have h0:=(ZeS ids k).1
 have h1:=@ZhO ids k
 by_cases hk:k∈ids
 ·have:YN ids k≠0:=fun e=>h1.1 e hk
  constructor
  ·intro _;exact hk
  ·intro _;omega
 ·have:=h1.2 hk
  constructor
  ·intro h;omega
  ·intro h;exact absurd h hk
theorem mem_merge {es fs:List Ent} {ids:List Int} {x:Ent}:x∈XR es fs ids↔(x∈es∧x.id∉ids)∨(x∈fs∧x.id∈ids):=by
 unfold XR Zan Zao
 rw [List.mem_append,List.mem_filter,List.mem_filter,decide_eq_true_eq,decide_eq_true_eq,ZhO,ZnU]
theorem ZhP {es fs:List Ent} {ids:List Int} (he:Ym es) (hf:Ym fs):NoD (XR es fs ids):=by
 unfold XR NoD
 refine List.pairwise_append.2 ⟨List.Pairwise.filter _ he.nod,List.Pairwise.filter _ hf.nod,fun x hx y hy e=>?_⟩
 have h1:=(List.mem_filter.1 hx).2
 have h2:=(List.mem_filter.1 hy).2
 rw [decide_eq_true_eq] at h1 h2
 rw [e] at h1
 omega
def QT (es fs:List Ent) (ids:List Int):List Ent:=ZaZ (XR es fs ids)
theorem Zdh {es fs:List Ent} {ids:List Int} {x:Ent}:x∈QT es fs ids↔(x∈es∧x.id∉ids)∨(x∈fs∧x.id∈ids):=by
 unfold QT
 rw [ZhM,mem_merge]
theorem Zdi {es fs:List Ent} {ids:List Int} (he:Ym es) (hf:Ym fs):Ym (QT es fs ids):=ZnT (ZhP he hf)
theorem Zcb {es fs l:List Ent} {ids:List Int} (he:Ym es) (hf:Ym fs) (hp:l.Perm (XR es fs ids)) (hs:l.Pairwise (fun x y=>x.id≤y.id)):l=QT es fs ids:=by
 have hn:NoD l:=hp.symm.pairwise (ZhP he hf) (fun h=>fun e=>h e.symm)
 have hr:Ym l:=(hs.and hn).imp (fun h=>by have:=h.1;have:=h.2;omega)
 exact ZeU hr (Zdi he hf) (fun x=>by rw [hp.mem_iff,mem_merge,Zdh])
theorem ZeW {l m:List Ent} (hl:Ym l) (h:∀ x,x∈l→∃ y,y∈m∧y.id=x.id):l.length≤m.length:=by
 have h1:(l.map Ent.id).Nodup:=List.pairwise_map.2 hl.nod
 have h2:(l.map Ent.id) ⊆ (m.map Ent.id):=fun i hi=>by
  obtain ⟨x,hx,rfl⟩:=List.mem_map.1 hi
  obtain ⟨y,hy,e⟩:=h x hx
  exact List.mem_map.2 ⟨y,hy,e⟩
 have:=h1.length_le_of_subset h2
 simpa using this
theorem Zap {t:Int} {es:List Ent}:Zl t es=true↔(0≤t∧t≤1073741824)∧es.length≤64∧Ym es∧∀ e,e∈es→Yv e=true:=by
 unfold Zl Xt Ym
 simp only [Bool.and_eq_true,decide_eq_true_eq,Bool.not_eq_true',List.any_eq_false,List.pairwise_map]
 constructor
 ·rintro ⟨⟨⟨h1,h2⟩,h3⟩,h4⟩
  exact ⟨h1,h2,h3,fun e he=>by simpa using h4 e he⟩
 ·rintro ⟨h1,h2,h3,h4⟩
  exact ⟨⟨⟨h1,h2⟩,h3⟩,fun e he=>by simpa using h4 e he⟩
theorem ZeX {s t:Int} {es fs:List Ent} {ids:List Int} (va:Zl s es=true) (vb:Zl t fs=true) (hl:(XR es fs ids).length≤64):Zl t (QT es fs ids)=true:=by
 refine Zap.2 ⟨(Zap.1 vb).1,by unfold QT;rw [Zdg];exact hl,Zdi (YG va) (YG vb),fun e he=>?_⟩
 rcases Zdh.1 he with ⟨h,_⟩|⟨h,_⟩
 ·exact Y0 va e h
 ·exact Y0 vb e h
inductive QB (l m:List Ent):Ent × Ent→Prop
 | was {e:Ent}:e∈l→(∀ f,f∈m→f.id≠e.id)→QB l m (e,Ent.zero)
 | now {f:Ent}:f∈m→(∀ e,e∈l→e.id≠f.id)→QB l m (Ent.zero,f)
 | both {e f:Ent}:e∈l→f∈m→e.id=f.id→e≠f→QB l m (e,f)
theorem ZhQ {l m:List Ent} {r:Ent} (hm:∀ f,f∈m→f.id≠r.id) (hl:∀ e,e∈l→e.id≠r.id) (p:Ent × Ent):QB (r :: l) m p↔p=(r,Ent.zero)∨QB l m p:=by
 constructor
 ·intro h
  cases h with
  | was he hf=>
   rcases List.mem_cons.1 he with rfl | he
   ·exact .inl rfl
   ·exact .inr (.was he hf)
  | now hf he=>exact .inr (.now hf (fun e h=>he e (.tail _ h)))
  | both he hf e1 e2=>
   rcases List.mem_cons.1 he with rfl | he
   ·exact absurd e1.symm (hm _ hf)
   ·exact .inr (.both he hf e1 e2)
 ·rintro (rfl | h)
  ·exact .was (.head _) hm
  ·cases h with
   | was he hf=>exact .was (.tail _ he) hf
   | now hf he=>exact .now hf (fun e h=>by
     rcases List.mem_cons.1 h with rfl | h
     ·exact fun e2=>hm _ hf e2.symm
     ·exact he e h)
   | both he hf e1 e2=>exact .both (.tail _ he) hf e1 e2
theorem ZhR {l m:List Ent} {s:Ent} (hl:∀ e,e∈l→e.id≠s.id) (p:Ent × Ent):QB l (s :: m) p↔p=(Ent.zero,s)∨QB l m p:=by
 constructor
 ·intro h
  cases h with
  | was he hf=>exact .inr (.was he (fun f h=>hf f (.tail _ h)))
  | now hf he=>
   rcases List.mem_cons.1 hf with rfl | hf
   ·exact .inl rfl
   ·exact .inr (.now hf he)
  | both he hf e1 e2=>
   rcases List.mem_cons.1 hf with rfl | hf
   ·exact absurd e1 (hl _ he)
   ·exact .inr (.both he hf e1 e2)
 ·rintro (rfl | h)
  ·exact .now (.head _) hl
  ·cases h with
   | was he hf=>exact .was he (fun f h=>by
     rcases List.mem_cons.1 h with rfl | h
     ·exact fun e2=>hl _ he e2.symm
     ·exact hf f h)
   | now hf he=>exact .now (.tail _ hf) he
   | both he hf e1 e2=>exact .both he (.tail _ hf) e1 e2
theorem ZnV {l m:List Ent} {r s:Ent} (e:r.id=s.id) (hl:∀ e,e∈l→e.id≠r.id) (hm:∀ f,f∈m→f.id≠r.id) (p:Ent × Ent):QB (r :: l) (s :: m) p↔(r≠s∧p=(r,s))∨QB l m p:=by
 constructor
 ·intro h
  cases h with
  | was he hf=>
   rcases List.mem_cons.1 he with rfl | he
   ·exact absurd e.symm (hf s (.head _))
   ·exact .inr (.was he (fun f h=>hf f (.tail _ h)))
  | now hf he=>
   rcases List.mem_cons.1 hf with rfl | hf
   ·exact absurd e (he r (.head _))
   ·exact .inr (.now hf (fun e h=>he e (.tail _ h)))
  | both he hf e1 e2=>
   rcases List.mem_cons.1 he with rfl | he
   ·rcases List.mem_cons.1 hf with rfl | hf
    ·exact .inl ⟨e2,rfl⟩
    ·exact absurd e1.symm (hm _ hf)
   ·rcases List.mem_cons.1 hf with rfl | hf
    ·exact absurd (e1.trans e.symm) (hl _ he)
    ·exact .inr (.both he hf e1 e2)
 ·rintro (⟨h,rfl⟩|h)
  ·exact .both (.head _) (.head _) e h
  ·cases h with
   | was he hf=>exact .was (.tail _ he) (fun f h=>by
     rcases List.mem_cons.1 h with rfl | h
     ·exact fun e2=>hl _ he (e2.symm.trans e.symm)
     ·exact hf f h)
   | now hf he=>exact .now (.tail _ hf) (fun f h=>by
     rcases List.mem_cons.1 h with rfl | h
     ·exact fun e2=>hm _ hf e2.symm
     ·exact he f h)
   | both he hf e1 e2=>exact .both (.tail _ he) (.tail _ hf) e1 e2
theorem Zaq {r:Ent} (h:1≤r.id):r≠Ent.zero:=by rintro rfl;simp [Ent.zero] at h
theorem Je:∀ (k:Nat) (l m:List Ent),l.length+m.length≤k→Ym l→Ym m→(∀ e,e∈l→1≤e.id)→(∀ f,f∈m→1≤f.id)→∀ p,p∈Qz k l m↔QB l m p
 | 0,l,m,hk,hl,hm,h1,h2,p=>by
  have e1:l=[]:=List.eq_nil_of_length_eq_zero (by omega)
  have e2:m=[]:=List.eq_nil_of_length_eq_zero (by omega)
  subst e1 e2
  constructor
  ·intro h;cases h
  ·intro h;cases h with
   | was he _=>cases he
   | now hf _=>cases hf
   | both he _ _ _=>cases he
 | k+1,[],[],hk,hl,hm,h1,h2,p=>by
  constructor
  ·intro h;cases h
  ·intro h;cases h with
   | was he _=>cases he
   | now hf _=>cases hf
   | both he _ _ _=>cases he
 | k+1,r :: l,[],hk,hl,hm,h1,h2,p=>by
  have hl':=List.pairwise_cons.1 hl
  have ih:=Je k l [] (by simp at hk ⊢;omega) hl'.2 hm (fun e h=>h1 e (.tail _ h)) h2 p
  rw [ZhQ (by simp) (fun e he=>by have:=hl'.1 e he;omega)]
  show p∈(if r=Ent.zero then [] else [(r,Ent.zero)])++Qz k l []↔_
  rw [if_neg (Zaq (h1 r (.head _))),List.mem_append,ih,List.mem_singleton]
 | k+1,[],s :: m,hk,hl,hm,h1,h2,p=>by
  have hm':=List.pairwise_cons.1 hm
  have ih:=Je k [] m (by simp at hk ⊢;omega) hl hm'.2 h1 (fun e h=>h2 e (.tail _ h)) p
  rw [ZhR (by simp)]
  show p∈(if Ent.zero=s then [] else [(Ent.zero,s)])++Qz k [] m↔_
  rw [if_neg (fun e=>Zaq (h2 s (.head _)) e.symm),List.mem_append,ih,List.mem_singleton]
 | k+1,r :: l,s :: m,hk,hl,hm,h1,h2,p=>by
  have hl':=List.pairwise_cons.1 hl
  have hm':=List.pairwise_cons.1 hm
  have g1:∀ e,e∈l→1≤e.id:=fun e h=>h1 e (.tail _ h)
  have g2:∀ e,e∈m→1≤e.id:=fun e h=>h2 e (.tail _ h)
  rw [List.length_cons,List.length_cons] at hk
  unfold Qz Zb8
  by_cases c1:r.id<s.id
  ·have ih:=Je k l (s :: m) (by rw [List.length_cons];omega) hl'.2 hm g1 h2 p
   rw [ZhQ (fun f hf=>by
    rcases List.mem_cons.1 hf with rfl | hf
    ·omega
    ·have:=hm'.1 f hf;omega) (fun e he=>by have:=hl'.1 e he;omega)]
   simp only [c1,if_true]
   rw [if_neg (Zaq (h1 r (.head _))),List.mem_append,ih,List.mem_singleton]
  ·by_cases c2:s.id<r.id
   ·have ih:=Je k (r :: l) m (by rw [List.length_cons];omega) hl hm'.2 h1 g2 p
    rw [ZhR (fun e he=>by
     rcases List.mem_cons.1 he with rfl | he
     ·omega
     ·have:=hl'.1 e he;omega)]
    simp only [c1,c2,if_true,if_false]
    rw [if_neg (fun e=>Zaq (h2 s (.head _)) e.symm),List.mem_append,ih,List.mem_singleton]
   ·have ih:=Je k l m (by omega) hl'.2 hm'.2 g1 g2 p
    rw [ZnV (by omega) (fun e he=>by have:=hl'.1 e he;omega) (fun e he=>by have:=hm'.1 e he;omega)]
    simp only [c1,c2,if_false]
    rw [List.mem_append,ih]
    by_cases e:r=s
    ·rw [if_pos e];simp [e]
    ·rw [if_neg e];simp [e]
theorem Xv {s t:Int} {es fs:List Ent} (va:Zl s es=true) (vb:Zl t fs=true) (p:Ent × Ent):p∈Zw es fs↔QB es fs p:=
 Je _ es fs (Nat.le_refl _) (YG va) (YG vb) (fun e h=>(Z4 va e h).1) (fun e h=>(Z4 vb e h).1) p
theorem QB.pid {l m:List Ent} {p:Ent × Ent} (h:QB l m p) (h1:∀ e,e∈l→1≤e.id) (h2:∀ f,f∈m→1≤f.id) :
  (p.1∈l∧Zr p=p.1.id∧(p.2∈m∧p.2.id=p.1.id∨p.2=Ent.zero))∨(p.2∈m∧Zr p=p.2.id∧p.1=Ent.zero):=by
 unfold Zr
 cases h with
 | was he hf=>have:=h1 _ he;exact .inl ⟨he,by simp only [Ent.zero];omega,.inr rfl⟩
 | now hf he=>have:=h2 _ hf;exact .inr ⟨hf,by simp only [Ent.zero];omega,rfl⟩
 | both he hf e1 e2=>exact .inl ⟨he,by simp only [];omega,.inl ⟨hf,e1.symm⟩⟩
theorem ZbA:∀ (k:Nat) (l m:List Ent),l.length+m.length≤k→Ym l→Ym m→(∀ e,e∈l→1≤e.id)→(∀ f,f∈m→1≤f.id)→(Qz k l m).Pairwise (fun p q=>Zr p<Zr q)
 | 0,l,m,hk,hl,hm,h1,h2=>List.Pairwise.nil
 | k+1,[],[],hk,hl,hm,h1,h2=>List.Pairwise.nil
 | k+1,r :: l,[],hk,hl,hm,h1,h2=>by
  have hl':=List.pairwise_cons.1 hl
  have g1:∀ e,e∈l→1≤e.id:=fun e h=>h1 e (.tail _ h)
  have ih:=ZbA k l [] (by simp at hk ⊢;omega) hl'.2 hm g1 h2
  show ((if r=Ent.zero then [] else [(r,Ent.zero)])++Qz k l []).Pairwise _
  rw [if_neg (Zaq (h1 r (.head _)))]
  refine List.pairwise_cons.2 ⟨fun q hq=>?_,ih⟩
  have hd:=((Je k l [] (by simp at hk ⊢;omega) hl'.2 hm g1 h2 q).1 hq).pid g1 h2
  have e0:Zr (r,Ent.zero)=r.id:=by have:=h1 r (.head _);unfold Zr Ent.zero;simp only [];omega
  rcases hd with ⟨a,b,_⟩|⟨a,_⟩
  ·have:=hl'.1 _ a;omega
  ·cases a
 | k+1,[],s :: m,hk,hl,hm,h1,h2=>by
  have hm':=List.pairwise_cons.1 hm
  have g2:∀ e,e∈m→1≤e.id:=fun e h=>h2 e (.tail _ h)
  have ih:=ZbA k [] m (by simp at hk ⊢;omega) hl hm'.2 h1 g2
  show ((if Ent.zero=s then [] else [(Ent.zero,s)])++Qz k [] m).Pairwise _
  rw [if_neg (fun e=>Zaq (h2 s (.head _)) e.symm)]
  refine List.pairwise_cons.2 ⟨fun q hq=>?_,ih⟩
  have hd:=((Je k [] m (by simp at hk ⊢;omega) hl hm'.2 h1 g2 q).1 hq).pid h1 g2
  have e0:Zr (Ent.zero,s)=s.id:=by have:=h2 s (.head _);unfold Zr Ent.zero;simp only [];omega
  rcases hd with ⟨a,_⟩|⟨a,b,_⟩
  ·cases a
  ·have:=hm'.1 _ a;omega
 | k+1,r :: l,s :: m,hk,hl,hm,h1,h2=>by
  have hl':=List.pairwise_cons.1 hl
  have hm':=List.pairwise_cons.1 hm
  have g1:∀ e,e∈l→1≤e.id:=fun e h=>h1 e (.tail _ h)
  have g2:∀ e,e∈m→1≤e.id:=fun e h=>h2 e (.tail _ h)
  have r1:=h1 r (.head _)
  have s1:=h2 s (.head _)
  rw [List.length_cons,List.length_cons] at hk
  unfold Qz Zb8
  by_cases c1:r.id<s.id
  ·simp only [c1,if_true]
   rw [if_neg (Zaq r1)]
   refine List.pairwise_cons.2 ⟨fun q hq=>?_,ZbA k l (s :: m) (by rw [List.length_cons];omega) hl'.2 hm g1 h2⟩
   have hd:=((Je k l (s :: m) (by rw [List.length_cons];omega) hl'.2 hm g1 h2 q).1 hq).pid g1 h2
   have e0:Zr (r,Ent.zero)=r.id:=by unfold Zr Ent.zero;simp only [];omega
   rcases hd with ⟨a,b,_⟩|⟨a,b,_⟩
   ·have:=hl'.1 _ a;omega
   ·rcases List.mem_cons.1 a with e | a
    ·rw [e] at b;omega
    ·have:=hm'.1 _ a;omega
  ·by_cases c2:s.id<r.id
   ·simp only [c1,c2,if_true,if_false]
    rw [if_neg (fun e=>Zaq s1 e.symm)]
    refine List.pairwise_cons.2 ⟨fun q hq=>?_,ZbA k (r :: l) m (by rw [List.length_cons];omega) hl hm'.2 h1 g2⟩
    have hd:=((Je k (r :: l) m (by rw [List.length_cons];omega) hl hm'.2 h1 g2 q).1 hq).pid h1 g2
    have e0:Zr (Ent.zero,s)=s.id:=by unfold Zr Ent.zero;simp only [];omega
    rcases hd with ⟨a,b,_⟩|⟨a,b,_⟩
    ·rcases List.mem_cons.1 a with e | a
     ·rw [e] at b;omega
     ·have:=hl'.1 _ a;omega
    ·have:=hm'.1 _ a;omega
   ·have ih:=ZbA k l m (by omega) hl'.2 hm'.2 g1 g2
    simp only [c1,c2,if_false]
    split
    ·exact ih
    ·refine List.pairwise_cons.2 ⟨fun q hq=>?_,ih⟩
     have hd:=((Je k l m (by omega) hl'.2 hm'.2 g1 g2 q).1 hq).pid g1 g2
     have e0:Zr (r,s)=r.id:=by unfold Zr;simp only [];omega
     rcases hd with ⟨a,b,_⟩|⟨a,b,_⟩
     ·have:=hl'.1 _ a;omega
     ·have:=hm'.1 _ a;omega
theorem ZhS {s t:Int} {es fs:List Ent} (va:Zl s es=true) (vb:Zl t fs=true):(Zw es fs).Pairwise (fun p q=>Zr p<Zr q):=
 ZbA _ es fs (Nat.le_refl _) (YG va) (YG vb) (fun e h=>(Z4 va e h).1) (fun e h=>(Z4 vb e h).1)
def Za0 (p:Ent × Ent):Option Ent:=if p.2.id=0 then none else some p.2
def XT (ds:List (Ent × Ent)):List Ent:=ds.filterMap Za0
theorem ZnW {ds:List (Ent × Ent)} {x:Ent}:x∈XT ds↔∃ p,p∈ds∧p.2.id≠0∧p.2=x:=by
 unfold XT Za0
 rw [List.mem_filterMap]
 constructor
 ·rintro ⟨p,hp,h⟩
  split at h
  ·cases h
  ·rename_i hz;injection h with h;exact ⟨p,hp,hz,h⟩
 ·rintro ⟨p,hp,hz,h⟩
  exact ⟨p,hp,by rw [if_neg hz,h]⟩
theorem Zdj {s t:Int} {es fs:List Ent} (va:Zl s es=true) (vb:Zl t fs=true) {x:Ent}:x∈XT (Zw es fs)↔x∈fs∧x∉es:=by
 rw [ZnW]
 constructor
 ·rintro ⟨p,hp,hz,rfl⟩
  cases (Xv va vb p).1 hp with
  | was he hf=>exact absurd rfl hz
  | now hf he=>exact ⟨hf,fun h=>he _ h rfl⟩
  | both he hf e1 e2=>exact ⟨hf,fun h=>e2 ((YG va).eq he h e1)⟩
 ·rintro ⟨hf,hn⟩
  have h1:=(Z4 vb x hf).1
  by_cases he:∃ e,e∈es∧e.id=x.id
  ·obtain ⟨e,he,e1⟩:=he
   exact ⟨(e,x),(Xv va vb _).2 (.both he hf e1 (fun e2=>hn (e2▸he))),by simp only [];omega,rfl⟩
  ·exact ⟨(Ent.zero,x),(Xv va vb _).2 (.now hf (fun e h e1=>he ⟨e,h,e1⟩)),by simp only [];omega,rfl⟩
theorem ZhT {s t:Int} {es fs:List Ent} (va:Zl s es=true) (vb:Zl t fs=true) {k:Int}:k∈ZO (Zw es fs)↔(∃ x,x∈es∧x∉fs∧x.id=k)∨(∃ x,x∈fs∧x∉es∧x.id=k):=by
 unfold ZO
 rw [List.mem_map]
 have h1:∀ e,e∈es→1≤e.id:=fun e h=>(Z4 va e h).1
 have h2:∀ e,e∈fs→1≤e.id:=fun e h=>(Z4 vb e h).1
 constructor
 ·rintro ⟨p,hp,rfl⟩
  have hd:=(Xv va vb p).1 hp
  cases hd with
  | @was e he hf=>
   have:=h1 _ he
   exact .inl ⟨e,he,fun h=>hf _ h rfl,by unfold Zr Ent.zero;simp only [];omega⟩
  | @now f hf he=>
   have:=h2 _ hf
   exact .inr ⟨f,hf,fun h=>he _ h rfl,by unfold Zr Ent.zero;simp only [];omega⟩
  | @both e f he hf e1 e2=>exact .inr ⟨f,hf,fun h=>e2 ((YG va).eq he h e1),by unfold Zr;simp only [];omega⟩
 ·rintro (⟨x,he,hn,rfl⟩|⟨x,hf,hn,rfl⟩)
  ·have:=h1 _ he
   by_cases hf:∃ f,f∈fs∧f.id=x.id
   ·obtain ⟨f,hf,e1⟩:=hf
    exact ⟨(x,f),(Xv va vb _).2 (.both he hf e1.symm (fun e2=>hn (e2▸hf))),by unfold Zr;simp only [];omega⟩
   ·exact ⟨(x,Ent.zero),(Xv va vb _).2 (.was he (fun f h e1=>hf ⟨f,h,e1⟩)),by unfold Zr Ent.zero;simp only [];omega⟩
  ·have:=h2 _ hf
   by_cases he:∃ e,e∈es∧e.id=x.id
   ·obtain ⟨e,he,e1⟩:=he
    exact ⟨(e,x),(Xv va vb _).2 (.both he hf e1 (fun e2=>hn (e2▸he))),by unfold Zr;simp only [];omega⟩
   ·exact ⟨(Ent.zero,x),(Xv va vb _).2 (.now hf (fun e h e1=>he ⟨e,h,e1⟩)),by unfold Zr Ent.zero;simp only [];omega⟩
theorem ZhU {s t:Int} {es fs:List Ent} (va:Zl s es=true) (vb:Zl t fs=true) {k:Int}:k∈YL (Zw es fs)↔∃ x,x∈es∧x.id=k∧∀ f,f∈fs→f.id≠k:=by
 unfold YL
 rw [List.mem_filterMap]
 have h2:∀ e,e∈fs→1≤e.id:=fun e h=>(Z4 vb e h).1
 constructor
 ·rintro ⟨p,hp,h⟩
  unfold ZaY at h
  have hd:=(Xv va vb p).1 hp
  cases hd with
  | @was e he hf=>simp [Ent.zero] at h;exact ⟨e,he,h,fun f h'=>h▸hf f h'⟩
  | @now f hf he=>have:=h2 _ hf;simp at h;omega
  | @both e f he hf e1 e2=>have:=h2 _ hf;simp at h;omega
 ·rintro ⟨x,he,rfl,hf⟩
  exact ⟨(x,Ent.zero),(Xv va vb _).2 (.was he hf),by unfold ZaY;simp [Ent.zero]⟩
theorem ZeY {s t:Int} {es fs:List Ent} (va:Zl s es=true) (vb:Zl t fs=true):Ym (XT (Zw es fs)):=by
 unfold XT Ym
 rw [List.pairwise_filterMap]
 refine (List.Pairwise.and_mem.1 (ZhS va vb)).imp ?_
 rintro p q ⟨hp,hq,hlt⟩ x hx y hy
 have key:∀ p,p∈Zw es fs→∀ x,Za0 p=some x→x.id=Zr p:=by
  intro p hp x hx
  unfold Za0 at hx
  split at hx
  ·cases hx
  rename_i hz
  injection hx with hx
  subst hx
  rcases ((Xv va vb p).1 hp).pid (fun e h=>(Z4 va e h).1) (fun e h=>(Z4 vb e h).1) with ⟨_,b,c⟩|⟨_,b,_⟩
  ·rcases c with ⟨_,c⟩|c
   ·omega
   ·rw [c] at hz;exact absurd rfl hz
  ·exact b.symm
 rw [key p hp x hx,key q hq y hy]
 exact hlt
theorem ZnX {s t:Int} {es fs:List Ent} (va:Zl s es=true) (vb:Zl t fs=true):Zl t (XT (Zw es fs))=true:=by
 have hr:=ZeY va vb
 refine Zap.2 ⟨(Zap.1 vb).1,?_,hr,fun e he=>Y0 vb e ((Zdj va vb).1 he).1⟩
 have:=ZeW hr (m:=fs) (fun x hx=>⟨x,((Zdj va vb).1 hx).1,rfl⟩)
 have:=(Zap.1 vb).2.1
 omega
theorem ZnY {s t:Int} {es fs:List Ent} (va:Zl s es=true) (vb:Zl t fs=true):(XT (Zw es fs)).length≤fs.length:=
 ZeW (ZeY va vb) (m:=fs) (fun x hx=>⟨x,((Zdj va vb).1 hx).1,rfl⟩)
theorem ZhV {s t:Int} {es fs:List Ent} (va:Zl s es=true) (vb:Zl t fs=true):QT es (XT (Zw es fs)) (ZO (Zw es fs))=fs:=by
 refine ZeU (Zdi (YG va) (ZeY va vb)) (YG vb) (fun x=>?_)
 rw [Zdh,Zdj va vb,ZhT va vb]
 constructor
 ·rintro (⟨h,hn⟩|⟨h,_⟩)
  ·exact Classical.byContradiction fun hf=>hn (.inl ⟨x,h,hf,rfl⟩)
  ·exact h.1
 ·intro hf
  by_cases he:x∈es
  ·refine .inl ⟨he,?_⟩
   rintro (⟨y,hy,hn,e⟩|⟨y,hy,hn,e⟩)
   ·exact hn ((YG va).eq hy he e▸hf)
   ·exact hn ((YG vb).eq hy hf e▸he)
  ·exact .inr ⟨⟨hf,he⟩,.inr ⟨x,hf,he,rfl⟩⟩
theorem ZnZ {s t:Int} {es fs:List Ent} (va:Zl s es=true) (vb:Zl t fs=true):(XR es (XT (Zw es fs)) (ZO (Zw es fs))).length=fs.length:=by
 have:=ZhV va vb
 rw [←Zdg]
 exact congrArg List.length this
end
end Go.Proofs.YtlgcfimhfmgkmaaGreatDoor
namespace Go.Proofs.YtlgcfimhfmgkmaaGreatDoor
section
open Go.RowKit Go.Shelf
theorem Zdk (n:Int) (s:Nat) (h0:-1≤n) (h1:n≤18) (hs:s<3∨n=-1∧s<4):s<dsz (Zp n):=by
 rw [Zeq n h0 h1]
 split<;>omega
section
variable {w0 Wr W W':World} {B:Nat} {X:EX} {c0:St × Bun} {ops:List Op} {F F':List Nat} {cs:List (Nat × Obj)}
theorem ES.maps_lt {c:St × Bun} (h:ES w0 W X c F):X.m1<W.heap.size∧X.m2<W.heap.size:=by
 obtain ⟨⟨Fe,k,eF,hS,hR,hn1,hn2⟩,hne,hsh⟩:=h
 have h1:=(hS.sep.1 (ZU X.m1 X.m2 k) (by simp [Xm])).lt
 exact ⟨h1 _ (by simp [ZU]),h1 _ (by simp [ZU])⟩
structure RD (w0 Wr W:World) (B:Nat) (X:EX) (c0:St × Bun) (ops:List Op) (F:List Nat) (cs:List (Nat × Obj)):Prop where
 eb:EB w0 W X (steps Zv c0 ops) F cs
 cnt:(steps Zv c0 ops).1.cnt=c0.1.cnt+ops.length
 kf:KeepsFrom B Wr W
 lo:X.m1<B∧X.m2<B∧w0.heap.size≤B
theorem RD.below (h:RD w0 Wr W B X c0 ops F cs) (hb:Below W.heap.size W W'):RD w0 Wr W' B X c0 ops F cs:=⟨h.eb.below hb,h.cnt,h.kf.trans ((Zb9 hb).from _),h.lo⟩
theorem RD.alloc (h:RD w0 Wr W B X c0 ops F cs) (o:Obj):RD w0 Wr (W.alloc o) B X c0 ops F ((W.heap.size,o) :: cs):=⟨h.eb.alloc o,h.cnt,h.kf.trans ((KeepsOthers.alloc _ _).from _),h.lo⟩
theorem RD.drew (h:RD w0 Wr W B X c0 ops F cs):RD w0 Wr W.drew B X c0 ops F cs:=h.below (Below.refl _ _).drew
theorem RD.sub {ds:List (Nat × Obj)} (h:RD w0 Wr W B X c0 ops F cs) (hs:∀ p,p∈ds→p∈cs):RD w0 Wr W B X c0 ops F ds:=⟨h.eb.sub hs,h.cnt,h.kf,h.lo⟩
theorem RD.set {q:Nat} {v v':Value} {T:TypeId} (h:RD w0 Wr W B X c0 ops F ((q,.cells #[v] T (0,0)) :: cs)) (hlo:w0.heap.size≤q) (hne:∀ p,p∈cs→p.1≠q):RD w0 Wr (W.setCell ⟨q,0,none⟩ v') B X c0 ops F ((q,.cells #[v'] T (0,0)) :: cs):=
 ⟨h.eb.set hlo hne,h.cnt,h.kf.trans ((KeepsOthers.setCell _ _ _).from _),h.lo⟩
theorem RD.at (h:RD w0 Wr W B X c0 ops F cs) {q:Nat} {o:Obj} (hq:(q,o)∈cs):W.heap[q]?=some o:=h.eb.at hq
theorem RD.bel (h:RD w0 Wr W B X c0 ops F cs):Below w0.heap.size w0 W:=h.eb.es.bel
theorem RD.kp (h:RD w0 Wr W B X c0 ops F cs) (hr:Below w0.heap.size w0 Wr):Below w0.heap.size Wr W:=
 ⟨h.bel.os.trans hr.os.symm,h.bel.tape.trans hr.tape.symm,h.bel.output.trans hr.output.symm,h.kf.size,fun q hq=>(h.bel.block q hq).trans (hr.block q hq).symm⟩
theorem RD.symbol (h:RD w0 Wr W B X c0 ops F cs) (n:Int) (s:Nat) (h0:-1≤n) (h1:n≤18) (hs:s<3∨n=-1∧s<4) (hc:c0.1.cnt+ops.length<32768) :
  Calls Tryz.prog 112 #[.int .i64 n,.int .i64 (s:Nat),.pointer (some ⟨X.bb,0,none⟩),.pointer (some ⟨X.eb,0,none⟩),.pointer (some ⟨X.mb,0,none⟩)] W fun e w'=>e=.returned (.tuple #[])∧∃ F',RD w0 Wr w' B X c0 (ops++[(Zp n,s)]) F' cs:=by
 have hf:=Zdk n s h0 h1 hs
 refine (ZgZ X (steps Zv c0 ops) F n s h0 h1 hf w0 W h.eb.es (by rw [h.cnt];exact hc)).mono ?_
 rintro e w' ⟨rfl,F',hes,hfr⟩
 have hk:=h.eb.es.froms hfr h.lo.1 h.lo.2.1
 have e1:steps Zv c0 (ops++[(Zp n,s)])=step Zv (steps Zv c0 ops) (Zp n,s):=by rw [ZcM];rfl
 have ho:=(h.eb.es.ok.step (bit:=Zv) (o:=(Zp n,s)) hf).2
 refine ⟨rfl,F',⟨?_,?_,h.kf.trans hk,h.lo⟩⟩
 ·rw [e1];exact h.eb.call hes hfr
 ·rw [e1,ho,h.cnt,List.length_append];simp;omega
theorem RD.number (h:RD w0 Wr W B X c0 ops F cs) (n v:Int) (h0:-3≤n) (h1:n≤1000) (v0:-9223372036854775808≤v) (v1:v≤9223372036854775807) (hc:c0.1.cnt+ops.length+65≤32768) :
  Calls Tryz.prog 115 #[.int .i64 n,.int .i64 v,.pointer (some ⟨X.bb,0,none⟩),.pointer (some ⟨X.eb,0,none⟩),.pointer (some ⟨X.mb,0,none⟩)] W fun e w'=>e=.returned (.tuple #[])∧∃ F',RD w0 Wr w' B X c0 (ops++Yh n v) F' cs:=by
 refine (Zg1 X (steps Zv c0 ops) F n v h0 h1 v0 v1 w0 W h.eb.es (by rw [h.cnt];exact hc)).mono ?_
 rintro e w' ⟨rfl,F',hes,hfr⟩
 have hk:=h.eb.es.froms hfr h.lo.1 h.lo.2.1
 have e1:steps Zv c0 (ops++Yh n v)=steps Zv (steps Zv c0 ops) (Yh n v):=ZcM _ _ _
 have ho:=(h.eb.es.ok.steps (bit:=Zv) (QN n v).1).2
 refine ⟨rfl,F',⟨?_,?_,h.kf.trans hk,h.lo⟩⟩
 ·rw [e1];exact h.eb.call hes hfr
 ·rw [e1,ho,h.cnt,List.length_append];omega
theorem RD.start (h:EB w0 Wr X (steps Zv c0 ops) F cs) (hc:(steps Zv c0 ops).1.cnt=c0.1.cnt+ops.length) (lo:X.m1<B∧X.m2<B∧w0.heap.size≤B):RD w0 Wr Wr B X c0 ops F cs:=⟨h,hc,KeepsFrom.refl _ _,lo⟩
end
end
end Go.Proofs.YtlgcfimhfmgkmaaGreatDoor
namespace Go.Proofs.YtlgcfimhfmgkmaaGreatDoor
section
open Go.RowKit Go.Shelf
theorem ES.notin {w0 W:World} {X:EX} {c:St × Bun} {F:List Nat} (h:ES w0 W X c F) {q:Nat} {cs:Array Value} {T:TypeId} (hq:W.heap[q]?=some (.cells cs T (0,0)))
  (hT:T≠188∧T≠5∧T≠290∧T≠3∧T≠261∧T≠192∧T≠34):q∉F:=by
 obtain ⟨⟨Fe,k,eF,hS,hR,hn1,hn2⟩,hne,hsh⟩:=h
 obtain ⟨t1,t2,t3,t4,t5,t6,t7⟩:=hT
 intro hm
 rw [eF] at hm
 obtain ⟨p,hp,hm⟩:=Qf.1 hm
 have no:∀ {ds:Array Value} {U:TypeId},W.heap[q]?=some (.cells ds U (0,0))→T≠U→False:=fun h1 h2=>by
  rw [hq] at h1;injection h1 with h1;injection h1 with _ h1;exact h2 h1
 simp only [Xm,List.mem_cons,List.not_mem_nil,or_false] at hp
 rcases hp with rfl|rfl|rfl|rfl|rfl
 ·have he:EOk (Xc w0.heap.size X.eb) W Fe c.1:=hS.sep.head
  obtain ⟨ds,t,h1,h2⟩:=he.c.types hm
  rcases h2 with h2 | h2
  ·exact no h1 (by rw [h2];exact t1)
  ·exact no h1 (by rw [h2];exact t2)
 ·have hk:KAt W k.J k.bm k.g k.nums c.2:=hS.sep.tail.head
  rcases YX.1 hm with ⟨j,hj,rfl|rfl⟩|⟨p,hp,rfl⟩
  ·exact no (hk.mod j hj).blk t3
  ·exact no (hk.mod j hj).row t4
  ·exact no (hk.num p hp).1 t5
 ·have h1:Yd W X.m1 k.n1 k.t1:=hS.sep.tail.tail.head.1
  have h2:Yd W X.m2 k.n2 k.t2:=hS.sep.tail.tail.head.2
  obtain ⟨_,_,b1⟩:=h1.blk
  obtain ⟨_,_,b2⟩:=h2.blk
  simp only [ZU,List.mem_cons,List.not_mem_nil,or_false] at hm
  rcases hm with rfl|rfl
  ·rw [hq] at b1;cases b1
  ·rw [hq] at b2;cases b2
 ·simp only [Zb,List.mem_cons,List.not_mem_nil,or_false] at hm
  subst hm
  have hb:W.heap[X.mb]?=some (ZJ X.m1 X.m2):=hS.sep.tail.tail.tail.head
  exact no hb t6
 ·simp only [Zb,List.mem_cons,List.not_mem_nil,or_false] at hm
  subst hm
  have hb:W.heap[X.bb]?=some ZI:=hS.sep.tail.tail.tail.tail.head
  exact no hb t7
theorem EB.cons {w0 W:World} {X:EX} {c:St × Bun} {F:List Nat} {cs:List (Nat × Obj)} (h:EB w0 W X c F cs) {q:Nat} {o:Obj} (hq:W.heap[q]?=some o) (hn:q∉F):EB w0 W X c F ((q,o) :: cs):=by
 refine ⟨h.es,fun p hp=>?_⟩
 rcases List.mem_cons.1 hp with rfl | hp
 ·exact ⟨hq,hn⟩
 ·exact h.kp p hp
theorem RD.store {w0 Wr W:World} {B:Nat} {X:EX} {c0:St × Bun} {ops:List Op} {F:List Nat} {cs:List (Nat × Obj)} {q:Nat} {v:Value} {T:TypeId} (v':Value) (h:RD w0 Wr W B X c0 ops F ((q,.cells #[v] T (0,0)) :: cs)) (hlo:w0.heap.size≤q) (hne:∀ p,p∈cs→p.2≠.cells #[v] T (0,0)):RD w0 Wr (W.setCell ⟨q,0,none⟩ v') B X c0 ops F ((q,.cells #[v'] T (0,0)) :: cs):=
 h.set hlo (fun p hp e=>hne p hp (by
  have h1:=(h.eb.kp p (List.mem_cons_of_mem _ hp)).1
  have h2:=(h.eb.kp _ (List.mem_cons_self)).1
  rw [e,h2] at h1
  injection h1 with h1
  exact h1.symm))
abbrev Xw (p:PR):Obj:=.cells #[.int .i64 p.was.e.id,.slice p.was.A p.was.n p.was.c,.int .i64 p.now.e.id,.slice p.now.A p.now.n p.now.c] 129 (0,0)
structure POk (w:World) (p:PR):Prop where
 was:Zo w p.was.A p.was.n p.was.c p.was.e.cs
 now:Zo w p.now.A p.now.n p.now.c p.now.e.cs
 inw:Xg p.was.e.cs
 inn:Xg p.now.e.cs
 idw:0≤p.was.e.id∧p.was.e.id≤65536
 idn:0≤p.now.e.id∧p.now.e.id≤65536
theorem Zdl (w:World):Zo w ER.zero.A ER.zero.n ER.zero.c ER.zero.e.cs:=⟨rfl,fun j c hj=>by simp [ER.zero] at hj,fun _=>⟨rfl,rfl⟩,Nat.zero_le _,fun c hc=>by simp [ER.zero] at hc⟩
theorem pok {w:World} {s t:Int} {A B:Option Addr} {n c m d:Nat} {es fs:List Ent} {la lb:List ER} (xa:Xe w A n c la) (xb:Xe w B m d lb) (va:Zl s es=true) (vb:Zl t fs=true) (ea:la.map ER.e=es) (eb:lb.map ER.e=fs) (x:PF la lb):POk w x.1:=by
 have ha:∀ r,r∈la→Yv r.e=true:=fun r hr=>Y0 va r.e (by rw [←ea];exact List.mem_map.2 ⟨r,hr,rfl⟩)
 have hb:∀ r,r∈lb→Yv r.e=true:=fun r hr=>Y0 vb r.e (by rw [←eb];exact List.mem_map.2 ⟨r,hr,rfl⟩)
 obtain ⟨p,hw,hn⟩:=x
 have z:Xg ER.zero.e.cs:=fun c hc=>by simp [ER.zero] at hc
 rcases hw with hw | hw<;>rcases hn with hn | hn
 ·exact ⟨xa.row hw,xb.row hn,Zam (ha _ hw),Zam (hb _ hn),by have:=Jb (ha _ hw);simp only [];omega,by have:=Jb (hb _ hn);simp only [];omega⟩
 ·simp only [] at hw hn ⊢
  exact ⟨xa.row hw,by rw [hn];exact Zdl w,Zam (ha _ hw),by rw [hn];exact z,by have:=Jb (ha _ hw);omega,by rw [hn];exact ⟨Int.le_refl _,by decide⟩⟩
 ·simp only [] at hw hn ⊢
  exact ⟨by rw [hw];exact Zdl w,xb.row hn,by rw [hw];exact z,Zam (hb _ hn),by rw [hw];exact ⟨Int.le_refl _,by decide⟩,by have:=Jb (hb _ hn);omega⟩
 ·simp only [] at hw hn ⊢
  exact ⟨by rw [hw];exact Zdl w,by rw [hn];exact Zdl w,by rw [hw];exact z,by rw [hn];exact z,by rw [hw];exact ⟨Int.le_refl _,by decide⟩,by rw [hn];exact ⟨Int.le_refl _,by decide⟩⟩
theorem POk.pid {w:World} {p:PR} (h:POk w p):0≤Zr p.e∧Zr p.e≤65536:=by
 have:=h.idw
 have:=h.idn
 unfold Zr PR.e
 simp only []
 omega
theorem ZhW (l:List (Ent × Ent)) (h:∀ p,p∈l→0≤Zr p∧Zr p≤65536):0≤Qn l∧Qn l≤65536:=by
 have key:∀ (l:List (Ent × Ent)) (a:Int),(∀ p,p∈l→0≤Zr p∧Zr p≤65536)→0≤a∧a≤65536→0≤Zal a l∧Zal a l≤65536:=by
  intro l
  induction l with
  | nil=>intro a _ ha;exact ha
  | cons p l ih=>intro a h _;exact ih _ (fun q hq=>h q (by simp [hq])) (h p (by simp))
 exact key l 0 h ⟨Int.le_refl _,by decide⟩
theorem Zdm (k:Nat) (cs:List Cmp):(ZL k cs).kind=k:=by
 unfold ZL
 rcases hf:ZC k cs with _ | c
 ·rfl
 ·have:=List.find?_some hf
  simpa using this
abbrev ZF (c:Cmp):Obj:=.cells #[.int .u8 (c.kind:Nat),.int .i64 c.v0,.int .i64 c.v1,.int .i64 c.v2,.int .i64 c.v3] 75 (0,0)
theorem ZeZ (id:Int) (A:Option Addr) (n c:Nat) (cs:List Cmp) (k:Nat) (w:World) (h:Zo w A n c cs) :
  Calls Tryz.prog 118 #[.agg #[.int .i64 id,.slice A n c],.int .u8 (k:Nat)] w fun r w'=>r=.returned (.tuple #[.agg #[.int .u8 ((ZL k cs).kind:Nat),.int .i64 (ZL k cs).v0,.int .i64 (ZL k cs).v1,.int .i64 (ZL k cs).v2,.int .i64 (ZL k cs).v3],.bool (YM k cs)])∧Below w.heap.size w w':=ZnJ id A n c cs k w h
def u8V:Value→Nat
 | .int _ n=>n.toNat
 | _=>0
theorem Zn0 {was now:List Cmp} {k:Nat} (h:1≤k):YC was now k=YC was now (k-1)++XQ was now k:=by
 have:=ZeQ was now (k-1)
 rw [show k-1+1=k by omega] at this
 exact this
theorem Zn1 {p:PR} {O:List Op} {L P:Int} (hP:P=Zr p.e) (hn:p.now.e.id=0):((O++[(Zp (-1),Xf p.e)])++Yh (-3) (P-L))++YC p.was.e.cs p.now.e.cs 0=O++Xu p.e L:=by
 have h2:p.e.2.id=0:=hn
 unfold Xu
 rw [if_pos h2,hP]
 simp [YC]
theorem Zn2 {p:PR} {O:List Op} {L P:Int} (hP:P=Zr p.e) (hn:¬ p.now.e.id=0):((O++[(Zp (-1),Xf p.e)])++Yh (-3) (P-L))++YC p.was.e.cs p.now.e.cs 10=O++Xu p.e L:=by
 have h2:¬ p.e.2.id=0:=hn
 unfold Xu
 rw [if_neg h2,hP]
 simp [PR.e]
theorem RD.box {w0 Wr W:World} {B:Nat} {X:EX} {c0:St × Bun} {ops:List Op} {F:List Nat} {cs:List (Nat × Obj)} (h:RD w0 Wr W B X c0 ops F cs) (o:Obj):∃ v b,v=W.alloc o∧b=W.heap.size∧RD w0 Wr v B X c0 ops F ((b,o) :: cs):=⟨_,_,rfl,rfl,h.alloc o⟩
theorem Za1 {w:World} {b:Nat} {c:Cmp} (h:w.heap[b]?=some (ZF c)):w.cell? ⟨b,0,none⟩=some (.int .u8 (c.kind:Nat))∧w.cell? ⟨b,1,none⟩=some (.int .i64 c.v0)∧w.cell? ⟨b,2,none⟩=some (.int .i64 c.v1)∧w.cell? ⟨b,3,none⟩=some (.int .i64 c.v2)∧w.cell? ⟨b,4,none⟩=some (.int .i64 c.v3):=QM h
theorem Zn3 (was now:List Cmp) (m:Nat):(YC was now m).length≤(YC was now (m+1)).length:=by rw [ZeQ,List.length_append];omega
theorem Zn4 {was now:List Cmp} (h:Xg was) (h':Xg now) {m:Nat} (hm:m≤10):(YC was now m).length≤910:=by
 have key:∀ j,(YC was now m).length≤(YC was now (m+j)).length:=by
  intro j
  induction j with
  | zero=>exact Nat.le_refl _
  | succ j ih=>exact Nat.le_trans ih (Zn3 _ _ _)
 have h1:=key (10-m)
 rw [show m+(10-m)=10 by omega] at h1
 exact Nat.le_trans h1 (ZhI h h')
theorem Zn5 {k:Nat} {cs ds:List Cmp} (h:YM k cs=false) (h':YM k ds=false):ZL k cs=ZL k ds:=by
 unfold YM at h h'
 rw [Option.isSome_eq_false_iff,Option.isNone_iff_eq_none] at h h'
 unfold ZL
 rw [h,h']
theorem ZhX {k:Nat} (h:k≤10):(([0,2,2,4,1,1,1,4,2,4,4]:List Nat).getD k 0)=szK k:=by
 have:k=0∨k=1∨k=2∨k=3∨k=4∨k=5∨k=6∨k=7∨k=8∨k=9∨k=10:=by omega
 rcases this with rfl|rfl|rfl|rfl|rfl|rfl|rfl|rfl|rfl|rfl|rfl<;>rfl
theorem ZhY {x y:Cmp} {i:Nat} (hx:InV x) (hy:InV y):-8589934592≤y.v i-x.v i∧y.v i-x.v i≤8589934592:=by
 have:=hx i
 have:=hy i
 omega
theorem Ze0 {w:World} {b i:Nat} {c:Cmp} (h:w.heap[b]?=some (ZF c)) (hi:i<4):w.cell? ⟨b,1+i,none⟩=some (.int .i64 (c.v i)):=by
 obtain ⟨_,h1,h2,h3,h4⟩:=Za1 h
 have:i=0∨i=1∨i=2∨i=3:=by omega
 rcases this with rfl|rfl|rfl|rfl
 ·exact h1
 ·exact h2
 ·exact h3
 ·exact h4
end
end Go.Proofs.YtlgcfimhfmgkmaaGreatDoor
