/- Lemmas for the statement. -/
import Derived.Test.YtlgcfimhfmgkmaaGreatDoorMBA
import Derived.Test.YtlgcfimhfmgkmaaGreatDoorMAW
import Derived.Test.YtlgcfimhfmgkmaaGreatDoorMAX
set_option linter.unusedVariables false
set_option linter.unusedSimpArgs false
namespace Go.Proofs.YtlgcfimhfmgkmaaGreatDoor
open Go.RowKit
section
open Go.RowKit Go.Shelf
def LeQ (sc:Nat→Int) (a b:Nat):Prop:=sc b≤sc a∧(sc a=sc b→a≤b)
instance (sc:Nat→Int) (a b:Nat):Decidable (LeQ sc a b):=by unfold LeQ;infer_instance
def Zas (sc:Nat→Int) (a:Nat):List Nat→List Nat
 | []=>[a]
 | b :: l=>if LeQ sc a b then a :: b :: l else b :: Zas sc a l
def Zcf (sc:Nat→Int) (m:Nat):List Nat:=(List.range m).foldr (Zas sc) []
theorem Ze9 (sc:Nat→Int) (a:Nat):∀ l,(Zas sc a l).Perm (a :: l)
 | []=>List.Perm.refl _
 | b :: l=>by
  unfold Zas
  split
  ·exact List.Perm.refl _
  ·exact ((Ze9 sc a l).cons b).trans (List.Perm.swap a b l)
theorem Ziq (sc:Nat→Int) (a:Nat):∀ {l},l.Pairwise (LeQ sc)→(Zas sc a l).Pairwise (LeQ sc)
 | [],_=>List.pairwise_singleton _ _
 | b :: l,h=>by
  have h':=List.pairwise_cons.1 h
  unfold Zas
  split
  ·rename_i hle
   refine List.pairwise_cons.2 ⟨fun z hz=>?_,h⟩
   rcases List.mem_cons.1 hz with rfl | hz
   ·exact hle
   ·have:=h'.1 z hz
    unfold LeQ at *
    omega
  ·rename_i hle
   refine List.pairwise_cons.2 ⟨fun z hz=>?_,Ziq sc a h'.2⟩
   rcases List.mem_cons.1 ((Ze9 sc a l).mem_iff.1 hz) with rfl | hz
   ·unfold LeQ at *;omega
   ·exact h'.1 z hz
theorem ZoQ (sc:Nat→Int) (l:List Nat):(l.foldr (Zas sc) []).Perm l:=by
 induction l with
 | nil=>exact List.Perm.refl _
 | cons a l ih=>exact (Ze9 sc a _).trans (ih.cons a)
theorem ZoR (sc:Nat→Int) (l:List Nat):(l.foldr (Zas sc) []).Pairwise (LeQ sc):=by
 induction l with
 | nil=>exact List.Pairwise.nil
 | cons a l ih=>exact Ziq sc a ih
theorem Zfa (sc:Nat→Int) (m:Nat):(Zcf sc m).Perm (List.range m):=ZoQ sc _
theorem Zir (sc:Nat→Int) (m:Nat):(Zcf sc m).length=m:=by rw [(Zfa sc m).length_eq,List.length_range]
theorem ZoS (m:Nat):(QU m).map QI.i=List.range m:=by
 unfold QU
 rw [List.map_map]
 exact List.ext_getElem (by simp) (fun i h1 h2=>by simp)
theorem ZoT {m:Nat} {sc:Nat→Int} {qs:List (QI m)} (hp:qs.Perm (QU m)) (hs:qs.Pairwise (fun x y=>ltOf (cfQ sc) y x=false)):qs.map QI.i=Zcf sc m:=by
 have h1:(qs.map QI.i).Perm (Zcf sc m):=((hp.map QI.i).trans (by rw [ZoS])).trans (Zfa sc m).symm
 have h2:(qs.map QI.i).Pairwise (LeQ sc):=by
  rw [List.pairwise_map]
  refine hs.imp (fun {x y} h=>?_)
  rw [←Bool.not_eq_true,Zdr] at h
  unfold LeQ
  omega
 refine List.Perm.eq_of_pairwise (le:=LeQ sc) (fun a b _ _ h3 h4=>?_) h2 (ZoR sc _) h1
 unfold LeQ at h3 h4
 omega
def YT (l:List It) (ws:List Wt) (k:Nat):List Nat:=(Zcf (scS l ws) ws.length).take k
theorem ZoU {l:List It} {ws:List Wt} {k:Nat}:∀ i,i∈YT l ws k→i<ws.length:=fun i hi=>
 List.mem_range.1 ((Zfa (scS l ws) ws.length).mem_iff.1 (List.mem_of_mem_take hi))
theorem Zfb {w:World} {B e s n m c:Nat} {A:Option Addr} {xs:List Value} (h:w.ownsRow B e s (.slice A m c) n xs) (hA:A=none):m=0∧c=0:=by
 subst hA
 rcases h.2 with ⟨h',_⟩|⟨g',cap',cur,h',_⟩
 ·injection h' with _ h1 h2;exact ⟨h1,h2⟩
 ·simp at h'
theorem JP {w:World} {B n:Nat} {v:Value} {l:List Int} (h:w.ownsRow B 3 1 v n (Zu l)) (hn:n=l.length) (hl:n≤1000000) (hr:∀ x,x∈l→-9223372036854775808≤x∧x≤9223372036854775807):∃ A c,v=.slice A n c∧XF w A n l:=by
 subst hn
 rcases l with _|⟨c,l⟩
 ·obtain ⟨A,c,e⟩:=YF h
  exact ⟨A,c,e,rfl,fun j x hj=>by simp at hj,hl,hr⟩
 ·obtain ⟨b,cp,rfl,hb,hcell⟩:=Q7 h (by simp [Zu])
  refine ⟨_,cp,rfl,rfl,fun j x hj=>⟨b,0,rfl,?_⟩,hl,hr⟩
  rw [Nat.zero_add]
  exact hcell j _ (by unfold Zu;rw [List.getElem?_map,hj];rfl)
theorem Zis (l:List It) (ws:List Wt) (done:List Nat):(QE l ws done).length=ws.length:=by unfold QE;simp
theorem ZoV (A B:Option Addr) (n c m d k:Nat) (l:List It) (ws:List Wt) (w:World) (hl:ZG 3 It.ints w A n l) (hw:ZG 2 Wt.ints w B m ws) (vl:Qp l=true) (vw:Qo ws=true) :
  Calls Tryz.prog 49 #[.slice A n c,.slice B m d,.int .i64 (k:Nat)] w fun e w'=>∃ (ob:Nat) (SA:Option Addr) (sn sc:Nat),e=.returned (.tuple #[.slice (some ⟨ob,0,none⟩) m m,.slice SA sn sc,.int .i64 0]) ∧
   (ZG 3 It.ints w' (some ⟨ob,0,none⟩) m (QE l ws (YT l ws k))∧w.heap.size≤ob)∧(XF w' SA sn ((YT l ws k).map (idS ws))∧(SA=none→sn=0∧sc=0))∧Below w.heap.size w w':=by
 have Ze8:=(Zds vw).1
 have hrg:=(Zds vw).2
 have hm:=hw.len
 refine (ZoO A B n c m d k l ws w hl hw vl vw).mono ?_
 rintro e w' ⟨qs,ob,v,rfl,⟨hp,hs⟩,h3⟩
 have hq:=ZoT hp hs
 have hd:(qs.take (min k m)).map QI.i=YT l ws k:=by
  unfold YT
  rw [List.map_take,hq,←hm]
  refine List.ext_getElem? (fun i=>?_)
  rw [List.getElem?_take,List.getElem?_take]
  by_cases h1:i<min k m
  ·rw [if_pos h1,if_pos (by omega)]
  ·rw [if_neg h1]
   split
   ·rw [List.getElem?_eq_none (by rw [Zir];omega)]
   ·rfl
 have hlen:(YT l ws k).length=min k m:=by unfold YT;rw [List.length_take,Zir,hm]
 have hmap:(qs.take (min k m)).map (fun x=>idS ws x.i)=(YT l ws k).map (idS ws):=by rw [←hd,List.map_map];rfl
 have ho:=h3.o
 rw [hd] at ho
 have ZbC:=h3.sent
 rw [hmap] at ZbC
 have hsn:=ZbC
 obtain ⟨SA,sc,rfl,hI⟩:=JP ZbC (by rw [List.length_map,hlen]) (by omega) (fun x hx=>by
  obtain ⟨i,hi,rfl⟩:=List.mem_map.1 hx
  have hlt:=ZoU i hi
  unfold idS
  rw [List.getElem?_eq_getElem hlt]
  have:=(hrg _ (List.getElem_mem hlt)).1
  simp only []
  omega)
 refine ⟨ob,SA,_,sc,rfl,⟨⟨by rw [Zis];exact hm,fun j x hx=>⟨ob,0,rfl,fun r u hu=>?_⟩,by omega⟩,h3.lo⟩,⟨hI,Zfb hsn⟩,h3.out⟩
 have hj:j<m:=by have:=(List.getElem?_eq_some_iff.1 hx).1;rw [Zis] at this;omega
 rw [Nat.zero_add]
 refine ho.cell hj ?_
 rw [ZoN hx,List.getElem?_map,hu]
 rfl
theorem ZoW {l:List It} {ws:List Wt} {done:List Nat} (vl:Qp l=true) (vw:Qo ws=true):Qp (QE l ws done)=true:=by
 have hpr:(QE l ws done).map It.pr=ws.map Wt.pr:=by
  unfold QE
  rw [List.map_map]
  refine List.ext_getElem? (fun i=>?_)
  rw [List.getElem?_map,List.getElem?_map,List.getElem?_zipIdx]
  rcases ws[i]? with _ | x<;>rfl
 unfold Qo at vw
 unfold Qp
 rw [Bool.and_eq_true,hpr]
 refine ⟨vw,?_⟩
 rw [Bool.not_eq_true',List.any_eq_false]
 intro x hx
 unfold QE at hx
 obtain ⟨p,hp,rfl⟩:=List.mem_map.1 hx
 have h1:=Zim l (fun y hy=>((Zcd vl).2 y hy).2.2) p.1.i
 have h2:p.1∈ws:=by
  obtain ⟨i,hi⟩:=List.getElem?_of_mem hp
  rw [List.getElem?_zipIdx] at hi
  rcases hw:ws[i]? with _ | y
  ·rw [hw] at hi;cases hi
  ·rw [hw] at hi
   injection hi with hi
   rw [←hi]
   exact List.mem_of_getElem? hw
 have h3:=(Zds (by unfold Qo;exact vw)).2 p.1 h2
 unfold X4
 simp only [Bool.or_eq_true,decide_eq_true_eq,not_or]
 split<;>omega
end
end Go.Proofs.YtlgcfimhfmgkmaaGreatDoor
namespace Go.Proofs.YtlgcfimhfmgkmaaGreatDoor
open Go.RowKit
section
open M (blen zig zag)
def QV (f:Nat→List Op) (k m:Nat):List Op:=(List.range' k m).flatMap f
theorem ZoX (f:Nat→List Op) (k:Nat):QV f k 0=[]:=rfl
theorem Zit (f:Nat→List Op) (k m:Nat):QV f k (m+1)=f k++QV f (k+1) m:=by unfold QV;rw [List.range'_succ,List.flatMap_cons]
theorem ZoY (f:Nat→List Op) (m:Nat):(List.range m).flatMap f=QV f 0 m:=by unfold QV;rw [List.range_eq_range']
theorem ZoZ (f:Nat→List Op) (m:Nat):(List.range m).flatMap (fun j=>f (j+1))=QV f 1 m:=by
 unfold QV
 rw [List.range'_eq_map_range,List.flatMap_map]
 congr 1
 funext j
 rw [Nat.add_comm]
def ZbD:List (Ent × Ent)→Nat
 | []=>0
 | p :: _=>Xf p
def Jg (was now:List Cmp) (k m:Nat):List Op:=QV (XQ was now) k m
def X5 (last:Int) (ds:List (Ent × Ent)):List Op:=Ye last ds++[(Zp (-1),0)]
def JQ (p:Ent × Ent) (r:List (Ent × Ent)):List Op:=(if p.2.id=0 then [] else Jg p.1.cs p.2.cs 1 10)++X5 (Zr p) r
def Zfc (last:Int):List (Ent × Ent)→List Op
 | []=>[]
 | p :: r=>Yh (-3) (Zr p-last)++JQ p r
theorem Zfd (last:Int) (ds:List (Ent × Ent)):X5 last ds=(Zp (-1),ZbD ds) :: Zfc last ds:=by
 rcases ds with _|⟨p,r⟩
 ·rfl
 ·have hk:Jg p.1.cs p.2.cs 1 10=YC p.1.cs p.2.cs 10:=(ZoZ _ _).symm
  show (Xu p last++Ye (Zr p) r)++[(Zp (-1),0)]=(Zp (-1),Xf p) :: (Yh (-3) (Zr p-last)++((if p.2.id=0 then [] else Jg p.1.cs p.2.cs 1 10)++(Ye (Zr p) r++[(Zp (-1),0)])))
  rw [hk]
  unfold Xu
  simp
theorem Zfe (s t:Int) (ds:List (Ent × Ent)):X3 s t ds=Yh (-2) (t-s)++X5 0 ds:=rfl
theorem Zdu (p:Ent × Ent):(Xf p=1∧p.2.id=0)∨(Xf p=2∧p.2.id≠0)∨(Xf p=3∧p.2.id≠0):=by
 unfold Xf
 split
 ·exact .inl ⟨rfl,by assumption⟩
 ·split
  ·exact .inr (.inl ⟨rfl,by assumption⟩)
  ·exact .inr (.inr ⟨rfl,by assumption⟩)
theorem Zo0 {k i:Nat} {x y:Cmp}:∀ o,o∈Zak k x y i→Fit dsz o:=(QN _ _).1
theorem Zo1 {was now:List Cmp} {k:Nat} (hk:k≤18):∀ o,o∈XQ was now k→Fit dsz o:=by
 intro o ho
 rw [Zh2] at ho
 rcases List.mem_cons.1 ho with rfl | ho
 ·exact Zdk k (Xi k was now) (by omega) (by omega) (.inl (Zh3 k was now))
 ·split at ho
  ·unfold Qm at ho
   obtain ⟨i,_,ho⟩:=List.mem_flatMap.1 ho
   exact Zo0 o ho
  ·cases ho
theorem Zo2 (ds:List (Ent × Ent)):∀ (a:Int) o,o∈Ye a ds→Fit dsz o:=by
 induction ds with
 | nil=>intro a o ho;cases ho
 | cons p r ih=>
  intro a o ho
  rcases List.mem_append.1 ho with ho | ho
  ·unfold Xu at ho
   rcases List.mem_cons.1 ho with rfl | ho
   ·have:=Zdu p
    exact Zdk (-1) (Xf p) (by decide) (by decide) (by omega)
   ·rcases List.mem_append.1 ho with ho | ho
    ·exact (QN _ _).1 o ho
    ·split at ho
     ·cases ho
     ·unfold YC at ho
      obtain ⟨j,hj,ho⟩:=List.mem_flatMap.1 ho
      have:=List.mem_range.1 hj
      exact Zo1 (by omega) o ho
  ·exact ih _ o ho
theorem Zff (s t:Int) (ds:List (Ent × Ent)):∀ o,o∈X3 s t ds→Fit dsz o:=by
 intro o ho
 unfold X3 at ho
 rcases List.mem_append.1 ho with ho | ho
 ·exact (QN _ _).1 o ho
 ·rcases List.mem_append.1 ho with ho | ho
  ·exact Zo2 ds 0 o ho
  ·rw [List.mem_singleton] at ho
   subst ho
   exact Zdk (-1) 0 (by decide) (by decide) (by omega)
theorem Ziu (s t:Int) (ds:List (Ent × Ent)) (h:∀ p,p∈ds→Xg p.1.cs∧Xg p.2.cs):(X3 s t ds).length≤66+976*ds.length:=by
 unfold X3
 rw [List.length_append,List.length_append,List.length_singleton]
 have h1:=(QN (-2) (t-s)).2.1
 have h2:=ZeR ds h 0
 omega
abbrev Xo (s t:Int) (es fs:List Ent):List Bool:=YA (steps Zv (st0,ZT) (X3 s t (Zw es fs))).1
theorem Zo3 (s t:Int) (es fs:List Ent) {n:Nat} {f:Nat→Nat} (hn:Zk (Xo s t es fs)≤n) (hf:∀ i,i<Zk (Xo s t es fs)→f i=M.byteOf (Xo s t es fs) i) :
  DOk (Zx n f) dsz (Z9 (Zx n f) 32,ZT)∧Reads (Zx n f) (Z9 (Zx n f) 32,ZT) (X3 s t (Zw es fs)):=by
 have e1:ZaS ZT (fun _=>X3 s t (Zw es fs)) 1=steps Zv (st0,ZT) (X3 s t (Zw es fs)):=by
  unfold ZaS
  rw [Zes]
  rfl
 have hb:Zbn (Zx n f) (YA (ZaS ZT (fun _=>X3 s t (Zw es fs)) 1).1):=by rw [e1];exact ZmH hn hf
 have h:=ZmM Zb3 (fun j _=>Zff s t (Zw es fs)) hb 0 (by decide)
 exact ⟨h.1,h.2 (by decide)⟩
theorem Zfg {s t:Int} {es fs:List Ent} (va:Zl s es=true) (vb:Zl t fs=true):∀ p,p∈Zw es fs→Xg p.1.cs∧Xg p.2.cs:=by
 intro p hp
 have hz:Xg Ent.zero.cs:=fun c hc=>by cases hc
 cases (Xv va vb p).1 hp with
 | was he hf=>exact ⟨Zam (Y0 va _ he),hz⟩
 | now hf he=>exact ⟨hz,Zam (Y0 vb _ hf)⟩
 | both he hf e1 e2=>exact ⟨Zam (Y0 va _ he),Zam (Y0 vb _ hf)⟩
theorem Zo4 {s t:Int} {es fs:List Ent} (va:Zl s es=true) (vb:Zl t fs=true):∀ p,p∈Zw es fs→ZbB p.1.cs∧ZbB p.2.cs:=by
 intro p hp
 have hz:ZbB Ent.zero.cs:=fun c hc=>by cases hc
 cases (Xv va vb p).1 hp with
 | was he hf=>exact ⟨(Za2 (Y0 va _ he)).2,hz⟩
 | now hf he=>exact ⟨hz,(Za2 (Y0 vb _ hf)).2⟩
 | both he hf e1 e2=>exact ⟨(Za2 (Y0 va _ he)).2,(Za2 (Y0 vb _ hf)).2⟩
theorem Zdv {s t:Int} {es fs:List Ent} (va:Zl s es=true) (vb:Zl t fs=true):(Zw es fs).length≤es.length+fs.length:=by
 have h1:((Zw es fs).map Zr).Nodup:=List.pairwise_map.2 ((ZhS va vb).imp (fun h=>by omega))
 have h2:((Zw es fs).map Zr) ⊆ ((es++fs).map Ent.id):=fun i hi=>by
  obtain ⟨p,hp,rfl⟩:=List.mem_map.1 hi
  rcases ((Xv va vb p).1 hp).pid (fun e h=>(Z4 va e h).1) (fun e h=>(Z4 vb e h).1) with ⟨a,b,_⟩|⟨a,b,_⟩
  ·exact List.mem_map.2 ⟨p.1,List.mem_append_left _ a,b.symm⟩
  ·exact List.mem_map.2 ⟨p.2,List.mem_append_right _ a,b.symm⟩
 have:=h1.length_le_of_subset h2
 simpa using this
theorem Zo5 {s t:Int} {es fs:List Ent} (va:Zl s es=true) (vb:Zl t fs=true) {p:Ent × Ent} (hp:p∈Zw es fs) (hn:p.2.id≠0) {x:Ent} {b:Bool} (h:Zij es (Zr p) x b):x.cs=p.1.cs:=by
 have h1:∀ e,e∈es→1≤e.id:=fun e h=>(Z4 va e h).1
 have h2:∀ e,e∈fs→1≤e.id:=fun e h=>(Z4 vb e h).1
 cases (Xv va vb p).1 hp with
 | was he hf=>exact absurd rfl hn
 | @now f hf he=>
  have Zfh:Zr (Ent.zero,f)=f.id:=by have:=h2 _ hf;unfold Zr Ent.zero;simp only [];omega
  rw [Zfh] at h
  rcases h with ⟨_,hx,e⟩|⟨_,rfl,_⟩
  ·exact absurd e (he x hx)
  ·rfl
 | @both e f he hf e1 e2=>
  have Zfh:Zr (e,f)=e.id:=by unfold Zr;simp only [];omega
  rw [Zfh] at h
  rcases h with ⟨_,hx,e3⟩|⟨_,_,hno⟩
  ·rw [(YG va).eq hx he e3]
  ·exact absurd rfl (hno e he)
theorem Zo6 {w W:World} {X:DX} {F:List Nat} {T:List Op} {l:List Part} (h:Ses w W (Zb X.mb (ZJ X.m1 X.m2) :: Yr k0D ZT :: ZU X.m1 X.m2 k0D :: Zb X.bb ZI :: Zb X.db (XN X.bw) :: Y8 X.B X.bw X.G X.A X.n X.cap X.f F (Z9 X.bit 32) :: l))
  (hne:X.m1≠X.m2) (hok:DOk X.bit dsz (Z9 X.bit 32,ZT)) (hrd:Reads X.bit (Z9 X.bit 32,ZT) T) (hlen:T.length+65≤32768):DD w W X T l:=by
 refine ⟨⟨F,k0D,(Z9 X.bit 32,ZT),?_,⟨Zg2,Nat.zero_le _,Nat.zero_le _⟩,hok,hrd,?_⟩,hne⟩
 ·have h1:Ses w W (XE X F k0D (Z9 X.bit 32,ZT)++l):=by
   refine h.perm ?_
   refine (List.perm_middle (l₁:=[Zb X.mb (ZJ X.m1 X.m2),Yr k0D ZT,ZU X.m1 X.m2 k0D,Zb X.bb ZI,Zb X.db (XN X.bw)]) (l₂:=l)).trans (List.Perm.cons _ ?_)
   refine (List.Perm.swap (Yr k0D ZT) (Zb X.mb (ZJ X.m1 X.m2)) _).trans (List.Perm.cons _ ?_)
   exact List.Perm.swap (ZU X.m1 X.m2 k0D) (Zb X.mb (ZJ X.m1 X.m2)) _
  exact h1.perm List.perm_append_comm
 ·have:(Z9 X.bit 32).cnt=0:=rfl
  rw [show ((Z9 X.bit 32,ZT):St × Bun).1.cnt=0 from rfl]
  omega
theorem DD.bad {w0 W:World} {X:DX} {rest:List Op} {l:List Part} (h:DD w0 W X rest l):W.heap[X.bb]?=some ZI:=by
 obtain ⟨Fd,k,c,hS,_⟩:=h.ex
 exact hS.part (p:=Zb X.bb ZI) (List.mem_append_right _ (by simp [XE]))
theorem DD.obj {w0 W:World} {X:DX} {rest:List Op} {l:List Part} {q:Nat} {o:Obj} (h:DD w0 W X rest l) (hp:Zb q o∈l):W.heap[q]?=some o:=h.get hp
end
end Go.Proofs.YtlgcfimhfmgkmaaGreatDoor
namespace Go.Proofs.YtlgcfimhfmgkmaaGreatDoor
open Go.RowKit
section
section
variable {w0 W W':World} {X:DX} {rest:List Op} {l:List Part} {p p':Part}
theorem DD.row0 (h:DD w0 W X rest l) (B e k:Nat):DD w0 W X rest (rowP B e k 0 (.slice none 0 0) [] :: l):=
 h.turn (fun r hr=>hr.new (Below.refl _ _) (Za3 ⟨by simp,Or.inl ⟨rfl,rfl⟩⟩) (fun q hq=>by simp [rowP,Value.ownBlock] at hq))
theorem DD.swap (h:DD w0 W X rest (p :: p' :: l)):DD w0 W X rest (p' :: p :: l):=h.perm (List.Perm.swap _ _ _)
theorem DD.third {a b c:Part} (h:DD w0 W X rest (a :: b :: c :: l)):DD w0 W X rest (c :: a :: b :: l):=h.perm (List.perm_middle (l₁:=[a,b]))
end
theorem Zo7 {k:Nat} {was now:List Cmp} (h:Xi k was now=0):YM k was=YM k now∧ZL k was=ZL k now:=by
 unfold Xi at h
 split at h
 ·assumption
 ·split at h<;>cases h
theorem Zo8 {k:Nat} {was now:List Cmp} (h:Xi k was now=1):YM k now=false:=by
 unfold Xi at h
 split at h
 ·cases h
 ·split at h
  ·assumption
  ·cases h
theorem Zo9 {k:Nat} {was now:List Cmp} (h:Xi k was now=2):YM k now=true:=by
 unfold Xi at h
 split at h
 ·cases h
 ·split at h
  ·cases h
  ·rename_i e;simpa using e
theorem Zpa (was now:List Cmp) (k m:Nat):Jg was now k (m+1)=(Zp k,Xi k was now) :: ((if Xi k was now=2 then QV (Zak k (ZL k was) (ZL k now)) 0 (szK k) else [])++Jg was now (k+1) m):=by
 unfold Jg
 rw [Zit,Zh2]
 unfold Qm
 rw [ZoY]
 rfl
theorem Zpb (x y:Cmp) {j:Nat} (hj:j<4):(#[.int .u8 ((Xh x y j).kind:Nat),.int .i64 (Xh x y j).v0,.int .i64 (Xh x y j).v1,.int .i64 (Xh x y j).v2,.int .i64 (Xh x y j).v3]:Array Value).setIfInBounds (1+j) (.int .i64 (y.v j))=#[.int .u8 ((Xh x y (j+1)).kind:Nat),.int .i64 (Xh x y (j+1)).v0,.int .i64 (Xh x y (j+1)).v1,.int .i64 (Xh x y (j+1)).v2,.int .i64 (Xh x y (j+1)).v3]:=by
 have hj':j=0∨j=1∨j=2∨j=3:=by omega
 rcases hj' with rfl|rfl|rfl|rfl<;>rfl
theorem Ziv {w:World} {b:Nat} {x y:Cmp} {j:Nat} (h:w.heap[b]?=some (ZF (Xh x y j))) (hj:j<4):w.cell? ⟨b,1+j,none⟩=some (.int .i64 (x.v j)):=by
 rw [Ze0 h hj,Zoa x y j j hj,if_neg (by omega)]
theorem Zpc {k:Nat} {cs:List Cmp} (h:YM k cs=true):XG k cs=[ZL k cs]:=by unfold XG;rw [if_pos h]
theorem Zpd {k:Nat} {cs:List Cmp} (h:YM k cs=false):XG k cs=[]:=by unfold XG;rw [if_neg (by rw [h];decide)]
theorem Zj.put2 {W:World} {A:Option Addr} {n c g:Nat} {es:List Ent} {T:TypeId} (a b:Value) (h:Zj W A n c es) (hg:W.heap[g]?=some (.cells #[.int .i64 0,.slice none 0 0] T (0,0))) (hid:∀ e,e∈es→e.id≠0):Zj (Go.Proofs.YtlgcfimhfmgkmaaGreatDoor.put2 W g a b) A n c es:=by
 have hc:∀ i,W.cell? ⟨g,i,none⟩=(#[.int .i64 0,.slice none 0 0]:Array Value)[i]?:=fun i=>cell_of_block hg i
 refine ⟨h.len,fun j e hj=>?_,h.nil,h.lim,h.le⟩
 obtain ⟨b',o,CA,cn,cc,rfl,⟨h0,h1⟩,hr⟩:=h.at_ j e hj
 have hne:b'≠g:=by
  rintro rfl
  rw [hc] at h0
  rcases hk:o+j*2 with _ | _ | k
  ·rw [hk] at h0;simp at h0;exact hid e (List.mem_of_getElem? hj) h0.symm
  ·rw [hk] at h0;simp at h0
  ·rw [hk] at h0;simp at h0
 refine ⟨b',o,CA,cn,cc,rfl,⟨(Zm (YE W g a b hne) _).trans h0,(Zm (YE W g a b hne) _).trans h1⟩,hr.stepN (fun hcs b2 o2 m2 hA _=>YE W g a b ?_)⟩
 rintro rfl
 rcases hcs':e.cs with _|⟨x,l⟩
 ·exact hcs hcs'
 ·obtain ⟨b3,o3,e3,hcc⟩:=hr.at_ 0 x (by rw [hcs'];rfl)
  rw [hA] at e3
  injection e3 with e3
  injection e3 with e3 e4 e5
  subst e3
  have:=hcc.c0
  rw [hc] at this
  rcases hk:o3+0*5 with _ | _ | k
  ·rw [hk] at this;simp at this
  ·rw [hk] at this;simp at this
  ·rw [hk] at this;simp at this
theorem Zpe {e:Ent} (h:Yv e=true):∀ c,c∈e.cs→c.kind<256:=fun c hc=>by have:=Ze2 ((Za2 h).2 c hc);omega
end
end Go.Proofs.YtlgcfimhfmgkmaaGreatDoor
namespace Go.Proofs.YtlgcfimhfmgkmaaGreatDoor
open Go.RowKit
section
structure Rec where
 num:Int
 base:Int
 tick:Int
 es:List Ent
deriving DecidableEq
def okR (last top:Int) (r:Rec):Bool:=!(decide (r.num≤last) || decide (top<r.num) || decide (r.base<0) || decide (r.num≤r.base) || !(Zl r.tick r.es))
def rlB (top:Int):Int→List Rec→Bool
 | _,[]=>true
 | last,r :: l=>okR last top r&&rlB top r.num l
def QF (l:List Rec) (lo hi:Int):Bool:=decide (l.length≤33)&&rlB (min hi 1073741824) (max lo 1-1) l
theorem Zpf (top last:Int) (l:List Rec) (j:Nat) (x:Rec) (h:l[j]?=some x):rlB top last (l.drop j)=(okR last top x&&rlB top x.num (l.drop (j+1))):=by
 have:l.drop j=x :: l.drop (j+1):=by
  obtain ⟨hj,e⟩:=List.getElem?_eq_some_iff.1 h
  rw [List.drop_eq_getElem_cons hj,e]
 rw [this]
 rfl
structure Zy (w:World) (A:Option Addr) (n cap:Nat) (l:List Rec):Prop where
 len:n=l.length
 at_:∀ (j:Nat) (r:Rec),l[j]?=some r→∃ b o CA cn cc,A=some ⟨b,o,none⟩∧(w.cell? ⟨b,o+j*4,none⟩=some (.int .i64 r.num)∧w.cell? ⟨b,o+j*4+1,none⟩=some (.int .i64 r.base)∧w.cell? ⟨b,o+j*4+2,none⟩=some (.int .i64 r.tick)∧w.cell? ⟨b,o+j*4+3,none⟩=some (.slice CA cn cc))∧Zj w CA cn cc r.es
 nil:A=none→n=0∧cap=0
 lim:n≤1000000
 le:n≤cap
theorem Zy.below {w w':World} {A:Option Addr} {n cap:Nat} {l:List Rec} (h:Zy w A n cap l) (hb:Below w.heap.size w w'):Zy w' A n cap l:=by
 refine ⟨h.len,fun j r hj=>?_,h.nil,h.lim,h.le⟩
 obtain ⟨b,o,CA,cn,cc,e,⟨h0,h1,h2,h3⟩,hc⟩:=h.at_ j r hj
 have hs:=hb.block b (Zc h0)
 exact ⟨b,o,CA,cn,cc,e,⟨(Zm hs _).trans h0,(Zm hs _).trans h1,(Zm hs _).trans h2,(Zm hs _).trans h3⟩,hc.below hb⟩
theorem Zy.nilS (w:World):Zy w none 0 0 []:=⟨rfl,fun j r hj=>by simp at hj,fun _=>⟨rfl,rfl⟩,Nat.zero_le _,Nat.le_refl _⟩
def Rec.zero:Rec:=⟨0,0,0,[]⟩
theorem Zj.nilS (w:World):Zj w none 0 0 []:=⟨rfl,fun j r hj=>by simp at hj,fun _=>⟨rfl,rfl⟩,Nat.zero_le _,Nat.le_refl _⟩
structure Snd where
 cl:Int
 next:Int
 acked:Int
 log:List Rec
 items:List It
def ZbE (s:Snd):Bool:=decide (s.cl<1) || decide (8<s.cl) || decide (s.next<1) || decide (1073741825<s.next) || decide (s.acked<0) || !(Qp s.items) || !(QF s.log s.acked (s.next-1))
def Zat (l:List Rec) (k:Int):Bool:=match l with
 | []=>false
 | r :: _=>decide (r.num=k)
def YU (s:Snd):Bool:=!(ZbE s)&&(if s.acked=0 then decide (s.log.length≤32) else Zat s.log s.acked)
structure Rcv where
 base:Int
 last:Int
 log:List Rec
def Zdw (r:Rcv):Bool:=decide (r.base<0) || decide (r.last<0) || decide (1073741824<r.last) || (decide (r.base≠0)&&decide (r.last≤r.base)) || !(QF r.log r.base r.last)
def lastB (l:List Rec) (k:Int):Bool:=match l.getLast? with
 | none=>false
 | some r=>decide (r.num=k)
def XI (r:Rcv):Bool:=!(Zdw r)&&(if r.last=0 then decide (r.log.length=0) else lastB r.log r.last&&(decide (r.base=0) || Zat r.log r.base))
def Z6 (l:List Rec) (k:Int):Option Rec:=if k=0 then some Rec.zero else l.find? (fun r=>decide (r.num=k))
end
end Go.Proofs.YtlgcfimhfmgkmaaGreatDoor
namespace Go.Proofs.YtlgcfimhfmgkmaaGreatDoor
open Go.RowKit
section
def eP (F:List Nat) (A:Option Addr) (n c:Nat) (es:List Ent):Part:=⟨F,fun W=>Zj W A n c es⟩
section
variable {w0 W W':World} {l m:List Part} {p p' r:Part}
theorem Ses.merge (h:Ses w0 W (m++l)) (Q:World→Prop) (hQ:∀ W',(∀ p,p∈m→p.P W')→Q W'):Ses w0 W (⟨blocks m,Q⟩ :: l):=by
 refine ⟨⟨fun p hp=>?_,List.pairwise_cons.2 ⟨fun p hp q hq e=>?_,(List.pairwise_append.1 h.sep.2).2.1⟩⟩,fun p hp q hq=>?_,h.bel⟩
 ·rcases List.mem_cons.1 hp with rfl | hp
  ·refine ⟨hQ W (fun p hp=>(h.sep.1 p (List.mem_append_left _ hp)).now),fun q hq=>?_,fun w' hs hz=>hQ w' (fun p hp=>?_)⟩
   ·obtain ⟨r,hr,hqr⟩:=Qf.1 hq
    exact (h.sep.1 r (List.mem_append_left _ hr)).lt q hqr
   ·exact (h.sep.1 p (List.mem_append_left _ hp)).same w' (fun q hq=>hs q (Qf.2 ⟨p,hp,hq⟩)) hz
  ·exact h.sep.1 p (List.mem_append_right _ hp)
 ·obtain ⟨r,hr,hqr⟩:=Qf.1 hq
  exact (List.pairwise_append.1 h.sep.2).2.2 r hr p hp q hqr e
 ·rcases List.mem_cons.1 hp with rfl | hp
  ·obtain ⟨r,hr,hqr⟩:=Qf.1 hq
   exact h.base r (List.mem_append_left _ hr) q hqr
  ·exact h.base p (List.mem_append_right _ hp) q hq
theorem Ses.entRow {B:Nat} {ov:Value} {rs:List ER} (h:Ses w0 W (rowP B 70 2 rs.length ov (ers rs) :: (rs.map erP++l))) (hl:rs.length≤1000000):∃ F A c,ov=.slice A rs.length c∧Ses w0 W (eP F A rs.length c (rs.map ER.e) :: l):=by
 have hown:W.ownsRow B 70 2 ov rs.length (ers rs):=h.sep.head
 obtain ⟨A,c,e⟩:=YF hown
 subst e
 have h':Ses w0 W ((rowP B 70 2 rs.length (.slice A rs.length c) (ers rs) :: rs.map erP)++l):=h
 refine ⟨_,A,c,rfl,h'.merge (fun W'=>Zj W' A rs.length c (rs.map ER.e)) (fun W' hp=>?_)⟩
 have h1:W'.ownsRow B 70 2 (.slice A rs.length c) rs.length (ers rs):=hp _ (.head _)
 obtain ⟨A',c',e',hE⟩:=ZcW h1 hl (fun r hr=>hp (erP r) (.tail _ (List.mem_map.2 ⟨r,hr,rfl⟩)))
 injection e' with e1 _ e2
 subst e1 e2
 exact hE
end
def ZbF (w w':World) (A:Option Addr) (n c:Nat) (es:List Ent):Prop:=∃ F,(eP F A n c es).ok w'∧∀ q,q∈F→w.heap.size≤q
theorem ZbF.of {w w':World} {F:List Nat} {A:Option Addr} {n c:Nat} {es:List Ent} {l:List Part} (h:Ses w w' (eP F A n c es :: l)):ZbF w w' A n c es:=⟨F,h.sep.1 _ (.head _),h.base _ (.head _)⟩
end
end Go.Proofs.YtlgcfimhfmgkmaaGreatDoor
namespace Go.Proofs.YtlgcfimhfmgkmaaGreatDoor
open Go.RowKit
section
theorem Zpg {B:Nat} {A:Option Addr} {n c:Nat} {cs:List Cmp} (h:∀ b o q,A=some ⟨b,o,q⟩→B≤b):∀ q,q∈(YO A n c cs).F→B≤q:=by
 intro q hq
 unfold YO at hq
 split at hq
 ·cases hq
 ·rcases A with _|⟨b,o,m⟩
  ·simp at hq
  ·simp at hq
   subst hq
   exact h _ o m rfl
theorem Ziw {fn:Func} {p:Tmp} (h:fn.results=#[.cell p 24]) (tmps:Array Value) (w:World) (g:Nat) (cs:Array Value) (hn:cs.size=2)
  (hp:tmps.getD p undef=.pointer (some ⟨g,0,none⟩)) (hg:w.heap[g]?=some (.cells cs 24 (0,0))) :
  (results fn tmps).run Tryz.prog w=.ok (.agg cs) w:=by
 have hp':tmps[p]?.getD undef=.pointer (some ⟨g,0,none⟩):=by simpa using hp
 have hi:(Tryz.prog.info? 24).map (·.size)=some cs.size:=by rw [hn];kernel_rfl
 have hl:=run_loadVar_row (P:=Tryz.prog) w g 24 24 cs (0,0) _ hg Tryz.underlying24 rfl hi
 simp [results,h,hp',asAddr,hl]
theorem Ses.row0 {w0 W:World} {l:List Part} (h:Ses w0 W l) (B e k:Nat):Ses w0 W (rowP B e k 0 (.slice none 0 0) [] :: l):=
 h.new (Below.refl _ _) (Za3 ⟨by simp,Or.inl ⟨rfl,rfl⟩⟩) (fun q hq=>by simp [rowP,Value.ownBlock] at hq)
theorem Tq73 {p:Prop} (h:p:=by
 have h:=((Ses.start w).allocObj (wO t (.slice A n c))).allocObj (wO 0 (.slice none 0 0))
 rw [World.size_alloc] at h
 rw [e1,eg]
 exact h.sub (List.Sublist.cons_cons _ (.cons _ (List.Sublist.refl _)))):p:=h
theorem Tq20 {p:Prop} (h:p:=by
 refine wpOp_step rfl (fun K hK=>?_)
 go_simp
 refine hK _ _ ?_;clear hK K
 refine ⟨Or.inl (by kernel_rfl),?_⟩
 refine ZX (by kernel_rfl) ?_ _
 clear y1 y2 HC
 go_wp2_with fail
 go_roundg (n-(j+1))
 case measure=>have:=HX.out.1;have:=HX.out.2.1;omega
 case rel=>
  refine ⟨j+1,.slice (some ⟨g5,0,none⟩) (rs.length+1) c5,rs++[x9],by have:=HX.out.1;have:=HX.out.2.1;omega,by go_num,?_,?_⟩
  ·rw [List.map_append,HX.out.2.2.1,List.take_add_one,HX.out.2.2.2,HS3.out.2.2];rfl
  ·have h:=(HS5.out.third').objSet (i:=1) (.slice (some ⟨g5,0,none⟩) (rs.length+1) c5)
   rw [List.length_append,ZcV,List.map_append,List.append_assoc]
   refine h.perm (List.Perm.cons _ (List.Perm.cons _ ?_))
   rw [HS3.out.2.2]
   exact (List.perm_middle (l₁:=rs.map erP)).symm):p:=h
theorem Tq11 {p:Prop} (h:p:=by
 have i2:decide (j<n)=false:=decide_eq_false hlt
 have hbo:W.heap[qo]?=some (wO t (.slice OA rs.length oc)):=hS.part (p:=Zb qo (wO t (.slice OA rs.length oc))) (by simp)
 have hbr:W.heap[g+1]?=some (wO 0 (.slice none 0 0)):=hS.part (p:=Zb (g+1) (wO 0 (.slice none 0 0))) (by simp)
 obtain ⟨y0,y1⟩:=cs2 hbo
 obtain ⟨z0,z1⟩:=cs2 hbr
 have z2:=Zd hbr 0
 have z3:=Zd hbr 1
 have ht:es.take j=es:=List.take_of_length_le (by omega)
 rw [ht] at hrs
 have HX:=Qh (Qi hrs (Qi hS (Qi hbr hrl)))
 clear hrs hS hbo hbr ht hlt hg h hlen hrl
 go_wp2_with fail
 refine bodyPost_ret (Ziw rfl _ _ (g+1) _ rfl rfl (Yw (.int .i64 t) (.slice OA rs.length oc) HX.out.2.2.1)) rfl ?_
 obtain ⟨hrs,hS,hbr,hrl⟩:=HX.out
 have hS2:Ses w W ((rowP w.heap.size 70 2 rs.length (.slice OA rs.length oc) (ers rs) :: (rs.map erP++[Zb (g+1) (wO 0 (.slice none 0 0))]))):=hS.tail
 obtain ⟨F,A',c',e',hS3⟩:=hS2.entRow (by omega)
 injection e' with e1 _ e2
 subst e1 e2
 rw [hrs] at hS3
 have hS4:=hS3.front2
 have hS5:=(Ses.objSet (i:=0) (.int .i64 t) hS4)
 have hS6:=(Ses.objSet (i:=1) (.slice OA rs.length oc) hS5).front2
 exact ⟨OA,rs.length,oc,rfl,ZbF.of hS6,hS6.bel⟩):p:=h
set_option maxRecDepth 100000 in
set_option maxHeartbeats 8000000 in
theorem Zix (t:Int) (A:Option Addr) (n c:Nat) (es:List Ent) (w:World) (ha:Zj w A n c es) (hn:n≤1000) :
  Calls Tryz.prog 63 #[.agg #[.int .i64 t,.slice A n c]] w fun e w'=>∃ OA on oc,e=.returned (.agg #[.int .i64 t,.slice OA on oc])∧ZbF w w' OA on oc es∧Below w.heap.size w w':=by
 have hmx:Tryz.prog.follows .mixedOrders=true:=by kernel_rfl
 obtain ⟨w1,g,e1,eg,hg0,hg1,hb1⟩:=Zc9 w t A n c
 obtain ⟨f0,f1⟩:=cs2 hg0
 have hS1:Ses w w1 [Zb (g+1) (wO 0 (.slice none 0 0))]:=by
  exact Tq73
 obtain ⟨w2,qo,e2,eqo,hS2⟩:∃ W q,W=w1.alloc (wO t (.slice none 0 0))∧q=w1.heap.size∧Ses w W (Zb q (wO t (.slice none 0 0)) :: [Zb (g+1) (wO 0 (.slice none 0 0))]):=⟨_,_,rfl,rfl,hS1.allocObj _⟩
 have hb2:Below w1.heap.size w1 w2:=by rw [e2];exact Zg w1 _
 obtain ⟨i9,hi9,hz0,hz1,hz2⟩:=info_parts Zb1
 have HI:=Qh (Qi hi9 (Qi hz0 (Qi hz1 hz2)))
 have k1:w2.cell? ⟨g,1,none⟩=some (.slice A n c):=(hb2.cell (Zc f1)).trans f1
 have H:=Qh (Qi ha (Qi hS2 hn))
 clear ha hS1 hS2 hg0 hg1 hb1 hb2 hi9 hz0 hz1 hz2 hn
 unfold wO at e2
 go_enter Tryz.func63,Tryz.ntmps63
 go_upto_region 1 with fail
 rw [←e1,←eg]
 clear e1 eg
 go_upto_region 2 with fail
 rw [←e2,←eqo]
 clear e2 eqo f0 f1
 go_wp2_with fail
 go_loopg [12] n (fun gh iv wr=>∃ (j:Nat) (ov:Value) (rs:List ER),gh+j=n∧iv=.int .i64 (j:Nat)∧rs.map ER.e=es.take j∧Ses w wr (Zb qo (wO t ov) :: rowP w.heap.size 70 2 rs.length ov (ers rs) :: (rs.map erP++[Zb (g+1) (wO 0 (.slice none 0 0))])))
 case atStart=>exact ⟨0,.slice none 0 0,[],rfl,rfl,rfl,(H.out.2.1.row0 w.heap.size 70 2).perm (List.Perm.swap _ _ _)⟩
 case round=>
  obtain ⟨j,ov,rs,hg,rfl,hrs,hS⟩:=hrel
  obtain ⟨W,eW⟩:∃ W,W=wr:=⟨_,rfl⟩
  rw [←eW] at hS ⊢
  clear eW k1
  have h:=H.out.1
  have hlen:=h.len
  have hn:=H.out.2.2
  have hrl:rs.length≤n:=by
   have:=congrArg List.length hrs
   rw [List.length_map,List.length_take] at this
   omega
  have hown:W.ownsRow w.heap.size 70 2 ov rs.length (ers rs):=hS.part (p:=rowP w.heap.size 70 2 rs.length ov (ers rs)) (by simp)
  obtain ⟨OA,oc,eo⟩:=YF hown
  subst eo
  clear hown
  by_cases hlt:j<n
  ·obtain ⟨x,hx⟩:∃ x,es[j]?=some x:=⟨_,List.getElem?_eq_getElem (by omega)⟩
   obtain ⟨b,o,CA,cn,cc,rfl,⟨c0,c1⟩,hr⟩:=h.at_ j x hx
   have c0:=(hS.bel.cell (Zc c0)).trans c0
   have c1:=(hS.bel.cell (Zc c1)).trans c1
   have i0:(0:Int)≤(j:Int):=by omega
   have i1:(j:Int)<(n:Int):=by omega
   have i2:decide (j<n)=true:=decide_eq_true hlt
   have u2:wrap64 ((j:Int)+1)=(j:Int)+1:=Zn _ (by omega) (by omega)
   obtain ⟨W1,e1⟩:∃ V,V=W.alloc (.cells #[.int .i64 x.id,.slice CA cn cc] 70 (0,0)):=⟨_,rfl⟩
   obtain ⟨q5,eq5⟩:∃ q,q=W.heap.size:=⟨_,rfl⟩
   have hg5:W1.heap[q5]?=some (.cells #[.int .i64 x.id,.slice CA cn cc] 70 (0,0)):=by rw [e1,eq5];exact heap_alloc_new W _
   have hb1:Below W.heap.size W W1:=by rw [e1];exact Zg W _
   have hSd:Ses w W1.drew (Zb qo (wO t (.slice OA rs.length oc)) :: rowP w.heap.size 70 2 rs.length (.slice OA rs.length oc) (ers rs) :: (rs.map erP++[Zb (g+1) (wO 0 (.slice none 0 0))])):=(hS.below hb1).below (Below.refl _ _).drew
   have hbo:W1.drew.heap[qo]?=some (wO t (.slice OA rs.length oc)):=hSd.part (p:=Zb qo (wO t (.slice OA rs.length oc))) (by simp)
   have hE:Zo W1.drew CA cn cc x.cs:=hr.below hSd.bel
   obtain ⟨Wd,ed⟩:∃ V,V=W1.drew:=⟨_,rfl⟩
   have HC:W1.drew.cell? ⟨qo,1,none⟩=some (.slice OA rs.length oc)∧W1.drew.cell? ⟨q5,0,none⟩=some (.int .i64 x.id)∧W1.drew.cell? ⟨q5,1,none⟩=some (.slice CA cn cc):=⟨Za hbo 1 _ rfl,Za (show W1.drew.heap[q5]?=_ from hg5) 0 _ rfl,Za (show W1.drew.heap[q5]?=_ from hg5) 1 _ rfl⟩
   rw [←ed] at HC hSd hE
   have HE:=Qh hE
   have HSd:=Qh hSd
   have HD:=Qh ed
   have HN:=Qh (show rs.length+1≤maxLen∧(rs.length+1)*32≤140737488355328 by unfold maxLen;omega)
   have HX:=Qh (Qi hlt (Qi hg (Qi hrs hx)))
   clear hlt hg hrs hx hS hr hb1 hg5 hSd hbo hE ed h hlen hrl
   go_upto_region 5 with fail
   rw [←e1,←eq5]
   clear e1 eq5
   refine Yy (fun W=>W.cell? ⟨qo,1,none⟩=some (.slice OA rs.length oc)∧W.cell? ⟨q5,0,none⟩=some (.int .i64 x.id)∧W.cell? ⟨q5,1,none⟩=some (.slice CA cn cc)) 9 hmx ?_
   change Zz _ _ _ _ _ _ _ _ _ (World.drew _)
   rw [←HD.out]
   refine tkp 0 rfl (Or.inr HC) ?_
   refine tkp 2 rfl (Or.inr HC) ?_
   refine tkp 4 rfl (Or.inr HC) ?_
   refine tkl 1 rfl HC (by intro W ⟨hC0,hC1,hC2⟩;go_simp;try with_reducible rfl) ?_
   refine tkl 3 rfl HC (by intro W ⟨hC0,hC1,hC2⟩;go_simp;try with_reducible rfl) ?_
   refine tkl 5 rfl HC (by intro W ⟨hC0,hC1,hC2⟩;go_simp;try with_reducible rfl) ?_
   refine Zi 6 rfl (fun K hK=>?_)
   go_simp
   refine (ZeE CA cn cc x.cs Wd HE.out).mono ?_
   rintro e W2 ⟨PA,qn,qc,rfl,⟨hPC,hlow⟩,hb2⟩
   have hS2:=HSd.out.new hb2 (Zdo hPC (fun _ _ _ _=>trivial)) (fun q hq=>Zpg hlow q hq)
   have HC:=cr3 hb2 HC
   have HS2:=Qh hS2
   clear hPC hlow hb2 hS2
   refine hK _ _ ?_;clear hK K
   refine ⟨Or.inr HC,?_⟩
   refine tkp 7 rfl (Or.inr HC) ?_
   refine Zi 8 rfl (fun K hK=>?_)
   go_simp
   obtain ⟨W3,e3⟩:∃ V,V=W2.alloc (.cells #[.int .i64 x.id,.slice PA qn qc] 70 (0,0)):=⟨_,rfl⟩
   obtain ⟨g3,eg3⟩:∃ q,q=W2.heap.size:=⟨_,rfl⟩
   have hS3:Ses w W3 (rowP w.heap.size 70 2 rs.length (.slice OA rs.length oc) (ers rs) :: YO PA qn qc x.cs :: Zb qo (wO t (.slice OA rs.length oc)) :: (rs.map erP++[Zb (g+1) (wO 0 (.slice none 0 0))])):=by rw [e3];exact (HS2.out.below (Zg W2 _)).third'
   have hb3:Below W2.heap.size W2 W3:=by rw [e3];exact Zg W2 _
   have HC:=cr3 hb3 HC
   obtain ⟨x9,ex9⟩:∃ x9:ER,x9=⟨x,PA,qn,qc⟩:=⟨_,rfl⟩
   have hnews:∀ j u,x9.cells[j]?=some u→W3.cell? ((⟨g3,0,none⟩:Addr).add j)=some u:=by rw [e3,ex9];exact XC W2 #[.int .i64 x.id,.slice PA qn qc] 70 g3 eg3
   have HS3:=Qh (Qi hS3 (Qi hnews ex9))
   clear hS3 hb3 hnews ex9
   refine hK _ _ ?_;clear hK K
   rw [←e3,←eg3]
   clear e3 eg3
   refine ⟨Or.inr HC,?_⟩
   refine Zi 9 rfl (fun K hK=>?_)
   refine Zbz rfl (.tmp 17) (.tmp 24) 22 rfl w.heap.size 70 i9 _ 2 32 Tryz.underlying22 HI.out.1 HI.out.2.1 HI.out.2.2.1 HI.out.2.2.2 rfl (by decide) _ rs.length (ers rs) rfl HS3.out.1.head ⟨g3,0,none⟩ 1 1 x9.cells rfl rfl HS3.out.2.1 (ZaP x9) HN.out.1 HN.out.2 HS3.out.1.bel.size (fun v5 W5 hown5 hg5 _ hblk=>?_)
   obtain ⟨g5,c5,rfl⟩:=ownsRow_succ hown5
   have hS5:=HS3.out.1.rowApp hown5 hg5 hblk
   have hb5:W5.heap[qo]?=some (wO t (.slice OA rs.length oc)):=hS5.part (p:=Zb qo (wO t (.slice OA rs.length oc))) (by simp)
   have y1:W5.cell? ⟨qo,1,none⟩=some (.slice OA rs.length oc):=Za hb5 1 _ rfl
   have y2:=Zd hb5 1
   have HS5:=Qh hS5
   clear hown5 hg5 hblk hb5 hS5
   refine hK _ _ ?_;clear hK K
   refine ⟨Or.inl (by kernel_rfl),?_⟩
   refine tkq 10 rfl ?_
   refine ZmU (j:=11) (by kernel_rfl) ?_
   exact Tq20
  ·exact Tq11
end
end Go.Proofs.YtlgcfimhfmgkmaaGreatDoor
