/- Lemmas for the statement. -/
import Derived.RangeFuncNested
import Derived.RangeFuncBound
import Derived.RangeFuncCalls
import Derived.RangeFuncLeaves
import Derived.Shelf.Abstract
import Derived.Shelf.RegionOpen
import Derived.OwnWalkIn
import Derived.TacticsInMore
import Derived.LoopNIn
import Derived.LoopIn
import Derived.Sort.CutIn
import Derived.Sort.QuietIn
import Derived.Test.YtlgcfimhfmgkmaaGreatDoorMAQ
set_option linter.unusedVariables false
set_option linter.unusedSimpArgs false
namespace Go.Proofs.YtlgcfimhfmgkmaaGreatDoor
section
open Go.RowKit Go.Shelf
attribute [local go_sem] Oper.semAt_some
def PR.agg (p:PR):Value:=.agg #[.int .i64 p.was.e.id,.slice p.was.A p.was.n p.was.c,.int .i64 p.now.e.id,.slice p.now.A p.now.n p.now.c]
abbrev PF (l m:List ER):={ p:PR // p.from l m }
theorem Zai {w w':World} (h:Below w.heap.size w w'):w.grownBy w' none:=⟨h.os,h.tape,h.output,h.size,fun q hq _=>h.block q hq⟩
theorem Xe.head {w:World} {A:Option Addr} {n cap:Nat} {r:ER} {rs:List ER} (h:Xe w A n cap (r :: rs)):∃ b o,A=some ⟨b,o,none⟩∧(w.cell? ⟨b,o,none⟩=some (.int .i64 r.e.id)∧w.cell? ⟨b,o+1,none⟩=some (.slice r.A r.n r.c))∧Zo w r.A r.n r.c r.e.cs:=by
 obtain ⟨b,o,e,hc,hr⟩:=h.at_ 0 r rfl
 rw [Nat.zero_mul,Nat.add_zero] at hc
 exact ⟨b,o,e,hc,hr⟩
theorem ZeI (s t:Int) (A B:Option Addr) (n c m d:Nat) (w:World) :
  Calls Tryz.prog 66 #[.agg #[.int .i64 s,.slice A n c],.agg #[.int .i64 t,.slice B m d]] w fun e w'=>∃ g,g=w.heap.size∧e=.returned (.func (.func 134) #[] #[.pointer (some ⟨g,0,none⟩),.pointer (some ⟨g+1,0,none⟩)]) ∧
   w'.heap[g]?=some (.cells #[.int .i64 s,.slice A n c] 24 (0,0))∧w'.heap[g+1]?=some (.cells #[.int .i64 t,.slice B m d] 24 (0,0))∧Below w.heap.size w w':=by
 go_enter Tryz.func66,Tryz.ntmps66
 go_wp2_with fail
 go_ret
 exact ⟨_,rfl,rfl,ZZ w _ _,Z0 w _ _,ZQ w _ _⟩
structure Ja (la lb:List ER) (w0:World) (J:List (PF la lb)→World→Prop) (wr:World) (A:Option Addr) (n c:Nat) (B:Option Addr) (m d:Nat) (done:List (PF la lb)) (l r:List ER):Prop where
 ra:Xe w0 A n c l
 rb:Xe w0 B m d r
 sub:(∀ x,x∈l→x∈la)∧∀ x,x∈r→x∈lb
 eq:YS (la.length+lb.length) la lb=done.map Subtype.val++YS (l.length+r.length) l r
 j:J done wr
 bel:Below w0.heap.size w0 wr
structure Jr (w:World) (g:Nat) (p:PR) (W:World):Prop where
 out:Below g w W
 cells:W.heap[g]?=some (.cells #[.int .i64 p.was.e.id,.slice p.was.A p.was.n p.was.c,.int .i64 p.now.e.id,.slice p.now.A p.now.n p.now.c] 129 (0,0))
theorem ZeJ {l r l' r':List ER} {p:PR} (h:Yj l r=some (p,l',r')):YS (l.length+r.length) l r=(if p.same then [] else [p])++YS (l'.length+r'.length) l' r':=by
 have hl:=ZeG h
 obtain ⟨k,hk⟩:∃ k,l.length+r.length=k+1:=⟨l.length+r.length-1,by omega⟩
 rw [hk]
 simp only [YS,h]
 rw [ZnB k (l'.length+r'.length) l' r' (by omega) (Nat.le_refl _)]
section
variable {la lb:List ER} {w0:World} {J:List (PF la lb)→World→Prop} {V V':World} {A A':Option Addr} {n c n' c':Nat} {B B':Option Addr} {m d m' d':Nat} {done:List (PF la lb)} {l r l' r':List ER} {p:PR}
theorem Ja.fr (h:Ja la lb w0 J V A n c B m d done l r) (hp:Yj l r=some (p,l',r')):p.from la lb:=by
 obtain ⟨h1,-,-⟩:=ZeH hp
 exact ⟨h1.was.imp (h.sub.1 _) id,h1.now.imp (h.sub.2 _) id⟩
theorem Ja.more (h:Ja la lb w0 J V A n c B m d done l r) (hp:Yj l r=some (p,l',r')) (hs:p.same=false):done.length<la.length+lb.length:=by
 have h1:=congrArg List.length h.eq
 rw [ZeJ hp,hs] at h1
 have h2:=Zhy (la.length+lb.length) la lb
 rw [h1] at h2
 simp only [List.length_append,List.length_map,Bool.false_eq_true,if_false,List.length_cons,List.length_nil] at h2
 omega
theorem Ja.next (h:Ja la lb w0 J V A n c B m d done l r) (hp:Yj l r=some (p,l',r')) (hs:p.same=false) (ra':Xe w0 A' n' c' l') (rb':Xe w0 B' m' d' r') (hf:p.from la lb) (hJ:J (done++[⟨p,hf⟩]) V') (hb:Below w0.heap.size w0 V') :
  Ja la lb w0 J V' A' n' c' B' m' d' (done++[⟨p,hf⟩]) l' r':=by
 obtain ⟨-,h2,h3⟩:=ZeH hp
 refine ⟨ra',rb',⟨fun x hx=>h.sub.1 x (h2 x hx),fun x hx=>h.sub.2 x (h3 x hx)⟩,?_,hJ,hb⟩
 rw [h.eq,ZeJ hp,hs]
 simp
theorem Ja.skip (h:Ja la lb w0 J V A n c B m d done l r) (hp:Yj l r=some (p,l',r')) (hs:p.same=true) (ra':Xe w0 A' n' c' l') (rb':Xe w0 B' m' d' r') (hJ:J done V') (hb:Below w0.heap.size w0 V') :
  Ja la lb w0 J V' A' n' c' B' m' d' done l' r':=by
 obtain ⟨-,h2,h3⟩:=ZeH hp
 refine ⟨ra',rb',⟨fun x hx=>h.sub.1 x (h2 x hx),fun x hx=>h.sub.2 x (h3 x hx)⟩,?_,hJ,hb⟩
 rw [h.eq,ZeJ hp,hs]
 simp
end
theorem Zby {w:World} {g:Nat} {p:PR} {W:World} (h:Jr w g p W):(W.cell? ⟨g,0,none⟩=some (.int .i64 p.was.e.id)∧W.cell? ⟨g,1,none⟩=some (.slice p.was.A p.was.n p.was.c))∧W.cell? ⟨g,2,none⟩=some (.int .i64 p.now.e.id)∧W.cell? ⟨g,3,none⟩=some (.slice p.now.A p.now.n p.now.c):=
 ⟨⟨Za h.cells 0 _ rfl,Za h.cells 1 _ rfl⟩,Za h.cells 2 _ rfl,Za h.cells 3 _ rfl⟩
def ZnC (w:World) (g i:Nat) (a b:Value):World:=(w.setCell ⟨g,i,none⟩ a).setCell ⟨g,i+1,none⟩ b
theorem Zda {B:Nat} {w w':World} {g i:Nat} (a b:Value) (h:Below B w w') (hg:B≤g):Below B w (ZnC w' g i a b):=(h.setCell (p:=⟨g,i,none⟩) hg _).setCell (p:=⟨g,i+1,none⟩) hg _
theorem Zhz {w W:World} {g n:Nat} {r:ER} (hg:W.heap[g]?=some (.cells #[.int .i64 0,.slice none 0 0,.int .i64 0,.slice none 0 0] 129 (0,0))) (hb:Below g w W) :
  Jr w g ⟨r,ER.zero⟩ (((W.drewN n).setCell ⟨g,0,none⟩ (.int .i64 r.e.id)).setCell ⟨g,1,none⟩ (.slice r.A r.n r.c)):=
 ⟨Zda (i:=0) _ _ (below_drewN' hb n) (Nat.le_refl _),block_setCell (block_setCell (w:=W.drewN n) hg 0 _) 1 _⟩
theorem ZhA {w W:World} {g n:Nat} {r:ER} (hg:W.heap[g]?=some (.cells #[.int .i64 0,.slice none 0 0,.int .i64 0,.slice none 0 0] 129 (0,0))) (hb:Below g w W) :
  Jr w g ⟨ER.zero,r⟩ (((W.drewN n).setCell ⟨g,2,none⟩ (.int .i64 r.e.id)).setCell ⟨g,3,none⟩ (.slice r.A r.n r.c)):=
 ⟨Zda (i:=2) _ _ (below_drewN' hb n) (Nat.le_refl _),block_setCell (block_setCell (w:=W.drewN n) hg 2 _) 3 _⟩
theorem ZnD {w W:World} {g n:Nat} {r s:ER} (hg:W.heap[g]?=some (.cells #[.int .i64 0,.slice none 0 0,.int .i64 0,.slice none 0 0] 129 (0,0))) (hb:Below g w W) :
  Jr w g ⟨r,s⟩ (((((W.drewN n).setCell ⟨g,0,none⟩ (.int .i64 r.e.id)).setCell ⟨g,1,none⟩ (.slice r.A r.n r.c)).setCell ⟨g,2,none⟩ (.int .i64 s.e.id)).setCell ⟨g,3,none⟩ (.slice s.A s.n s.c)):=
 ⟨Zda (i:=2) _ _ (Zda (i:=0) _ _ (below_drewN' hb n) (Nat.le_refl _)) (Nat.le_refl _),block_setCell (block_setCell (block_setCell (block_setCell (w:=W.drewN n) hg 0 _) 1 _) 2 _) 3 _⟩
def Zaj:Value→Nat
 | .slice _ n _=>n
 | _=>0
theorem Tq29 {p:Prop} (h:p:=by
 have HN:=Qh hJx3
 clear hR hy hJx3 w0' w1' w2' w3'
 gi_wp2
 refine bodyPost_ret (results_none rfl _ _ _) rfl ?_
 exact ⟨⟨_,rfl⟩,.inr ⟨_,trivial,HN.out⟩⟩):p:=h
set_option maxRecDepth 100000 in
set_option maxHeartbeats 4000000 in
theorem ZnE (n:Nat) (hn:1≤n) (y ga gb:Nat) (s t:Int) (A B:Option Addr) (nn cc mm dd:Nat) (la lb:List ER) (w0:World) (ha:Xe w0 A nn cc la) (hb:Xe w0 B mm dd lb) (hid:∀ r,r∈la∨r∈lb→1≤r.e.id∧r.e.id≤65536)
  (J Jx:List (PF la lb)→World→Prop) (W:World) (hW:Below w0.heap.size w0 W) (hA:AbidesFrom W.heap.size J)
  (hY:∀ pre x W,J pre W→pre.length<la.length+lb.length→YieldAt Fence.wide (n-1) Tryz.prog y #[x.1.agg] W fun e W'=>
   (e=.returned (.bool true)∧J (pre++[x]) W'∧Below w0.heap.size W W')∨(e=.returned (.bool false)∧Jx (pre++[x]) W'))
  (hga:W.heap[ga]?=some (.cells #[.int .i64 s,.slice A nn cc] 24 (0,0))) (hgb:W.heap[gb]?=some (.cells #[.int .i64 t,.slice B mm dd] 24 (0,0))) (h0:J [] W) :
  CallsIn Fence.wide n Tryz.prog 134 #[.func (.yield y) #[] #[],.pointer (some ⟨ga,0,none⟩),.pointer (some ⟨gb,0,none⟩)] W fun e W'=>(∃ v,e=.returned v) ∧
   ((∃ ys:List (PF la lb),ys.map Subtype.val=YS (la.length+lb.length) la lb∧J ys W')∨(∃ pre,True∧Jx pre W')):=by
 have a0:W.cell? ⟨ga,1,none⟩=some (.slice A nn cc):=Za hga 1 _ rfl
 have b0:W.cell? ⟨gb,1,none⟩=some (.slice B mm dd):=Za hgb 1 _ rfl
 have H:=Qh (Qi ha (Qi hb (Qi hid (Qi hW (Qi hA (Qi hY h0))))))
 clear ha hb hid hW hA hY h0 hga hgb
 refine callsIn_of_wp Tryz.func134 rfl trivial ?_ rfl
 simp only [Tryz.ntmps134,List.size_toArray,List.length_cons,List.length_nil,Nat.reduceAdd,Nat.reduceSub,Array.replicate_succ,Array.replicate_zero,List.push_toArray,List.append_toArray,List.nil_append,List.cons_append]
 gi_wp2_with (gi_quiet (fail))
 obtain ⟨w1,e1⟩:∃ w1,w1=W.drewN nq:=⟨_,rfl⟩
 rw [←e1]
 have hd1:Below W.heap.size W w1:=by rw [e1];exact YW (Below.refl _ _) nq
 have H1:=Qh hd1
 clear e1 hd1 a0 b0
 have hmx:Tryz.prog.follows .mixedOrders=true:=by kernel_rfl
 gi_loopw [4,5] (fun lv mv wr=>∃ A1 n1 c1 B1 m1 d1 done l r,lv=.slice A1 n1 c1∧mv=.slice B1 m1 d1∧Ja la lb w0 J wr A1 n1 c1 B1 m1 d1 done l r) (fun lv mv _=>Zaj lv+Zaj mv)
 case atStart=>
  obtain ⟨ha,hb,hid,hW,hA,hY,h0⟩:=H.out
  exact ⟨A,nn,cc,B,mm,dd,[],la,lb,rfl,rfl,ha,hb,⟨fun _ h=>h,fun _ h=>h⟩,rfl,hA _ _ _ none h0 (Zai H1.out) (fun r e=>by cases e),hW.trans (H1.out.mono hW.size)⟩
 case round=>
  obtain ⟨A1,n1,c1,B1,m1,d1,done,l,r,rfl,rfl,hR⟩:=hrel
  obtain ⟨V,eV⟩:∃ V,V=wr:=⟨_,rfl⟩
  rw [←eV] at hR ⊢
  clear eV
  have HR:=Qh hR
  obtain ⟨ra,rb,-,-,-,hbel⟩:=hR
  have Js:=ra.len
  have Jt:=rb.len
  rcases l with _|⟨r0,l⟩
  ·rcases r with _|⟨s0,r⟩
   ·simp only [List.length_nil] at Js Jt
    subst Js Jt
    have HX:=Qh hbel
    clear hbel ra rb
    gi_wp2
    go_end0
    refine ⟨⟨_,rfl⟩,.inl ⟨done,?_,HR.out.j⟩⟩
    rw [HR.out.eq]
    simp [YS]
   ·simp only [List.length_nil] at Js
    subst Js
    have qhm:s0∈lb:=HR.out.sub.2 s0 (by simp)
    simp only [List.length_cons] at Jt
    have qle:=rb.le
    have ZeK:=rb.lim
    obtain ⟨bb,bo,rfl,⟨qc0,qc1⟩,qhc⟩:=rb.head
    have qc0:=(hbel.cell (Zc qc0)).trans qc0
    have qc1:=(hbel.cell (Zc qc1)).trans qc1
    have qt:=rb.tail
    obtain ⟨qA,qeA⟩:∃ A2,A2=(if d1=1 then (some ⟨bb,bo,none⟩:Option Addr) else some ⟨bb,bo+2,none⟩):=⟨_,rfl⟩
    rw [←qeA] at qt
    have qs:=qeA.symm
    have q0:(0:Int)<(m1:Int):=by omega
    have q1:(1:Int)≤(m1:Int):=by omega
    have q2:(m1:Int)≤(d1:Int):=by omega
    have q3:decide (0<m1)=true:=decide_eq_true (by omega)
    have q4:((m1:Int)==0)=false:=by rw [beq_eq_false_iff_ne];omega
    have q5:¬ (m1:Int)=0:=by omega
    have q6:¬ m1=0:=by omega
    have q6b:decide (m1=0)=false:=decide_eq_false q6
    have q7:=(H.out.2.2.1 _ (.inr qhm)).1
    have qX:=Qh (Qi qt (Qi Jt (Qi qhc q7)))
    clear qt Jt qhc qle ZeK qeA q7 qhm rb
    clear hbel
    gi_upto_region 4 with fail
    obtain ⟨W1,g,e1,eg,hg1,hb1⟩:∃ W1 g,W1=V.alloc (.cells #[.int .i64 0,.slice none 0 0,.int .i64 0,.slice none 0 0] 129 (0,0))∧g=V.heap.size∧W1.heap[g]?=some (.cells #[.int .i64 0,.slice none 0 0,.int .i64 0,.slice none 0 0] 129 (0,0))∧Below V.heap.size V W1:=⟨_,_,rfl,rfl,heap_alloc_new V _,Zg V _⟩
    rw [←e1,←eg]
    have qc0:=(hb1.cell (Zc qc0)).trans qc0
    have qc1:=(hb1.cell (Zc qc1)).trans qc1
    obtain ⟨z0,z1,z2,z3⟩:=cs4 hg1
    have f0:=Zd hg1 0
    have f1:=Zd hg1 1
    have f2:=Zd hg1 2
    have f3:=Zd hg1 3
    rw [eg] at hg1
    have HG:=Qh (Qi eg (Qi hg1 hb1))
    clear e1 eg hg1 hb1
    gi_upto_region 6 with (gi_quiet (fail))
    rename Nat=>nq0
    gi_upto_region 7 with (gi_quiet (fail))
    gi_region_with_o (fail)
    gi_upto_region 8 with fail
    obtain ⟨W2,e2⟩:∃ W2,W2=((W1.drewN (nq0+nq+1)).setCell ⟨g,2,none⟩ (.int .i64 s0.e.id)).setCell ⟨g,3,none⟩ (.slice s0.A s0.n s0.c):=⟨_,rfl⟩
    rw [←e2]
    have hB2:Jr V g ⟨ER.zero,s0⟩ W2:=by rw [e2,HG.out.1];exact ZhA HG.out.2.1 HG.out.2.2
    clear e2
    obtain ⟨⟨w0',w1'⟩,w2',w3'⟩:=Zby hB2
    simp only [ER.zero] at w0' w1' w2' w3'
    have hJ2:J done W2:=H.out.2.2.2.2.1 _ V W2 none HR.out.j (Zai (by have:=hB2.out;rw [HG.out.1] at this;exact this)) (fun r e=>by cases e)
    have XP:Below w0.heap.size w0 W2:=HR.out.bel.trans ((by have:=hB2.out;rw [HG.out.1] at this;exact this:Below V.heap.size V W2).mono HR.out.bel.size)
    clear z0 z1 z2 z3 f0 f1 f2 f3 qc0 qc1 qs
    have k1:((0:Int)==s0.e.id)=false:=by rw [beq_eq_false_iff_ne];have:=qX.out.2.2.2;omega
    have k2:¬ (0:Int)=s0.e.id:=by have:=qX.out.2.2.2;omega
    have hpk:Yj [] (s0 :: r)=some (⟨ER.zero,s0⟩,[],r):=rfl
    have hsm:PR.same ⟨ER.zero,s0⟩=false:=by unfold PR.same;rw [Bool.and_eq_false_iff];left;apply decide_eq_false;show ¬ 0=s0.e.id;omega
    have hfr:=HR.out.fr hpk
    obtain ⟨fn,tmps,assign,body,hy,hR⟩:=H.out.2.2.2.2.2.1 done ⟨⟨ER.zero,s0⟩,hfr⟩ W2 hJ2 (HR.out.more hpk hsm)
    simp only [PR.agg,ER.zero] at hy hR
    have HZ:=Qh (Qi hpk (Qi hsm XP))
    clear hpk hsm XP hJ2
    gi_wp2
    refine ⟨trivial,?_⟩
    gi_wp2
    refine hR.mono ?_
    rintro e W3 (⟨rfl,hJ3,hk3⟩|⟨rfl,hJx3⟩)
    ·have HN:=Qh (Qi hJ3 hk3)
     clear hR hy hJ3 hk3 w0' w1' w2' w3'
     gi_wp2
     go_roundw
     case rel=>exact ⟨A1,0,c1,qA,m1-1,d1-1,_,[],r,rfl,rfl,HR.out.next HZ.out.1 HZ.out.2.1 HR.out.ra qX.out.1 hfr HN.out.1 (HZ.out.2.2.trans HN.out.2)⟩
     case measure=>simp only [Zaj];omega
    ·exact Tq29
  ·rcases r with _|⟨s0,r⟩
   ·simp only [List.length_nil] at Jt
    subst Jt
    have phm:r0∈la:=HR.out.sub.1 r0 (by simp)
    simp only [List.length_cons] at Js
    have ple:=ra.le
    have ZeL:=ra.lim
    obtain ⟨ab,ao,rfl,⟨pc0,pc1⟩,phc⟩:=ra.head
    have pc0:=(hbel.cell (Zc pc0)).trans pc0
    have pc1:=(hbel.cell (Zc pc1)).trans pc1
    have pt:=ra.tail
    obtain ⟨pA,peA⟩:∃ A2,A2=(if c1=1 then (some ⟨ab,ao,none⟩:Option Addr) else some ⟨ab,ao+2,none⟩):=⟨_,rfl⟩
    rw [←peA] at pt
    have ps:=peA.symm
    have p0:(0:Int)<(n1:Int):=by omega
    have p1:(1:Int)≤(n1:Int):=by omega
    have p2:(n1:Int)≤(c1:Int):=by omega
    have p3:decide (0<n1)=true:=decide_eq_true (by omega)
    have p4:((n1:Int)==0)=false:=by rw [beq_eq_false_iff_ne];omega
    have p5:¬ (n1:Int)=0:=by omega
    have p6:¬ n1=0:=by omega
    have p6b:decide (n1=0)=false:=decide_eq_false p6
    have p7:=(H.out.2.2.1 _ (.inl phm)).1
    have pX:=Qh (Qi pt (Qi Js (Qi phc p7)))
    clear pt Js phc ple ZeL peA p7 phm ra
    clear hbel
    gi_upto_region 4 with fail
    obtain ⟨W1,g,e1,eg,hg1,hb1⟩:∃ W1 g,W1=V.alloc (.cells #[.int .i64 0,.slice none 0 0,.int .i64 0,.slice none 0 0] 129 (0,0))∧g=V.heap.size∧W1.heap[g]?=some (.cells #[.int .i64 0,.slice none 0 0,.int .i64 0,.slice none 0 0] 129 (0,0))∧Below V.heap.size V W1:=⟨_,_,rfl,rfl,heap_alloc_new V _,Zg V _⟩
    rw [←e1,←eg]
    have pc0:=(hb1.cell (Zc pc0)).trans pc0
    have pc1:=(hb1.cell (Zc pc1)).trans pc1
    obtain ⟨z0,z1,z2,z3⟩:=cs4 hg1
    have f0:=Zd hg1 0
    have f1:=Zd hg1 1
    have f2:=Zd hg1 2
    have f3:=Zd hg1 3
    rw [eg] at hg1
    have HG:=Qh (Qi eg (Qi hg1 hb1))
    clear e1 eg hg1 hb1
    gi_upto_region 5 with (gi_quiet (fail))
    gi_region_with_o (fail)
    gi_upto_region 8 with fail
    obtain ⟨W2,e2⟩:∃ W2,W2=((W1.drewN (nq+1)).setCell ⟨g,0,none⟩ (.int .i64 r0.e.id)).setCell ⟨g,1,none⟩ (.slice r0.A r0.n r0.c):=⟨_,rfl⟩
    rw [←e2]
    have hB2:Jr V g ⟨r0,ER.zero⟩ W2:=by rw [e2,HG.out.1];exact Zhz HG.out.2.1 HG.out.2.2
    clear e2
    obtain ⟨⟨w0',w1'⟩,w2',w3'⟩:=Zby hB2
    simp only [ER.zero] at w0' w1' w2' w3'
    have hJ2:J done W2:=H.out.2.2.2.2.1 _ V W2 none HR.out.j (Zai (by have:=hB2.out;rw [HG.out.1] at this;exact this)) (fun r e=>by cases e)
    have XP:Below w0.heap.size w0 W2:=HR.out.bel.trans ((by have:=hB2.out;rw [HG.out.1] at this;exact this:Below V.heap.size V W2).mono HR.out.bel.size)
    clear z0 z1 z2 z3 f0 f1 f2 f3 pc0 pc1 ps
    have k1:(r0.e.id==0)=false:=by rw [beq_eq_false_iff_ne];have:=pX.out.2.2.2;omega
    have k2:¬ r0.e.id=0:=by have:=pX.out.2.2.2;omega
    have hpk:Yj (r0 :: l) []=some (⟨r0,ER.zero⟩,l,[]):=rfl
    have hsm:PR.same ⟨r0,ER.zero⟩=false:=by unfold PR.same;rw [Bool.and_eq_false_iff];left;apply decide_eq_false;show ¬ r0.e.id=0;omega
    have hfr:=HR.out.fr hpk
    obtain ⟨fn,tmps,assign,body,hy,hR⟩:=H.out.2.2.2.2.2.1 done ⟨⟨r0,ER.zero⟩,hfr⟩ W2 hJ2 (HR.out.more hpk hsm)
    simp only [PR.agg,ER.zero] at hy hR
    have HZ:=Qh (Qi hpk (Qi hsm XP))
    clear hpk hsm XP hJ2
    gi_wp2
    refine ⟨trivial,?_⟩
    gi_wp2
    refine hR.mono ?_
    rintro e W3 (⟨rfl,hJ3,hk3⟩|⟨rfl,hJx3⟩)
    ·have HN:=Qh (Qi hJ3 hk3)
     clear hR hy hJ3 hk3 w0' w1' w2' w3'
     gi_wp2
     go_roundw
     case rel=>exact ⟨pA,n1-1,c1-1,B1,0,d1,_,l,[],rfl,rfl,HR.out.next HZ.out.1 HZ.out.2.1 pX.out.1 HR.out.rb hfr HN.out.1 (HZ.out.2.2.trans HN.out.2)⟩
     case measure=>simp only [Zaj];omega
    ·exact Tq29
   ·have phm:r0∈la:=HR.out.sub.1 r0 (by simp)
    have qhm:s0∈lb:=HR.out.sub.2 s0 (by simp)
    simp only [List.length_cons] at Js
    have ple:=ra.le
    have ZeL:=ra.lim
    obtain ⟨ab,ao,rfl,⟨pc0,pc1⟩,phc⟩:=ra.head
    have pc0:=(hbel.cell (Zc pc0)).trans pc0
    have pc1:=(hbel.cell (Zc pc1)).trans pc1
    have pt:=ra.tail
    obtain ⟨pA,peA⟩:∃ A2,A2=(if c1=1 then (some ⟨ab,ao,none⟩:Option Addr) else some ⟨ab,ao+2,none⟩):=⟨_,rfl⟩
    rw [←peA] at pt
    have ps:=peA.symm
    have p0:(0:Int)<(n1:Int):=by omega
    have p1:(1:Int)≤(n1:Int):=by omega
    have p2:(n1:Int)≤(c1:Int):=by omega
    have p3:decide (0<n1)=true:=decide_eq_true (by omega)
    have p4:((n1:Int)==0)=false:=by rw [beq_eq_false_iff_ne];omega
    have p5:¬ (n1:Int)=0:=by omega
    have p6:¬ n1=0:=by omega
    have p6b:decide (n1=0)=false:=decide_eq_false p6
    have p7:=(H.out.2.2.1 _ (.inl phm)).1
    have pX:=Qh (Qi pt (Qi Js (Qi phc p7)))
    clear pt Js phc ple ZeL peA p7 phm ra
    simp only [List.length_cons] at Jt
    have qle:=rb.le
    have ZeK:=rb.lim
    obtain ⟨bb,bo,rfl,⟨qc0,qc1⟩,qhc⟩:=rb.head
    have qc0:=(hbel.cell (Zc qc0)).trans qc0
    have qc1:=(hbel.cell (Zc qc1)).trans qc1
    have qt:=rb.tail
    obtain ⟨qA,qeA⟩:∃ A2,A2=(if d1=1 then (some ⟨bb,bo,none⟩:Option Addr) else some ⟨bb,bo+2,none⟩):=⟨_,rfl⟩
    rw [←qeA] at qt
    have qs:=qeA.symm
    have q0:(0:Int)<(m1:Int):=by omega
    have q1:(1:Int)≤(m1:Int):=by omega
    have q2:(m1:Int)≤(d1:Int):=by omega
    have q3:decide (0<m1)=true:=decide_eq_true (by omega)
    have q4:((m1:Int)==0)=false:=by rw [beq_eq_false_iff_ne];omega
    have q5:¬ (m1:Int)=0:=by omega
    have q6:¬ m1=0:=by omega
    have q6b:decide (m1=0)=false:=decide_eq_false q6
    have q7:=(H.out.2.2.1 _ (.inr qhm)).1
    have qX:=Qh (Qi qt (Qi Jt (Qi qhc q7)))
    clear qt Jt qhc qle ZeK qeA q7 qhm rb
    clear hbel
    by_cases hlt:r0.e.id<s0.e.id
    ·have k0:decide (r0.e.id<s0.e.id)=true:=decide_eq_true hlt
     gi_upto_region 4 with fail
     obtain ⟨W1,g,e1,eg,hg1,hb1⟩:∃ W1 g,W1=V.alloc (.cells #[.int .i64 0,.slice none 0 0,.int .i64 0,.slice none 0 0] 129 (0,0))∧g=V.heap.size∧W1.heap[g]?=some (.cells #[.int .i64 0,.slice none 0 0,.int .i64 0,.slice none 0 0] 129 (0,0))∧Below V.heap.size V W1:=⟨_,_,rfl,rfl,heap_alloc_new V _,Zg V _⟩
     rw [←e1,←eg]
     have pc0:=(hb1.cell (Zc pc0)).trans pc0
     have pc1:=(hb1.cell (Zc pc1)).trans pc1
     have qc0:=(hb1.cell (Zc qc0)).trans qc0
     have qc1:=(hb1.cell (Zc qc1)).trans qc1
     obtain ⟨z0,z1,z2,z3⟩:=cs4 hg1
     have f0:=Zd hg1 0
     have f1:=Zd hg1 1
     have f2:=Zd hg1 2
     have f3:=Zd hg1 3
     rw [eg] at hg1
     have HG:=Qh (Qi eg (Qi hg1 hb1))
     clear e1 eg hg1 hb1
     gi_upto_region 5 with (gi_quiet (fail))
     gi_region_with_o (fail)
     gi_upto_region 8 with fail
     obtain ⟨W2,e2⟩:∃ W2,W2=((W1.drewN (nq+1)).setCell ⟨g,0,none⟩ (.int .i64 r0.e.id)).setCell ⟨g,1,none⟩ (.slice r0.A r0.n r0.c):=⟨_,rfl⟩
     rw [←e2]
     have hB2:Jr V g ⟨r0,ER.zero⟩ W2:=by rw [e2,HG.out.1];exact Zhz HG.out.2.1 HG.out.2.2
     clear e2
     obtain ⟨⟨w0',w1'⟩,w2',w3'⟩:=Zby hB2
     simp only [ER.zero] at w0' w1' w2' w3'
     have hJ2:J done W2:=H.out.2.2.2.2.1 _ V W2 none HR.out.j (Zai (by have:=hB2.out;rw [HG.out.1] at this;exact this)) (fun r e=>by cases e)
     have XP:Below w0.heap.size w0 W2:=HR.out.bel.trans ((by have:=hB2.out;rw [HG.out.1] at this;exact this:Below V.heap.size V W2).mono HR.out.bel.size)
     clear z0 z1 z2 z3 f0 f1 f2 f3 pc0 pc1 ps qc0 qc1 qs
     have k1:(r0.e.id==0)=false:=by rw [beq_eq_false_iff_ne];have:=pX.out.2.2.2;omega
     have k2:¬ r0.e.id=0:=by have:=pX.out.2.2.2;omega
     have hpk:Yj (r0 :: l) (s0 :: r)=some (⟨r0,ER.zero⟩,l,s0 :: r):=by simp only [Yj,if_pos hlt]
     have hsm:PR.same ⟨r0,ER.zero⟩=false:=by unfold PR.same;rw [Bool.and_eq_false_iff];left;apply decide_eq_false;show ¬ r0.e.id=0;omega
     have hfr:=HR.out.fr hpk
     obtain ⟨fn,tmps,assign,body,hy,hR⟩:=H.out.2.2.2.2.2.1 done ⟨⟨r0,ER.zero⟩,hfr⟩ W2 hJ2 (HR.out.more hpk hsm)
     simp only [PR.agg,ER.zero] at hy hR
     have HZ:=Qh (Qi hpk (Qi hsm XP))
     clear hpk hsm XP hJ2
     gi_wp2
     refine ⟨trivial,?_⟩
     gi_wp2
     refine hR.mono ?_
     rintro e W3 (⟨rfl,hJ3,hk3⟩|⟨rfl,hJx3⟩)
     ·have HN:=Qh (Qi hJ3 hk3)
      clear hR hy hJ3 hk3 w0' w1' w2' w3'
      gi_wp2
      go_roundw
      case rel=>exact ⟨pA,n1-1,c1-1,some ⟨bb,bo,none⟩,m1,d1,_,l,s0 :: r,rfl,rfl,HR.out.next HZ.out.1 HZ.out.2.1 pX.out.1 HR.out.rb hfr HN.out.1 (HZ.out.2.2.trans HN.out.2)⟩
      case measure=>simp only [Zaj];omega
     ·exact Tq29
    ·by_cases hgt:s0.e.id<r0.e.id
     ·have k0:decide (r0.e.id<s0.e.id)=false:=decide_eq_false hlt
      have k0b:decide (s0.e.id<r0.e.id)=true:=decide_eq_true hgt
      gi_upto_region 4 with fail
      obtain ⟨W1,g,e1,eg,hg1,hb1⟩:∃ W1 g,W1=V.alloc (.cells #[.int .i64 0,.slice none 0 0,.int .i64 0,.slice none 0 0] 129 (0,0))∧g=V.heap.size∧W1.heap[g]?=some (.cells #[.int .i64 0,.slice none 0 0,.int .i64 0,.slice none 0 0] 129 (0,0))∧Below V.heap.size V W1:=⟨_,_,rfl,rfl,heap_alloc_new V _,Zg V _⟩
      rw [←e1,←eg]
      have pc0:=(hb1.cell (Zc pc0)).trans pc0
      have pc1:=(hb1.cell (Zc pc1)).trans pc1
      have qc0:=(hb1.cell (Zc qc0)).trans qc0
      have qc1:=(hb1.cell (Zc qc1)).trans qc1
      obtain ⟨z0,z1,z2,z3⟩:=cs4 hg1
      have f0:=Zd hg1 0
      have f1:=Zd hg1 1
      have f2:=Zd hg1 2
      have f3:=Zd hg1 3
      rw [eg] at hg1
      have HG:=Qh (Qi eg (Qi hg1 hb1))
      clear e1 eg hg1 hb1
      gi_upto_region 6 with (gi_quiet (fail))
      rename Nat=>nq0
      gi_upto_region 7 with (gi_quiet (fail))
      gi_region_with_o (fail)
      gi_upto_region 8 with fail
      obtain ⟨W2,e2⟩:∃ W2,W2=((W1.drewN (nq0+nq+1)).setCell ⟨g,2,none⟩ (.int .i64 s0.e.id)).setCell ⟨g,3,none⟩ (.slice s0.A s0.n s0.c):=⟨_,rfl⟩
      rw [←e2]
      have hB2:Jr V g ⟨ER.zero,s0⟩ W2:=by rw [e2,HG.out.1];exact ZhA HG.out.2.1 HG.out.2.2
      clear e2
      obtain ⟨⟨w0',w1'⟩,w2',w3'⟩:=Zby hB2
      simp only [ER.zero] at w0' w1' w2' w3'
      have hJ2:J done W2:=H.out.2.2.2.2.1 _ V W2 none HR.out.j (Zai (by have:=hB2.out;rw [HG.out.1] at this;exact this)) (fun r e=>by cases e)
      have XP:Below w0.heap.size w0 W2:=HR.out.bel.trans ((by have:=hB2.out;rw [HG.out.1] at this;exact this:Below V.heap.size V W2).mono HR.out.bel.size)
      clear z0 z1 z2 z3 f0 f1 f2 f3 pc0 pc1 ps qc0 qc1 qs
      have k1:((0:Int)==s0.e.id)=false:=by rw [beq_eq_false_iff_ne];have:=qX.out.2.2.2;omega
      have k2:¬ (0:Int)=s0.e.id:=by have:=qX.out.2.2.2;omega
      have hpk:Yj (r0 :: l) (s0 :: r)=some (⟨ER.zero,s0⟩,r0 :: l,r):=by simp only [Yj,if_neg (show ¬ r0.e.id<s0.e.id by omega),if_pos hgt]
      have hsm:PR.same ⟨ER.zero,s0⟩=false:=by unfold PR.same;rw [Bool.and_eq_false_iff];left;apply decide_eq_false;show ¬ 0=s0.e.id;omega
      have hfr:=HR.out.fr hpk
      obtain ⟨fn,tmps,assign,body,hy,hR⟩:=H.out.2.2.2.2.2.1 done ⟨⟨ER.zero,s0⟩,hfr⟩ W2 hJ2 (HR.out.more hpk hsm)
      simp only [PR.agg,ER.zero] at hy hR
      have HZ:=Qh (Qi hpk (Qi hsm XP))
      clear hpk hsm XP hJ2
      gi_wp2
      refine ⟨trivial,?_⟩
      gi_wp2
      refine hR.mono ?_
      rintro e W3 (⟨rfl,hJ3,hk3⟩|⟨rfl,hJx3⟩)
      ·have HN:=Qh (Qi hJ3 hk3)
       clear hR hy hJ3 hk3 w0' w1' w2' w3'
       gi_wp2
       go_roundw
       case rel=>exact ⟨some ⟨ab,ao,none⟩,n1,c1,qA,m1-1,d1-1,_,r0 :: l,r,rfl,rfl,HR.out.next HZ.out.1 HZ.out.2.1 HR.out.ra qX.out.1 hfr HN.out.1 (HZ.out.2.2.trans HN.out.2)⟩
       case measure=>simp only [Zaj];omega
      ·exact Tq29
     ·have heq:=Qh (show r0.e.id=s0.e.id by omega)
      have k0:decide (r0.e.id<s0.e.id)=false:=decide_eq_false hlt
      have k0b:decide (s0.e.id<r0.e.id)=false:=decide_eq_false hgt
      gi_upto_region 4 with fail
      obtain ⟨W1,g,e1,eg,hg1,hb1⟩:∃ W1 g,W1=V.alloc (.cells #[.int .i64 0,.slice none 0 0,.int .i64 0,.slice none 0 0] 129 (0,0))∧g=V.heap.size∧W1.heap[g]?=some (.cells #[.int .i64 0,.slice none 0 0,.int .i64 0,.slice none 0 0] 129 (0,0))∧Below V.heap.size V W1:=⟨_,_,rfl,rfl,heap_alloc_new V _,Zg V _⟩
      rw [←e1,←eg]
      have pc0:=(hb1.cell (Zc pc0)).trans pc0
      have pc1:=(hb1.cell (Zc pc1)).trans pc1
      have qc0:=(hb1.cell (Zc qc0)).trans qc0
      have qc1:=(hb1.cell (Zc qc1)).trans qc1
      obtain ⟨z0,z1,z2,z3⟩:=cs4 hg1
      have f0:=Zd hg1 0
      have f1:=Zd hg1 1
      have f2:=Zd hg1 2
      have f3:=Zd hg1 3
      rw [eg] at hg1
      have HG:=Qh (Qi eg (Qi hg1 hb1))
      clear e1 eg hg1 hb1
      gi_upto_region 6 with (gi_quiet (fail))
      rename Nat=>nq0
      gi_upto_region 3 with (gi_quiet (fail))
      gi_region_with_o (fail)
      all_goals
       gi_upto_region 8 with fail
       obtain ⟨W2,e2⟩:∃ W2,W2=((((W1.drewN (nq0+nq+1)).setCell ⟨g,0,none⟩ (.int .i64 r0.e.id)).setCell ⟨g,1,none⟩ (.slice r0.A r0.n r0.c)).setCell ⟨g,2,none⟩ (.int .i64 s0.e.id)).setCell ⟨g,3,none⟩ (.slice s0.A s0.n s0.c):=⟨_,rfl⟩
       rw [←e2]
       have hB2:Jr V g ⟨r0,s0⟩ W2:=by rw [e2,HG.out.1];exact ZnD HG.out.2.1 HG.out.2.2
       clear e2
       obtain ⟨⟨w0',w1'⟩,w2',w3'⟩:=Zby hB2
       simp only [ER.zero] at w0' w1' w2' w3'
       have hJ2:J done W2:=H.out.2.2.2.2.1 _ V W2 none HR.out.j (Zai (by have:=hB2.out;rw [HG.out.1] at this;exact this)) (fun r e=>by cases e)
       have XP:Below w0.heap.size w0 W2:=HR.out.bel.trans ((by have:=hB2.out;rw [HG.out.1] at this;exact this:Below V.heap.size V W2).mono HR.out.bel.size)
       clear z0 z1 z2 z3 f0 f1 f2 f3 pc0 pc1 ps qc0 qc1 qs
       have k1b:decide (r0.e.id=s0.e.id)=true:=decide_eq_true heq.out
       have hpk:Yj (r0 :: l) (s0 :: r)=some (⟨r0,s0⟩,l,r):=by simp only [Yj,if_neg (show ¬ r0.e.id<s0.e.id by omega),if_neg (show ¬ s0.e.id<r0.e.id by omega)]
       obtain ⟨R,eR⟩:∃ R,R=decide (r0.e.cs=s0.e.cs):=⟨_,rfl⟩
       have hsm:PR.same ⟨r0,s0⟩=R:=by unfold PR.same;rw [decide_eq_true heq.out,Bool.true_and,eR]
       have F:=Znz r0.A s0.A r0.n r0.c s0.n s0.c r0.e.cs s0.e.cs W2 (pX.out.2.2.1.below XP) (qX.out.2.2.1.below XP)
       rw [←eR] at F
       have HZ:=Qh (Qi hpk (Qi XP (Qi hJ2 hB2)))
       clear hpk XP hJ2 eR hB2
       rcases R with _ | _
       ·have HS:=Qh hsm
        clear hsm
        gi_upto_region 9 with (refine ⟨trivial,?_⟩;gi_at_call 135;refine (callsIn_wide.2 F).mono ?_;rintro e W4 ⟨rfl,hb4⟩;have H4:=Qh hb4;clear hb4 F)
        have hlt2:=Zh HZ.out.2.2.2.cells
        have hB4:Jr V g ⟨r0,s0⟩ W4:=⟨HZ.out.2.2.2.out.trans (H4.out.mono (by omega)),(H4.out.block _ hlt2).trans HZ.out.2.2.2.cells⟩
        obtain ⟨⟨y0,y1⟩,y2,y3⟩:=Zby hB4
        have hJ4:J done W4:=H.out.2.2.2.2.1 _ W2 W4 none HZ.out.2.2.1 (Zai H4.out) (fun r e=>by cases e)
        have ZhB:Below w0.heap.size w0 W4:=HZ.out.2.1.trans (H4.out.mono HZ.out.2.1.size)
        have hfr:=HR.out.fr HZ.out.1
        obtain ⟨fn,tmps,assign,body,hy,hR⟩:=H.out.2.2.2.2.2.1 done ⟨⟨r0,s0⟩,hfr⟩ W4 hJ4 (HR.out.more HZ.out.1 HS.out)
        simp only [PR.agg] at hy hR
        have HZ4:=Qh ZhB
        rename r0.e.id=s0.e.id=>hq
        clear ZhB hJ4 hB4 hlt2 w0' w1' w2' w3' k1b hq
        gi_wp2
        refine hR.mono ?_
        rintro e W3 (⟨rfl,hJ3,hk3⟩|⟨rfl,hJx3⟩)
        ·have HN:=Qh (Qi hJ3 hk3)
         clear hR hy hJ3 hk3 y0 y1 y2 y3
         gi_wp2
         go_roundw
         case rel=>exact ⟨pA,n1-1,c1-1,qA,m1-1,d1-1,_,l,r,rfl,rfl,HR.out.next HZ.out.1 HS.out pX.out.1 qX.out.1 hfr HN.out.1 (HZ4.out.trans HN.out.2)⟩
         case measure=>simp only [Zaj];omega
        ·have HN:=Qh hJx3
         clear hR hy hJx3 y0 y1 y2 y3
         gi_wp2
         refine bodyPost_ret (results_none rfl _ _ _) rfl ?_
         exact ⟨⟨_,rfl⟩,.inr ⟨_,trivial,HN.out⟩⟩
       ·have HS:=Qh hsm
        clear hsm
        gi_wp2_with (refine ⟨trivial,?_⟩;gi_at_call 135;refine (callsIn_wide.2 F).mono ?_;rintro e W4 ⟨rfl,hb4⟩;have H4:=Qh hb4;clear hb4 F)
        go_roundw
        case rel=>exact ⟨pA,n1-1,c1-1,qA,m1-1,d1-1,_,l,r,rfl,rfl,HR.out.skip HZ.out.1 HS.out pX.out.1 qX.out.1 (H.out.2.2.2.2.1 _ W2 W4 none HZ.out.2.2.1 (Zai H4.out) (fun r e=>by cases e)) (HZ.out.2.1.trans (H4.out.mono HZ.out.2.1.size))⟩
        case measure=>simp only [Zaj];omega
theorem ZeM (n:Nat) (hn:1≤n) (ga gb:Nat) (s t:Int) (A B:Option Addr) (nn cc mm dd:Nat) (la lb:List ER) (w0:World) (ha:Xe w0 A nn cc la) (hb:Xe w0 B mm dd lb) (hid:∀ r,r∈la∨r∈lb→1≤r.e.id∧r.e.id≤65536) (w:World) (hw:Below w0.heap.size w0 w)
  (hga:w.heap[ga]?=some (.cells #[.int .i64 s,.slice A nn cc] 24 (0,0))) (hgb:w.heap[gb]?=some (.cells #[.int .i64 t,.slice B mm dd] 24 (0,0))) :
  SeqStopsK Fence.wide n Tryz.prog 134 #[.pointer (some ⟨ga,0,none⟩),.pointer (some ⟨gb,0,none⟩)] (fun x:PF la lb=>#[x.1.agg]) (Below w0.heap.size) (fun ys=>ys.map Subtype.val=YS (la.length+lb.length) la lb) (fun _=>True) (la.length+lb.length) w:=fun y J Jx W hW hJ _ hY h0=>
 ZnE n hn y ga gb s t A B nn cc mm dd la lb w0 ha hb hid J Jx W (hw.trans (hW.mono hw.size)) hJ hY ((hW.block _ (Zh hga)).trans hga) ((hW.block _ (Zh hgb)).trans hgb) h0
end
end Go.Proofs.YtlgcfimhfmgkmaaGreatDoor
