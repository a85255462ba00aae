/- Lemmas for the statement. -/
import Derived.Test.YtlgcfimhfmgkmaaGreatDoorMAZ
set_option linter.unusedVariables false
set_option linter.unusedSimpArgs false
namespace Go.Proofs.YtlgcfimhfmgkmaaGreatDoor
open Go.RowKit
section
structure SM (w W:World) (m k:Nat) (tbl:Int→Int):Prop where
 out:Below w.heap.size w W
 mp:YK W m k tbl
 lo:w.heap.size≤m
theorem SM.below {w W W':World} {m k:Nat} {tbl:Int→Int} (h:SM w W m k tbl) (hb:Below W.heap.size W W'):SM w W' m k tbl:=
 ⟨h.out.trans (hb.mono h.out.size),h.mp.keep (hb.block _ h.mp.lt),h.lo⟩
theorem SM.put {w W:World} {m k:Nat} {tbl:Int→Int} {T:TypeId} (h:SM w W m k tbl) (ht:Tryz.prog.underlying T=some (.map 3 3)) (hn:k<maxLen) (x:Int) (h0:-9223372036854775808≤x) (h1:x≤9223372036854775807) (v:Int) (v0:-9223372036854775808≤v) (v1:v≤9223372036854775807) :
  ∃ W',(Instr.mapUpdate T (.map (some m)) (.int .i64 x) (.int .i64 v)).run Tryz.prog W=.ok () W'∧SM w W' m (k+1) (Qc tbl x v):=by
 obtain ⟨W',hrun,hmp,hg⟩:=h.mp.put ht hn x h0 h1 v v0 v1
 exact ⟨W',hrun,h.out.grown hg h.out.size (fun q e=>by injection e with e;have:=h.lo;omega),hmp,h.lo⟩
theorem ZoF:(Tryz.prog.info? 134).map (fun i=>(i.zero,i.size,i.bytes))=some (some (.agg #[.int .i64 0,.int .i64 0,.int .i64 0]),3,24):=by kernel_rfl
theorem ZoG:(Tryz.prog.info? 173).map (fun i=>(i.zero,i.size,i.bytes))=some (some (.agg #[.pointer none,.int .i64 0]),2,16):=by kernel_rfl
theorem ZoH (m:Nat) (hm:m≤64):∃ co:Array Value,co.size=m*3∧∀ W:World,(Instr.makeSlice 31 (.int .i64 (m:Nat)) (.int .i64 (m:Nat))).run Tryz.prog W=.ok (.slice (some ⟨W.heap.size,0,none⟩) m m) (W.alloc (.cells co 134 (0,0))):=by
 obtain ⟨i9,hi9,hz0,hz1,hz2⟩:=info_parts ZoF
 refine ⟨madeCells (Value.agg #[.int .i64 0,.int .i64 0,.int .i64 0]).cells (m*3),size_madeCells _ _,fun W=>?_⟩
 have:=run_makeSlice (P:=Tryz.prog) W 31 134 i9 _ Tryz.underlying31 hi9 hz0 .i64 .i64 (m:Int) (m:Int) (by omega) (by omega) (by rw [hz1];omega) (by rw [hz2];omega) (by omega)
 rw [hz1] at this
 simpa only [Int.toNat_natCast] using this
theorem ZoI (m:Nat) (hm:m≤64):∃ co:Array Value,co.size=m*2∧∀ W:World,(Instr.makeSlice 170 (.int .i64 (m:Nat)) (.int .i64 (m:Nat))).run Tryz.prog W=.ok (.slice (some ⟨W.heap.size,0,none⟩) m m) (W.alloc (.cells co 173 (0,0))):=by
 obtain ⟨i9,hi9,hz0,hz1,hz2⟩:=info_parts ZoG
 refine ⟨madeCells (Value.agg #[.pointer none,.int .i64 0]).cells (m*2),size_madeCells _ _,fun W=>?_⟩
 have:=run_makeSlice (P:=Tryz.prog) W 170 173 i9 _ Tryz.underlying170 hi9 hz0 .i64 .i64 (m:Int) (m:Int) (by omega) (by omega) (by rw [hz1];omega) (by rw [hz2];omega) (by omega)
 rw [hz1] at this
 simpa only [Int.toNat_natCast] using this
structure ST (w W:World) (mb k:Nat) (tbl:Int→Int) (ob qb m j:Nat) (eo eq:Nat→List Value):Prop where
 sm:SM w W mb k tbl
 o:KB W ob 134 3 m j eo
 q:KB W qb 173 2 m j eq
 lo:w.heap.size≤ob
 lq:w.heap.size≤qb
 ne:ob≠qb
theorem KB.nem {W:World} {g:Nat} {T:TypeId} {k m j b n:Nat} {el:Nat→List Value} {t:Int→Int} (h:KB W g T k m j el) (hm:YK W b n t):b≠g:=by
 obtain ⟨co,h1,h2⟩:=h
 exact fun e=>hm.ne h1 e.symm
theorem ST.below {w W W':World} {mb k:Nat} {tbl:Int→Int} {ob qb m j:Nat} {eo eq:Nat→List Value} (h:ST w W mb k tbl ob qb m j eo eq) (hb:Below W.heap.size W W'):ST w W' mb k tbl ob qb m j eo eq:=
 ⟨h.sm.below hb,h.o.keep (hb.block _ h.o.lt),h.q.keep (hb.block _ h.q.lt),h.lo,h.lq,h.ne⟩
theorem ST.push {w W:World} {mb k:Nat} {tbl:Int→Int} {ob qb m j:Nat} {eo eq:Nat→List Value} (h:ST w W mb k tbl ob qb m j eo eq) (ko:∀ i,(eo i).length=3) (kq:∀ i,(eq i).length=2) (hj:j<m) {a b c p q:Value} (ho:eo j=[a,b,c]) (hq:eq j=[p,q]) :
  ST w (((((W.setCell ⟨ob,j*3,none⟩ a).setCell ⟨ob,j*3+1,none⟩ b).setCell ⟨ob,j*3+2,none⟩ c).setCell ⟨qb,j*2,none⟩ p).setCell ⟨qb,j*2+1,none⟩ q) mb k tbl ob qb m (j+1) eo eq:=by
 obtain ⟨V,eV⟩:∃ V,V=((W.setCell ⟨ob,j*3,none⟩ a).setCell ⟨ob,j*3+1,none⟩ b).setCell ⟨ob,j*3+2,none⟩ c:=⟨_,rfl⟩
 have f1:∀ x,x≠ob→V.heap[x]?=W.heap[x]?:=fun x hx=>by
  rw [eV,JM _ _ _ _ hx,JM _ _ _ _ hx,JM _ _ _ _ hx]
 have b1:Below w.heap.size w V:=by rw [eV];exact ((h.sm.out.setCell (p:=⟨ob,_,none⟩) h.lo a).setCell (p:=⟨ob,_,none⟩) h.lo b).setCell (p:=⟨ob,_,none⟩) h.lo c
 have o1:KB V ob 134 3 m (j+1) eo:=by rw [eV];exact KB.set3 ko h.o hj ho
 have q1:KB V qb 173 2 m j eq:=h.q.keep (f1 qb (fun e=>h.ne e.symm))
 rw [←eV]
 have f2:∀ x,x≠qb→((V.setCell ⟨qb,j*2,none⟩ p).setCell ⟨qb,j*2+1,none⟩ q).heap[x]?=V.heap[x]?:=fun x hx=>by
  rw [JM _ _ _ _ hx,JM _ _ _ _ hx]
 have hmo:mb≠ob:=h.o.nem h.sm.mp
 have hmq:mb≠qb:=h.q.nem h.sm.mp
 exact ⟨⟨(b1.setCell (p:=⟨qb,_,none⟩) h.lq p).setCell (p:=⟨qb,_,none⟩) h.lq q,h.sm.mp.keep ((f2 mb hmq).trans (f1 mb hmo)),h.sm.lo⟩,o1.keep (f2 ob h.ne),KB.set2 kq q1 hj hq,h.lo,h.lq,h.ne⟩
def eoS (l:List It) (ws:List Wt) (i:Nat):List Value:=match ws[i]? with
 | some x=>[.int .i64 x.i,.int .i64 x.w,.int .i64 (min (QD l x.i+x.w) 1073741824)]
 | none=>[.int .i64 0,.int .i64 0,.int .i64 0]
theorem Zdt (l:List It) (ws:List Wt) (i:Nat):(eoS l ws i).length=3:=by unfold eoS;split<;>rfl
def eqS (ob:Nat) (i:Nat):List Value:=[.pointer (some ⟨ob,i*3,none⟩),.int .i64 (i:Nat)]
def scS (l:List It) (ws:List Wt) (i:Nat):Int:=match ws[i]? with
 | some x=>min (QD l x.i+x.w) 1073741824
 | none=>0
def idS (ws:List Wt) (i:Nat):Int:=match ws[i]? with
 | some x=>x.i
 | none=>0
theorem ZoJ (l:List It) (ws:List Wt) (i:Nat):(eoS l ws i)[2]?=some (.int .i64 (scS l ws i)):=by unfold eoS scS;split<;>rfl
theorem Zin (l:List It) (ws:List Wt) (i:Nat):(eoS l ws i)[0]?=some (.int .i64 (idS ws i)):=by unfold eoS idS;split<;>rfl
def e3 (l:List It) (ws:List Wt) (done:List Nat) (i:Nat):List Value:=if i∈done then (eoS l ws i).set 2 (.int .i64 0) else eoS l ws i
theorem ZoK (l:List It) (ws:List Wt) (done:List Nat) (i:Nat):(e3 l ws done i)[0]?=some (.int .i64 (idS ws i)):=by
 unfold e3
 split
 ·rw [List.getElem?_set_ne (by decide)];exact Zin l ws i
 ·exact Zin l ws i
theorem ZoL (l:List It) (ws:List Wt) (done:List Nat) (i:Nat):(e3 l ws done i).length=3:=by
 unfold e3
 split
 ·rw [List.length_set];exact Zdt l ws i
 ·exact Zdt l ws i
theorem ZoM {W:World} {g m i r:Nat} {T:TypeId} {k:Nat} {el el':Nat→List Value} {v:Value} (h:KB W g T k m m el) (hi:i<m) (hr:r<k) (hk:∀ j,(el' j).length=k) (he:∀ j s u,(el' j)[s]?=some u→(j=i∧s=r∧u=v)∨(¬ (j=i∧s=r)∧(el j)[s]?=some u)) :
  KB (W.setCell ⟨g,i*k+r,none⟩ v) g T k m m el':=by
 obtain ⟨co,h1,h2,h3⟩:=h
 refine ⟨_,block_setCell h1 _ v,by simpa using h2,fun j hj s u hu=>?_⟩
 have hs:s<k:=by rw [←hk j];exact (List.getElem?_eq_some_iff.1 hu).1
 have hlt:i*k+r<co.size:=by
  rw [h2]
  have:(i+1)*k≤m*k:=Nat.mul_le_mul_right _ hi
  rw [Nat.succ_mul] at this
  omega
 rcases he j s u hu with ⟨rfl,rfl,rfl⟩|⟨hne,hu'⟩
 ·simp [Array.getElem?_setIfInBounds,hlt]
 ·have:i*k+r≠j*k+s:=by
   intro e
   apply hne
   have h1:(i*k+r) / k=i:=by rw [Nat.mul_comm,Nat.mul_add_div (by omega),Nat.div_eq_of_lt hr];omega
   have h2:(j*k+s) / k=j:=by rw [Nat.mul_comm,Nat.mul_add_div (by omega),Nat.div_eq_of_lt hs];omega
   rw [e,h2] at h1
   subst h1
   exact ⟨rfl,by omega⟩
  rw [Array.getElem?_setIfInBounds_ne this]
  exact h3 j hj s u hu'
structure S3 (w W:World) (l:List It) (ws:List Wt) (ob m:Nat) (qs:List (QI m)) (j:Nat) (v:Value):Prop where
 out:Below w.heap.size w W
 o:KB W ob 134 3 m m (e3 l ws ((qs.take j).map QI.i))
 q:∀ (i:Nat) (x:QI m),qs[i]?=some x→W.cell? ⟨ob+1,i*2,none⟩=some (.pointer (some ⟨ob,x.i*3,none⟩))∧W.cell? ⟨ob+1,i*2+1,none⟩=some (.int .i64 (x.i:Nat))
 sent:W.ownsRow w.heap.size 3 1 v j (Zu ((qs.take j).map fun x=>idS ws x.i))
 lo:w.heap.size≤ob
 qt:∃ cs,W.heap[ob+1]?=some (.cells cs 173 (0,0))
theorem S3.far {w W:World} {l:List It} {ws:List Wt} {ob m:Nat} {qs:List (QI m)} {j:Nat} {v:Value} (h:S3 w W l ws ob m qs j v):v.ownBlock≠some ob∧v.ownBlock≠some (ob+1):=by
 obtain ⟨co,h1,_⟩:=h.o
 obtain ⟨cs,h2⟩:=h.qt
 exact ⟨Q6 h.sent h1 (by decide),Q6 h.sent h2 (by decide)⟩
theorem S3.push {w W W5:World} {l:List It} {ws:List Wt} {ob m:Nat} {qs:List (QI m)} {j:Nat} {v v5:Value} {x:QI m} (O1 O2:Obj) (h:S3 w W l ws ob m qs j v) (hx:qs[j]?=some x)
  (hown:W5.ownsRow w.heap.size 3 1 v5 (j+1) (Zu ((qs.take j).map fun x=>idS ws x.i)++[.int .i64 (idS ws x.i)])) (hg:((W.alloc O1).alloc O2).grownBy W5 v.ownBlock) :
  S3 w (W5.setCell ⟨ob,x.i*3+2,none⟩ (.int .i64 0)) l ws ob m qs (j+1) v5:=by
 obtain ⟨n1,n2⟩:=h.far
 have hb2:=ZQ W O1 O2
 obtain ⟨cs,hqt⟩:=h.qt
 have lo1:ob<W.heap.size:=h.o.lt
 have lo2:ob+1<W.heap.size:=Zh hqt
 have k5:∀ q,q<W.heap.size→v.ownBlock≠some q→W5.heap[q]?=W.heap[q]?:=fun q hq hn=>(hg.block q (Nat.lt_of_lt_of_le hq hb2.size) (fun e=>hn e.symm)).trans (hb2.block q hq)
 have o5:KB W5 ob 134 3 m m (e3 l ws ((qs.take j).map QI.i)):=h.o.keep (k5 ob lo1 n1)
 have b5:Below w.heap.size w W5:=by
  refine (h.out.trans (hb2.mono h.out.size)).grown hg (Nat.le_trans h.out.size hb2.size) (fun q e=>?_)
  rcases h.sent.2 with ⟨rfl,_⟩|⟨g,cap,cur,rfl,hB,hh,r⟩
  ·cases e
  ·have e:some g=some q:=e
   injection e with e
   omega
 have htake:qs.take (j+1)=qs.take j++[x]:=by rw [List.take_add_one,hx];rfl
 have hqc:=h.q
 have q5:∀ (i:Nat) (y:QI m),qs[i]?=some y→W5.cell? ⟨ob+1,i*2,none⟩=some (.pointer (some ⟨ob,y.i*3,none⟩))∧W5.cell? ⟨ob+1,i*2+1,none⟩=some (.int .i64 (y.i:Nat)):=fun i y hy=>
  ⟨(Zm (k5 _ lo2 n2) _).trans (hqc i y hy).1,(Zm (k5 _ lo2 n2) _).trans (hqc i y hy).2⟩
 have ne:ob+1≠ob:=by omega
 have f5:∀ q,q≠ob→(W5.setCell ⟨ob,x.i*3+2,none⟩ (.int .i64 0)).heap[q]?=W5.heap[q]?:=fun q hq=>JM _ _ _ _ hq
 have n5:v5.ownBlock≠some ob:=by
  obtain ⟨co,h1,_⟩:=o5
  exact Q6 hown h1 (by decide)
 refine ⟨b5.setCell (p:=⟨ob,_,none⟩) h.lo _,?_,fun i y hy=>⟨(Zm (f5 _ ne) _).trans (q5 i y hy).1,(Zm (f5 _ ne) _).trans (q5 i y hy).2⟩,?_,h.lo,⟨cs,(f5 _ ne).trans ((k5 _ lo2 n2).trans hqt)⟩⟩
 ·refine ZoM o5 x.lt (by decide) (ZoL l ws _) (fun i s u hu=>?_)
  rw [htake,List.map_append] at hu
  by_cases e:i=x.i∧s=2
  ·obtain ⟨rfl,rfl⟩:=e
   refine .inl ⟨rfl,rfl,?_⟩
   unfold e3 at hu
   rw [if_pos (by simp)] at hu
   rw [List.getElem?_set_self (by rw [Zdt];decide)] at hu
   injection hu with hu
   exact hu.symm
  ·refine .inr ⟨e,?_⟩
   unfold e3 at hu ⊢
   by_cases h1:i=x.i
   ·have hs2:s≠2:=fun h2=>e ⟨h1,h2⟩
    rw [if_pos (by simp [h1])] at hu
    rw [List.getElem?_set_ne (fun h=>hs2 h.symm)] at hu
    split
    ·rw [List.getElem?_set_ne (fun h=>hs2 h.symm)];exact hu
    ·exact hu
   ·have:(i∈(qs.take j).map QI.i++[x].map QI.i)↔i∈(qs.take j).map QI.i:=by
     rw [List.mem_append]
     constructor
     ·rintro (h | h)
      ·exact h
      ·simp at h;exact absurd h h1
     ·exact .inl
    by_cases h2:i∈(qs.take j).map QI.i
    ·rw [if_pos (this.2 h2)] at hu;rw [if_pos h2];exact hu
    ·rw [if_neg (fun h=>h2 (this.1 h))] at hu;rw [if_neg h2];exact hu
 ·rw [htake,List.map_append]
  have:Zu ((qs.take j).map (fun x=>idS ws x.i)++[x].map (fun x=>idS ws x.i))=Zu ((qs.take j).map fun x=>idS ws x.i)++[.int .i64 (idS ws x.i)]:=by unfold Zu;rw [List.map_append];rfl
  rw [this]
  exact XW hown (fun q hq=>f5 q (fun e=>n5 (by rw [hq,e])))
def QE (l:List It) (ws:List Wt) (done:List Nat):List It:=ws.zipIdx.map fun p=>⟨p.1.i,p.1.w,if p.2∈done then 0 else min (QD l p.1.i+p.1.w) 1073741824⟩
theorem ZoN {l:List It} {ws:List Wt} {done:List Nat} {i:Nat} {x:It} (h:(QE l ws done)[i]?=some x):(e3 l ws done i)=x.ints.map (Value.int .i64):=by
 unfold QE at h
 rw [List.getElem?_map,List.getElem?_zipIdx] at h
 unfold e3 eoS
 rcases hw:ws[i]? with _ | y
 ·rw [hw] at h;simp at h
 ·rw [hw] at h
  simp at h
  subst h
  by_cases e:i∈done
  ·rw [if_pos e];simp [It.ints,e]
  ·rw [if_neg e];simp [It.ints,e]
set_option maxRecDepth 100000 in
set_option maxHeartbeats 8000000 in
theorem ZoO (A B:Option Addr) (n c m d k:Nat) (l:List It) (ws:List Wt) (w:World) (hl:ZG 3 It.ints w A n l) (hw:ZG 2 Wt.ints w B m ws) (vl:Qp l=true) (vw:Qo ws=true) :
    Calls Tryz.prog 49 #[.slice A n c,.slice B m d,.int .i64 (k:Nat)] w fun e w'=>∃ (qs:List (QI m)) (ob:Nat) (v:Value),e=.returned (.tuple #[.slice (some ⟨ob,0,none⟩) m m,v,.int .i64 0])∧(qs.Perm (QU m)∧qs.Pairwise (fun x y=>ltOf (cfQ (scS l ws)) y x=false))∧S3 w w' l ws ob m qs (min k m) v:=by
  have hmm:=@run_makeMap Tryz.prog
  have FA:=Zil A n c l w hl
  rw [vl] at FA
  have k0:decide ((k:Int)<0)=false:=decide_eq_false (by omega)
  have H:=Qh (Qi hl (Qi hw (Qi (Zcd vl) (Zds vw))))
  have HV:=Qh vw
  clear hl hw vl vw
  go_enter Tryz.func49,Tryz.ntmps49
  go_upto_region 3 with (first
    | (have t1:=FA
       go_at_call 72
       refine t1.mono ?_
       rintro e w2 ⟨rfl,hb2⟩
       have FB:=Zox B m d ws w2 (H.out.2.1.below hb2)
       rw [HV.out] at FB
       have H2:=Qh hb2
       clear hb2 t1 FA)
    | (have t2:=FB
       go_at_call 102
       refine t2.mono ?_
       rintro e w3 ⟨rfl,hb3⟩
       have H3:=Qh (H2.out.trans (hb3.mono H2.out.size))
       clear hb3 t2 FB))
  obtain ⟨w4,e4⟩:∃ W,W=w3.alloc (.map #[] 0):=⟨_,rfl⟩
  obtain ⟨mb,em⟩:∃ b,b=w3.heap.size:=⟨_,rfl⟩
  have hS:SM w w4 mb 0 (fun _=>0):=by
    refine ⟨?_,YK.start (by rw [e4,em];exact heap_alloc_new w3 _),by rw [em];exact H3.out.size⟩
    rw [e4];exact H3.out.trans ((Zg w3 _).mono H3.out.size)
  have HS:=Qh hS
  clear hS
  go_upto_region 4 with fail
  rw [←e4,←em]
  clear e4 em
  go_wp2_with fail
  go_loopg [34] n (fun gh iv wr=>∃ j:Nat,gh+j=n∧iv=.int .i64 (j:Nat)∧SM w wr mb j (QD (l.take j)))
  case atStart=>exact ⟨0,rfl,rfl,HS.out⟩
  case round=>
    obtain ⟨j,hg,rfl,hSM⟩:=hrel
    obtain ⟨W,eW⟩:∃ W,W=wr:=⟨_,rfl⟩
    rw [←eW] at hSM ⊢
    clear eW
    have h:=H.out.1
    have hlen:=h.len
    have hlim:=h.lim
    by_cases hlt:j<n
    · obtain ⟨x,hx⟩:∃ x,l[j]?=some x:=⟨_,List.getElem?_eq_getElem (by omega)⟩
      obtain ⟨b,o,rfl,hc⟩:=h.at_ j x hx
      have hW:=hSM.out
      have c0:W.cell? ⟨b,o+j*3,none⟩=some (.int .i64 x.i):=(hW.cell (Zc (hc 0 x.i rfl))).trans (hc 0 x.i rfl)
      have c1:W.cell? ⟨b,o+j*3+1,none⟩=some (.int .i64 x.w):=(hW.cell (Zc (hc 1 x.w rfl))).trans (hc 1 x.w rfl)
      have c2:W.cell? ⟨b,o+j*3+2,none⟩=some (.int .i64 x.s):=(hW.cell (Zc (hc 2 x.s rfl))).trans (hc 2 x.s rfl)
      have i0:(0:Int)≤(j:Int):=by omega
      have i1:(j:Int)<(n:Int):=by omega
      have i2:decide (j<n)=true:=decide_eq_true hlt
      have u2:wrap64 ((j:Int)+1)=(j:Int)+1:=Zn _ (by omega) (by omega)
      obtain ⟨W1,e1⟩:∃ V,V=W.alloc (.cells #[.int .i64 x.i,.int .i64 x.w,.int .i64 x.s] 134 (0,0)):=⟨_,rfl⟩
      obtain ⟨g1,eg⟩:∃ g,g=W.heap.size:=⟨_,rfl⟩
      have hg1:W1.heap[g1]?=some (.cells #[.int .i64 x.i,.int .i64 x.w,.int .i64 x.s] 134 (0,0)):=by rw [e1,eg];exact heap_alloc_new W _
      have hb1:Below W.heap.size W W1:=by rw [e1];exact Zg W _
      have y0:W1.cell? ⟨g1,0,none⟩=some (.int .i64 x.i):=Za hg1 0 _ rfl
      have y2:W1.cell? ⟨g1,2,none⟩=some (.int .i64 x.s):=Za hg1 2 _ rfl
      have hr:=H.out.2.2.1.2 x (List.mem_of_getElem? hx)
      have hn:=H.out.2.2.1.1
      obtain ⟨W2,hrun,hS2⟩:=(hSM.below hb1).put (T:=169) Tryz.underlying169 (by unfold maxLen;omega) x.i (by omega) (by omega) x.s (by omega) (by omega)
      rw [←ZoC l j x hx] at hS2
      have HX:=Qh (Qi hlt (Qi hg hS2))
      clear hSM hS2 hb1 hg1 hr hn hx hc hW hlen hlim h hlt hg
      go_upto_region 7 with fail
      rw [←e1,←eg]
      clear e1 eg
      go_wp2_with fail
      go_roundg (n-(j+1))
      case measure=>have:=HX.out.1;have:=HX.out.2.1;omega
      case rel=>exact ⟨j+1,by have:=HX.out.1;omega,by go_num,HX.out.2.2⟩
    · have i2:decide (j<n)=false:=decide_eq_false hlt
      have ht:l.take j=l:=List.take_of_length_le (by omega)
      rw [ht] at hSM
      have HX:=Qh hSM
      clear hSM hlt ht h hlen hlim hg
      obtain ⟨co,hco,hmk1⟩:=ZoH m (by have:=H.out.2.1.len;have:=H.out.2.2.2.1;omega)
      obtain ⟨qo,hqo,hmk2⟩:=ZoI m (by have:=H.out.2.1.len;have:=H.out.2.2.2.1;omega)
      obtain ⟨ob,eob⟩:∃ b,b=W.heap.size:=⟨_,rfl⟩
      obtain ⟨w6,e6⟩:∃ V,V=(W.alloc (.cells co 134 (0,0))).alloc (.cells qo 173 (0,0)):=⟨_,rfl⟩
      have hT0:ST w w6 mb j (QD l) ob (ob+1) m 0 (eoS l ws) (eqS ob):=by
        have hb6:Below W.heap.size W w6:=by rw [e6];exact ZQ W _ _
        have hlo:=HX.out.out.size
        exact ⟨HX.out.below hb6,⟨co,by rw [e6,eob];exact ZZ W _ _,hco,fun i hi=>by omega⟩,⟨qo,by rw [e6,eob];exact Z0 W _ _,hqo,fun i hi=>by omega⟩,by rw [eob];exact hlo,by rw [eob];omega,by omega⟩
      have HT0:=Qh hT0
      clear hT0
      go_upto_region 11 with fail
      rw [←e6,←eob]
      clear e6 eob
      go_wp2_with fail
      go_loopg [52] m (fun gh iv wr=>∃ j2:Nat,gh+j2=m∧iv=.int .i64 (j2:Nat)∧ST w wr mb j (QD l) ob (ob+1) m j2 (eoS l ws) (eqS ob))
      case atStart=>exact ⟨0,rfl,rfl,HT0.out⟩
      case round=>
        obtain ⟨j2,hg,rfl,hST⟩:=hrel
        obtain ⟨W0,eW⟩:∃ W,W=wr:=⟨_,rfl⟩
        rw [←eW] at hST ⊢
        clear eW
        have h:=H.out.2.1
        have hlen:=h.len
        have Ze8:=H.out.2.2.2.1
        by_cases hlt:j2<m
        · obtain ⟨x,hx⟩:∃ x,ws[j2]?=some x:=⟨_,List.getElem?_eq_getElem (by omega)⟩
          have hW:=hST.sm.out
          obtain ⟨b,o,rfl,hc⟩:=h.at_ j2 x hx
          have c0:W0.cell? ⟨b,o+j2*2,none⟩=some (.int .i64 x.i):=(hW.cell (Zc (hc 0 x.i rfl))).trans (hc 0 x.i rfl)
          have c1:W0.cell? ⟨b,o+j2*2+1,none⟩=some (.int .i64 x.w):=(hW.cell (Zc (hc 1 x.w rfl))).trans (hc 1 x.w rfl)
          have i0:(0:Int)≤(j2:Int):=by omega
          have i1:(j2:Int)<(m:Int):=by omega
          have i2:decide (j2<m)=true:=decide_eq_true hlt
          have u2:wrap64 ((j2:Int)+1)=(j2:Int)+1:=Zn _ (by omega) (by omega)
          obtain ⟨W1,e1⟩:∃ V,V=W0.alloc (.cells #[.int .i64 x.i,.int .i64 x.w] 167 (0,0)):=⟨_,rfl⟩
          obtain ⟨g1,eg⟩:∃ g,g=W0.heap.size:=⟨_,rfl⟩
          have hg1:W1.heap[g1]?=some (.cells #[.int .i64 x.i,.int .i64 x.w] 167 (0,0)):=by rw [e1,eg];exact heap_alloc_new W0 _
          have hb1:Below W0.heap.size W0 W1:=by rw [e1];exact Zg W0 _
          obtain ⟨y0,y1⟩:=cs2 hg1
          have hr:=H.out.2.2.2.2 x (List.mem_of_getElem? hx)
          have hsr:=Zim l (fun y hy=>(H.out.2.2.1.2 y hy).2.2) x.i
          have hS1:=hST.below hb1
          have hlk:=hS1.sm.mp.look (T:=169) Tryz.underlying169 (Tryz.zeroValue3 W1) x.i (by omega) (by omega)
          obtain ⟨v,ev⟩:∃ v,v=QD l x.i:=⟨_,rfl⟩
          rw [←ev] at hlk hsr
          have u1:wrap64 (v+x.w)=v+x.w:=Zn _ (by omega) (by omega)
          obtain ⟨a0,z0⟩:=hS1.o.some (o:=j2*3) (by omega)
          obtain ⟨a1,z1⟩:=hS1.o.some (o:=j2*3+1) (by omega)
          obtain ⟨a2,z2⟩:=hS1.o.some (o:=j2*3+2) (by omega)
          obtain ⟨p0,q0⟩:=hS1.q.some (o:=j2*2) (by omega)
          obtain ⟨p1,q1⟩:=hS1.q.some (o:=j2*2+1) (by omega)
          have fo:=fun o=>hS1.o.free o
          have fq:=fun o=>hS1.q.free o
          have heo:eoS l ws j2=[.int .i64 x.i,.int .i64 x.w,.int .i64 (min (v+x.w) 1073741824)]:=by unfold eoS;rw [hx,ev]
          have hP:=hS1.push (Zdt l ws) (fun _=>rfl) hlt heo rfl
          have HX2:=Qh (Qi hlt (Qi hg hP))
          clear hP hST hS1 hb1 hg1 hr hsr hx hc hW hlt hg hlen Ze8 h ev heo
          go_upto_region 14 with fail
          rw [←e1,←eg]
          clear e1 eg
          go_wp2_with fail
          go_roundg (m-(j2+1))
          case measure=>have:=HX2.out.1;have:=HX2.out.2.1;omega
          case rel=>exact ⟨j2+1,by have:=HX2.out.1;omega,by go_num,HX2.out.2.2⟩
        · obtain ⟨K,eK⟩:∃ K,K=min k m:=⟨_,rfl⟩
          have ej:j2=m:=by omega
          rw [ej] at hST
          have hsc:∀ i,i<m→W0.cell? ⟨ob,i*3+2,none⟩=some (.int .i64 (scS l ws i)):=fun i hi=>hST.o.cell hi (ZoJ l ws i)
          have hown:W0.ownsRow w.heap.size 173 2 (.slice (some ⟨ob+1,0,none⟩) m m) (QU m).length ((QU m).flatMap (Qq ob)):=by
            rw [Ze7,ZoE]
            exact ZoD hST.q (fun _=>rfl) (by have:=hST.lo;omega) (by unfold maxLen;omega)
          have FS:=ZoB ob (scS l ws) W0 w.heap.size _ (QU m) hown (fun e=>by have e:some (ob+1)=some ob:=e;injection e with e;omega) hsc (by rw [Ze7];omega)
          have i2:decide (j2<m)=false:=decide_eq_false hlt
          have i3:(j2:Int)=(m:Int):=by omega
          have hKm:K≤m:=by omega
          have hmin:(if (m:Int)<(k:Int) then (m:Int) else (k:Int))=(K:Int):=by split<;>omega
          have i4:(0:Int)≤(K:Int):=by omega
          have i5:(K:Int)≤(m:Int):=by omega
          have HX3:=Qh (Qi hST (Qi hKm eK))
          clear hST hlt hg hsc hown h hlen Ze8 ej i3 eK hKm
          go_upto_region 18 with (
            go_at_call 103
            refine FS.mono ?_
            rintro e w8 ⟨rfl,qs,hqs,Zce,hgr⟩
            have HQ:=Qh (Qi hqs (Qi Zce hgr))
            clear hqs Zce hgr FS)
          have h3:S3 w w8 l ws ob m qs 0 (.slice none 0 0):=by
            obtain ⟨hqs,Zce,hgr⟩:=HQ.out
            obtain ⟨hST,hKm,eK⟩:=HX3.out
            have hne:∀ q,q≠ob+1→q<W0.heap.size→w8.heap[q]?=W0.heap[q]?:=fun q hq hlt=>hgr.block q hlt (fun e=>by have e:some q=some (ob+1):=e;injection e with e;exact hq e)
            refine ⟨hST.sm.out.grown hgr hST.sm.out.size (fun q e=>by have e:some (ob+1)=some q:=e;injection e with e;have:=hST.lo;omega),hST.o.keep (hne ob (by omega) hST.o.lt),fun i x hx=>?_,⟨rfl,Or.inl ⟨rfl,rfl⟩⟩,hST.lo,?_⟩
            · have hlt:=(List.getElem?_eq_some_iff.1 hx).1
              obtain ⟨b,cp,ev,hB,hcell⟩:=Q7 Zce (by rw [Qb _ 2 (fun _=>rfl)];omega)
              injection ev with ev _ _
              injection ev with ev
              injection ev with ev _ _
              subst ev
              exact ⟨hcell (i*2+0) _ ((XX (Qq ob) 2 (fun _=>rfl) qs i x 0 hx (by decide)).trans rfl),hcell (i*2+1) _ ((XX (Qq ob) 2 (fun _=>rfl) qs i x 1 hx (by decide)).trans rfl)⟩
            · rcases Zce.2 with ⟨e,_⟩|⟨g,cap,cur,e,hB,hh,r⟩
              · cases e
              · injection e with e _ _
                injection e with e
                injection e with e _ _
                subst e
                exact ⟨_,hh⟩
          have hlen:qs.length=m:=by rw [HQ.out.1.1.length_eq,Ze7]
          have H3a:=Qh h3
          have HL:=Qh hlen
          clear h3 hlen
          go_wp2_with fail
          go_loopg [16,91] K (fun gh sv iv wr=>∃ j3:Nat,gh+j3=K∧iv=.int .i64 (j3:Nat)∧S3 w wr l ws ob m qs j3 sv)
          case atStart=>exact ⟨0,rfl,rfl,H3a.out⟩
          case round=>
            obtain ⟨j3,hg3,rfl,hS3⟩:=hrel
            obtain ⟨V,eV⟩:∃ W,W=wr:=⟨_,rfl⟩
            rw [←eV] at hS3 ⊢
            clear eV
            by_cases hlt3:j3<K
            · have hKm:=HX3.out.2.1
              obtain ⟨x,hx⟩:∃ x,qs[j3]?=some x:=⟨_,List.getElem?_eq_getElem (by rw [HL.out];omega)⟩
              obtain ⟨a0,a1⟩:=hS3.q j3 x hx
              obtain ⟨nf1,nf2⟩:=hS3.far
              have b0:V.cell? ⟨ob,x.i*3,none⟩=some (.int .i64 (idS ws x.i)):=hS3.o.cell x.lt (ZoK l ws _ x.i)
              have i0:(0:Int)≤(j3:Int):=by omega
              have i1:(j3:Int)<(K:Int):=by omega
              have i2':decide (j3<K)=true:=decide_eq_true hlt3
              have u2:wrap64 ((j3:Int)+1)=(j3:Int)+1:=Zn _ (by have:=H.out.2.2.2.1;have:=H.out.2.1.len;omega) (by have:=H.out.2.2.2.1;have:=H.out.2.1.len;omega)
              obtain ⟨V1,e1⟩:∃ W,W=V.alloc (.cells #[.pointer (some ⟨ob,x.i*3,none⟩),.int .i64 (x.i:Nat)] 173 (0,0)):=⟨_,rfl⟩
              obtain ⟨g1,eg⟩:∃ g,g=V.heap.size:=⟨_,rfl⟩
              obtain ⟨V2,e2⟩:∃ W,W=V1.alloc (.cells #[.int .i64 (idS ws x.i)] 3 (0,0)):=⟨_,rfl⟩
              obtain ⟨g2,eg2⟩:∃ g,g=V1.heap.size:=⟨_,rfl⟩
              have hg1:V1.heap[g1]?=some (.cells #[.pointer (some ⟨ob,x.i*3,none⟩),.int .i64 (x.i:Nat)] 173 (0,0)):=by rw [e1,eg];exact heap_alloc_new V _
              have hg2:V2.heap[g2]?=some (.cells #[.int .i64 (idS ws x.i)] 3 (0,0)):=by rw [e2,eg2];exact heap_alloc_new V1 _
              have hb1:Below V.heap.size V V1:=by rw [e1];exact Zg V _
              have hb2:Below V1.heap.size V1 V2:=by rw [e2];exact Zg V1 _
              have y0:V1.cell? ⟨g1,0,none⟩=some (.pointer (some ⟨ob,x.i*3,none⟩)):=Za hg1 0 _ rfl
              have y1:V1.cell? ⟨ob,x.i*3,none⟩=some (.int .i64 (idS ws x.i)):=(hb1.cell (Zc b0)).trans b0
              have Zt:Below V.heap.size V V2:=hb1.trans (hb2.mono hb1.size)
              have hown2:=ZaO hS3.sent (fun q hq=>Zt.block q hq)
              obtain ⟨z9,hz9⟩:=hS3.o.some (o:=x.i*3+2) (by have:=x.lt;omega)
              have hfr:=fun o=>hS3.o.free o
              have hln:j3+1≤maxLen∧(j3+1)*8≤140737488355328:=by have:=H.out.2.2.2.1;have:=H.out.2.1.len;unfold maxLen;omega
              obtain ⟨i9,hi9,hq0,hq1,hq2⟩:=info_parts ZaX
              have e12:V2=(V.alloc (.cells #[.pointer (some ⟨ob,x.i*3,none⟩),.int .i64 (x.i:Nat)] 173 (0,0))).alloc (.cells #[.int .i64 (idS ws x.i)] 3 (0,0)):=by rw [e2,e1]
              have Zio:w.heap.size≤V2.heap.size:=Nat.le_trans hS3.out.size Zt.size
              have hnews:∀ j u,([.int .i64 (idS ws x.i)]:List Value)[j]?=some u→V2.cell? ((⟨g2,0,none⟩:Addr).add j)=some u:=fun j u hu=>by
                rcases j with _ | j
                · simp at hu;subst hu;exact Za hg2 0 _ rfl
                · simp at hu
              have HY:=Qh (Qi (Qi hown2 (Qi hln Zio)) (Qi (Qi hi9 (Qi hq0 (Qi hq1 hq2))) (Qi hnews (Qi hS3 (Qi hx (Qi hg3 (Qi hlt3 (Qi e12 (Qi hg1 (Qi hb2 (Qi Zt (Qi nf1 (Qi hz9 (Qi hfr eg))))))))))))))
              clear hown2 hln Zio hi9 hq0 hq1 hq2 hnews hS3 hx hg3 hlt3 e12 hg1 hb1 hb2 Zt nf1 nf2 hz9 hfr hg2 b0 hKm
              go_upto_region 22 with fail
              rw [←e1,←eg]
              clear e1 eg
              go_upto_region 23 with (at_builtin;rw [←e2,←eg2];clear e2 eg2;refine wpList_append_own_at _ rfl (.tmp 95) (.tmp 101) 48 rfl w.heap.size 3 i9 _ 1 8 Tryz.underlying48 HY.out.2.1.1 HY.out.2.1.2.1 HY.out.2.1.2.2.1 HY.out.2.1.2.2.2 rfl (by decide) _ j3 _ rfl HY.out.1.1 ⟨g2,0,none⟩ 1 1 [.int .i64 (idS ws x.i)] rfl rfl HY.out.2.2.1 (fun u hu=>by simp at hu;subst hu;rfl) HY.out.1.2.1.1 HY.out.1.2.1.2 HY.out.1.2.2 ?_;intro v5 W5 hown5 hg5 _ hblk;have HV5:=Qh (Qi hown5 hg5);clear hown5 hg5 hblk)
              have hst:(W5.cell? ⟨g1,0,none⟩=some (.pointer (some ⟨ob,x.i*3,none⟩))∧W5.cell? ⟨ob,x.i*3+2,none⟩=some z9)∧W5.frozen? ⟨ob,x.i*3+2,none⟩=false∧S3 w (W5.setCell ⟨ob,x.i*3+2,none⟩ (.int .i64 0)) l ws ob m qs (j3+1) v5:=by
                obtain ⟨⟨hown2,_⟩,_,hnews,hS3,hx,hg3,hlt3,e12,hg1,hb2,Zt,nf1,hz9,hfr,eg⟩:=HY.out
                obtain ⟨hown5,hg5⟩:=HV5.out
                have Xx:V2.heap[g1]?=some (.cells #[.pointer (some ⟨ob,x.i*3,none⟩),.int .i64 (x.i:Nat)] 173 (0,0)):=(hb2.block g1 (Zh hg1)).trans hg1
                have ZoP:=(hg5.block g1 (Zh Xx) (fun e=>Q6 hown2 Xx (by decide) e.symm)).trans Xx
                obtain ⟨co,ho1,_⟩:=hS3.o
                have ho2:V2.heap[ob]?=some (.cells co 134 (0,0)):=(Zt.block ob (Zh ho1)).trans ho1
                have ho5:=(hg5.block ob (Zh ho2) (fun e=>Q6 hown2 ho2 (by decide) e.symm)).trans ho2
                refine ⟨⟨Za ZoP 0 _ rfl,?_⟩,Zd ho5 _,?_⟩
                · exact (Zm (ho5.trans ho1.symm) _).trans hz9
                · rw [e12] at hg5
                  exact hS3.push _ _ hx hown5 hg5
              obtain ⟨⟨p0,p1⟩,p2,hS5⟩:=hst
              have HS5:=Qh hS5
              clear hS5 y0 y1
              go_wp2_with fail
              go_roundg (K-(j3+1))
              case measure=>have:=HY.out.2.2.2.2.2.1;have:=HY.out.2.2.2.2.2.2.1;omega
              case rel=>exact ⟨j3+1,by have:=HY.out.2.2.2.2.2.2.1;omega,by go_num,HS5.out⟩
            · have i2':decide (j3<K)=false:=decide_eq_false hlt3
              have i3':decide ((j3:Int)<(K:Int))=false:=decide_eq_false (by omega)
              have i4':¬ ((j3:Int)<(K:Int)):=by omega
              have ej3:j3=K:=by omega
              have HS6:=Qh (Qi hS3 (Qi ej3 HX3.out.2.2))
              clear hS3 hg3 hlt3 ej3
              go_wp2_with fail
              go_ret3
              obtain ⟨h1,h2,h3⟩:=HS6.out
              rw [h2,h3] at h1
              exact ⟨qs,ob,_,rfl,HQ.out.1,h1⟩
end
end Go.Proofs.YtlgcfimhfmgkmaaGreatDoor
