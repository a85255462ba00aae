/- Lemmas for the statement. -/
import Derived.Test.YtlgcfimhfmgkmaaGreatDoorMAP
import Derived.Test.YtlgcfimhfmgkmaaGreatDoorMAM
import Derived.Lib.BufferMore
import Derived.Shelf.SlSortCmp.NoneTotal
import Derived.ChangeKeysEq
set_option linter.unusedVariables false
set_option linter.unusedSimpArgs false
set_option maxRecDepth 100000
set_option maxHeartbeats 4000000
namespace Go.Proofs.YtlgcfimhfmgkmaaGreatDoor
open Go.RowKit
section
theorem Zo.cells {w:World} {ad:Addr} {n cap:Nat} {l:List Cmp} (h:Zo w (some ad) n cap l):∀ j u,(Ya l)[j]?=some u→w.cell? (ad.add j)=some u:=by
 intro j u hj
 have hlt:j<(Ya l).length:=(List.getElem?_eq_some_iff.1 hj).1
 rw [ZcP] at hlt
 have hq:j / 5<l.length:=by omega
 obtain ⟨c,hc⟩:∃ c,l[j / 5]?=some c:=⟨_,List.getElem?_eq_getElem hq⟩
 obtain ⟨b,o,e,hcc⟩:=h.at_ _ c hc
 injection e with e
 subst e
 have ej:j=j / 5*5+j % 5:=by omega
 rw [ej] at hj
 have hf:(Ya l)[j / 5*5+j % 5]?=c.cells[j % 5]?:=XX Cmp.cells 5 Zei l (j / 5) c (j % 5) hc (by omega)
 rw [hf] at hj
 have ea:(⟨b,o,none⟩:Addr).add j=⟨b,o+j,none⟩:=by
  rcases j with _ | j
  ·rfl
  ·simp [Addr.add]
 rw [ea]
 have e2:o+j=o+j / 5*5+j % 5:=by omega
 rw [e2]
 generalize j / 5*5=q at hcc ⊢
 have hr:j % 5=0∨j % 5=1∨j % 5=2∨j % 5=3∨j % 5=4:=by omega
 rcases hr with hr | hr | hr | hr | hr<;>rw [hr] at hj ⊢<;>(simp only [Cmp.cells,List.getElem?_cons_zero,List.getElem?_cons_succ,Option.some.injEq] at hj;subst hj)
 ·exact hcc.c0
 ·exact hcc.c1
 ·exact hcc.c2
 ·exact hcc.c3
 ·exact hcc.c4
theorem Tq59 {p:Prop} (h:p:=by
 go_wp2_with fail
 go_ret
 exact ⟨_,rfl,⟨rfl,Or.inl ⟨rfl,rfl⟩⟩,Below.refl _ _⟩):p:=h
theorem Tq38 {p:Prop} (h:p:=by
 intro v5 w5 hown5 hg5 _ hblk
 have HV:=Qh (Qi hown5 (Qi hg5 hblk));clear hown5 hg5 hblk
 go_wp2_with fail
 go_ret
 obtain ⟨h1,h2,h3⟩:=HV.out
 refine ⟨_,rfl,?_,?_⟩
 ·rw [H1.out.2.2.2.2.2.2] at h1
  exact h1
 ·exact H1.out.2.2.2.2.2.1.grown h2 H1.out.2.2.2.2.2.1.size (fun k e=>by have e:some w.heap.size=some k:=e;injection e with e;omega)):p:=h
theorem Znq (A:Option Addr) (n cap:Nat) (l:List Cmp) (w:World) (h:Zo w A n cap l) :
  Calls Tryz.prog 132 #[.slice A n cap] w fun e w'=>∃ v,e=.returned v∧w'.ownsRow w.heap.size 75 5 v l.length (Ya l)∧Below w.heap.size w w':=by
 rcases A with _ | ad
 ·obtain ⟨rfl,rfl⟩:=h.nil rfl
  have hl:l=[]:=List.eq_nil_of_length_eq_zero h.len.symm
  subst hl
  have hq:=fun w:World=>Go.Lib.run_eql_slice_nil_nil (P:=Tryz.prog) w 0 0 Tryz.underlying68
  go_enter Tryz.func132,Tryz.ntmps132
  exact Tq59
 ·obtain ⟨i9,hi9,hz0,hz1,hz2⟩:=info_parts ZcQ
  have hln:=h.len
  have hlim:=h.lim
  have hown:(w.alloc (.cells #[] 75)).ownsRow w.heap.size 75 5 (.slice (some ⟨w.heap.size,0,none⟩) 0 0) 0 []:=
   ⟨rfl,Or.inr ⟨_,0,#[],rfl,Nat.le_refl _,heap_alloc_new w _,Nat.le_refl _,Nat.zero_le _,rfl,rfl⟩⟩
  have hb1:Below w.heap.size w (w.alloc (.cells #[] 75)):=(Below.refl _ _).alloc (Nat.le_refl _) _
  have hcl:∀ j u,(Ya l)[j]?=some u→(w.alloc (.cells #[] 75)).cell? (ad.add j)=some u:=(h.below hb1).cells
  have hlen:=ZcP l
  have hone:=ZgD l
  have hC:(Ya l).length=n*5:=by rw [hlen,hln]
  have hM:0+n≤maxLen∧(0+n)*40≤140737488355328:=by unfold maxLen;omega
  have H:=Qh (Qi hi9 (Qi hz0 (Qi hz1 hz2)))
  have H1:=Qh (Qi hown (Qi hcl (Qi hC (Qi hone (Qi hM (Qi hb1 hln))))))
  clear h hi9 hz0 hz1 hz2 hown hb1 hcl hlen hone hln hlim hC hM
  have hq:=fun w:World=>Go.Lib.run_eql_slice_some_nil (P:=Tryz.prog) w ad n cap Tryz.underlying68
  go_enter Tryz.func132,Tryz.ntmps132
  go_wp2_with (at_builtin;refine wpList_append_own_at _ rfl (.tmp 5) (.tmp 6) 68 rfl w.heap.size 75 i9 _ 5 40 Tryz.underlying68 H.out.1 H.out.2.1 H.out.2.2.1 H.out.2.2.2 rfl (by decide) _ 0 [] rfl H1.out.1 ad n cap (Ya l) rfl H1.out.2.2.1 H1.out.2.1 H1.out.2.2.2.1 H1.out.2.2.2.2.1.1 H1.out.2.2.2.2.1.2 H1.out.2.2.2.2.2.1.size ?_)
  exact Tq38
theorem ZeE (A:Option Addr) (n cap:Nat) (l:List Cmp) (w:World) (h:Zo w A n cap l) :
  Calls Tryz.prog 132 #[.slice A n cap] w fun e w'=>∃ PA qn qc,e=.returned (.slice PA qn qc)∧(Zo w' PA qn qc l∧∀ b o q,PA=some ⟨b,o,q⟩→w.heap.size≤b)∧Below w.heap.size w w':=by
 refine (Znq A n cap l w h).mono ?_
 rintro e w' ⟨v,rfl,hown,hb⟩
 obtain ⟨PA,qc,rfl,hC⟩:=ZcU hown (by have:=h.len;have:=h.lim;omega) h.kind
 exact ⟨PA,_,qc,rfl,⟨hC,ZeA hown⟩,hb⟩
theorem Zhr (e:Ent) (A:Option Addr) (n c:Nat) (w:World) (h:Zo w A n c e.cs) :
    Calls Tryz.prog 107 #[.agg #[.int .i64 e.id,.slice A n c]] w fun r w'=>∃ PA qn qc,r=.returned (.agg #[.int .i64 e.id,.slice PA qn qc])∧(Zo w' PA qn qc e.cs∧∀ b o q,PA=some ⟨b,o,q⟩→w.heap.size≤b)∧Below w.heap.size w w':=by
  obtain ⟨w1,e1⟩:∃ W,W=(w.alloc (.cells #[.int .i64 e.id,.slice A n c] 70 (0,0))).alloc (.cells #[.int .i64 0,.slice none 0 0] 70 (0,0)):=⟨_,rfl⟩
  obtain ⟨g,eg⟩:∃ g,g=w.heap.size:=⟨_,rfl⟩
  have hb:Below w.heap.size w w1:=by rw [e1];exact ZQ w _ _
  have hg0:w1.heap[g]?=some (.cells #[.int .i64 e.id,.slice A n c] 70 (0,0)):=by rw [e1,eg];exact ZZ w _ _
  have hg1:w1.heap[g+1]?=some (.cells #[.int .i64 0,.slice none 0 0] 70 (0,0)):=by rw [e1,eg];exact Z0 w _ _
  have hB1:ZN w g e.id A n c w1:=⟨by rw [eg];exact hb,hg0,⟨_,_,hg1⟩⟩
  have FS:∀ W,ZN w g e.id A n c W→(W.cell? ⟨g,0,none⟩=some (.int .i64 e.id)∧W.cell? ⟨g,1,none⟩=some (.slice A n c))∧ZN w g e.id A n c W:=fun W hW=>
    ⟨⟨Za hW.a 0 _ rfl,Za hW.a 1 _ rfl⟩,hW⟩
  have KP:∀ W,ZN w g e.id A n c W→Calls Tryz.prog 132 #[.slice A n c] W fun r w'=>∃ PA qn qc,r=.returned (.slice PA qn qc)∧(Zo w' PA qn qc e.cs∧∀ b o q,PA=some ⟨b,o,q⟩→W.heap.size≤b)∧Below W.heap.size W w':=fun W hW=>
    ZeE A n c e.cs W (h.below (by rw [←eg];exact hW.out))
  obtain ⟨⟨k0,k1⟩,-⟩:=FS w1 hB1
  have HFS:=Qh FS
  have HKP:=Qh KP
  have H:=Qh (Qi hB1 eg)
  clear FS KP hB1 hb hg0 hg1 h
  go_enter Tryz.func107,Tryz.ntmps107
  go_upto_region 1 with fail
  rw [←e1,←eg]
  clear e1 eg
  have B2:=H.out.1
  go_region_held3 (fun W=>(W.cell? ⟨g,0,none⟩=some (.int .i64 e.id)∧W.cell? ⟨g,1,none⟩=some (.slice A n c))∧ZN w g e.id A n c W)
      ((refine HFS.out _ ?_;repeat (first | with_reducible assumption | with_reducible exact (And.right (by with_reducible assumption)) | with_reducible apply ZN.drew | with_reducible apply ZN.set2)))
      (first
      | (refine Zbs 132 [.tmp 6] _ rfl rfl (fun _ _=>rfl) _ rfl (HKP.out _ (And.right (by with_reducible assumption))) ?_
         rintro r wq ⟨PA,qn,qc,rfl,hPC,hbq⟩
         refine ⟨_,rfl,?_⟩
         have hbw:ZN w g e.id A n c wq:=ZN.call (And.right (by with_reducible assumption)) hbq
         obtain ⟨x4,x5,-,⟨m4,m5,m6,m7⟩⟩:=hbw.facts
         have HPC:=Qh (Qi hPC hbq)
         clear hbq hPC))
  all_goals go_wp2_with fail
  obtain ⟨⟨hC,hlow⟩,hbq⟩:=HPC.out
  have hl1:=Zh H.out.1.a
  obtain ⟨p1,q1,hr1⟩:=H.out.1.r
  have hl2:=Zh hr1
  have hsz:w1.drew.heap.size=w1.heap.size:=rfl
  obtain ⟨p3,q3,hr⟩:=hbw.r
  have eg:=H.out.2
  have hout:Below w.heap.size w wq:=by rw [←eg];exact hbw.out
  refine bodyPost_ret (ZeB rfl _ _ (g+1) _ rfl rfl (Yw (.int .i64 e.id) (.slice PA qn qc) hr)) rfl ?_
  refine ⟨PA,qn,qc,rfl,⟨hC.stepA (fun b o m hA _=>YE _ _ _ _ ?_),fun b o m hA=>by have:w1.heap.size≤b:=hlow b o m hA;omega⟩,YB _ _ hout (by omega)⟩
  have:w1.heap.size≤b:=hlow b o m hA
  omega
end
end Go.Proofs.YtlgcfimhfmgkmaaGreatDoor
namespace Go.Proofs.YtlgcfimhfmgkmaaGreatDoor
open Go.RowKit
section
open Go.RowKit Go.Shelf
section
variable {α:Type} [Inhabited α]
open Go.Sort
theorem Zhs (enc:α→List Value) {k:Nat} (hk:∀ x,(enc x).length=k) (d:Array α) (t:Nat) (ht:t<d.size*k):(d.toList.flatMap enc)[t]?=some (flatK enc k d)[t]!:=by
 have k0:0<k:=by
  rcases Nat.eq_zero_or_pos k with h | h
  ·subst h;simp at ht
  ·exact h
 have hq:t / k<d.size:=(Nat.div_lt_iff_lt_mul k0).2 ht
 have hr:t % k<k:=Nat.mod_lt _ k0
 have e:t=t / k*k+t % k:=(Nat.div_add_mod' t k).symm
 have hj:d.toList[t / k]?=some d[t / k]!:=by rw [getElem!_pos d _ hq];simp [hq]
 have hf:=XX enc k hk d.toList (t / k) _ (t % k) hj hr
 rw [←e] at hf
 rw [get_flatK _ _ _ _ ht,hf,getElem!_pos (enc d[t / k]!) (t % k) (by rw [hk];exact hr)]
 exact List.getElem?_eq_getElem _
theorem Znr (enc:α→List Value) {k:Nat} (hk:∀ x,(enc x).length=k) (d:Array α):(flatK enc k d).toList=d.toList.flatMap enc:=by
 refine List.ext_getElem? fun t=>?_
 by_cases ht:t<d.size*k
 ·rw [Zhs enc hk d t ht,getElem!_pos _ _ (by rw [size_flatK];exact ht)]
  simp [size_flatK,ht]
 ·have h1:(d.toList.flatMap enc).length=d.size*k:=by
   have:=Qb enc k hk d.toList
   simpa using this
  rw [List.getElem?_eq_none (by simp [size_flatK];omega),List.getElem?_eq_none (by rw [h1];omega)]
theorem Zht (enc:α→List Value) {k:Nat} (hk:∀ x,(enc x).length=k) {w:World} {B e n g:Nat} {v:Value} {d:Array α} (h:w.ownsRow B e k v n (d.toList.flatMap enc)) (hv:v.ownBlock=some g) (hn:d.size=n):HoldsK enc k w g 0 d:=by
 intro j hj
 rw [size_flatK] at hj
 rcases h.2 with ⟨rfl,rfl⟩|⟨g',cap,cur,rfl,hB,hh,h1,h2,h3,h4⟩
 ·cases hv
 ·have eg:g'=g:=by have e:some g'=some g:=hv;injection e
  subst eg
  refine ⟨?_,Zd hh _⟩
  have hu:=Zhs enc hk d j hj
  rw [←h4,List.getElem?_take_of_lt (by rw [←hn];exact hj)] at hu
  rw [Nat.zero_add]
  exact Za hh j _ (by simpa using hu)
theorem Zhu (enc:α→List Value) (k:Nat) (w:World) (g m:Nat) (d:Array α) (os:Array Obj):w.grownBy (sortWorldK enc k w g 0 m d os) (some g):=by
 refine ⟨rfl,rfl,rfl,size_sortWorldK_c enc k w g 0 m d os,fun q hq hne=>?_⟩
 have hne':g≠q:=fun e=>hne (by rw [e])
 show ((w.heap.modify g _)++os)[q]?=_
 rw [Array.getElem?_append_left (by simp;exact hq),Array.getElem?_modify,if_neg hne']
theorem Zhv (enc:α→List Value) {k:Nat} (hk:∀ x,(enc x).length=k) {w:World} {B e n g:Nat} {v:Value} {d d':Array α} (h:w.ownsRow B e k v n (d.toList.flatMap enc)) (hv:v.ownBlock=some g) (hn:d.size=n) (hd:d'.size=d.size) (m:Nat) (os:Array Obj) :
  (sortWorldK enc k w g 0 m d' os).ownsRow B e k v n (d'.toList.flatMap enc):=by
 have hlen:(d'.toList.flatMap enc).length=n*k:=by
  have:=Qb enc k hk d'.toList
  rw [this,Array.length_toList,hd,hn]
 rcases h.2 with ⟨rfl,rfl⟩|⟨g',cap,cur,rfl,hB,hh,h1,h2,h3,h4⟩
 ·cases hv
 ·have eg:g'=g:=by have e:some g'=some g:=hv;injection e
  subst eg
  refine ⟨hlen,Or.inr ⟨g',cap,putCells id 0 (flatK enc k d') cur,rfl,hB,?_,h1,h2,by simp [putCells,h3],?_⟩⟩
  ·show ((w.heap.modify g' _)++os)[g']?=_
   rw [Array.getElem?_append_left (by simp;exact Zh hh),Array.getElem?_modify,if_pos rfl,hh]
   rfl
  ·rw [←Znr enc hk d']
   refine List.ext_getElem? fun t=>?_
   have hle:n*k≤cap*k:=Nat.mul_le_mul_right k h1
   by_cases ht:t<n*k
   ·have ht':t<(flatK enc k d').size:=by rw [size_flatK,hd,hn];exact ht
    have hc:t<cur.size:=by omega
    rw [List.getElem?_take_of_lt ht]
    simp [putCells,hc,ht',Array.getElem?_mapIdx]
    rw [if_pos (by rwa [size_flatK] at ht'),getElem!_pos (flatK enc k d') t ht',Array.getElem?_eq_getElem ht']
   ·rw [List.getElem?_eq_none (by simp;omega),List.getElem?_eq_none (by rw [Array.length_toList,size_flatK,hd,hn];omega)]
end
theorem Zns (i j:Int) (A B:Option Addr) (n c m d:Nat) (hi:0≤i∧i≤65536) (hj:0≤j∧j≤65536) (w:World) :
  Calls Tryz.prog 109 #[.agg #[.int .i64 i,.slice A n c],.agg #[.int .i64 j,.slice B m d]] w fun r w'=>r=.returned (.int .i64 (i-j))∧w'=(w.alloc (.cells #[.int .i64 i,.slice A n c] 70 (0,0))).alloc (.cells #[.int .i64 j,.slice B m d] 70 (0,0)):=by
 obtain ⟨w1,e1⟩:∃ W,W=(w.alloc (.cells #[.int .i64 i,.slice A n c] 70 (0,0))).alloc (.cells #[.int .i64 j,.slice B m d] 70 (0,0)):=⟨_,rfl⟩
 obtain ⟨g,eg⟩:∃ g,g=w.heap.size:=⟨_,rfl⟩
 have hg0:w1.heap[g]?=some (.cells #[.int .i64 i,.slice A n c] 70 (0,0)):=by rw [e1,eg];exact ZZ w _ _
 have hg1:w1.heap[g+1]?=some (.cells #[.int .i64 j,.slice B m d] 70 (0,0)):=by rw [e1,eg];exact Z0 w _ _
 have f0:w1.cell? ⟨g,0,none⟩=some (.int .i64 i):=Za hg0 0 _ rfl
 have f1:w1.cell? ⟨g+1,0,none⟩=some (.int .i64 j):=Za hg1 0 _ rfl
 have u0:wrap64 (i-j)=i-j:=Zn _ (by omega) (by omega)
 rw [←e1]
 clear hg0 hg1
 go_enter Tryz.func109,Tryz.ntmps109
 go_upto_region 1 with fail
 rw [←e1,←eg]
 clear e1 eg
 go_wp2_with fail
 go_ret
 exact ⟨rfl,rfl⟩
structure ERB where
 r:ER
 ok:0≤r.e.id∧r.e.id≤65536
instance:Inhabited ERB:=⟨⟨⟨⟨0,[]⟩,none,0,0⟩,by decide,by decide⟩⟩
def ERB.cells (x:ERB):List Value:=x.r.cells
theorem Zhw:∀ (rs:List ER),(∀ r,r∈rs→0≤r.e.id∧r.e.id≤65536)→∃ L:List ERB,L.map ERB.r=rs
 | [],_=>⟨[],rfl⟩
 | r :: rs,h=>by
  obtain ⟨L,e⟩:=Zhw rs (fun x hx=>h x (.tail _ hx))
  exact ⟨⟨r,h r (.head _)⟩ :: L,by rw [List.map_cons,e]⟩
def cfE (x y:ERB):Int:=x.r.e.id-y.r.e.id
theorem Znt:Sort.SWO (ltOf cfE) where
 irrefl x:=by unfold ltOf cfE;simp
 trans x y z h1 h2:=by unfold ltOf cfE at *;simp at *;omega
 ntrans x y z h1 h2:=by unfold ltOf cfE at *;simp at *;omega
theorem Znu (blk off size:Nat) (w:World):CmpLays Tryz.prog 109 #[] ERB.cells 2 cfE blk off size w:=by
 intro m os dk hs x y
 rw [Array.append_empty]
 refine (Zns x.r.e.id y.r.e.id x.r.A y.r.A x.r.n x.r.c y.r.n y.r.c x.ok y.ok _).mono ?_
 rintro e w' ⟨rfl,rfl⟩
 refine ⟨rfl,0,#[.cells #[.int .i64 x.r.e.id,.slice x.r.A x.r.n x.r.c] 70 (0,0),.cells #[.int .i64 y.r.e.id,.slice y.r.A y.r.n y.r.c] 70 (0,0)],?_⟩
 rw [Sort.alloc_eq_grow,Sort.alloc_eq_grow,Sort.grow_grow]
 rfl
theorem Znv (w W:World) (ov:Value) (rs:List ERB) (h:FE w W ov (rs.map ERB.r)) (hl:rs.length≤1000000) :
  Calls Tryz.prog 108 #[ov,.func (.func 109) #[] #[]] W fun e w'=>e=.returned (.tuple #[])∧∃ rs':List ERB,(rs'.Perm rs∧rs'.Pairwise (fun x y=>x.r.e.id≤y.r.e.id))∧FE w w' ov (rs'.map ERB.r)∧W.grownBy w' ov.ownBlock:=by
 have hE:∀ l:List ERB,ers (l.map ERB.r)=l.toArray.toList.flatMap ERB.cells:=fun l=>by unfold ers;rw [List.flatMap_map];rfl
 rcases ho:ov.ownBlock with _ | g
 ·rcases h.own.2 with ⟨rfl,hn⟩|⟨g,cap,cur,rfl,r⟩
  ·refine (AnyF.slices_SortFunc_none Zhb none 0 _ W).mono ?_
   rintro e w' ⟨rfl,rfl⟩
   rw [List.length_map] at hn
   have hr:rs=[]:=List.eq_nil_of_length_eq_zero hn
   subst hr
   exact ⟨rfl,[],⟨List.Perm.refl _,List.Pairwise.nil⟩,h,⟨rfl,rfl,rfl,Nat.le_refl _,fun _ _ _=>rfl⟩⟩
  ·cases ho
 ·have hown:=h.own
  rw [hE,List.length_map] at hown
  have hlt:=Yg h.own ho
  obtain ⟨cap,hv⟩:∃ cap,ov=.slice (some ⟨g,0,none⟩) rs.length cap:=by
   rcases hown.2 with ⟨rfl,hn⟩|⟨g',cap,cur,rfl,r⟩
   ·cases ho
   ·have e:some g'=some g:=ho
    injection e with e
    subst e
    exact ⟨cap,rfl⟩
  have hH:=Zht ERB.cells (fun x=>rfl) hown ho (by simp)
  have hC:=AnyQ.slices_SortFunc Zhb 2 Tryz.isAgg70 Tryz.sizeOf70 ERB.cells (fun x=>rfl) (fun x v hv=>ZaP x.r v hv) cfE Znt 109 #[] g 0 cap rs.toArray W (enters_of Tryz.func109 (by kernel_rfl) rfl) (Znu _ _ _ _) hH hlt.1 (by simp;omega)
  have hs:rs.toArray.size=rs.length:=by simp
  rw [hs,←hv] at hC
  refine hC.mono ?_
  rintro e w' ⟨rfl,d',n,os,hp,hsd,rfl⟩
  have hds:d'.size=rs.toArray.size:=hp.1
  have hgr:=Zhu ERB.cells 2 W g n d' os
  have hperm:d'.toList.Perm rs:=by
   have:=hp.2.2
   have e1:d'.extract 0 rs.length=d':=by rw [←hs,←hds];simp
   have e2:rs.toArray.extract 0 rs.length=rs.toArray:=by rw [←hs];simp
   rw [e1,e2] at this
   exact this
  have hmem:∀ r,r∈d'.toList.map ERB.r→r∈rs.map ERB.r:=fun r hr=>(hperm.map _).mem_iff.1 hr
  refine ⟨rfl,d'.toList,⟨hperm,?_⟩,?_,hgr⟩
  ·rw [List.pairwise_iff_getElem]
   intro i j hi hj hij
   have:=hsd i j (Nat.zero_le _) hij (by rw [Array.length_toList,hds,hs] at hj;exact hj)
   rw [getElem!_pos d' i (by simpa using hi),getElem!_pos d' j (by simpa using hj)] at this
   unfold ltOf cfE at this
   simp only [decide_eq_false_iff_not] at this
   simp only [Array.getElem_toList]
   omega
  ·have hos:=Zhv ERB.cells (fun x=>rfl) hown ho (by simp) hds n os
   refine ⟨?_,fun r hr=>?_,fun r hr=>?_,fun r hr=>h.low r (hmem r hr),h.out.grown hgr h.out.size (fun k e=>by injection e with e;have:=hlt.2;omega)⟩
   ·rw [hE,List.length_map,Array.length_toList,hds,hs]
    exact hos
   ·exact (h.row r (hmem r hr)).stepN (fun hne b o m hA hl=>hgr.block b hl (fun e=>h.dis r (hmem r hr) hne b o m hA (by rw [ho];exact e.symm)))
   ·exact h.dis r (hmem r hr)
end
end Go.Proofs.YtlgcfimhfmgkmaaGreatDoor
namespace Go.Proofs.YtlgcfimhfmgkmaaGreatDoor
open Go.RowKit
section
theorem FE.fin {w W W':World} {ov:Value} {rs:List ER} (h:FE w W ov rs) (hl:rs.length≤1000000) (hk:∀ q,w.heap.size≤q→W'.heap[q]?=W.heap[q]?):∃ A c,ov=.slice A rs.length c∧Zj W' A rs.length c (rs.map ER.e):=
 ZcW (XW h.own (fun q hq=>hk q (Yg h.own hq).2)) hl (fun r hr=>(h.row r hr).stepA fun b o m hA _=>hk b (h.low r hr b o m hA))
theorem Znw {cl:Int} {es:List Ent} (hin:∀ e,e∈es→InP (ZV e) (ZW e)):∀ q,q∈Xa cl es→InP q.1 q.2:=by
 intro q hq
 unfold Xa at hq
 obtain ⟨e,he,rfl⟩:=List.mem_map.1 hq
 exact hin e (List.mem_filter.1 he).1
theorem Zc9 (w:World) (t:Int) (A:Option Addr) (n c:Nat):∃ W g,W=(w.alloc (.cells #[.int .i64 t,.slice A n c] 24 (0,0))).alloc (.cells #[.int .i64 0,.slice none 0 0] 24 (0,0))∧g=w.heap.size ∧
  W.heap[g]?=some (.cells #[.int .i64 t,.slice A n c] 24 (0,0))∧W.heap[g+1]?=some (.cells #[.int .i64 0,.slice none 0 0] 24 (0,0))∧Below w.heap.size w W:=
 ⟨_,_,rfl,rfl,ZZ w _ _,Z0 w _ _,ZQ w _ _⟩
theorem Znx (cl t:Int) (A:Option Addr) (n c:Nat) (es:List Ent) (w:World) (hT:Tabs w) (h:Zj w A n c es) (hb:Zbu cl t es=true) (hin:∀ e,e∈es→InP (ZV e) (ZW e)) :
  Calls Tryz.prog 12 #[.agg #[.int .i64 t,.slice A n c],.int .i64 cl] w fun r w'=>∃ VA vn vc,r=.returned (.tuple #[.agg #[.int .i64 t,.slice VA vn vc],.int .i64 0])∧Zj w' VA vn vc (Ql cl (Xa cl es) es)∧Below w.heap.size w w':=by
 obtain ⟨w1,g,e1,eg,hg0,hg1,hb1⟩:=Zc9 w t A n c
 obtain ⟨f0,f1⟩:=cs2 hg0
 have F:=Znj cl t A n c es w1 (hT.below hb1) (h.below hb1) hb
 have hcl:1≤cl∧cl≤8:=by
  unfold Zbu at hb
  rw [Bool.and_eq_true,Bool.and_eq_true,Bool.not_eq_true',Bool.not_eq_true'] at hb
  have q1:=of_decide_eq_false hb.1.1
  have q2:=of_decide_eq_false hb.1.2
  omega
 have H:=Qh (Qi hb1 (Qi hg1 (Qi eg (Qi (h.below hb1) (Qi hin hcl)))))
 clear hb hT h hb1 hg0 hg1 hin hcl
 go_enter Tryz.func12,Tryz.ntmps12
 go_upto_region 1 with fail
 rw [←e1,←eg]
 clear e1 eg
 go_upto_region 2 with (go_at_call 39;refine F.mono ?_;rintro e w2 ⟨pA,pn,pc,rfl,hv2,hb2⟩;have H2:=Qh (Qi hv2 hb2);clear hv2 hb2 F)
 obtain ⟨w3,e3⟩:∃ w3,w3=w2.alloc (.cells #[.int .i64 cl,.slice pA pn pc] 93 (0,0)):=⟨_,rfl⟩
 obtain ⟨g3,eg3⟩:∃ g,g=w2.heap.size:=⟨_,rfl⟩
 rw [←e3,←eg3]
 have ZK:Below w2.heap.size w2 w3:=by rw [e3];exact Zg w2 _
 have hg3:w3.heap[g3]?=some (.cells #[.int .i64 cl,.slice pA pn pc] 93 (0,0)):=by rw [e3,eg3];exact heap_alloc_new w2 _
 have Yi:Below w1.heap.size w1 w3:=H2.out.2.trans (ZK.mono H2.out.2.size)
 have k0:=(Yi.cell (Zc f0)).trans f0
 have k1:=(Yi.cell (Zc f1)).trans f1
 have FV:=Znp cl H.out.2.2.2.2.2 (Xa cl es) pA pn pc g3 A n c es w3 (H.out.2.2.2.1.below Yi) (H2.out.1.below ZK) (Znw H.out.2.2.2.2.1) H.out.2.2.2.2.1 ⟨Za hg3 0 _ rfl,Za hg3 1 _ rfl⟩
 have hr3:=(Yi.block _ (Zh H.out.2.1)).trans H.out.2.1
 have HX:=Qh (Qi hr3 Yi)
 clear e3 eg3 ZK Yi hr3 hg3 H2 f0 f1
 go_upto_region 5 with (go_at_call 40;refine FV.mono ?_;rintro e w4 ⟨v,rs,rfl,hrs,hFE⟩;have H4:=Qh (Qi hrs hFE);clear hrs hFE FV)
 obtain ⟨hrs,hFE⟩:=H4.out
 have hrl:rs.length≤1000000:=by
  have h1:=ZaV cl (Xa cl es) es
  rw [←hrs,List.length_map] at h1
  have:=H.out.2.2.2.1.len
  have:=H.out.2.2.2.1.lim
  omega
 obtain ⟨VA,vc,rfl,-⟩:=hFE.fin (W':=w4) hrl (fun q hq=>rfl)
 have X0:=hFE.out
 have m0:=(X0.cell (Zc k0)).trans k0
 have hr4:=(X0.block _ (Zh HX.out.1)).trans HX.out.1
 obtain ⟨z0,z1⟩:=cs2 hr4
 have z2:=Zd hr4 0
 have z3:=Zd hr4 1
 have HY:=Qh (Qi hr4 (Qi X0 hrl))
 clear hr4 X0 hrl hrs hFE k0 k1
 go_wp2_with fail
 obtain ⟨hrs,hFE⟩:=H4.out
 have hlt:=Zh HX.out.1
 obtain ⟨VA2,vc2,e2,hE⟩:=hFE.fin (W':=put2 w4 (g+1) (.int .i64 t) (.slice VA rs.length vc)) HY.out.2.2 (fun q hq=>YE _ _ _ _ (by omega))
 injection e2 with e2 _ e3
 subst e2 e3
 refine bodyPost_ret (Zeo rfl _ _ (g+1) _ rfl rfl (Yw (.int .i64 t) (.slice VA rs.length vc) HY.out.1)) rfl ?_
 refine ⟨VA,_,vc,rfl,by rw [←hrs];exact hE,YB _ _ (H.out.1.trans ((HX.out.2.trans (HY.out.2.1.mono HX.out.2.size)).mono H.out.1.size)) (by have:=H.out.2.2.1;omega)⟩
end
end Go.Proofs.YtlgcfimhfmgkmaaGreatDoor
namespace Go.Proofs.YtlgcfimhfmgkmaaGreatDoor
open Go.RowKit
section
theorem Zny:Tryz.prog.info? 3=some ((Tryz.prog.info? 3).getD default):=by kernel_rfl
theorem ZaW (d:Nat) (a0 a1 a2 a3 b0 b1 b2 b3:Int) (w:World) :
  (Op.equalIn (d+2) 73 (.agg #[.int .i64 a0,.int .i64 a1,.int .i64 a2,.int .i64 a3]) (.agg #[.int .i64 b0,.int .i64 b1,.int .i64 b2,.int .i64 b3])).run Tryz.prog w=.ok (decide (a0=b0∧a1=b1∧a2=b2∧a3=b3)) w:=by
 have hc:Tryz.prog.cellsOf 3=1:=by kernel_rfl
 rw [run_equalIn_array w (d+1) _ _ Tryz.underlying73 Zny,hc,show List.range 4=[0,1,2,3] from rfl]
 simp [Op.eqItems,part,Tryz.underlying3,go_sem]
 repeat' split
 all_goals simp_all
theorem Tq88 {p:Prop} (h:p:=by
 go_upto_region 6 with fail
 go_region
 all_goals go_wp2_with fail
 all_goals go_ret
 all_goals exact ⟨by rw [HF.out];rfl,HX.out.2.2.2.1.drew⟩):p:=h
theorem Tq72 {p:Prop} (h:p:=by
 rw [ZaW,decide_eq_false]
 rintro ⟨e0,e1,e2,e3⟩
 apply hcd
 rcases x with ⟨k,v0,v1,v2,v3⟩
 rcases y with ⟨k',v0',v1',v2',v3'⟩
 simp only at hk e0 e1 e2 e3
 subst hk e0 e1 e2 e3
 rfl):p:=h
theorem Znz (A B:Option Addr) (n c m c2:Nat) (l l2:List Cmp) (w:World) (h:Zo w A n c l) (h2:Zo w B m c2 l2) :
    Calls Tryz.prog 135 #[.slice A n c,.slice B m c2] w fun e w'=>e=.returned (.bool (decide (l=l2)))∧Below w.heap.size w w':=by
  obtain ⟨R,eR⟩:∃ R,R=decide (l=l2):=⟨_,rfl⟩
  rw [←eR]
  by_cases hnm:n=m
  · have hnm':((n:Int)==(m:Int))=true:=by rw [beq_iff_eq];omega
    subst hnm
    have H:=Qh (Qi h (Qi h2 eR))
    clear h h2 eR
    go_enter Tryz.func135,Tryz.ntmps135
    go_wp2_with fail
    go_loopg [13] n (fun gh iv wr=>∃ j:Nat,gh+j=n∧iv=.int .i64 (j:Nat)∧l.take j=l2.take j∧Below w.heap.size w wr)
    case atStart=>exact ⟨0,rfl,rfl,rfl,Below.refl _ _⟩
    case round=>
      obtain ⟨j,hg,rfl,ht,hW⟩:=hrel
      obtain ⟨W,eW⟩:∃ W,W=wr:=⟨_,rfl⟩
      rw [←eW] at hW ⊢
      clear eW
      have h:=H.out.1
      have h2:=H.out.2.1
      have hlen:=h.len
      have Zhx:=h2.len
      have hlim:=h.lim
      by_cases hlt:j<n
      · obtain ⟨x,hx⟩:∃ x,l[j]?=some x:=⟨_,List.getElem?_eq_getElem (by omega)⟩
        obtain ⟨y,hy⟩:∃ y,l2[j]?=some y:=⟨_,List.getElem?_eq_getElem (by omega)⟩
        have i0:(0:Int)≤(j:Int):=by omega
        have i1:(j:Int)<(n:Int):=by omega
        have i2:decide (j<n)=true:=decide_eq_true hlt
        have u2:wrap64 ((j:Int)+1)=(j:Int)+1:=Zn _ (by omega) (by omega)
        obtain ⟨b,o,rfl,hc⟩:=h.at_ j x hx
        obtain ⟨b',o',rfl,hd⟩:=h2.at_ j y hy
        obtain ⟨c0,c1,c2',c3,c4⟩:=hc.step (hW.block b (Zc hc.c0))
        obtain ⟨d0,d1,d2,d3,d4⟩:=hd.step (hW.block b' (Zc hd.c0))
        have HX:=Qh (Qi hlt (Qi hg (Qi ht (Qi hW (Qi hx hy)))))
        clear hlt hg ht hW hx hy h h2 hlen Zhx hlim hc hd
        by_cases hcd:x=y
        · subst hcd
          have hE:∀ W,(Op.equalIn 9999 73 (.agg #[.int .i64 x.v0,.int .i64 x.v1,.int .i64 x.v2,.int .i64 x.v3]) (.agg #[.int .i64 x.v0,.int .i64 x.v1,.int .i64 x.v2,.int .i64 x.v3])).run Tryz.prog W=.ok true W:=fun W=>by rw [ZaW];simp
          go_upto_region 6 with fail
          go_region
          all_goals go_wp2_with fail
          all_goals (go_roundg (n-(j+1)))
          all_goals first
            | (have:=HX.out.1;have:=HX.out.2.1;omega)
            | (obtain ⟨hlt,hg,ht,hW,hx,hy⟩:=HX.out
               exact ⟨j+1,by omega,by go_num,by rw [List.take_add_one,List.take_add_one,ht,hx,hy],hW.drew⟩)
        · have hbf:R=false:=by
            rw [H.out.2.2]
            apply decide_eq_false
            intro e
            have h1:=HX.out.2.2.2.2.1
            have h2:=HX.out.2.2.2.2.2
            rw [e,h2] at h1
            exact hcd (Option.some.inj h1).symm
          have HF:=Qh hbf
          clear hbf
          by_cases hk:x.kind=y.kind
          · have hE:∀ W,(Op.equalIn 9999 73 (.agg #[.int .i64 x.v0,.int .i64 x.v1,.int .i64 x.v2,.int .i64 x.v3]) (.agg #[.int .i64 y.v0,.int .i64 y.v1,.int .i64 y.v2,.int .i64 y.v3])).run Tryz.prog W=.ok false W:=fun W=>by
              exact Tq72
            rw [←hk] at d0
            clear hk hcd
            exact Tq88
          · have hk2:((x.kind:Int)==(y.kind:Int))=false:=by simp;omega
            have hk3:¬ (x.kind:Int)=(y.kind:Int):=by omega
            clear hcd
            exact Tq88
      · have i2:decide (j<n)=false:=decide_eq_false hlt
        have hRt:R=true:=by
          rw [H.out.2.2]
          apply decide_eq_true
          have e1:l.take j=l:=List.take_of_length_le (by omega)
          have e2:l2.take j=l2:=List.take_of_length_le (by omega)
          rw [←e1,←e2,ht]
        have HX:=Qh (Qi hRt hW)
        clear hlt hg ht hW hlen Zhx hlim h h2 hRt
        go_wp2_with fail
        go_ret
        exact ⟨by rw [HX.out.1];rfl,HX.out.2⟩
  · have hnm':((n:Int)==(m:Int))=false:=by rw [beq_eq_false_iff_ne];omega
    have hnm2:¬ (n:Int)=(m:Int):=by omega
    have hR:R=false:=by
      rw [eR]
      apply decide_eq_false
      rintro rfl
      exact hnm (h.len.trans h2.len.symm)
    subst hR
    clear h h2 eR
    go_enter Tryz.func135,Tryz.ntmps135
    go_wp2_with fail
    go_ret
    exact ⟨rfl,Below.refl _ _⟩
end
end Go.Proofs.YtlgcfimhfmgkmaaGreatDoor
namespace Go.Proofs.YtlgcfimhfmgkmaaGreatDoor
open Go.RowKit
section
structure Xe (w:World) (A:Option Addr) (n cap:Nat) (rs:List ER):Prop where
 len:n=rs.length
 at_:∀ (j:Nat) (r:ER),rs[j]?=some r→∃ b o,A=some ⟨b,o,none⟩∧(w.cell? ⟨b,o+j*2,none⟩=some (.int .i64 r.e.id)∧w.cell? ⟨b,o+j*2+1,none⟩=some (.slice r.A r.n r.c))∧Zo w r.A r.n r.c r.e.cs
 nil:A=none→n=0∧cap=0
 lim:n≤1000000
 le:n≤cap
theorem Zj.x {w:World} {A:Option Addr} {n cap:Nat} {es:List Ent} (h:Zj w A n cap es):∃ rs:List ER,rs.map ER.e=es∧Xe w A n cap rs:=by
 have key:∀ j:Fin es.length,∃ r:ER,r.e=es[j.1]∧∃ b o,A=some ⟨b,o,none⟩∧(w.cell? ⟨b,o+j.1*2,none⟩=some (.int .i64 r.e.id)∧w.cell? ⟨b,o+j.1*2+1,none⟩=some (.slice r.A r.n r.c))∧Zo w r.A r.n r.c r.e.cs:=fun j=>by
  obtain ⟨b,o,CA,cn,cc,e,hc,hr⟩:=h.at_ j.1 es[j.1] (List.getElem?_eq_getElem j.2)
  exact ⟨⟨es[j.1],CA,cn,cc⟩,rfl,b,o,e,hc,hr⟩
 obtain ⟨f,hf⟩:=Classical.axiomOfChoice key
 refine ⟨List.ofFn f,?_,?_⟩
 ·apply List.ext_getElem
  ·simp
  ·intro j h1 h2
   simp only [List.getElem_map,List.getElem_ofFn]
   exact (hf ⟨j,h2⟩).1
 ·refine ⟨by simpa using h.len,fun j r hj=>?_,h.nil,h.lim,h.le⟩
  obtain ⟨hlt,e⟩:=List.getElem?_eq_some_iff.1 hj
  simp only [List.getElem_ofFn] at e
  rw [←e]
  exact (hf ⟨j,by simpa using hlt⟩).2
theorem Xe.row {w:World} {A:Option Addr} {n cap:Nat} {rs:List ER} (h:Xe w A n cap rs) {r:ER} (hr:r∈rs):Zo w r.A r.n r.c r.e.cs:=by
 obtain ⟨j,hj⟩:=List.getElem?_of_mem hr
 obtain ⟨b,o,e,hc,hx⟩:=h.at_ j r hj
 exact hx
theorem Xe.tail {w:World} {b o n cap:Nat} {r:ER} {rs:List ER} (h:Xe w (some ⟨b,o,none⟩) n cap (r :: rs)):Xe w (if cap=1 then some ⟨b,o,none⟩ else some ⟨b,o+2,none⟩) (n-1) (cap-1) rs:=by
 have hn:=h.len
 have hle:=h.le
 have hlim:=h.lim
 rw [List.length_cons] at hn
 refine ⟨by omega,fun j x hj=>?_,fun e=>?_,by omega,by omega⟩
 ·obtain ⟨b',o',e,hc,hr⟩:=h.at_ (j+1) x (by simpa using hj)
  injection e with e
  injection e with e1 e2 e3
  subst e1 e2
  have hlt:=(List.getElem?_eq_some_iff.1 hj).1
  rw [if_neg (by omega)]
  refine ⟨b,o+2,rfl,?_,hr⟩
  rw [show o+2+j*2=o+(j+1)*2 by omega]
  exact hc
 ·split at e<;>cases e
structure PR where
 was:ER
 now:ER
def ER.zero:ER:=⟨⟨0,[]⟩,none,0,0⟩
def Yj:List ER→List ER→Option (PR × List ER × List ER)
 | [],[]=>none
 | r :: l,[]=>some (⟨r,ER.zero⟩,l,[])
 | [],s :: m=>some (⟨ER.zero,s⟩,[],m)
 | r :: l,s :: m=>if r.e.id<s.e.id then some (⟨r,ER.zero⟩,l,s :: m) else if s.e.id<r.e.id then some (⟨ER.zero,s⟩,r :: l,m) else some (⟨r,s⟩,l,m)
def PR.same (p:PR):Bool:=decide (p.was.e.id=p.now.e.id)&&decide (p.was.e.cs=p.now.e.cs)
def YS:Nat→List ER→List ER→List PR
 | 0,_,_=>[]
 | k+1,l,m=>match Yj l m with
  | none=>[]
  | some (p,l',m')=>(if p.same then [] else [p])++YS k l' m'
def Ent.zero:Ent:=⟨0,[]⟩
def Zb8:List Ent→List Ent→Option ((Ent × Ent) × List Ent × List Ent)
 | [],[]=>none
 | r :: l,[]=>some ((r,Ent.zero),l,[])
 | [],s :: m=>some ((Ent.zero,s),[],m)
 | r :: l,s :: m=>if r.id<s.id then some ((r,Ent.zero),l,s :: m) else if s.id<r.id then some ((Ent.zero,s),r :: l,m) else some ((r,s),l,m)
def Qz:Nat→List Ent→List Ent→List (Ent × Ent)
 | 0,_,_=>[]
 | k+1,l,m=>match Zb8 l m with
  | none=>[]
  | some (p,l',m')=>(if p.1=p.2 then [] else [p])++Qz k l' m'
def Zw (l m:List Ent):List (Ent × Ent):=Qz (l.length+m.length) l m
def PR.e (p:PR):Ent × Ent:=(p.was.e,p.now.e)
theorem PR.same_e (p:PR):p.same=decide (p.e.1=p.e.2):=by
 obtain ⟨⟨⟨i,cs⟩,_,_,_⟩,⟨⟨j,ds⟩,_,_,_⟩⟩:=p
 unfold PR.same PR.e
 rw [Bool.eq_iff_iff]
 simp
theorem ZnA (l m:List ER):(Yj l m).map (fun x=>(x.1.e,x.2.1.map ER.e,x.2.2.map ER.e))=Zb8 (l.map ER.e) (m.map ER.e):=by
 rcases l with _|⟨r,l⟩<;>rcases m with _|⟨s,m⟩
 ·rfl
 ·rfl
 ·rfl
 ·simp only [Yj,Zb8,List.map_cons]
  split
  ·rfl
  ·split<;>rfl
theorem ZeF (k:Nat):∀ l m:List ER,(YS k l m).map PR.e=Qz k (l.map ER.e) (m.map ER.e):=by
 induction k with
 | zero=>intro l m;rfl
 | succ k ih=>
  intro l m
  have h:=ZnA l m
  rcases hp:Yj l m with _|⟨p,l',m'⟩
  ·rw [hp] at h
   simp only [YS,Qz,hp,←h];rfl
  ·rw [hp] at h
   simp only [YS,Qz,hp,←h,Option.map_some]
   rw [List.map_append,ih l' m',PR.same_e]
   congr 1
   by_cases e:p.e.1=p.e.2<;>simp [e]
theorem ZeG {l m l' m':List ER} {p:PR} (h:Yj l m=some (p,l',m')):l'.length+m'.length<l.length+m.length:=by
 rcases l with _|⟨r,l⟩<;>rcases m with _|⟨s,m⟩
 ·simp [Yj] at h
 ·simp only [Yj,Option.some.injEq,Prod.mk.injEq] at h;obtain ⟨-,rfl,rfl⟩:=h;simp
 ·simp only [Yj,Option.some.injEq,Prod.mk.injEq] at h;obtain ⟨-,rfl,rfl⟩:=h;simp
 ·simp only [Yj] at h
  split at h
  ·simp only [Option.some.injEq,Prod.mk.injEq] at h;obtain ⟨-,rfl,rfl⟩:=h;simp
  ·split at h<;>(simp only [Option.some.injEq,Prod.mk.injEq] at h;obtain ⟨-,rfl,rfl⟩:=h;simp<;>omega)
structure PR.from (p:PR) (l m:List ER):Prop where
 was:p.was∈l∨p.was=ER.zero
 now:p.now∈m∨p.now=ER.zero
theorem ZeH {l m l' m':List ER} {p:PR} (h:Yj l m=some (p,l',m')):p.from l m∧(∀ r,r∈l'→r∈l)∧∀ r,r∈m'→r∈m:=by
 rcases l with _|⟨r,l⟩<;>rcases m with _|⟨s,m⟩
 ·simp [Yj] at h
 ·simp only [Yj,Option.some.injEq,Prod.mk.injEq] at h;obtain ⟨rfl,rfl,rfl⟩:=h
  exact ⟨⟨.inr rfl,.inl (by simp)⟩,by simp,fun r hr=>by simp [hr]⟩
 ·simp only [Yj,Option.some.injEq,Prod.mk.injEq] at h;obtain ⟨rfl,rfl,rfl⟩:=h
  exact ⟨⟨.inl (by simp),.inr rfl⟩,fun r hr=>by simp [hr],by simp⟩
 ·simp only [Yj] at h
  split at h
  ·simp only [Option.some.injEq,Prod.mk.injEq] at h;obtain ⟨rfl,rfl,rfl⟩:=h
   exact ⟨⟨.inl (by simp),.inr rfl⟩,fun r hr=>by simp [hr],fun r hr=>hr⟩
  ·split at h
   ·simp only [Option.some.injEq,Prod.mk.injEq] at h;obtain ⟨rfl,rfl,rfl⟩:=h
    exact ⟨⟨.inr rfl,.inl (by simp)⟩,fun r hr=>hr,fun r hr=>by simp [hr]⟩
   ·simp only [Option.some.injEq,Prod.mk.injEq] at h;obtain ⟨rfl,rfl,rfl⟩:=h
    exact ⟨⟨.inl (by simp),.inl (by simp)⟩,fun r hr=>by simp [hr],fun r hr=>by simp [hr]⟩
theorem Zhy (k:Nat):∀ l m:List ER,(YS k l m).length≤l.length+m.length:=by
 induction k with
 | zero=>intro l m;simp [YS]
 | succ k ih=>
  intro l m
  rcases hp:Yj l m with _|⟨q,l',m'⟩
  ·simp [YS,hp]
  ·have h1:=ZeG hp
   have h2:=ih l' m'
   simp only [YS,hp,List.length_append]
   have:(if q.same=true then [] else [q]:List PR).length≤1:=by split<;>simp
   omega
theorem ZnB (k:Nat):∀ (j:Nat) (l m:List ER),l.length+m.length≤k→l.length+m.length≤j→YS k l m=YS j l m:=by
 induction k with
 | zero=>
  intro j l m h _
  have e1:l=[]:=List.length_eq_zero_iff.1 (by omega)
  have e2:m=[]:=List.length_eq_zero_iff.1 (by omega)
  subst e1 e2
  rcases j with _ | j<;>simp [YS,Yj]
 | succ k ih=>
  intro j l m h1 h2
  rcases j with _ | j
  ·have e1:l=[]:=List.length_eq_zero_iff.1 (by omega)
   have e2:m=[]:=List.length_eq_zero_iff.1 (by omega)
   subst e1 e2
   simp [YS,Yj]
  ·rcases hp:Yj l m with _|⟨q,l',m'⟩
   ·simp [YS,hp]
   ·have h:=ZeG hp
    simp only [YS,hp]
    rw [ih j l' m' (by omega) (by omega)]
end
end Go.Proofs.YtlgcfimhfmgkmaaGreatDoor
