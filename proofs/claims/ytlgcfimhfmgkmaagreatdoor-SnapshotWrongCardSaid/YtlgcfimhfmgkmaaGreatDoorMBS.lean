/- Lemmas for the statement. -/
import Derived.Test.YtlgcfimhfmgkmaaGreatDoorMBR
import Derived.Test.YtlgcfimhfmgkmaaGreatDoorMBQ
set_option linter.unusedVariables false
set_option linter.unusedSimpArgs false
set_option maxRecDepth 100000
set_option maxHeartbeats 8000000
namespace Go.Proofs.YtlgcfimhfmgkmaaGreatDoor
open Go.RowKit
section
theorem Zq2 {fn:Func} {p:Tmp} (h:fn.results=#[.cell p 24]) (tmps:Array Value) (w:World) (g:Nat) (cs:Array Value) (hn:cs.size=2)
  (hp:tmps.getD p undef=.pointer (some ⟨g,0,none⟩)) (hg:w.heap[g]?=some (.cells cs 24 (0,0))) :
  (results fn tmps).run Tryz.prog w=.ok (.agg cs) w:=by
 have hp':tmps[p]?.getD undef=.pointer (some ⟨g,0,none⟩):=by simpa using hp
 have hi:(Tryz.prog.info? 24).map (·.size)=some cs.size:=by rw [hn];kernel_rfl
 have hl:=run_loadVar_row (P:=Tryz.prog) w g 24 24 cs (0,0) _ hg Tryz.underlying24 rfl hi
 simp [results,h,hp',asAddr,hl]
theorem Zq3 {W:World} {q:Nat} (h:W.heap[q]?=some (wO 0 (.slice none 0 0))):Zq W q:=Zco h (fun u hu=>by
 simp only [List.mem_cons,List.not_mem_nil,or_false] at hu;rcases hu with rfl|rfl<;>simp)
def Zf (h:Int):List Ent:=[⟨1,[⟨1,0,0,0,0⟩,⟨4,2,0,0,0⟩]⟩,⟨5,[⟨1,50,50,0,0⟩,⟨5,h,0,0,0⟩]⟩,⟨6,[⟨1,9,9,0,0⟩,⟨5,4,0,0,0⟩]⟩]
theorem ZfL {W:World} {b:Nat} {x y:Cmp} (h:W.heap[b]?=some (.cells #[.int .u8 (x.kind:Nat),.int .i64 x.v0,.int .i64 x.v1,.int .i64 x.v2,.int .i64 x.v3,.int .u8 (y.kind:Nat),.int .i64 y.v0,.int .i64 y.v1,.int .i64 y.v2,.int .i64 y.v3] 75 (0,0))) (hx:x.kind<256) (hy:y.kind<256):Zo W (some ⟨b,0,none⟩) 2 2 [x,y]:=by
 refine ⟨rfl,fun j c hj=>⟨b,0,rfl,?_⟩,fun e=>(by cases e),(by omega),fun c hc=>?_⟩
 ·rcases j with _ | _ | j
  ·injection hj with hj;subst hj
   exact ⟨Za h 0 _ rfl,Za h 1 _ rfl,Za h 2 _ rfl,Za h 3 _ rfl,Za h 4 _ rfl⟩
  ·injection hj with hj;subst hj
   exact ⟨Za h 5 _ rfl,Za h 6 _ rfl,Za h 7 _ rfl,Za h 8 _ rfl,Za h 9 _ rfl⟩
  ·simp at hj
 ·simp only [List.mem_cons,List.not_mem_nil,or_false] at hc
  rcases hc with rfl|rfl<;>assumption
theorem Zq4 {W:World} {b a1 a2 a3:Nat} {i1 i2 i3:Int} {l1 l2 l3:List Cmp} (h:W.heap[b]?=some (.cells #[.int .i64 i1,.slice (some ⟨a1,0,none⟩) 2 2,.int .i64 i2,.slice (some ⟨a2,0,none⟩) 2 2,.int .i64 i3,.slice (some ⟨a3,0,none⟩) 2 2] 70 (0,0)))
  (h1:Zo W (some ⟨a1,0,none⟩) 2 2 l1) (h2:Zo W (some ⟨a2,0,none⟩) 2 2 l2) (h3:Zo W (some ⟨a3,0,none⟩) 2 2 l3):Zj W (some ⟨b,0,none⟩) 3 3 [⟨i1,l1⟩,⟨i2,l2⟩,⟨i3,l3⟩]:=by
 refine ⟨rfl,fun j e hj=>?_,fun e=>(by cases e),(by omega),(by omega)⟩
 rcases j with _ | _ | _ | j
 ·injection hj with hj;subst hj
  exact ⟨b,0,_,_,_,rfl,⟨Za h 0 _ rfl,Za h 1 _ rfl⟩,h1⟩
 ·injection hj with hj;subst hj
  exact ⟨b,0,_,_,_,rfl,⟨Za h 2 _ rfl,Za h 3 _ rfl⟩,h2⟩
 ·injection hj with hj;subst hj
  exact ⟨b,0,_,_,_,rfl,⟨Za h 4 _ rfl,Za h 5 _ rfl⟩,h3⟩
 ·simp at hj
theorem ZbP (t h:Int) (w:World) :
  Calls Tryz.prog 18 #[.int .i64 t,.int .i64 h] w fun e w'=>∃ b,e=.returned (.agg #[.int .i64 t,.slice (some ⟨b,0,none⟩) 3 3])∧Zj w' (some ⟨b,0,none⟩) 3 3 (Zf h)∧Below w.heap.size w w':=by
 obtain ⟨w1,g,e1,eg,hg,hb⟩:∃ W q,W=w.alloc (.cells #[.int .i64 0,.slice none 0 0] 24 (0,0))∧q=w.heap.size∧W.heap[q]?=some (.cells #[.int .i64 0,.slice none 0 0] 24 (0,0))∧Below w.heap.size w W:=⟨_,_,rfl,rfl,heap_alloc_new w _,Zg w _⟩
 have H1:=Qh (Qi hg hb)
 have HG:=Qh (show w.heap.size≤g from Nat.le_of_eq eg.symm)
 have E1:=Qh (Qi e1 eg)
 clear hg hb e1 eg
 go_enter Tryz.func18,Tryz.ntmps18
 go_upto_region 1 with fail
 rw [←E1.out.1,←E1.out.2]
 clear E1
 go_wp2_with (first
  | (go_at_call 26;with_reducible refine (ZfK 5 4 (w6.alloc (.cells #[.int .i64 4] 3 (0,0))) _ (heap_alloc_new _ _)).mono ?_;rintro e w7 ⟨rfl,hb⟩;have H7:=Qh (Ze (Zg w6 _) hb);clear hb;have HB:=Qh (Ze (Ze (Ze (Ze (Ze (Ze H1.out.2 H2.out) H3.out) H4.out.2) H5.out) H6.out.2) H7.out);have hg7:w7.heap[g]?=some (.cells #[.int .i64 0,.slice none 0 0] 24 (0,0)):=((Ze (Ze (Ze (Ze (Ze H2.out H3.out) H4.out.2) H5.out) H6.out.2) H7.out).block _ (lt_of_block H1.out.1)).trans H1.out.1;have HG7:=Qh hg7;have f0:∀ P Q,((w7.alloc P).alloc Q).cell? ⟨g,0,none⟩=some (.int .i64 0):=fun P Q=>Za (((ZQ w7 P Q).block _ (lt_of_block hg7)).trans hg7) 0 _ rfl;have f1:∀ P Q,((w7.alloc P).alloc Q).cell? ⟨g,1,none⟩=some (.slice none 0 0):=fun P Q=>Za (((ZQ w7 P Q).block _ (lt_of_block hg7)).trans hg7) 1 _ rfl;have f2:∀ P Q,((w7.alloc P).alloc Q).frozen? ⟨g,0,none⟩=false:=fun P Q=>Zd (((ZQ w7 P Q).block _ (lt_of_block hg7)).trans hg7) 0;have f3:∀ P Q,((w7.alloc P).alloc Q).frozen? ⟨g,1,none⟩=false:=fun P Q=>Zd (((ZQ w7 P Q).block _ (lt_of_block hg7)).trans hg7) 1;clear hg7)
  | (go_at_call 26;with_reducible refine (ZjG 1 9 9 ((w5.alloc (.cells #[.int .u8 1,.int .i64 50,.int .i64 50,.int .i64 0,.int .i64 0,.int .u8 5,.int .i64 h,.int .i64 0,.int .i64 0,.int .i64 0] 75 (0,0))).alloc (.cells #[.int .i64 9,.int .i64 9] 3 (0,0))) (w5.heap.size+1) (Z0 w5 _ _)).mono ?_;rintro e w6 ⟨rfl,hb⟩;have H6:=Qh (Qi ((hb.block w5.heap.size (by simp;omega)).trans (ZZ w5 _ _)) (Ze (ZQ w5 _ _) hb));clear hb)
  | (go_at_call 26;with_reducible refine (ZfK 5 h (w4.alloc (.cells #[.int .i64 h] 3 (0,0))) _ (heap_alloc_new _ _)).mono ?_;rintro e w5 ⟨rfl,hb⟩;have H5:=Qh (Ze (Zg w4 _) hb);clear hb)
  | (go_at_call 26;with_reducible refine (ZjG 1 50 50 ((w3.alloc (.cells #[.int .u8 1,.int .i64 0,.int .i64 0,.int .i64 0,.int .i64 0,.int .u8 4,.int .i64 2,.int .i64 0,.int .i64 0,.int .i64 0] 75 (0,0))).alloc (.cells #[.int .i64 50,.int .i64 50] 3 (0,0))) (w3.heap.size+1) (Z0 w3 _ _)).mono ?_;rintro e w4 ⟨rfl,hb⟩;have H4:=Qh (Qi ((hb.block w3.heap.size (by simp;omega)).trans (ZZ w3 _ _)) (Ze (ZQ w3 _ _) hb));clear hb)
  | (go_at_call 26;with_reducible refine (ZfK 4 2 (w2.alloc (.cells #[.int .i64 2] 3 (0,0))) w2.heap.size (heap_alloc_new w2 _)).mono ?_;rintro e w3 ⟨rfl,hb⟩;have H3:=Qh (Ze (Zg w2 _) hb);clear hb)
  | (go_at_call 26;with_reducible refine (Zq1 1 w1).mono ?_;rintro e w2 ⟨rfl,hb⟩;have H2:=Qh hb;clear hb))
 obtain ⟨W8,e8⟩:∃ W,W=(w7.alloc (.cells #[.int .u8 1,.int .i64 9,.int .i64 9,.int .i64 0,.int .i64 0,.int .u8 5,.int .i64 4,.int .i64 0,.int .i64 0,.int .i64 0] 75 (0,0))).alloc (.cells #[.int .i64 1,.slice (some ⟨w3.heap.size,0,none⟩) 2 2,.int .i64 5,.slice (some ⟨w5.heap.size,0,none⟩) 2 2,.int .i64 6,.slice (some ⟨w7.heap.size,0,none⟩) 2 2] 70 (0,0)):=⟨_,rfl⟩
 have hb8:Below w7.heap.size w7 W8:=by rw [e8];exact ZQ w7 _ _
 have hg8:W8.heap[g]?=some (wO 0 (.slice none 0 0)):=(hb8.block _ (lt_of_block HG7.out)).trans HG7.out
 have hb4:Below w4.heap.size w4 W8:=Ze (Ze (Ze H5.out H6.out.2) H7.out) hb8
 have c1:Zo W8 (some ⟨w3.heap.size,0,none⟩) 2 2 [⟨1,0,0,0,0⟩,⟨4,2,0,0,0⟩]:=ZfL ((hb4.block _ (lt_of_block H4.out.1)).trans H4.out.1) (by decide) (by decide)
 have c2:Zo W8 (some ⟨w5.heap.size,0,none⟩) 2 2 [⟨1,50,50,0,0⟩,⟨5,h,0,0,0⟩]:=ZfL (((Ze H7.out hb8).block _ (lt_of_block H6.out.1)).trans H6.out.1) (show (1:Nat)<256 by decide) (show (5:Nat)<256 by decide)
 have c3:Zo W8 (some ⟨w7.heap.size,0,none⟩) 2 2 [⟨1,9,9,0,0⟩,⟨5,4,0,0,0⟩]:=ZfL (by rw [e8];exact ZZ w7 _ _) (by decide) (by decide)
 have hE:Zj W8 (some ⟨w7.heap.size+1,0,none⟩) 3 3 (Zf h):=Zq4 (by rw [e8];exact Z0 w7 _ _) c1 c2 c3
 have hE2:=hE.keepQ (W':=put2 W8 g (.int .i64 t) (.slice (some ⟨w7.heap.size+1,0,none⟩) 3 3)) (fun e he=>by simp only [Zf,List.mem_cons,List.not_mem_nil,or_false] at he;rcases he with rfl|rfl|rfl;exact (show (1:Int)≤1 by decide);exact (show (1:Int)≤5 by decide);exact (show (1:Int)≤6 by decide)) (Zq3 hg8) (fun b _ hb=>YE _ _ _ _ hb)
 refine bodyPost_ret (Zq2 rfl _ _ g _ rfl rfl (Yw (.int .i64 t) (.slice (some ⟨w7.heap.size+1,0,none⟩) 3 3) (w:=(w7.alloc (.cells #[.int .u8 1,.int .i64 9,.int .i64 9,.int .i64 0,.int .i64 0,.int .u8 5,.int .i64 4,.int .i64 0,.int .i64 0,.int .i64 0] 75 (0,0))).alloc (.cells #[.int .i64 1,.slice (some ⟨w3.heap.size,0,none⟩) 2 2,.int .i64 5,.slice (some ⟨w5.heap.size,0,none⟩) 2 2,.int .i64 6,.slice (some ⟨w7.heap.size,0,none⟩) 2 2] 70 (0,0))) (by rw [←e8];exact hg8))) rfl ?_
 rw [e8] at hE2 hb8
 exact ⟨w7.heap.size+1,rfl,hE2,YB _ _ (Ze HB.out hb8) HG.out⟩
end
end Go.Proofs.YtlgcfimhfmgkmaaGreatDoor
namespace Go.Proofs.YtlgcfimhfmgkmaaGreatDoor
open Go.RowKit
section
theorem Zq5 (x:Int):∀ u∈[Value.int .i64 x],u.oneCell'=true:=by
 intro u hu
 simp only [List.mem_cons,List.not_mem_nil,or_false] at hu
 subst hu
 rfl
theorem Zq6 {w W W':World} {e k n:Nat} {v:Value} {xs:List Value} (h:W.ownsRow w.heap.size e k v n xs) (hg:W.grownBy W' v.ownBlock) (hw:Below w.heap.size w W):Below w.heap.size w W':=
 ⟨hg.os.trans hw.os,hg.tape.trans hw.tape,hg.output.trans hw.output,Nat.le_trans hw.size hg.size,fun q hq=>(hg.block q (Nat.lt_of_lt_of_le hq hw.size) (fun e=>by have:=(Yg h e.symm).2;omega)).trans (hw.block q hq)⟩
def Zbf (es:List Ent):List Int:=es.map Ent.id
theorem Zq7 (es:List Ent) (j:Nat) (x:Ent) (h:es[j]?=some x):Zu (Zbf (es.take (j+1)))=Zu (Zbf (es.take j))++[.int .i64 x.id]:=by
 rw [List.take_add_one,h]
 simp [Zbf,Zu]
theorem ZjH (t:Int) (A:Option Addr) (n c:Nat) (es:List Ent) (w:World) (h:Zj w A n c es) (hn:n≤1000) :
  Calls Tryz.prog 38 #[.agg #[.int .i64 t,.slice A n c]] w fun e w'=>∃ v,e=.returned v∧w'.ownsRow w.heap.size 3 1 v n (Zu (Zbf es))∧Below w.heap.size w w':=by
 obtain ⟨w1,g,e1,eg,hg1,hb1⟩:∃ W q,W=w.alloc (.cells #[.int .i64 t,.slice A n c] 24 (0,0))∧q=w.heap.size∧W.heap[q]?=some (.cells #[.int .i64 t,.slice A n c] 24 (0,0))∧Below w.heap.size w W:=⟨_,_,rfl,rfl,heap_alloc_new w _,Zg w _⟩
 have f1:w1.cell? ⟨g,1,none⟩=some (.slice A n c):=Za hg1 1 _ rfl
 obtain ⟨iz,hi,hz0,hz1,hz2⟩:=info_parts ZaX
 have HI:=Qh (Qi hi (Qi hz0 (Qi hz1 hz2)))
 have H:=Qh (Qi h (Qi hn hb1))
 have E1:=Qh (Qi e1 eg)
 clear h hn hg1 hb1 hi hz0 hz1 hz2 e1 eg
 go_enter Tryz.func38,Tryz.ntmps38
 go_upto_region 1 with fail
 rw [←E1.out.1,←E1.out.2]
 clear E1
 go_wp2_with fail
 clear f1
 go_loopg [3,9] n (fun gh ov iv wr=>∃ j:Nat,gh+j=n∧iv=.int .i64 (j:Nat)∧wr.ownsRow w.heap.size 3 1 ov j (Zu (Zbf (es.take j)))∧Below w.heap.size w wr)
 case atStart=>exact ⟨0,rfl,rfl,⟨rfl,.inl ⟨rfl,rfl⟩⟩,H.out.2.2⟩
 case round=>
  obtain ⟨j,hg,rfl,hO,hW⟩:=hrel
  obtain ⟨W,eW⟩:∃ W,W=wr:=⟨_,rfl⟩
  rw [←eW] at hO hW ⊢
  clear eW
  have h:=H.out.1
  have hlen:=h.len
  have hn:=H.out.2.1
  obtain ⟨OA,oc,eo⟩:=YF hO
  subst eo
  by_cases hlt:j<n
  ·obtain ⟨x,hx⟩:∃ x,es[j]?=some x:=⟨_,List.getElem?_eq_getElem (by omega)⟩
   obtain ⟨b,o,CA,cn,cc,rfl,⟨c0,c1⟩,hr⟩:=h.at_ j x hx
   have c0:=(hW.cell (Zc c0)).trans c0
   have c1:=(hW.cell (Zc c1)).trans c1
   have i0:(0:Int)≤(j:Int):=by omega
   have i1:(j:Int)<(n:Int):=by omega
   have i2:decide (j<n)=true:=decide_eq_true hlt
   have u2:wrap64 ((j:Int)+1)=(j:Int)+1:=Zn _ (by omega) (by omega)
   obtain ⟨W1,q5,e1,eq5,hg5,hb5⟩:∃ V q,V=W.alloc (.cells #[.int .i64 x.id,.slice CA cn cc] 70 (0,0))∧q=W.heap.size∧V.heap[q]?=some (.cells #[.int .i64 x.id,.slice CA cn cc] 70 (0,0))∧Below W.heap.size W V:=⟨_,_,rfl,rfl,heap_alloc_new W _,Zg W _⟩
   have y0:W1.cell? ⟨q5,0,none⟩=some (.int .i64 x.id):=Za hg5 0 _ rfl
   obtain ⟨W2,q6,e2,eq6,hg6,hb6⟩:∃ V q,V=W1.alloc (.cells #[.int .i64 x.id] 3 (0,0))∧q=W1.heap.size∧V.heap[q]?=some (.cells #[.int .i64 x.id] 3 (0,0))∧Below W1.heap.size W1 V:=⟨_,_,rfl,rfl,heap_alloc_new W1 _,Zg W1 _⟩
   have HN:=Qh (show j+1≤maxLen∧(j+1)*8≤140737488355328 by unfold maxLen;omega)
   have hnews:∀ i u,[Value.int .i64 x.id][i]?=some u→W2.cell? ((⟨q6,0,none⟩:Addr).add i)=some u:=by rw [e2];exact XC W1 #[.int .i64 x.id] 3 q6 eq6
   have hb2:=Ze hb5 hb6
   have HX:=Qh (Qi (Qi hlt hg) (Qi hx (Qi (Y3 hO hb2) (Qi (Ze hW hb2) (Qi hnews (Nat.le_trans hW.size hb2.size))))))
   have E1:=Qh (Qi e1 eq5)
   have E2:=Qh (Qi e2 eq6)
   clear hlt hg hx hO hW hr h hlen hn hg5 hb5 hg6 hb6 hb2 hnews e1 eq5 e2 eq6
   go_upto_region 5 with fail
   rw [←E1.out.1,←E1.out.2]
   go_upto_region 6 with (at_builtin;rw [←E2.out.1,←E2.out.2];refine wpList_append_own_at _ rfl (.tmp 13) (.tmp 16) 48 rfl w.heap.size 3 iz _ 1 8 Tryz.underlying48 HI.out.1 HI.out.2.1 HI.out.2.2.1 HI.out.2.2.2 rfl (by decide) _ j _ rfl HX.out.2.2.1 ⟨q6,0,none⟩ 1 1 [.int .i64 x.id] rfl rfl HX.out.2.2.2.2.1 (Zq5 x.id) HN.out.1 HN.out.2 HX.out.2.2.2.2.2 ?_;intro v10 w10 hown hgr _ hblk;have H10:=Qh (Qi hown (Qi hgr hblk));clear hown hgr hblk)
   go_wp2_with fail
   go_roundg (n-(j+1))
   case measure=>have:=HX.out.1;omega
   case rel=>
    refine ⟨j+1,by have:=HX.out.1;omega,by go_num,?_,?_⟩
    ·rw [Zq7 es j x HX.out.2.1];exact H10.out.1
    ·exact Zq6 HX.out.2.2.1 H10.out.2.1 HX.out.2.2.2.1
  ·have i2:decide (j<n)=false:=decide_eq_false hlt
   have ht:es.take j=es:=List.take_of_length_le (by omega)
   have hj:j=n:=by omega
   rw [ht,hj] at hO
   have HX:=Qh (Qi hO hW)
   rw [hj]
   clear hlt hg hO hW h hlen hn ht
   go_wp2_with fail
   go_ret
   exact ⟨_,rfl,HX.out⟩
theorem ZjI (A B:Option Addr) (n c d:Nat) (l:List Int) (w:World) (ha:XF w A n l) (hb:XF w B n l) :
  Calls Tryz.prog 37 #[.slice A n c,.slice B n d] w fun e w'=>e=.returned (.bool true)∧Below w.heap.size w w':=by
 have H:=Qh (Qi ha hb)
 clear ha hb
 have t0:((n:Int)==(n:Int))=true:=by simp
 have t1:((n:Int) != (n:Int))=false:=by simp
 go_enter Tryz.func37,Tryz.ntmps37
 go_wp2_with fail
 go_loopg [13] n (fun gh iv wr=>∃ j:Nat,gh+j=n∧iv=.int .i64 (j:Nat)∧Below w.heap.size w wr)
 case atStart=>exact ⟨0,rfl,rfl,Below.refl _ _⟩
 case round=>
  obtain ⟨j,hg,rfl,hW⟩:=hrel
  obtain ⟨W,eW⟩:∃ W,W=wr:=⟨_,rfl⟩
  rw [←eW] at hW ⊢
  clear eW t0 t1
  have hlen:=H.out.1.len
  have hlim:=H.out.1.lim
  by_cases hlt:j<n
  ·obtain ⟨x,hx⟩:∃ x,l[j]?=some x:=⟨_,List.getElem?_eq_getElem (by omega)⟩
   obtain ⟨b,o,eA,c0⟩:=H.out.1.at_ j x hx
   obtain ⟨b',o',eB,c1⟩:=H.out.2.at_ j x hx
   have c0:=(hW.cell (Zc c0)).trans c0
   have c1:=(hW.cell (Zc c1)).trans c1
   subst eA eB
   have i0:(0:Int)≤(j:Int):=by omega
   have i1:(j:Int)<(n:Int):=by omega
   have i2:decide (j<n)=true:=decide_eq_true hlt
   have u2:wrap64 ((j:Int)+1)=(j:Int)+1:=Zn _ (by omega) (by omega)
   have t2:(x != x)=false:=by simp
   have HX:=Qh (Qi hlt (Qi hg hW))
   clear hlt hg hW hlen hlim hx
   go_upto_region 6 with fail
   go_quiet (fail)
   go_wp2_with fail
   go_roundg (n-(j+1))
   case measure=>have:=HX.out.1;have:=HX.out.2.1;omega
   case rel=>exact ⟨j+1,by have:=HX.out.1;omega,by go_num,YW HX.out.2.2 _⟩
  ·have i2:decide (j<n)=false:=decide_eq_false hlt
   have HX:=Qh hW
   clear hlt hg hW hlen hlim
   go_wp2_with fail
   go_ret
   exact ⟨rfl,HX.out⟩
end
end Go.Proofs.YtlgcfimhfmgkmaaGreatDoor
namespace Go.Proofs.YtlgcfimhfmgkmaaGreatDoor
open Go.RowKit
section
abbrev Y4 (a b c:Int) (x y:Value):Obj:=.cells #[.int .i64 a,.int .i64 b,.int .i64 c,x,y] 33 (0,0)
section
variable {W W':World} {q:Nat} {cl nx ak:Int} {LA IA:Option Addr} {ln lc iN ic:Nat}
theorem ZfM (hq:W.heap[q]?=some (Y4 cl nx ak (.slice LA ln lc) (.slice IA iN ic))) {i:Nat} {u:Value} (h:W.cell? ⟨q,i,none⟩=some u):(i=0∧u=.int .i64 cl)∨(i=1∧u=.int .i64 nx)∨(i=2∧u=.int .i64 ak)∨((i=3∨i=4)∧∃ A n c,u=.slice A n c):=by
 rw [cell_of_block hq i] at h
 rcases i with _ | _ | _ | _ | _ | i
 ·injection h with h;exact .inl ⟨rfl,h.symm⟩
 ·injection h with h;exact .inr (.inl ⟨rfl,h.symm⟩)
 ·injection h with h;exact .inr (.inr (.inl ⟨rfl,h.symm⟩))
 ·injection h with h;exact .inr (.inr (.inr ⟨.inl rfl,_,_,_,h.symm⟩))
 ·injection h with h;exact .inr (.inr (.inr ⟨.inr rfl,_,_,_,h.symm⟩))
 ·simp at h
theorem Qt (hq:W.heap[q]?=some (Y4 cl nx ak (.slice LA ln lc) (.slice IA iN ic))) {i:Nat} {k:Int} (h:W.cell? ⟨q,i,none⟩=some (.int .i64 k)):(i=0∧k=cl)∨(i=1∧k=nx)∨(i=2∧k=ak):=by
 rcases ZfM hq h with ⟨e,h⟩|⟨e,h⟩|⟨e,h⟩|⟨_,A,n,c,h⟩
 ·injection h with _ h;exact .inl ⟨e,h⟩
 ·injection h with _ h;exact .inr (.inl ⟨e,h⟩)
 ·injection h with _ h;exact .inr (.inr ⟨e,h⟩)
 ·cases h
theorem ZdW (hq:W.heap[q]?=some (Y4 cl nx ak (.slice LA ln lc) (.slice IA iN ic))) {i:Nat} {A:Option Addr} {n c:Nat} (h:W.cell? ⟨q,i,none⟩=some (.slice A n c)):i=3∨i=4:=by
 rcases ZfM hq h with ⟨e,h⟩|⟨e,h⟩|⟨e,h⟩|⟨e,_⟩
 ·cases h
 ·cases h
 ·cases h
 ·exact e
theorem Tq42 {p:Prop} (h:p:=by
 rcases Nat.eq_zero_or_pos j with rfl | hp
 ·exact ⟨1,_,by omega,List.getElem?_eq_getElem (by omega)⟩
 ·exact ⟨0,_,by omega,List.getElem?_eq_getElem (by omega)⟩):p:=h
theorem Zj.keepB {A:Option Addr} {n c:Nat} {l:List Ent} (h:Zj W A n c l) (hid:l.length≠1∨∀ e,e∈l→e.id≠ak) (hq:W.heap[q]?=some (Y4 cl nx ak (.slice LA ln lc) (.slice IA iN ic))) (hk:∀ b,b<W.heap.size→b≠q→W'.heap[b]?=W.heap[b]?):Zj W' A n c l:=by
 refine ⟨h.len,fun j e hj=>?_,h.nil,h.lim,h.le⟩
 obtain ⟨b,o,CA,cn,cc,ea,⟨h0,h1⟩,hc⟩:=h.at_ j e hj
 have hb:b≠q:=by
  rintro rfl
  have s1:=ZdW hq h1
  have s0:=Qt hq h0
  have ho:o+j*2=2:=by omega
  have hje:e.id=ak:=by omega
  rcases hid with hid | hid
  ·obtain ⟨hjl,-⟩:=List.getElem?_eq_some_iff.1 hj
   have:∃ i x,i≠j∧l[i]?=some x:=by
    exact Tq42
   obtain ⟨i,x,hij,hx⟩:=this
   obtain ⟨b',o',CA',cn',cc',ea',⟨k0,k1⟩,_⟩:=h.at_ i x hx
   rw [ea] at ea'
   injection ea' with ea'
   injection ea' with e1 e2
   subst e1 e2
   have:=ZdW hq k1
   have:=Qt hq k0
   omega
  ·exact hid e (List.mem_of_getElem? hj) hje
 have hs:=hk b (Zc h0) hb
 refine ⟨b,o,CA,cn,cc,ea,⟨(Zm hs _).trans h0,(Zm hs _).trans h1⟩,hc.len,fun i x hx=>?_,hc.nil,hc.lim,hc.kind⟩
 obtain ⟨b',o',ea',hcc⟩:=hc.at_ i x hx
 have hb':b'≠q:=by
  rintro rfl
  rcases ZfM hq hcc.c0 with ⟨_,h⟩|⟨_,h⟩|⟨_,h⟩|⟨_,_,_,_,h⟩<;>simp at h
 exact ⟨b',o',ea',hcc.step (hk b' (Zc hcc.c0) hb')⟩
theorem Tq28 {p:Prop} (h:p:=by
 obtain ⟨b,o,CA,cn,cc,e,⟨c0,c1,c2,c3⟩,hc⟩:=hL.at_ j r hj
 have hr:=List.mem_of_getElem? hj
 have hb:b≠q:=by
  rintro rfl
  have s3:=ZdW hq c3
  have s1:=Qt hq c1
  have s0:=Qt hq c0
  have s2:=Qt hq c2
  have:r.base=nx:=by omega
  exact h1 r hr this
 have hs:=hk b (Zc c0) hb
 exact ⟨b,o,CA,cn,cc,e,⟨(Zm hs _).trans c0,(Zm hs _).trans c1,(Zm hs _).trans c2,(Zm hs _).trans c3⟩,hc.keepB (h2 r hr) hq hk⟩):p:=h
theorem Zy.keepB {A:Option Addr} {n c:Nat} {l:List Rec} (hL:Zy W A n c l) (h1:∀ r,r∈l→r.base≠nx) (h2:∀ r,r∈l→r.es.length≠1∨∀ e,e∈r.es→e.id≠ak) (hq:W.heap[q]?=some (Y4 cl nx ak (.slice LA ln lc) (.slice IA iN ic))) (hk:∀ b,b<W.heap.size→b≠q→W'.heap[b]?=W.heap[b]?):Zy W' A n c l:=by
 refine ⟨hL.len,fun j r hj=>?_,hL.nil,hL.lim,hL.le⟩
 exact Tq28
theorem ZA.keepB {s:Snd} {v:Value} (h:ZA W s v) (h1:∀ r,r∈s.log→r.base≠nx) (h2:∀ r,r∈s.log→r.es.length≠1∨∀ e,e∈r.es→e.id≠ak) (h3:s.items.length≠1) (hq:W.heap[q]?=some (Y4 cl nx ak (.slice LA ln lc) (.slice IA iN ic))) (hk:∀ b,b<W.heap.size→b≠q→W'.heap[b]?=W.heap[b]?):ZA W' s v:=by
 obtain ⟨LA',IA',ln',lc',iN',ic',e,hL,hI,hn⟩:=h
 refine ⟨LA',IA',ln',lc',iN',ic',e,⟨hL.len,fun j r hj=>?_,hL.nil,hL.lim,hL.le⟩,⟨hI.len,fun j x hj=>?_,hI.lim⟩,hn⟩
 ·exact Tq28
 ·obtain ⟨b,o,e,hc⟩:=hI.at_ j x hj
  have hb:b≠q:=by
   rintro rfl
   have s0:=Qt hq (hc 0 x.i rfl)
   have s1:=Qt hq (hc 1 x.w rfl)
   have s2:=Qt hq (hc 2 x.s rfl)
   have ho:o+j*3=0:=by omega
   obtain ⟨hjl,-⟩:=List.getElem?_eq_some_iff.1 hj
   have:∃ i y,i≠j∧s.items[i]?=some y:=by
    exact Tq42
   obtain ⟨i,y,hij,hy⟩:=this
   obtain ⟨b',o',e',hc'⟩:=hI.at_ i y hy
   rw [e] at e'
   injection e' with e'
   injection e' with e1 e2
   subst e1 e2
   have:=Qt hq (hc' 0 y.i rfl)
   have:=Qt hq (hc' 1 y.w rfl)
   have:=Qt hq (hc' 2 y.s rfl)
   omega
  exact ⟨b,o,e,fun r v hv=>(Zm (hk b (Zc (hc r v hv)) hb) _).trans (hc r v hv)⟩
end
theorem ZjJ (w:World):ZA w ⟨2,1,0,[],[]⟩ (.agg #[.int .i64 2,.int .i64 1,.int .i64 0,.slice none 0 0,.slice none 0 0]):=
 ⟨none,none,0,0,0,0,rfl,Zy.nilS w,⟨rfl,fun j x hj=>by simp at hj,Nat.zero_le _⟩,fun _=>⟨rfl,rfl⟩⟩
theorem ZjK (w:World):ZaD w ⟨0,0,[]⟩ ZaC:=⟨none,0,0,rfl,Zy.nilS w⟩
def nxS (s:Snd) (t h:Int):Snd:=Xz (plX s t 1200 (Zf h)) (wtF s (Zf h)).length
def Qu (s:Snd) (t h:Int):Bool:=!(JX s t 1200 (Zf h))&&decide (s.next≤1073741824)&&decide (Zk (ZB (plX s t 1200 (Zf h)) (wtF s (Zf h)).length)≤1192)
def Zbg (s' s:Snd):Bool:=s'.log.all (fun r=>decide (r.base≠s.next)&&(decide (r.es.length≠1) || r.es.all (fun e=>decide (e.id≠s.acked))))&&decide (s'.items.length≠1)
theorem ZA.boxed {W W':World} {q:Nat} {s s':Snd} {v x y:Value} {LA IA:Option Addr} {ln lc iN ic:Nat} (h:ZA W s' v) (hb:Zbg s' s=true) (hq:W.heap[q]?=some (Y4 s.cl s.next s.acked (.slice LA ln lc) (.slice IA iN ic))) (hk:∀ b,b<W.heap.size→b≠q→W'.heap[b]?=W.heap[b]?):ZA W' s' v:=by
 unfold Zbg at hb
 simp only [Bool.and_eq_true,List.all_eq_true,decide_eq_true_eq,Bool.or_eq_true] at hb
 exact h.keepB (fun r hr=>(hb.1 r hr).1) (fun r hr=>(hb.1 r hr).2) hb.2 hq hk
theorem ZjL (h:Int):(Zf h).length≤12:=show 3≤12 by decide
theorem Xy.boxed {B:Nat} {W W':World} {q:Nat} {s s':Snd} {v:Value} {LA IA:Option Addr} {ln lc iN ic:Nat} (h:Xy B W s' v) (hb:Zbg s' s=true) (hq:W.heap[q]?=some (Y4 s.cl s.next s.acked (.slice LA ln lc) (.slice IA iN ic))) (hk:∀ b,b<W.heap.size→b≠q→W'.heap[b]?=W.heap[b]?) (hsz:W.heap.size≤W'.heap.size):Xy B W' s' v:=by
 unfold Zbg at hb
 simp only [Bool.and_eq_true,List.all_eq_true,decide_eq_true_eq,Bool.or_eq_true] at hb
 obtain ⟨LA',IA',ln',lc',iN',ic',e,h⟩:=h
 refine ⟨LA',IA',ln',lc',iN',ic',e,h.carry (lt_of_block hq) (fun g' hg'=>?_) hsz hk (fun V V' r A n c hr hV hag hR=>hR.keepB (hb.1 r hr).2 (hV.trans hq) hag) (fun V V' A n hV hag hR=>?_)⟩
 ·obtain ⟨g,r,CA,cn,cc,e1,hr,h0,h1,h2,h3⟩:=h.first
  rw [e1] at hg'
  injection hg' with hg'
  injection hg' with hg'
  rw [←hg']
  rintro rfl
  have s3:=ZdW hq h3
  have s1:=Qt hq h1
  have:r.base=s.next:=by omega
  exact (hb.1 r hr).1 this
 ·have h3:=hb.2
  refine ⟨hR.len,fun j x hj=>?_,hR.lim⟩
  obtain ⟨b,o,e,hc⟩:=hR.at_ j x hj
  have hqV:=hV.trans hq
  have hb:b≠q:=by
   rintro rfl
   have s0:=Qt hqV (hc 0 x.i rfl)
   have s1:=Qt hqV (hc 1 x.w rfl)
   have s2:=Qt hqV (hc 2 x.s rfl)
   have ho:o+j*3=0:=by omega
   obtain ⟨hjl,-⟩:=List.getElem?_eq_some_iff.1 hj
   have:∃ i y,i≠j∧s'.items[i]?=some y:=by
    exact Tq42
   obtain ⟨i,y,hij,hy⟩:=this
   obtain ⟨b',o',e',hc'⟩:=hR.at_ i y hy
   rw [e] at e'
   injection e' with e'
   injection e' with e1 e2
   subst e1 e2
   have:=Qt hqV (hc' 0 y.i rfl)
   have:=Qt hqV (hc' 1 y.w rfl)
   have:=Qt hqV (hc' 2 y.s rfl)
   omega
  exact ⟨b,o,e,fun r v hv=>(Zm (hag b (Zc (hc r v hv)) hb) _).trans (hc r v hv)⟩
theorem Zq8 {s:Snd} {t h:Int} {v:Value} {b:Nat} {w:World} (hT:Tabs w) (hS:ZA w s v) (hA:Zj w (some ⟨b,0,none⟩) 3 3 (Zf h)) (hs:Qu s t h=true) (hes:∀ r,r∈s.log→r.es.length≤12) :
  Calls Tryz.prog 13 #[v,.agg #[.int .i64 t,.slice (some ⟨b,0,none⟩) 3 3],.int .i64 1200] w fun e w'=>∃ x pv B,e=.returned (.tuple #[x,pv,.int .i64 0])∧Xy w.heap.size w' (nxS s t h) x∧(w'.ownsRow B 5 1 pv (8+Zk (ZB (plX s t 1200 (Zf h)) (wtF s (Zf h)).length)) (X7 (plX s t 1200 (Zf h)) (wtF s (Zf h)).length)∧w.heap.size≤B)∧Below w.heap.size w w':=by
 unfold Qu at hs
 simp only [Bool.and_eq_true,Bool.not_eq_true',decide_eq_true_eq] at hs
 have hg:=Zfz hs.1.1
 refine (ZqZ s t 1200 (Zf h) v _ 3 3 w hT hS hA (by have:=hg.ok.ak;omega) hes (ZjL h)).mono ?_
 rintro e w' ⟨u,rfl,hR⟩
 obtain ⟨x,pv,B,hu,h1,h2,h3⟩:=Zq0 hR hs.1.1 hs.1.2 (by unfold Qr;show 8+_≤(1200:Int);have:=hs.2;omega)
 exact ⟨x,pv,B,by rw [hu],h1,h2,h3⟩
theorem ZbQ {s:Snd} {t h:Int} {v:Value} {b:Nat} {w:World} (hT:Tabs w) (hS:ZA w s v) (hA:Zj w (some ⟨b,0,none⟩) 3 3 (Zf h)) (hs:Qu s t h=true) (hes:∀ r,r∈s.log→r.es.length≤12) :
  Calls Tryz.prog 13 #[v,.agg #[.int .i64 t,.slice (some ⟨b,0,none⟩) 3 3],.int .i64 1200] w fun e w'=>∃ x pv B,e=.returned (.tuple #[x,pv,.int .i64 0])∧ZA w' (nxS s t h) x∧(w'.ownsRow B 5 1 pv (8+Zk (ZB (plX s t 1200 (Zf h)) (wtF s (Zf h)).length)) (X7 (plX s t 1200 (Zf h)) (wtF s (Zf h)).length)∧w.heap.size≤B)∧Below w.heap.size w w':=by
 refine (Zq8 hT hS hA hs hes).mono ?_
 rintro e w' ⟨x,pv,B,e1,h1,h2,h3⟩
 exact ⟨x,pv,B,e1,h1.toV,h2,h3⟩
theorem ZdX {w:World} {X:TV} {k B:Nat} {v:Value} (h:w.ownsRow B 5 1 v (8+Zk (ZB X k)) (X7 X k)):∃ g c,v=.slice (some ⟨g,0,none⟩) (8+Zk (ZB X k)) c∧8+Zk (ZB X k)≤c∧Z8 w (some ⟨g,0,none⟩) (8+Zk (ZB X k)) (YD X k):=by
 rw [Zjz] at h
 exact ZjE h (by omega) (ZjA X k)
theorem ZjM {s:Snd} {t h:Int} {r:Rcv} {u v:Value} {B:Nat} {w:World} (hT:Tabs w) (hR:ZaD w r u) (hp:w.ownsRow B 5 1 v (8+Zk (ZB (plX s t 1200 (Zf h)) (wtF s (Zf h)).length)) (X7 (plX s t 1200 (Zf h)) (wtF s (Zf h)).length)) (hn:(0≤s.next∧s.next≤1073741825)∧(0≤s.acked∧s.acked≤1073741825)) (hs:Qu s t h=true) (hes:r.log.all (fun r=>decide (r.es.length≤12))=true)
  (hc:∃ x,Z6 r.log s.acked=some x∧x.tick=(plX s t 1200 (Zf h)).b.tick∧x.es=(plX s t 1200 (Zf h)).b.es∧Zl t (Z7 (plX s t 1200 (Zf h)) (wtF s (Zf h)).length)=true∧(Z7 (plX s t 1200 (Zf h)) (wtF s (Zf h)).length).length≤12∧∀ y,y∈r.log→y.num<s.next) (he:YV r (8+Zk (ZB (plX s t 1200 (Zf h)) (wtF s (Zf h)).length)) (n4 (YD (plX s t 1200 (Zf h)) (wtF s (Zf h)).length) 0) (n4 (YD (plX s t 1200 (Zf h)) (wtF s (Zf h)).length) 4)=none) :
  Calls Tryz.prog 14 #[u,v] w fun e w'=>∃ x VA vn vc,e=.returned (.tuple #[x,.agg #[.int .i64 t,.slice VA vn vc],.int .i64 0])∧ZaD w' (Zbc r (n4 (YD (plX s t 1200 (Zf h)) (wtF s (Zf h)).length) 0) (n4 (YD (plX s t 1200 (Zf h)) (wtF s (Zf h)).length) 4) t (Z7 (plX s t 1200 (Zf h)) (wtF s (Zf h)).length)) x∧Zj w' VA vn vc (Z7 (plX s t 1200 (Zf h)) (wtF s (Zf h)).length)∧Below w.heap.size w w':=by
 unfold Qu at hs
 simp only [Bool.and_eq_true,Bool.not_eq_true',decide_eq_true_eq] at hs
 refine (ZjF (plX s t 1200 (Zf h)) (wtF s (Zf h)).length r u v B w hT hR hp hn.1 hn.2 (by unfold Qr;show 8+_≤(1200:Int);have:=hs.2;omega) (Int.le_refl 1200) (fun x hx=>of_decide_eq_true (List.all_eq_true.1 hes x hx)) (fun _=>hc)).mono ?_
 rintro e w' ⟨z,rfl,hz⟩
 rcases hz with ⟨e,h1,_⟩|⟨_,x,VA,vn,vc,rfl,h1,h2,h3⟩
 ·rw [he] at h1;cases h1
 ·exact ⟨x,VA,vn,vc,rfl,h1,h2,h3⟩
theorem ZjN {s:Snd} {t h k:Int} {r:Rcv} {u v:Value} {B:Nat} {w:World} (hT:Tabs w) (hR:ZaD w r u) (hp:w.ownsRow B 5 1 v (8+Zk (ZB (plX s t 1200 (Zf h)) (wtF s (Zf h)).length)) (X7 (plX s t 1200 (Zf h)) (wtF s (Zf h)).length)) (hn:(0≤s.next∧s.next≤1073741825)∧(0≤s.acked∧s.acked≤1073741825)) (hs:Qu s t h=true) (hes:r.log.all (fun r=>decide (r.es.length≤12))=true)
  (he:YV r (8+Zk (ZB (plX s t 1200 (Zf h)) (wtF s (Zf h)).length)) (n4 (YD (plX s t 1200 (Zf h)) (wtF s (Zf h)).length) 0) (n4 (YD (plX s t 1200 (Zf h)) (wtF s (Zf h)).length) 4)=some k) :
  Calls Tryz.prog 14 #[u,v] w fun e w'=>e=.returned (.tuple #[ZaC,ZdR,.int .i64 k])∧Below w.heap.size w w':=by
 unfold Qu at hs
 simp only [Bool.and_eq_true,Bool.not_eq_true',decide_eq_true_eq] at hs
 refine (ZjF (plX s t 1200 (Zf h)) (wtF s (Zf h)).length r u v B w hT hR hp hn.1 hn.2 (by unfold Qr;show 8+_≤(1200:Int);have:=hs.2;omega) (Int.le_refl 1200) (fun x hx=>of_decide_eq_true (List.all_eq_true.1 hes x hx)) (fun h0=>?_)).mono ?_
 ·rw [ZjC _ _ (show s.next.toNat<4294967296 by omega),ZjD _ _ (show s.acked.toNat<4294967296 by omega)] at he
  have h0:YV r (8+Zk (ZB (plX s t 1200 (Zf h)) (wtF s (Zf h)).length)) (plX s t 1200 (Zf h)).s.next.toNat (plX s t 1200 (Zf h)).s.acked.toNat=none:=h0
  rw [h0] at he
  cases he
 rintro e w' ⟨z,rfl,hz⟩
 rcases hz with ⟨e,h1,rfl,h2⟩|⟨h1,_⟩
 ·rw [he] at h1
  injection h1 with h1
  rw [←h1]
  exact ⟨rfl,h2⟩
 ·rw [he] at h1;cases h1
end
end Go.Proofs.YtlgcfimhfmgkmaaGreatDoor
namespace Go.Proofs.YtlgcfimhfmgkmaaGreatDoor
open Go.RowKit
section
def aS0:Snd:=⟨2,1,0,[],[]⟩
def aS1:Snd:=nxS aS0 3 0
def aS2:Snd:=nxS aS1 4 0
def aS3:Snd:=QG aS2 2
def aX (s:Snd) (t h:Int):TV:=plX s t 1200 (Zf h)
def aK (s:Snd) (h:Int):Nat:=(wtF s (Zf h)).length
def aN (s:Snd) (t h:Int):Nat:=8+Zk (ZB (aX s t h) (aK s h))
def aP (s:Snd) (t h:Int):Nat→Nat:=YD (aX s t h) (aK s h)
def aE (s:Snd) (t h:Int):List Ent:=Z7 (aX s t h) (aK s h)
def aR0:Rcv:=⟨0,0,[]⟩
def aR1:Rcv:=Zbc aR0 (n4 (aP aS1 4 0) 0) (n4 (aP aS1 4 0) 4) 4 (aE aS1 4 0)
def aR2:Rcv:=Zbc aR1 (n4 (aP aS3 5 4) 0) (n4 (aP aS3 5 4) 4) 5 (aE aS3 5 4)
theorem Zq9:Qu aS0 3 0=true:=by decide +kernel
theorem ZfN:Qu aS1 4 0=true:=by decide +kernel
theorem Zcx:Qu aS3 5 4=true:=by decide +kernel
theorem Zra:Zbg aS1 aS0=true:=by decide +kernel
theorem Zrb:Zbg aS2 aS1=true:=by decide +kernel
theorem Zrc:Zbg aS3 aS2=true:=by decide +kernel
theorem ZbR (s:Snd) (h:s.log.all (fun r=>decide (r.es.length≤12))=true):∀ r,r∈s.log→r.es.length≤12:=fun r hr=>by
 have:=List.all_eq_true.1 h r hr
 exact of_decide_eq_true this
theorem Zrd:aS0.log.all (fun r=>decide (r.es.length≤12))=true:=by decide +kernel
theorem Zre:aS1.log.all (fun r=>decide (r.es.length≤12))=true:=by decide +kernel
theorem Zrf:aS2.log.all (fun r=>decide (r.es.length≤12))=true:=by decide +kernel
theorem ZfO:aS3.log.all (fun r=>decide (r.es.length≤12))=true:=by decide +kernel
theorem Zcy:aP aS0 3 0 3=1∧aP aS1 4 0 3=2∧aP aS1 4 0 7=0∧aP aS3 5 4 3=3∧aP aS3 5 4 7=2:=by decide +kernel
theorem Zrg:YV aR0 (aN aS1 4 0) (n4 (aP aS1 4 0) 0) (n4 (aP aS1 4 0) 4)=none:=by decide +kernel
theorem Zrh:YV aR1 (aN aS1 4 0) (n4 (aP aS1 4 0) 0) (n4 (aP aS1 4 0) 4)=some 262:=by decide +kernel
theorem Zri:YV aR0 (aN aS3 5 4) (n4 (aP aS3 5 4) 0) (n4 (aP aS3 5 4) 4)=some 260:=by decide +kernel
theorem Zrj:YV aR1 (aN aS3 5 4) (n4 (aP aS3 5 4) 0) (n4 (aP aS3 5 4) 4)=none:=by decide +kernel
theorem Zrk:YU aS2=true∧aS2.acked<2∧(Z6 aS2.log 2).isSome=true∧aS2.acked≤9223372036854775807∧aS2.log.length≤1000∧aS2.items.length≤1000∧aS3.log.length≤1000∧aS3.items.length≤1000:=by decide +kernel
theorem Zrl:Zbf (aE aS1 4 0)=[1,5]:=by decide +kernel
theorem Zrm:Zbf (aE aS3 5 4)=[1]:=by decide +kernel
theorem ZjO:Zcw aR2=true∧(aR2.log.getLast?).map Rec.num=some 3:=by decide +kernel
theorem Zcz:aR0.log.all (fun r=>decide (r.es.length≤12))=true∧aR1.log.all (fun r=>decide (r.es.length≤12))=true∧aR2.log.all (fun r=>decide (r.es.length≤12))=true:=by decide +kernel
theorem ZaH:(0≤aS0.next∧aS0.next≤1073741825)∧(0≤aS0.acked∧aS0.acked≤1073741825)∧(0≤aS1.next∧aS1.next≤1073741825)∧(0≤aS1.acked∧aS1.acked≤1073741825)∧(0≤aS3.next∧aS3.next≤1073741825)∧(0≤aS3.acked∧aS3.acked≤1073741825):=by decide +kernel
theorem ZdY:Z6 aR1.log aS3.acked=some ⟨2,0,4,aE aS1 4 0⟩∧(aX aS3 5 4).b.tick=4∧(aX aS3 5 4).b.es=aE aS1 4 0∧aR1.log.all (fun y=>decide (y.num<aS3.next))=true:=by decide +kernel
theorem ZfP:Z6 aR0.log aS1.acked=some Rec.zero∧(aX aS1 4 0).b.tick=0∧(aX aS1 4 0).b.es=[]:=by decide +kernel
theorem Zbh:Zl 4 (aE aS1 4 0)=true∧(aE aS1 4 0).length≤12∧Zl 5 (aE aS3 5 4)=true∧(aE aS3 5 4).length≤12∧(aE aS1 4 0).length=2∧(aE aS3 5 4).length=1:=by decide +kernel
end
end Go.Proofs.YtlgcfimhfmgkmaaGreatDoor
namespace Go.Proofs.YtlgcfimhfmgkmaaGreatDoor
open Go.RowKit
section
def vL:List Ent:=[⟨1,[⟨1,0,0,0,0⟩,⟨4,2,0,0,0⟩]⟩,⟨5,[⟨1,50,50,0,0⟩]⟩]
def iL:List It:=[⟨1,16,0⟩,⟨5,15,0⟩]
def wL:List Wt:=[⟨1,16⟩,⟨5,15⟩]
theorem Zrn:Ql 2 (Xa 2 (Zf 0)) (Zf 0)=vL:=by decide +kernel
structure ZP (i:Nat) (s:Snd):Prop where
 full:JA s
 cl:s.cl=2
 nx:s.next=(i:Int)+1
 es:∀ r,r∈s.log→r.es=vL
 it:s.items=[]∨s.items=iL
theorem ZP.bs {i:Nat} {s:Snd} (h:ZP i s):(bsF s).es=[]∨(bsF s).es=vL:=by
 obtain ⟨r,hr,hv,hm⟩:=(ZdO (QJ.2 h.full)).fd
 have hb:bsF s=r:=by unfold bsF;rw [hr];rfl
 rw [hb]
 rcases hm with rfl | hm
 ·exact .inl rfl
 ·exact .inr (h.es r hm)
theorem ZP.vw {i:Nat} {s:Snd} (h:ZP i s):vwF s (Zf 0)=vL:=by
 unfold vwF
 rw [h.cl,Zrn]
theorem ZP.wt {i:Nat} {s:Snd} (h:ZP i s):((bsF s).es=[]∧gnF s (Zf 0)=[]∧wtF s (Zf 0)=wL)∨((bsF s).es=vL∧gnF s (Zf 0)=[]∧wtF s (Zf 0)=[]):=by
 unfold wtF gnF idF
 rw [h.vw,h.cl]
 rcases h.bs with e | e
 ·rw [e];exact .inl ⟨rfl,by decide +kernel,by kernel_rfl⟩
 ·rw [e];exact .inr ⟨rfl,by decide +kernel,by kernel_rfl⟩
theorem ZP.next {i:Nat} {s:Snd} (h:ZP i s) (t:Int):Z7 (plX s t 1200 (Zf 0)) (wtF s (Zf 0)).length=vL∧(QE s.items (wtF s (Zf 0)) (YT s.items (wtF s (Zf 0)) (wtF s (Zf 0)).length)=[]∨QE s.items (wtF s (Zf 0)) (YT s.items (wtF s (Zf 0)) (wtF s (Zf 0)).length)=iL):=by
 have e:Z7 (plX s t 1200 (Zf 0)) (wtF s (Zf 0)).length=QT (bsF s).es (vwF s (Zf 0)) (gnF s (Zf 0)++(YT s.items (wtF s (Zf 0)) (wtF s (Zf 0)).length).map (idS (wtF s (Zf 0)))):=rfl
 rw [e,h.vw]
 rcases h.wt with ⟨e1,e2,e3⟩|⟨e1,e2,e3⟩
 ·rw [e1,e2,e3]
  rcases h.it with e4 | e4
  ·rw [e4];exact ⟨by decide +kernel,.inr (by kernel_rfl)⟩
  ·rw [e4];exact ⟨by decide +kernel,.inr (by kernel_rfl)⟩
 ·rw [e1,e2,e3]
  have e5:YT s.items ([]:List Wt) ([]:List Wt).length=[]:=rfl
  rw [e5]
  exact ⟨by decide +kernel,.inl (by kernel_rfl)⟩
theorem Zro {s t:Int} {es fs:List Ent} (hd:(X5 0 (Zw es fs)).length≤600):Zk (Xo s t es fs)≤1192:=by
 have h1:(X3 s t (Zw es fs)).length≤665:=by
  rw [Zfe,List.length_append]
  have:=(QN (-2) (t-s)).2.1
  omega
 exact Tq62
theorem ZP.can {i:Nat} {s:Snd} (h:ZP i s) (hi:i≤1000000):Qu s (i:Int) 0=true:=by
 unfold Qu
 simp only [Bool.and_eq_true,Bool.not_eq_true',decide_eq_true_eq]
 refine ⟨⟨?_,by have:=h.nx;omega⟩,?_⟩
 ·unfold JX
  rw [QJ.2 h.full]
  have hv:Zl (i:Int) (Zf 0)=true:=by
   unfold Zl
   rw [decide_eq_true (show (0:Int)≤(i:Int) by omega),decide_eq_true (show (i:Int)≤1073741824 by omega)]
   decide +kernel
  rw [hv]
  rfl
 ·have e:ZB (plX s (i:Int) 1200 (Zf 0)) (wtF s (Zf 0)).length=Xo (bsF s).tick (i:Int) (bsF s).es (Z7 (plX s (i:Int) 1200 (Zf 0)) (wtF s (Zf 0)).length):=rfl
  rw [e,(h.next (i:Int)).1]
  refine Zro ?_
  rcases h.bs with e1 | e1
  ·rw [e1];decide +kernel
  ·rw [e1];decide +kernel
theorem ZP.sent {i:Nat} {s:Snd} (h:ZP i s) (hi:i≤1000000):ZP (i+1) (nxS s (i:Int) 0):=by
 have hs:=h.can hi
 unfold Qu at hs
 simp only [Bool.and_eq_true,Bool.not_eq_true',decide_eq_true_eq] at hs
 have hg:=Zfz hs.1.1
 have hnx:(plX s (i:Int) 1200 (Zf 0)).s.next≤1073741824:=hs.1.2
 have hn:=h.next (i:Int)
 refine ⟨QJ.1 (Zjj hg hs.1.2 (ZjL 0) _),h.cl,?_,fun r hr=>?_,hn.2⟩
 ·show s.next+1=((i+1:Nat):Int)+1
  have:=h.nx
  omega
 ·have hr:r∈XV (plX s (i:Int) 1200 (Zf 0)) (wtF s (Zf 0)).length:=hr
  rcases List.mem_append.1 (ZiZ hr) with hr | hr
  ·exact h.es r hr
  ·have:r=Zax (plX s (i:Int) 1200 (Zf 0)) (wtF s (Zf 0)).length:=by simpa using hr
   rw [this]
   exact hn.1
theorem ZP.ack {i:Nat} {s:Snd} {k:Int} {r:Rec} (h:ZP i s) (hk:s.acked<k) (hf:Z6 s.log k=some r):ZP i (QG s k):=
 ⟨Zqg h.full hk hf,h.cl,h.nx,fun x hx=>h.es x (List.mem_filter.1 hx).1,h.it⟩
theorem ZP.box {i:Nat} {s s':Snd} (h:ZP i s') (hn:s'.next≤s.next+1):Zbg s' s=true:=by
 unfold Zbg
 simp only [Bool.and_eq_true,List.all_eq_true,decide_eq_true_eq,Bool.or_eq_true]
 refine ⟨fun r hr=>⟨?_,.inl ?_⟩,?_⟩
 ·have h1:=(h.full.lg r hr)
  have h2:=h1.2.1
  omega
 ·rw [h.es r hr];decide
 ·rcases h.it with e | e<;>rw [e]<;>decide
theorem ZP.small {i:Nat} {s:Snd} (h:ZP i s):∀ r,r∈s.log→r.es.length≤12:=fun r hr=>by rw [h.es r hr];decide
theorem ZP.start:ZP 0 aS0:=⟨QJ.1 (by decide +kernel),rfl,rfl,fun r hr=>(by cases hr),.inl rfl⟩
theorem ZP.log {i:Nat} {s:Snd} (h:ZP i s) (hi:i≤1000000):((nxS s (i:Int) 0).log.length:Int)=min ((s.log.length:Int)+1) (32+min s.acked 1)∧∃ l r,(nxS s (i:Int) 0).log=l++[r]∧r.num=(i:Int)+1:=by
 refine ⟨Zqe (X:=plX s (i:Int) 1200 (Zf 0)) h.full,?_⟩
 obtain ⟨l,e⟩:=Zqf (X:=plX s (i:Int) 1200 (Zf 0)) (k:=(wtF s (Zf 0)).length) h.full
 exact ⟨l,_,e,h.nx⟩
theorem ZP.lsmall {i:Nat} {s:Snd} (h:ZP i s):∀ r,r∈s.log→r.es.length≤1000∧(∀ e,e∈r.es→e.cs≠[])∧∀ e,e∈r.es→e.cs.length≤1000:=fun r hr=>by rw [h.es r hr];decide
end
end Go.Proofs.YtlgcfimhfmgkmaaGreatDoor
namespace Go.Proofs.YtlgcfimhfmgkmaaGreatDoor
open Go.RowKit
section
theorem Tq78 {p:Prop} (h:p:=by
 have i2:decide (j<n)=false:=decide_eq_false hlt
 have HX:=Qh hW
 clear hlt hg hW hlen hlim hA hB
 go_wp2_with fail
 go_ret
 exact ⟨rfl,Ze H.out.2.1 HX.out⟩):p:=h
theorem Zrp (e:Ent) (A B:Option Addr) (n c d:Nat) (w:World) (ha:Zo w A n c e.cs) (hb:Zo w B n d e.cs) :
  Calls Tryz.prog 68 #[.agg #[.int .i64 e.id,.slice A n c],.agg #[.int .i64 e.id,.slice B n d]] w fun r w'=>r=.returned (.bool true)∧Below w.heap.size w w':=by
 obtain ⟨w1,g,e1,eg,hg0,hg1,hb1⟩:∃ W q,W=(w.alloc (.cells #[.int .i64 e.id,.slice A n c] 70 (0,0))).alloc (.cells #[.int .i64 e.id,.slice B n d] 70 (0,0))∧q=w.heap.size∧W.heap[q]?=some (.cells #[.int .i64 e.id,.slice A n c] 70 (0,0))∧W.heap[q+1]?=some (.cells #[.int .i64 e.id,.slice B n d] 70 (0,0))∧Below w.heap.size w W:=⟨_,_,rfl,rfl,ZZ w _ _,Z0 w _ _,ZQ w _ _⟩
 have f0:w1.cell? ⟨g,0,none⟩=some (.int .i64 e.id):=Za hg0 0 _ rfl
 have f1:w1.cell? ⟨g,1,none⟩=some (.slice A n c):=Za hg0 1 _ rfl
 have f2:w1.cell? ⟨g+1,0,none⟩=some (.int .i64 e.id):=Za hg1 0 _ rfl
 have f3:w1.cell? ⟨g+1,1,none⟩=some (.slice B n d):=Za hg1 1 _ rfl
 have t0:(e.id != e.id)=false:=by simp
 have t1:((n:Int) != (n:Int))=false:=by simp
 have H:=Qh (Qi (Qi (ha.below hb1) (hb.below hb1)) (Qi hb1 (Qi hg0 hg1)))
 have E1:=Qh (Qi e1 eg)
 clear ha hb hg0 hg1 hb1 e1 eg
 go_enter Tryz.func68,Tryz.ntmps68
 go_upto_region 1 with fail
 rw [←E1.out.1,←E1.out.2]
 clear E1
 go_wp2_with fail
 clear f0 f1 f2 f3 t0 t1
 go_loopg [23] n (fun gh iv wr=>∃ j:Nat,gh+j=n∧iv=.int .i64 (j:Nat)∧Below w1.heap.size w1 wr)
 case atStart=>exact ⟨0,rfl,rfl,Below.refl _ _⟩
 case round=>
  obtain ⟨j,hg,rfl,hW⟩:=hrel
  obtain ⟨W,eW⟩:∃ W,W=wr:=⟨_,rfl⟩
  rw [←eW] at hW ⊢
  clear eW
  have hA:=H.out.1.1.below hW
  have hB:=H.out.1.2.below hW
  have hlen:=hA.len
  have hlim:=hA.lim
  by_cases hlt:j<n
  ·obtain ⟨x,hx⟩:∃ x,e.cs[j]?=some x:=⟨_,List.getElem?_eq_getElem (by omega)⟩
   obtain ⟨b,o,eA,c0,c1,c2,c3,c4⟩:=hA.at_ j x hx
   obtain ⟨b',o',eB,d0,d1,d2,d3,d4⟩:=hB.at_ j x hx
   subst eA eB
   have i0:(0:Int)≤(j:Int):=by omega
   have i1:(j:Int)<(n:Int):=by omega
   have i2:decide (j<n)=true:=decide_eq_true hlt
   have u2:wrap64 ((j:Int)+1)=(j:Int)+1:=Zn _ (by omega) (by omega)
   have f1:W.cell? ⟨g,1,none⟩=some (.slice (some ⟨b,o,none⟩) n c):=Za ((hW.block _ (lt_of_block H.out.2.2.1)).trans H.out.2.2.1) 1 _ rfl
   have f3:W.cell? ⟨g+1,1,none⟩=some (.slice (some ⟨b',o',none⟩) n d):=Za ((hW.block _ (lt_of_block H.out.2.2.2)).trans H.out.2.2.2) 1 _ rfl
   have hE:∀ W,(Op.equalIn 9999 73 (.agg #[.int .i64 x.v0,.int .i64 x.v1,.int .i64 x.v2,.int .i64 x.v3]) (.agg #[.int .i64 x.v0,.int .i64 x.v1,.int .i64 x.v2,.int .i64 x.v3])).run Tryz.prog W=.ok true W:=fun W=>by rw [ZaW,decide_eq_true ⟨rfl,rfl,rfl,rfl⟩]
   have HX:=Qh (Qi hlt (Qi hg hW))
   clear hlt hg hW hlen hlim hx hA hB
   go_upto_region 6 with fail
   go_region
   all_goals go_wp2_with fail
   all_goals (go_roundg (n-(j+1)))
   all_goals first
    | (have:=HX.out.1;have:=HX.out.2.1;omega)
    | exact ⟨j+1,by have:=HX.out.1;omega,by go_num,HX.out.2.2.drew⟩
  ·exact Tq78
end
end Go.Proofs.YtlgcfimhfmgkmaaGreatDoor
