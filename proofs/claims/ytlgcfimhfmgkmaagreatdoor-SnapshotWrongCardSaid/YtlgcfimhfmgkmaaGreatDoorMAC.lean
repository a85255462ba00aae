/- Lemmas for the statement. -/
import Derived.Test.YtlgcfimhfmgkmaaGreatDoorMAB
import Derived.WalkMore
import Derived.Deep.CutBlock
set_option linter.unusedVariables false
set_option linter.unusedSimpArgs false
set_option maxRecDepth 100000
set_option maxHeartbeats 1000000
namespace Go.Proofs.YtlgcfimhfmgkmaaGreatDoor
open Go.RowKit
section
structure MAt (w:World) (bm g:Nat) (fr:List Nat) (tot:Nat):Prop where
 blk:w.heap[bm]?=some (.cells #[.slice (some ⟨g,0,none⟩) fr.length fr.length,.int .i64 (tot:Nat)] 290 (0,0))
 row:w.heap[g]?=some (.cells (fr.map fun x=>Value.int .i64 ((x:Nat):Int)).toArray 3 (0,0))
section
variable {w w':World} {bm g tot:Nat} {fr:List Nat}
theorem MOk.mat (h:MOk w bm g fr):MAt w bm g fr fr.sum:=⟨h.blk,h.row⟩
theorem MAt.same (h:MAt w bm g fr tot) (h1:w'.heap[bm]?=w.heap[bm]?) (h2:w'.heap[g]?=w.heap[g]?):MAt w' bm g fr tot:=⟨h1.trans h.blk,h2.trans h.row⟩
theorem MAt.drew (h:MAt w bm g fr tot):MAt w.drew bm g fr tot:=h.same rfl rfl
theorem MAt.ne (h:MAt w bm g fr tot):bm≠g:=by
 rintro rfl
 have h1:=h.blk
 rw [h.row] at h1
 injection h1 with h1
 injection h1 with _ h2
 exact absurd h2 (by decide)
theorem MAt.at_ (h:MAt w bm g fr tot) {i:Nat} (hi:i<fr.length):w.cell? ⟨g,i,none⟩=some (.int .i64 ((fr.getD i 0:Nat):Int)):=by
 rw [cell_of_block h.row i];simp [List.getD_eq_getElem?_getD,hi]
theorem MAt.c0 (h:MAt w bm g fr tot):w.cell? ⟨bm,0,none⟩=some (.slice (some ⟨g,0,none⟩) fr.length fr.length):=(cell_of_block h.blk 0).trans rfl
theorem MAt.c1 (h:MAt w bm g fr tot):w.cell? ⟨bm,1,none⟩=some (.int .i64 (tot:Nat)):=(cell_of_block h.blk 1).trans rfl
theorem MAt.f1 (h:MAt w bm g fr tot):w.frozen? ⟨bm,1,none⟩=false:=Zd h.blk 1
theorem MAt.fg (h:MAt w bm g fr tot) (i:Nat):w.frozen? ⟨g,i,none⟩=false:=Zd h.row i
theorem MAt.set_row (h:MAt w bm g fr tot) (i x:Nat):MAt (w.setCell ⟨g,i,none⟩ (.int .i64 (x:Nat))) bm g (fr.set i x) tot:=by
 refine ⟨(Below.heap_setCell w ⟨g,i,none⟩ _ bm h.ne).trans ?_,?_⟩
 ·rw [List.length_set];exact h.blk
 ·have:=block_setCell h.row i (.int .i64 (x:Nat))
  rw [this,List.map_set]
  simp
theorem MAt.set_tot (h:MAt w bm g fr tot) (x:Nat):MAt (w.setCell ⟨bm,1,none⟩ (.int .i64 (x:Nat))) bm g fr x:=by
 refine ⟨?_,(Below.heap_setCell w ⟨bm,1,none⟩ _ g h.ne.symm).trans h.row⟩
 simpa using block_setCell h.blk 1 (.int .i64 (x:Nat))
end
theorem ZbV {w w':World} {bm g:Nat} (h:Fr [bm,g] w [bm,g] w') (p:Addr) (u:Value) (hp:p.block=bm∨p.block=g):Fr [bm,g] w [bm,g] (w'.setCell p u):=by
 have k:Fr [bm,g] w' [bm,g] (w'.setCell p u):=⟨rfl,rfl,rfl,by simp [World.setCell],fun q _ hn=>Below.heap_setCell _ _ _ _ (fun e=>hn (by rw [←e] at hp;rcases hp with hp | hp<;>simp [hp])),fun _ h=>Or.inl h⟩
 exact h.trans k
def YQ (f:Nat):Nat:=(f+1) / 2
def learn (fr:List Nat) (s:Nat):List Nat:=
 if fr.sum+32≤8192 then fr.set s (fr.getD s 0+32) else (fr.set s (fr.getD s 0+32)).map YQ
theorem Zf7 (l:List Nat) (s x:Nat) (h:s<l.length):(l.set s (l.getD s 0+x)).sum=l.sum+x:=by
 induction l generalizing s with
 | nil=>simp at h
 | cons a l ih=>
  cases s with
  | zero=>simp;omega
  | succ s=>
   have:=ih s (by simpa using h)
   simp only [List.set_cons_succ,List.sum_cons,List.getD_cons_succ]
   rw [this];omega
theorem Zf8 (l:List Nat):2*(l.map YQ).sum≤l.sum+l.length:=by
 induction l with
 | nil=>simp
 | cons a l ih=>simp only [List.map_cons,List.sum_cons,List.length_cons];unfold YQ at *;omega
theorem ZbW (fr:List Nat) (s:Nat):(learn fr s).length=fr.length:=by unfold learn;split<;>simp
theorem mem_set {l:List Nat} {s y x:Nat} (h:x∈l.set s y):x=y∨x∈l:=by
 rcases List.mem_or_eq_of_mem_set h with h | h
 ·exact Or.inr h
 ·exact Or.inl h
theorem Zf9 {fr:List Nat} {s:Nat} (h0:s<fr.length) (h1:fr.length≤256) (h2:∀ x,x∈fr→1≤x) (h3:fr.sum≤8192):(∀ x,x∈learn fr s→1≤x)∧(learn fr s).sum≤8192:=by
 have hs:=Zf7 fr s 32 h0
 unfold learn
 split
 ·refine ⟨fun x hx=>?_,by omega⟩
  rcases mem_set hx with rfl | hx
  ·omega
  ·exact h2 x hx
 ·have:=Zf8 (fr.set s (fr.getD s 0+32))
  rw [List.length_set,hs] at this
  refine ⟨fun x hx=>?_,by omega⟩
  obtain ⟨y,hy,rfl⟩:=List.mem_map.1 hx
  have:1≤y:=by
   rcases mem_set hy with rfl | hx
   ·omega
   ·exact h2 y hx
  unfold YQ;omega
def Qa (l:List Nat) (i:Nat):List Nat:=(l.take i).map YQ++l.drop i
theorem Zd6 (l:List Nat) (i:Nat):(Qa l i).length=l.length:=by unfold Qa;simp;omega
theorem Zla (l:List Nat) (i:Nat) (h:i<l.length):(Qa l i).getD i 0=l.getD i 0:=by
 unfold Qa
 simp only [List.getD_eq_getElem?_getD]
 rw [List.getElem?_append_right (by simp;omega)]
 simp
 congr 2;omega
theorem Zlb (l:List Nat) (i:Nat) (h:i<l.length):(Qa l i).set i (YQ (l.getD i 0))=Qa l (i+1):=by
 unfold Qa
 rw [List.set_append_right _ _ (by simp;omega)]
 rw [List.take_succ_eq_append_getElem h,List.map_append,List.append_assoc]
 congr 1
 have e:i-(List.map YQ (List.take i l)).length=0:=by rw [List.length_map,List.length_take];omega
 rw [e,List.drop_eq_getElem_cons h,List.set_cons_zero,List.map_singleton,List.singleton_append,List.getD_eq_getElem?_getD,List.getElem?_eq_getElem h,Option.getD_some]
theorem Zlc (l:List Nat):Qa l l.length=l.map YQ:=by unfold Qa;simp
theorem Zld {bm g:Nat} {fr:List Nat} (s:Nat) (w:World) (h:MOk w bm g fr) (hs:s<fr.length) :
  Calls Tryz.prog 208 #[.pointer (some ⟨bm,0,none⟩),.int .i64 (s:Int)] w fun e w'=>e=.returned (.tuple #[])∧MOk w' bm g (learn fr s)∧Fr [bm,g] w [bm,g] w':=by
 obtain ⟨hg1,hg2⟩:=Zf9 hs h.few h.one h.tot
 have hss:=Zf7 fr s 32 hs
 have hp:=h.pos
 have hf:=h.few
 have ht:=h.tot
 suffices Calls Tryz.prog 208 #[.pointer (some ⟨bm,0,none⟩),.int .i64 (s:Int)] w fun e w'=>e=.returned (.tuple #[])∧MAt w' bm g (learn fr s) (learn fr s).sum∧Fr [bm,g] w [bm,g] w' by
  refine this.mono ?_
  rintro e w' ⟨rfl,h1,h2⟩
  exact ⟨rfl,⟨h1.blk,h1.row,by rw [ZbW];exact hp,by rw [ZbW];exact hf,hg1,hg2⟩,h2⟩
 clear hg1 hg2
 have hl:∀ x:Nat,(fr.set s x).length=fr.length:=fun x=>List.length_set
 have hm:=h.mat
 have c0:=hm.c0
 have cs:=hm.at_ hs
 have fs:=hm.fg s
 have hx:=h.tot
 have hxx:fr.getD s 0≤8192:=by
  have:=Zbk fr (s+1)
  rw [ZaJ fr s hs] at this
  omega
 have hlr:learn fr s=if fr.sum+32≤8192 then fr.set s (fr.getD s 0+32) else (fr.set s (fr.getD s 0+32)).map YQ:=rfl
 obtain ⟨x,ex⟩:∃ x,x=fr.getD s 0:=⟨_,rfl⟩
 obtain ⟨t,et⟩:∃ t,t=fr.sum:=⟨_,rfl⟩
 obtain ⟨n,en⟩:∃ n,n=fr.length:=⟨_,rfl⟩
 obtain ⟨gr,eg⟩:∃ gr,gr=fr.set s (x+32):=⟨_,rfl⟩
 obtain ⟨lr,el⟩:∃ lr,lr=learn fr s:=⟨_,rfl⟩
 rw [←el] at hlr ⊢
 rw [←ex] at cs hlr hss hxx
 rw [←eg] at hlr hss
 have hgl:gr.length=n:=by rw [eg,hl,en]
 rw [←et] at hss hm hlr hx ht
 rw [←en] at c0 hs hp hf
 have H:=Qh (Qi hm (Qi hlr (Qi hss (Qi eg hgl))))
 clear hm hlr hss eg hgl el hl h ex et en
 go_enter Tryz.func208,Tryz.ntmps208
 go_upto_region 0 with fail
 go_cut [] (fun wx=>MAt wx bm g gr t∧Fr [bm,g] w [bm,g] wx)
 case first=>
  go_wp2_with fail
  go_meet
  refine ⟨?_,ZbV (Fr.refl _ _) _ _ (Or.inr rfl)⟩
  rw [H.out.2.2.2.1]
  exact H.out.1.set_row s (x+32)
 case rest=>
  have c1:=hcut.1.c1
  have f1:=hcut.1.f1
  have HC:=Qh hcut;clear hcut cs fs c0
  go_upto_region 1 with fail
  go_cut [] (fun wx=>MAt wx bm g gr (t+32)∧Fr [bm,g] w [bm,g] wx)
  case first=>
   go_wp2_with fail
   go_meet
   exact ⟨HC.out.1.set_tot (t+32),ZbV HC.out.2 _ _ (Or.inl rfl)⟩
  case rest=>
   have c1:=hcut.1.c1
   have f1:=hcut.1.f1
   have c0:=hcut.1.c0
   rw [H.out.2.2.2.2] at c0
   have HD:=Qh hcut;clear hcut HC
   by_cases hle:t+32≤8192
   ·go_wp2_with fail
    first | go_end0 | refine bodyPost_ret (results_none rfl _ _ _) rfl ?_
    refine ⟨rfl,?_,HD.out.2⟩
    have e:=H.out.2.1
    rw [if_pos hle] at e
    rw [e,H.out.2.2.1]
    exact HD.out.1
   ·have he:=H.out.2.1
    rw [if_neg hle] at he
    have HE:=Qh he;clear he
    go_upto_region 3 with fail
    go_cut [] (fun wx=>MAt wx bm g gr 0∧Fr [bm,g] w [bm,g] wx)
    case first=>
     go_wp2_with fail
     go_meet
     exact ⟨HD.out.1.set_tot 0,ZbV HD.out.2 _ _ (Or.inl rfl)⟩
    case rest=>
     have c0:=hcut.1.c0
     rw [H.out.2.2.2.2] at c0
     have HF:=Qh hcut;clear hcut HD
     go_wp2_with fail
     go_loopg [35] n (fun gh i wr=>∃ j:Nat,gh=n-j∧j≤n∧i=.int .i64 j∧(MAt wr bm g (Qa gr j) ((gr.map YQ).take j).sum∧Fr [bm,g] w [bm,g] wr))
     case atStart=>exact ⟨0,rfl,by omega,rfl,by simpa [Qa] using HF.out.1,HF.out.2⟩
     case round=>
      obtain ⟨j,hgh,hj,rfl,hR⟩:=hrel
      have Hgh:=Qh hgh;clear hgh
      have HR:=Qh hR;clear hR HF
      by_cases hlt:j<n
      ·have c0:=HR.out.1.c0
       have cj:=HR.out.1.at_ (i:=j) (by rw [Zd6,H.out.2.2.2.2];exact hlt)
       rw [Zd6,H.out.2.2.2.2] at c0
       rw [Zla gr j (by rw [H.out.2.2.2.2];exact hlt)] at cj
       have fj:=HR.out.1.fg j
       have hy:gr.getD j 0≤8224∧((gr.map YQ).take j).sum≤8224∧((gr.map YQ).take (j+1)).sum=((gr.map YQ).take j).sum+YQ (gr.getD j 0)∧YQ (gr.getD j 0)≤8224:=by
        have h1:=Zbk gr (j+1)
        rw [ZaJ gr j (by rw [H.out.2.2.2.2];exact hlt),H.out.2.2.1] at h1
        have h2:=Zbk (gr.map YQ) j
        have h3:=Zf8 gr
        rw [H.out.2.2.1,H.out.2.2.2.2] at h3
        have h4:=ZaJ (gr.map YQ) j (by rw [List.length_map,H.out.2.2.2.2];exact hlt)
        have h5:(gr.map YQ).getD j 0=YQ (gr.getD j 0):=by
         simp only [List.getD_eq_getElem?_getD,List.getElem?_map]
         rw [List.getElem?_eq_getElem (by rw [H.out.2.2.2.2];exact hlt)];rfl
        rw [h5] at h4
        refine ⟨by omega,by omega,h4,?_⟩
        unfold YQ;omega
       obtain ⟨hy1,hy2,hy3,hy4⟩:=hy
       obtain ⟨y,ey⟩:∃ y,y=gr.getD j 0:=⟨_,rfl⟩
       obtain ⟨z,ez⟩:∃ z,z=YQ y:=⟨_,rfl⟩
       obtain ⟨S,eS⟩:∃ S,S=((gr.map YQ).take j).sum:=⟨_,rfl⟩
       rw [←ey] at cj hy1 hy3 hy4
       rw [←ez] at hy3 hy4
       rw [←eS] at hy2 hy3
       have hz:((y:Int)+1) / 2=(z:Int):=by rw [ez];unfold YQ;omega
       have hset:MAt (wr.setCell ⟨g,j,none⟩ (.int .i64 (z:Nat))) bm g (Qa gr (j+1)) S:=by
        have:=HR.out.1.set_row j z
        rw [ez,ey,Zlb gr j (by rw [H.out.2.2.2.2];exact hlt),←ey,←ez,←eS] at this
        exact this
       have HY:=Qh (Qi hset (Qi hy3 hz));clear hset hy3 ez eS ey
       clear hz
       go_upto_region 7 with fail
       go_cut [35] (fun i wx=>i=.int .i64 j∧MAt wx bm g (Qa gr (j+1)) S∧wx.cell? ⟨g,j,none⟩=some (.int .i64 (z:Nat))∧Fr [bm,g] w [bm,g] wx)
       case first=>
        go_wp2_with fail
        go_meet
        rw [HY.out.2.2]
        refine ⟨rfl,HY.out.1,?_,ZbV HR.out.2 _ _ (Or.inr rfl)⟩
        rw [cell_of_block (block_setCell HR.out.1.row j _) j,JD (x:=Value.int .i64 (y:Int)) (by rw [←cell_of_block HR.out.1.row j];exact cj)]
       case rest=>
        obtain ⟨rfl,hm1,cj,hfr⟩:=hcut
        have c0:=hm1.c0
        have c1:=hm1.c1
        have f1:=hm1.f1
        rw [Zd6,H.out.2.2.2.2] at c0
        have HM:=Qh (Qi hm1 hfr);clear hm1 hfr HR fj
        go_wp2_with fail
        go_region
        all_goals
         have hend:MAt ((wc.setCell ⟨bm,1,none⟩ (.int .i64 ((S:Int)+(z:Int)))).drew) bm g (Qa gr (j+1)) (S+z):=(HM.out.1.set_tot (S+z)).drew
         have HE2:=Qh (Qi hend (ZbV HM.out.2 ⟨bm,1,none⟩ (.int .i64 ((S:Int)+(z:Int))) (Or.inl rfl)))
         clear hend
         go_wp2_with fail
         go_roundg (n-(j+1))
         case measure=>have:=Hgh.out;omega
         case rel=>
          refine ⟨j+1,rfl,by omega,by go_num,?_,HE2.out.2.drewN 1⟩
          rw [HY.out.2.1]
          exact HE2.out.1
      ·obtain rfl:j=n:=by omega
       go_wp2_with fail
       go_end0
       refine ⟨rfl,?_,HR.out.2⟩
       have h1:=HR.out.1
       rw [HE.out]
       have e:j=gr.length:=H.out.2.2.2.2.symm
       rw [e,Zlc,List.take_of_length_le (by simp)] at h1
       exact h1
end
section
open M (bitsOf bitsOf_length)
structure St where
 lo:Nat
 hi:Nat
 dl:Nat
 cnt:Nat
 out:List Bool
 num:Nat
 at_:Nat
structure Box where
 B:Nat
 bw:Nat
 T:TypeId
 G:List Nat
 A:Option Addr
 n:Nat
 cap:Nat
 f:Nat→Nat
 x9:Option Value
def Box.bit (X:Box) (a:Nat):Nat:=if a<8*X.n then X.f (a / 8) / 2 ^ (7-a % 8) % 2 else 0
theorem Box.bit_le (X:Box) (a:Nat):X.bit a≤1:=by unfold Box.bit;split<;>omega
structure CAt (X:Box) (w:World) (cs:Array Value) (F:List Nat) (s:St) (sh:Nat):Prop where
 wok:WOk w X.B X.bw 4 X.T cs F s.out
 c0:cs[0]?=some (.int .u64 (s.lo:Nat))
 c1:cs[1]?=some (.int .u64 (sh:Nat))
 c2:cs[2]?=some (.int .i64 (s.dl:Nat))
 c3:cs[3]?=some (.int .i64 (s.cnt:Nat))
 c6:cs[6]?=some (.int .u64 (s.num:Nat))
 c7:cs[7]?=some (.slice X.A X.n X.cap)
 c8:cs[8]?=some (.int .i64 (s.at_:Nat))
 c9:cs[9]?=X.x9
 row:Row w X.G X.A X.n X.f
 far:∀ q,q∈X.G→q∉F∧q<w.heap.size
 few:X.n≤1000000
 byte:∀ i,i<X.n→X.f i<256
def COk (X:Box) (w:World) (F:List Nat) (s:St) (sh:Nat):Prop:=∃ cs,CAt X w cs F s sh
section
variable {X:Box} {w w':World} {cs:Array Value} {F G F':List Nat} {s:St} {sh:Nat}
theorem CAt.head (h:CAt X w cs F s sh):X.bw∈F:=h.wok.head
theorem CAt.cell (h:CAt X w cs F s sh) (i:Nat):w.cell? ⟨X.bw,i,none⟩=cs[i]?:=h.wok.cell i
theorem CAt.free (h:CAt X w cs F s sh) (i:Nat):w.frozen? ⟨X.bw,i,none⟩=false:=h.wok.free i
theorem CAt.same (h:CAt X w cs F s sh) (hk:∀ q,q∈F∨q∈X.G→w'.heap[q]?=w.heap[q]?) (hs:w.heap.size≤w'.heap.size):CAt X w' cs F s sh:=
 ⟨h.wok.same fun q hq=>hk q (Or.inl hq),h.c0,h.c1,h.c2,h.c3,h.c6,h.c7,h.c8,h.c9,h.row.same fun q hq=>hk q (Or.inr hq),fun q hq=>⟨(h.far q hq).1,Nat.lt_of_lt_of_le (h.far q hq).2 hs⟩,h.few,h.byte⟩
theorem CAt.drewN (h:CAt X w cs F s sh) (n:Nat):CAt X (w.drewN n) cs F s sh:=h.same (fun _ _=>rfl) (Nat.le_refl _)
theorem CAt.drew (h:CAt X w cs F s sh):CAt X w.drew cs F s sh:=h.same (fun _ _=>rfl) (Nat.le_refl _)
theorem CAt.wrote {ds:Array Value} {l:List Bool} (h:CAt X w cs F s sh) (hw:WOk w' X.B X.bw 4 X.T ds F' l) (hs:YP 4 cs ds) (fr:Fr F w F' w'):CAt X w' ds F' { s with out:=l } sh:=by
 refine ⟨hw,(hs.at_ 0 (by decide) (by decide)).trans h.c0,(hs.at_ 1 (by decide) (by decide)).trans h.c1,(hs.at_ 2 (by decide) (by decide)).trans h.c2,(hs.at_ 3 (by decide) (by decide)).trans h.c3,(hs.at_ 6 (by decide) (by decide)).trans h.c6,(hs.at_ 7 (by decide) (by decide)).trans h.c7,(hs.at_ 8 (by decide) (by decide)).trans h.c8,(hs.at_ 9 (by decide) (by decide)).trans h.c9,h.row.same fun q hq=>fr.block q (h.far q hq).2 (h.far q hq).1,?_,h.few,h.byte⟩
 intro q hq
 exact ⟨fr.apart (H:=X.G) (fun q hq=>(h.far q hq).1) (fun q hq=>(h.far q hq).2) q hq,Nat.lt_of_lt_of_le (h.far q hq).2 fr.size⟩
theorem CAt.stores (h:CAt X w cs F s sh) (i:Nat) (h4:i≠4) (h5:i≠4+1) (u:Value) (s':St) (sh':Nat) (ho:s'.out=s.out)
  (e0:(cs.setIfInBounds i u)[0]?=some (.int .u64 (s'.lo:Nat))) (e1:(cs.setIfInBounds i u)[1]?=some (.int .u64 (sh':Nat))) (e2:(cs.setIfInBounds i u)[2]?=some (.int .i64 (s'.dl:Nat))) (e3:(cs.setIfInBounds i u)[3]?=some (.int .i64 (s'.cnt:Nat)))
  (e6:(cs.setIfInBounds i u)[6]?=some (.int .u64 (s'.num:Nat))) (e8:(cs.setIfInBounds i u)[8]?=some (.int .i64 (s'.at_:Nat))) (h7:i≠7) (h9:i≠9) :
  COk X (w.setCell ⟨X.bw,i,none⟩ u) F s' sh':=by
 refine ⟨cs.setIfInBounds i u,⟨by rw [ho];exact h.wok.set_ i h4 h5 u,e0,e1,e2,e3,e6,(ZY h7).trans h.c7,e8,(ZY h9).trans h.c9,h.row.same fun q hq=>Below.heap_setCell _ _ _ _ (fun e=>(h.far q hq).1 (by cases e;exact h.head)),?_,h.few,h.byte⟩⟩
 intro q hq
 exact ⟨(h.far q hq).1,by simpa [World.setCell] using (h.far q hq).2⟩
theorem CAt.set_lo (h:CAt X w cs F s sh) (x:Nat):COk X (w.setCell ⟨X.bw,0,none⟩ (.int .u64 (x:Nat))) F { s with lo:=x } sh:=
 h.stores 0 (by decide) (by decide) _ _ _ rfl (JD h.c0) ((ZY (by decide)).trans h.c1) ((ZY (by decide)).trans h.c2) ((ZY (by decide)).trans h.c3) ((ZY (by decide)).trans h.c6) ((ZY (by decide)).trans h.c8) (by decide) (by decide)
theorem CAt.set_sh (h:CAt X w cs F s sh) (x:Nat):COk X (w.setCell ⟨X.bw,1,none⟩ (.int .u64 (x:Nat))) F s x:=
 h.stores 1 (by decide) (by decide) _ _ _ rfl ((ZY (by decide)).trans h.c0) (JD h.c1) ((ZY (by decide)).trans h.c2) ((ZY (by decide)).trans h.c3) ((ZY (by decide)).trans h.c6) ((ZY (by decide)).trans h.c8) (by decide) (by decide)
theorem CAt.set_dl (h:CAt X w cs F s sh) (x:Nat):COk X (w.setCell ⟨X.bw,2,none⟩ (.int .i64 (x:Nat))) F { s with dl:=x } sh:=
 h.stores 2 (by decide) (by decide) _ _ _ rfl ((ZY (by decide)).trans h.c0) ((ZY (by decide)).trans h.c1) (JD h.c2) ((ZY (by decide)).trans h.c3) ((ZY (by decide)).trans h.c6) ((ZY (by decide)).trans h.c8) (by decide) (by decide)
theorem CAt.set_cnt (h:CAt X w cs F s sh) (x:Nat):COk X (w.setCell ⟨X.bw,3,none⟩ (.int .i64 (x:Nat))) F { s with cnt:=x } sh:=
 h.stores 3 (by decide) (by decide) _ _ _ rfl ((ZY (by decide)).trans h.c0) ((ZY (by decide)).trans h.c1) ((ZY (by decide)).trans h.c2) (JD h.c3) ((ZY (by decide)).trans h.c6) ((ZY (by decide)).trans h.c8) (by decide) (by decide)
theorem CAt.set_num (h:CAt X w cs F s sh) (x:Nat):COk X (w.setCell ⟨X.bw,6,none⟩ (.int .u64 (x:Nat))) F { s with num:=x } sh:=
 h.stores 6 (by decide) (by decide) _ _ _ rfl ((ZY (by decide)).trans h.c0) ((ZY (by decide)).trans h.c1) ((ZY (by decide)).trans h.c2) ((ZY (by decide)).trans h.c3) (JD h.c6) ((ZY (by decide)).trans h.c8) (by decide) (by decide)
theorem CAt.set_at (h:CAt X w cs F s sh) (x:Nat):COk X (w.setCell ⟨X.bw,8,none⟩ (.int .i64 (x:Nat))) F { s with at_:=x } sh:=
 h.stores 8 (by decide) (by decide) _ _ _ rfl ((ZY (by decide)).trans h.c0) ((ZY (by decide)).trans h.c1) ((ZY (by decide)).trans h.c2) ((ZY (by decide)).trans h.c3) ((ZY (by decide)).trans h.c6) (JD h.c8) (by decide) (by decide)
theorem COk.drew (h:COk X w F s sh):COk X w.drew F s sh:=by obtain ⟨cs,h⟩:=h;exact ⟨cs,h.drew⟩
theorem COk.drewN (h:COk X w F s sh) (n:Nat):COk X (w.drewN n) F s sh:=by obtain ⟨cs,h⟩:=h;exact ⟨cs,h.drewN n⟩
theorem COk.head (h:COk X w F s sh):X.bw∈F:=by obtain ⟨cs,h⟩:=h;exact h.head
theorem COk.lt (h:COk X w F s sh):∀ q,q∈F→q<w.heap.size:=by obtain ⟨cs,h⟩:=h;exact h.wok.lt
theorem COk.base (h:COk X w F s sh):∀ q,q∈F→X.B≤q:=by obtain ⟨cs,h⟩:=h;exact h.wok.base
theorem COk.far (h:COk X w F s sh):∀ q,q∈X.G→q∉F∧q<w.heap.size:=by obtain ⟨cs,h⟩:=h;exact h.far
theorem COk.keep {H H':List Nat} (h:COk X w F s sh) (fr:Fr H w H' w') (h1:∀ q,q∈F→q∉H) (h2:∀ q,q∈X.G→q∉H):COk X w' F s sh:=by
 obtain ⟨cs,h⟩:=h
 refine ⟨cs,h.same (fun q hq=>?_) fr.size⟩
 rcases hq with hq | hq
 ·exact fr.block q (h.wok.lt q hq) (h1 q hq)
 ·exact fr.block q (h.far q hq).2 (h2 q hq)
theorem COk.below (h:COk X w F s sh) (hb:Below w.heap.size w w'):COk X w' F s sh:=h.keep (Fr.of_below hb []) (by simp) (by simp)
theorem COk.cells (h:COk X w F s sh):w.cell? ⟨X.bw,0,none⟩=some (.int .u64 (s.lo:Nat))∧w.cell? ⟨X.bw,1,none⟩=some (.int .u64 (sh:Nat))∧w.cell? ⟨X.bw,2,none⟩=some (.int .i64 (s.dl:Nat))∧w.cell? ⟨X.bw,3,none⟩=some (.int .i64 (s.cnt:Nat))∧w.cell? ⟨X.bw,6,none⟩=some (.int .u64 (s.num:Nat))∧w.cell? ⟨X.bw,7,none⟩=some (.slice X.A X.n X.cap)∧w.cell? ⟨X.bw,8,none⟩=some (.int .i64 (s.at_:Nat))∧∀ i,w.frozen? ⟨X.bw,i,none⟩=false:=by
 obtain ⟨cs,h⟩:=h
 exact ⟨(h.cell 0).trans h.c0,(h.cell 1).trans h.c1,(h.cell 2).trans h.c2,(h.cell 3).trans h.c3,(h.cell 6).trans h.c6,(h.cell 7).trans h.c7,(h.cell 8).trans h.c8,h.free⟩
theorem COk.set_lo (h:COk X w F s sh) (x:Nat):COk X (w.setCell ⟨X.bw,0,none⟩ (.int .u64 (x:Nat))) F { s with lo:=x } sh:=by obtain ⟨cs,h⟩:=h;exact h.set_lo x
theorem COk.set_sh (h:COk X w F s sh) (x:Nat):COk X (w.setCell ⟨X.bw,1,none⟩ (.int .u64 (x:Nat))) F s x:=by obtain ⟨cs,h⟩:=h;exact h.set_sh x
theorem COk.set_dl (h:COk X w F s sh) (x:Nat):COk X (w.setCell ⟨X.bw,2,none⟩ (.int .i64 (x:Nat))) F { s with dl:=x } sh:=by obtain ⟨cs,h⟩:=h;exact h.set_dl x
theorem COk.set_cnt (h:COk X w F s sh) (x:Nat):COk X (w.setCell ⟨X.bw,3,none⟩ (.int .i64 (x:Nat))) F { s with cnt:=x } sh:=by obtain ⟨cs,h⟩:=h;exact h.set_cnt x
theorem COk.set_num (h:COk X w F s sh) (x:Nat):COk X (w.setCell ⟨X.bw,6,none⟩ (.int .u64 (x:Nat))) F { s with num:=x } sh:=by obtain ⟨cs,h⟩:=h;exact h.set_num x
theorem COk.set_at (h:COk X w F s sh) (x:Nat):COk X (w.setCell ⟨X.bw,8,none⟩ (.int .i64 (x:Nat))) F { s with at_:=x } sh:=by obtain ⟨cs,h⟩:=h;exact h.set_at x
end
theorem Fr.only {F F':List Nat} {a b c:World} {q:Nat} (h:Fr F a F' b) (k:Only q b c) (hq:q∈F'):Fr F a F' c:=
 h.trans ⟨k.os,k.tape,k.output,by rw [k.size];exact Nat.le_refl _,fun p hp hn=>k.block p (fun e=>hn (by rw [e];exact hq)),fun _ h=>Or.inl h⟩
theorem Fr.store {F F':List Nat} {a b:World} {q:Nat} (h:Fr F a F' b) (hq:q∈F') (i:Nat) (u:Value):Fr F a F' (b.setCell ⟨q,i,none⟩ u):=
 h.only (Only.setCell (b:=q) (p:=⟨q,i,none⟩) (Only.refl q b) rfl u) hq
theorem Zd7 {X:Box} {F:List Nat} {s:St} {sh:Nat} (h:Nat) (w:World) (hc:COk X w F s sh) (hh:h+sh=4294967295) :
  Calls Tryz.prog 206 #[.pointer (some ⟨X.bw,0,none⟩)] w fun e w'=>e=.returned (.int .u64 (h:Nat))∧w=w':=by
 obtain ⟨_,c1,_⟩:=hc.cells
 clear hc
 have hs:(4294967295:Int)-(sh:Int)=(h:Int):=by omega
 have HS:=Qh hs;clear hs
 obtain ⟨bw,hb⟩:∃ b,b=X.bw:=⟨_,rfl⟩
 rw [←hb] at c1 ⊢
 clear hb
 go_enter Tryz.func206,Tryz.ntmps206
 go_wp2_with fail
 go_ret
 exact ⟨ZbS (congrArg (Value.int .u64) HS.out),rfl⟩
theorem Zga {X:Box} {F:List Nat} {s:St} {sh:Nat} (w:World) (h:COk X w F s sh) (ha:s.at_≤1000000) :
  Calls Tryz.prog 175 #[.pointer (some ⟨X.bw,0,none⟩)] w fun e w'=>e=.returned (.int .u64 (X.bit s.at_:Nat))∧COk X w' F { s with at_:=s.at_+1 } sh∧Only X.bw w w':=by
 obtain ⟨_,_,_,_,_,c7,c8,hf⟩:=h.cells
 have f8:=hf 8
 have hset:=fun m=>(h.drewN m).set_at (s.at_+1)
 have hrow:Row w X.G X.A X.n X.f:=by obtain ⟨cs,h⟩:=h;exact h.row
 have hn:X.n≤1000000:=by obtain ⟨cs,h⟩:=h;exact h.few
 have hby:∀ i,i<X.n→X.f i<256:=by obtain ⟨cs,h⟩:=h;exact h.byte
 have hbit:X.bit s.at_=if s.at_<8*X.n then X.f (s.at_ / 8) / 2 ^ (7-s.at_ % 8) % 2 else 0:=rfl
 obtain ⟨a,ea⟩:∃ a,a=s.at_:=⟨_,rfl⟩
 rw [←ea] at c8 hbit ha hset
 obtain ⟨v,ev⟩:∃ v,v=X.bit a:=⟨_,rfl⟩
 obtain ⟨n,en⟩:∃ n,n=X.n:=⟨_,rfl⟩
 obtain ⟨cap,Zgb⟩:∃ c,c=X.cap:=⟨_,rfl⟩
 obtain ⟨bw,eb⟩:∃ c,c=X.bw:=⟨_,rfl⟩
 rw [←en,←Zgb,←eb] at c7
 rw [←en] at hn hby hbit hrow
 rw [←eb] at f8 c8 hset ⊢
 have H:=Qh (Qi hset (Qi ea ev))
 rw [←ea,←ev]
 rw [←ev] at hbit
 clear hset ea ev h hf en Zgb eb
 by_cases hlt:a<8*n
 ·rw [if_pos hlt] at hbit
  rcases hrow with h0|⟨g,cur,hA,hg,hh,ZbT⟩
  ·omega
  have hc:=(cell_of_block hh (a / 8)).trans (ZbT (a / 8) (by omega))
  have hb8:=hby (a / 8) (by omega)
  rw [hA] at c7
  obtain ⟨x,ex⟩:∃ x,x=X.f (a / 8):=⟨_,rfl⟩
  rw [←ex] at hc hbit hb8
  have hv1:v≤1:=by rw [hbit];omega
  have i1:(0:Int)≤((a / 8:Nat):Int):=by omega
  have i2:((a / 8:Nat):Int)<(n:Int):=by omega
  have s1:IntKind.i64.wrap (7-(a:Int) % 8)=7-(a:Int) % 8:=Go.IntWalk.i64_in _ (by omega)
  have s2:(0:Int)≤7-(a:Int) % 8:=by omega
  have hv:bits .and .u64 (IntKind.u64.wrap ((x:Int) / 2 ^ (7-a % 8))) 1=(v:Int):=by
   have e:(x:Int) / 2 ^ (7-a % 8)=((x / 2 ^ (7-a % 8):Nat):Int):=by rw [Int.natCast_ediv,Int.natCast_pow];rfl
   have hl:x / 2 ^ (7-a % 8)<256:=Nat.lt_of_le_of_lt (Nat.div_le_self _ _) hb8
   rw [e,hbit]
   clear e hbit
   generalize x / 2 ^ (7-a % 8)=q at hl ⊢
   rw [Bv.wrap_in (by omega) (by omega),←Nat.and_one_is_mod]
   exact u64_and_nat q 1 (by omega) (by omega)
  have HV:=Qh hv
  clear hv hbit ex hA hh ZbT hby hg
  go_enter Tryz.func175,Tryz.ntmps175
  go_wp2_with fail
  go_quiet (fail)
  go_wp2_with fail
  go_quiet (fail)
  rw [HV.out]
  go_wp2_with fail
  go_ret
  refine ⟨rfl,H.out.1 _,Only.setCell (b:=bw) (p:=⟨bw,8,none⟩) ((Only.refl bw w).drewN _) rfl _⟩
 ·rw [if_neg hlt] at hbit
  subst hbit
  clear hrow hby
  go_enter Tryz.func175,Tryz.ntmps175
  go_wp2_with fail
  go_quiet (fail)
  go_wp2_with fail
  go_ret
  refine ⟨rfl,H.out.1 _,Only.setCell (b:=bw) (p:=⟨bw,8,none⟩) ((Only.refl bw w).drewN _) rfl _⟩
theorem ZfX (b:Bool):bitsOf b.toNat 1=[b]:=by cases b<;>rfl
theorem Zle (b:Bool):bitsOf (1-b.toNat) 1=[!b]:=by cases b<;>rfl
theorem COk.wok {X:Box} {w:World} {F:List Nat} {s:St} {sh:Nat} (h:COk X w F s sh):∃ cs,WOk w X.B X.bw 4 X.T cs F s.out∧∀ w' F' l ds,WOk w' X.B X.bw 4 X.T ds F' l→YP 4 cs ds→Fr F w F' w'→COk X w' F' { s with out:=l } sh:=by
 obtain ⟨cs,h⟩:=h
 exact ⟨cs,h.wok,fun w' F' l ds h1 h2 h3=>⟨ds,h.wrote h1 h2 h3⟩⟩
theorem Zgc {X:Box} {F:List Nat} {s:St} {sh:Nat} (N:Nat) (b:Bool) (n:Int) (w:World) (h:COk X w F s sh) (hB:X.B≤w.heap.size) (hl:s.out.length+1≤1048576) (en:n=N) (hN:N<2) (hb:bitsOf N 1=[b]) :
  Calls Tryz.prog 214 #[.pointer (some ⟨X.bw,4,none⟩),.int .u64 n,.int .i64 1] w fun e w'=>e=.returned (.int .i64 0)∧∃ F',COk X w' F' { s with out:=s.out++[b] } sh∧Fr F w F' w':=by
 obtain ⟨cs,hw,hk⟩:=h.wok
 refine (Zf1 N 1 hw hB en rfl hl (by decide) hN).mono ?_
 rintro e w' ⟨rfl,F',ds,h1,h2,h3⟩
 rw [hb] at h1
 exact ⟨rfl,F',hk _ _ _ _ h1 h2 h3,h3⟩
theorem ZcG {X:Box} {F:List Nat} {s:St} {sh:Nat} (B:Bool) (w:World) (h:COk X w F s sh) (hB:X.B≤w.heap.size) (hl:s.out.length+s.dl+1≤1048576) :
  Calls Tryz.prog 215 #[.pointer (some ⟨X.bw,0,none⟩),.int .u64 (B.toNat:Nat)] w fun e w'=>e=.returned (.tuple #[])∧∃ F',COk X w' F' { s with out:=s.out++(B :: List.replicate s.dl (!B)),dl:=0 } sh∧Fr F w F' w':=by
 have hb1:B.toNat≤1:=by cases B<;>decide
 have hB1:=ZfX B
 have hB2:=Zle B
 obtain ⟨b,eb⟩:∃ b,b=B.toNat:=⟨_,rfl⟩
 rw [←eb] at hb1 hB1 hB2 ⊢
 have HB:=Qh (Qi hB1 (Qi hB2 hB));clear hB1 hB2 hB eb
 have HH:=Qh h;clear h
 have hdl:s.dl≤1048576:=by omega
 go_enter Tryz.func215,Tryz.ntmps215
 go_wp2_with fail
 refine (Zgc b B _ w HH.out HB.out.2.2 (by omega) rfl (by omega) HB.out.1).mono ?_
 rintro e w1 ⟨rfl,F1,h1,fr1⟩
 obtain ⟨_,_,c2,_⟩:=h1.cells
 have H1:=Qh (Qi h1 fr1);clear h1 fr1
 go_wp2_with fail
 go_loopg [13] s.dl (fun gh i wr=>∃ j:Nat,gh=s.dl-j∧j≤s.dl∧i=.int .i64 j∧∃ F',(COk X wr F' { s with out:=s.out++(B :: List.replicate j (!B)) } sh∧Fr F w F' wr))
 case atStart=>exact ⟨0,rfl,by omega,rfl,F1,by simpa using H1.out.1,H1.out.2⟩
 case round=>
  obtain ⟨j,hgh,hj,rfl,F2,hR⟩:=hrel
  have Hgh:=Qh hgh;clear hgh
  have HR:=Qh hR;clear hR H1
  by_cases hlt:j<s.dl
  ·go_wp2_with fail
   refine (Zgc (1-b) (!B) _ wr HR.out.1 (Nat.le_trans HB.out.2.2 HR.out.2.size) (by simp;omega) (by omega) (by omega) HB.out.2.1).mono ?_
   rintro e w2 ⟨rfl,F3,h3,fr3⟩
   have H3:=Qh (Qi h3 fr3);clear h3 fr3
   go_wp2_with fail
   go_roundg (s.dl-(j+1))
   case measure=>have:=Hgh.out;omega
   case rel=>
    refine ⟨j+1,rfl,by omega,by go_num,F3,?_,HR.out.2.trans H3.out.2⟩
    have:=H3.out.1
    rw [List.replicate_succ']
    simpa using this
  ·obtain rfl:j=s.dl:=by omega
   obtain ⟨_,_,c2,_,_,_,_,hf⟩:=HR.out.1.cells
   have f2:=hf 2
   clear hf
   go_wp2_with fail
   go_end0
   exact ⟨rfl,F2,HR.out.1.set_dl 0,HR.out.2.store HR.out.1.head 2 _⟩
end
section
def pick (s:St):Option (Nat × List Bool × Nat):=
 if s.hi<2147483648 then some (0,s.out++(false :: List.replicate s.dl true),0)
 else if 2147483648≤s.lo then some (2147483648,s.out++(true :: List.replicate s.dl false),0)
 else if 1073741824≤s.lo∧s.hi<3221225472 then some (1073741824,s.out,s.dl+1)
 else none
def shift (bit:Nat→Nat) (s:St) (x:Nat) (o:List Bool) (d:Nat):St:=
 { lo:=2*(s.lo-x),hi:=2*(s.hi-x)+1,dl:=d,cnt:=s.cnt,out:=o,num:=(2*(s.num+(18446744073709551616-x))+bit s.at_) % 18446744073709551616,at_:=s.at_+1 }
def Yo (bit:Nat→Nat):Nat→St→St
 | 0,s=>s
 | k+1,s=>match pick s with
  | none=>s
  | some (x,o,d)=>Yo bit k (shift bit s x o d)
theorem J2 {bit:Nat→Nat} {s:St} (h:pick s=none) (k:Nat):Yo bit k s=s:=by
 cases k with
 | zero=>rfl
 | succ k=>simp only [Yo,h]
theorem J3 {bit:Nat→Nat} {s:St} {x:Nat} {o:List Bool} {d:Nat} (h:pick s=some (x,o,d)) (k:Nat):Yo bit (k+1) s=Yo bit k (shift bit s x o d):=by
 simp only [Yo,h]
structure Good (s:St):Prop where
 le:s.lo≤s.hi
 hi:s.hi<4294967296
 out:s.out.length+s.dl≤s.at_
 num:s.num<18446744073709551616
theorem ZaK {s:St} {x:Nat} {o:List Bool} {d:Nat} (h:pick s=some (x,o,d)) (hs:s.lo≤s.hi) (hh:s.hi<4294967296) :
  x≤s.lo∧2*(s.hi-x)+1<4294967296∧o.length+d=s.out.length+s.dl+1∧(x=0∨x=2147483648∨x=1073741824):=by
 unfold pick at h
 split at h
 ·injection h with h;injection h with h1 h;injection h with h2 h3
  subst h1 h2 h3
  refine ⟨by omega,by omega,by simp;omega,Or.inl rfl⟩
 split at h
 ·injection h with h;injection h with h1 h;injection h with h2 h3
  subst h1 h2 h3
  refine ⟨by omega,by omega,by simp;omega,Or.inr (Or.inl rfl)⟩
 split at h
 ·injection h with h;injection h with h1 h;injection h with h2 h3
  subst h1 h2 h3
  refine ⟨by omega,by omega,by omega,Or.inr (Or.inr rfl)⟩
 ·cases h
theorem COk.hi {X:Box} {w:World} {F:List Nat} {s:St} {sh:Nat} (h:COk X w F s sh) (x:Nat):COk X w F { s with hi:=x } sh:=by
 obtain ⟨cs,h⟩:=h
 exact ⟨cs,h.wok,h.c0,h.c1,h.c2,h.c3,h.c6,h.c7,h.c8,h.c9,h.row,h.far,h.few,h.byte⟩
theorem Zlf (n x b:Nat) (hx:x≤2147483648):IntKind.u64.wrap (IntKind.u64.wrap (2*IntKind.u64.wrap ((n:Int)-(x:Int)))+(b:Int))=(((2*(n+(18446744073709551616-x))+b) % 18446744073709551616:Nat):Int):=by
 rw [IntKind.wrap_u64,IntKind.wrap_u64,IntKind.wrap_u64]
 omega
structure Zlg (X:Box) (F:List Nat) (w:World) (s:St) (sh k:Nat) (t:St) (F':List Nat) (wr:World):Prop where
 c:COk X wr F' t sh
 fr:Fr F w F' wr
 eq:Yo X.bit 16 s=Yo X.bit k t
 good:Good t
 fuel:4294967296<(t.hi-t.lo+1)*2 ^ k
 at_:t.at_+k≤1000000
theorem Tq69 {p:Prop} (h:p:=by
 clear n3 hq hle hout Y5 hat c2 c6 f2
 go_wp2_with fail
 rw [Exit.noGoto_normal]
 go_end0
 exact ⟨rfl,HE.out _ (by rw [show ((4294967295-t.hi:Nat):Int)=4294967295-(t.hi:Int) from by omega])⟩):p:=h
theorem Zlh {X:Box} {F:List Nat} {s:St} {sh:Nat} (w:World) (h:COk X w F s sh) (hsh:s.hi+sh=4294967295) (hB:X.B≤w.heap.size) (hg:Good s) (hr:131072≤s.hi-s.lo+1) (ha:s.at_≤900000) :
    Calls Tryz.prog 207 #[.pointer (some ⟨X.bw,0,none⟩)] w fun e w'=>e=.returned (.tuple #[])∧∃ F',COk X w' F' (Yo X.bit 16 s) (4294967295-(Yo X.bit 16 s).hi)∧Fr F w F' w':=by
  have HH:=Qh h;clear h
  have H0:=Qh (Qi hsh hB);clear hsh hB
  go_enter Tryz.func207,Tryz.ntmps207
  go_wp2_with fail
  go_step3
  go_wp2_with fail
  refine (Zd7 s.hi w HH.out H0.out.1).mono ?_
  rintro e w' ⟨rfl,rfl⟩
  go_wp2_with fail
  go_step3
  go_wp2_with fail
  go_loopg [2] 16 (fun gh hv wr=>∃ (k:Nat) (t:St) (F':List Nat),gh=k∧hv=.int .u64 (t.hi:Nat)∧Zlg X F w s sh k t F' wr)
  case atStart=>exact ⟨16,s,F,rfl,rfl,HH.out,Fr.refl _ _,rfl,hg,by omega,by omega⟩
  case round=>
    obtain ⟨k,t,F1,hgh,rfl,hR⟩:=hrel
    have Hgh:=Qh hgh;clear hgh
    have HR:=Qh hR;clear hR HH hr ha hg
    obtain ⟨c0,_,c2,_,c6,_,_,hf⟩:=HR.out.c.cells
    have hle:=HR.out.good.le
    have hhi:=HR.out.good.hi
    have hout:=HR.out.good.out
    have hat:=HR.out.at_
    have Y5:=HR.out.good.num
    have f2:=hf 2
    have f1:=hf 1
    clear hf
    rcases hp:pick t with _|⟨x,o,d⟩
    · have hend:∀ wf:World,wf=wr.setCell ⟨X.bw,1,none⟩ (.int .u64 ((4294967295-t.hi:Nat):Int))→∃ F',COk X wf F' (Yo X.bit 16 s) (4294967295-(Yo X.bit 16 s).hi)∧Fr F w F' wf:=by
        rintro wf rfl
        rw [HR.out.eq,J2 hp]
        exact ⟨F1,HR.out.c.set_sh _,HR.out.fr.store HR.out.c.head 1 _⟩
      have HE:=Qh hend;clear hend
      unfold pick at hp
      split at hp
      · cases hp
      rename_i n1
      split at hp
      · cases hp
      rename_i n2
      split at hp
      · cases hp
      rename_i n3
      clear hp
      have i1:(2147483648:Int)≤(t.hi:Nat):=by omega
      have i2:((t.lo:Nat):Int)<2147483648:=by omega
      clear n1 n2
      have d1:decide (((t.hi:Nat):Int)<2147483648)=false:=decide_eq_false (by omega)
      have d2:decide ((2147483648:Int)≤(t.lo:Nat))=false:=decide_eq_false (by omega)
      rcases Nat.lt_or_ge t.lo 1073741824 with hq | hq
      · have d3:decide ((1073741824:Int)≤(t.lo:Nat))=false:=decide_eq_false (by omega)
        have i4:(0:Int)≤4294967295-(t.hi:Nat):=by omega
        exact Tq69
      · have d3:decide ((1073741824:Int)≤(t.lo:Nat))=true:=decide_eq_true (by omega)
        have d4:decide (((t.hi:Nat):Int)<3221225472)=false:=decide_eq_false (by omega)
        exact Tq69
    · obtain ⟨k',rfl⟩:∃ k',k=k'+1:=by
        rcases k with _ | k'
        · have:=HR.out.fuel;simp at this;omega
        · exact ⟨k',rfl⟩
      obtain ⟨hx1,hx2,hx3,hx4⟩:=ZaK hp hle hhi
      have HP:=Qh (Qi hp (Qi hx3 hx4))
      have hxb:x≤2147483648:=by rcases hx4 with rfl|rfl|rfl<;>omega
      have hdl:t.dl≤1000000:=by omega
      have hB:=Nat.le_trans H0.out.2 HR.out.fr.size
      have HB:=Qh hB
      go_upto_block 2 with fail
      go_cut [3] (fun bv wx=>bv=.int .u64 (x:Nat)∧∃ F2,COk X wx F2 { t with out:=o,dl:=d } sh∧Fr F1 wr F2 wx)
      case first=>
        clear hx1 hx2 hx3 hx4 hxb hB
        unfold pick at hp
        split at hp
        · rename_i n1
          injection hp with hp;injection hp with h1 hp;injection hp with h2 h3
          subst h1 h2 h3
          have d1:decide (((t.hi:Nat):Int)<2147483648)=true:=decide_eq_true (by omega)
          clear n1
          go_wp2_with fail
          refine (ZcG false _ HR.out.c HB.out (by omega)).mono ?_
          rintro e w' ⟨rfl,hq⟩
          have HQ:=Qh hq;clear hq
          go_wp2_with fail
          go_meet
          exact ⟨rfl,HQ.out⟩
        rename_i n1
        have d1:decide (((t.hi:Nat):Int)<2147483648)=false:=decide_eq_false (by omega)
        clear n1
        split at hp
        · rename_i n1
          injection hp with hp;injection hp with h1 hp;injection hp with h2 h3
          subst h1 h2 h3
          have d2:decide ((2147483648:Int)≤(t.lo:Nat))=true:=decide_eq_true (by omega)
          clear n1
          go_wp2_with fail
          refine (ZcG true _ HR.out.c HB.out (by omega)).mono ?_
          rintro e w' ⟨rfl,hq⟩
          have HQ:=Qh hq;clear hq
          go_wp2_with fail
          go_meet
          exact ⟨rfl,HQ.out⟩
        rename_i n1
        have d2:decide ((2147483648:Int)≤(t.lo:Nat))=false:=decide_eq_false (by omega)
        clear n1
        split at hp
        · rename_i n1
          injection hp with hp;injection hp with h1 hp;injection hp with h2 h3
          subst h1 h2 h3
          have d3:decide ((1073741824:Int)≤(t.lo:Nat))=true:=decide_eq_true (by omega)
          have d4:decide (((t.hi:Nat):Int)<3221225472)=true:=decide_eq_true (by omega)
          clear n1
          go_wp2_with fail
          go_meet
          exact ⟨rfl,F1,HR.out.c.set_dl (t.dl+1),(Fr.refl _ _).store HR.out.c.head 2 _⟩
        · cases hp
      case rest=>
        obtain ⟨rfl,F2,h2,fr2⟩:=hcut
        obtain ⟨c0,_,_,_,c6,_,_,hf⟩:=h2.cells
        have f0:=hf 0
        clear hf c2 f2 f1 HB hB
        have H2:=Qh (Qi h2 fr2);clear h2 fr2 hp hx3 hx4
        have i0:(x:Int)≤(t.lo:Nat):=by omega
        have i1:(x:Int)≤(t.hi:Nat):=by omega
        go_upto_region 10 with fail
        go_cut [2] (fun hv wx=>hv=.int .u64 ((2*(t.hi-x)+1:Nat):Int)∧COk X wx F2 { t with out:=o,dl:=d,lo:=2*(t.lo-x) } sh∧Fr F1 wr F2 wx)
        case first=>
          go_wp2_with fail
          go_meet
          refine ⟨?_,?_,H2.out.2.store H2.out.1.head 0 _⟩
          · exact congrArg (Value.int .u64) (by omega)
          · have:=H2.out.1.set_lo (2*(t.lo-x))
            rw [show ((2*(t.lo-x):Nat):Int)=2*((t.lo:Int)-(x:Int)) from by omega] at this
            exact this
        case rest=>
          obtain ⟨rfl,h3,fr3⟩:=hcut
          obtain ⟨_,_,_,_,c6,_,_,hf⟩:=h3.cells
          have f6:=hf 6
          clear hf c0 f0
          have H3:=Qh (Qi h3 fr3);clear h3 fr3 H2
          go_upto_region 11 with fail
          go_region_with (
              (refine (Zga _ (H3.out.1.drewN _) (by show t.at_≤_;omega)).mono ?_
               rintro e w3 ⟨rfl,h4,fr4⟩
               obtain ⟨_,_,_,_,c6',_,_,hf'⟩:=h4.cells
               have f6':=hf' 6
               have H4:=Qh (Qi h4 fr4);clear h4 fr4 hf'))
          all_goals
            have hv:=Zlf t.num x (X.bit t.at_) hxb
            rw [hv]
            clear hv
            obtain ⟨nv,env⟩:∃ nv,nv=(2*(t.num+(18446744073709551616-x))+X.bit t.at_) % 18446744073709551616:=⟨_,rfl⟩
            rw [←env]
            have hend:COk X (w3.setCell ⟨X.bw,6,none⟩ (.int .u64 (nv:Nat))) F2 (shift X.bit t x o d) sh:=by
              unfold shift
              rw [←env]
              exact (H4.out.1.set_num nv).hi _
            have hfr:=(((H3.out.2.drewN _).only H4.out.2 H3.out.1.head).store H3.out.1.head 6 (.int .u64 (nv:Nat)))
            have Henv:=Qh env;clear env
            have HE:=Qh (Qi hend hfr)
            clear hend hfr
            go_wp2_with fail
            go_roundg k'
            case measure=>have:=Hgh.out;omega
            case rel=>
              refine ⟨k',shift X.bit t x o d,F2,rfl,rfl,HE.out.1,HR.out.fr.trans HE.out.2,?_,?_,?_,?_⟩
              · rw [HR.out.eq,J3 HP.out.1]
              · exact ⟨by simp only [shift];omega,by simp only [shift];omega,by simp only [shift];have:=HP.out.2.1;omega,by simp only [shift];omega⟩
              · have:=HR.out.fuel
                rw [Nat.pow_succ] at this
                simp only [shift]
                have e:2*(t.hi-x)+1-2*(t.lo-x)+1=2*(t.hi-t.lo+1):=by omega
                rw [e]
                calc 4294967296<(t.hi-t.lo+1)*(2 ^ k'*2):=this
                  _=2*(t.hi-t.lo+1)*2 ^ k':=by rw [Nat.mul_comm (2 ^ k') 2,←Nat.mul_assoc,Nat.mul_comm _ 2]
              · simp only [shift];omega
end
end Go.Proofs.YtlgcfimhfmgkmaaGreatDoor
