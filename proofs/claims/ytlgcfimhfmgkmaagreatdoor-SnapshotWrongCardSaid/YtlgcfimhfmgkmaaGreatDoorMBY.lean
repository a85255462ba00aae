/- Lemmas for the statement. -/
import Derived.Test.YtlgcfimhfmgkmaaGreatDoorMBS
set_option linter.unusedVariables false
set_option linter.unusedSimpArgs false
namespace Go.Proofs.YtlgcfimhfmgkmaaGreatDoor
open Go.RowKit
section
def wS1:Snd:=nxS aS0 1 0
def wS2:Snd:=nxS wS1 2 0
def wR:Rcv:=Zbc aR0 (n4 (aP aS0 1 0) 0) (n4 (aP aS0 1 0) 4) 1 (aE aS0 1 0)
theorem ww_send0:Qu aS0 1 0=true:=by decide +kernel
theorem ww_send1:Qu wS1 2 0=true:=by decide +kernel
theorem ww_box1:Zbg wS1 aS0=true:=by decide +kernel
theorem ww_box2:Zbg wS2 wS1=true:=by decide +kernel
theorem ww_box22:Zbg wS2 wS2=true:=by decide +kernel
theorem ww_box4:Zbg ⟨wS2.cl,wS2.next,wS2.acked,wS2.log++wS2.log.take 1,wS2.items⟩ wS2=true:=by decide +kernel
theorem ww_sm1:wS1.log.all (fun r=>decide (r.es.length≤12))=true:=by decide +kernel
theorem ww_sm2:wS2.log.all (fun r=>decide (r.es.length≤12))=true:=by decide +kernel
theorem ww_smr:wR.log.all (fun r=>decide (r.es.length≤12))=true:=by decide +kernel
theorem ww_len:wS2.log.length=2∧wS2.items.length≤1000∧wR.log.length=1:=by decide +kernel
theorem ww_len1:8≤aN aS0 1 0∧aN aS0 1 0≤1200:=by decide +kernel
theorem ww_r:YV aR0 (aN aS0 1 0) (n4 (aP aS0 1 0) 0) (n4 (aP aS0 1 0) 4)=none:=by decide +kernel
theorem ww_base0:Z6 aR0.log aS0.acked=some Rec.zero∧(aX aS0 1 0).b.tick=0∧(aX aS0 1 0).b.es=[]:=by decide +kernel
theorem ww_val:Zl 1 (aE aS0 1 0)=true∧(aE aS0 1 0).length≤12:=by decide +kernel
theorem ww_num:(wS1.cl=2∧wS1.next=2∧wS1.acked=0)∧(wS2.cl=2∧wS2.next=3∧wS2.acked=0)∧(wR.base=0∧wR.last=1):=by decide +kernel
theorem ww_right:YU wS2=true∧XI wR=true:=by decide +kernel
theorem ww_end:YU ⟨2,1073741825,0,[],[]⟩=true∧JX ⟨2,1073741825,0,[],[]⟩ 3 500 (Zf 0)=false:=by decide +kernel
theorem ww_size {s:Snd} {t size:Int} {es:List Ent} (h:size<400∨1200<size):JX s t size es=true:=by
 unfold JX
 rcases h with h | h
 ·rw [decide_eq_true h];simp
 ·rw [decide_eq_true h];simp
structure BadS (w:World) (s:Snd) (v:Value):Prop where
 V:ZA w s v
 bad:YU s=false
 ak:s.acked≤9223372036854775807
 sm:∀ r,r∈s.log→r.es.length≤12
 ln:s.log.length≤1000
 it:s.items.length≤1000
theorem BadS.below {w w':World} {s:Snd} {v:Value} (h:BadS w s v) (hb:Below w.heap.size w w'):BadS w' s v:=⟨h.V.below hb,h.bad,h.ak,h.sm,h.ln,h.it⟩
structure BadR (w:World) (r:Rcv) (v:Value):Prop where
 V:ZaD w r v
 bad:XI r=false
 sm:r.log.all (fun r=>decide (r.es.length≤12))=true
theorem BadR.below {w w':World} {r:Rcv} {v:Value} (h:BadR w r v) (hb:Below w.heap.size w w'):BadR w' r v:=by
 obtain ⟨⟨LA,ln,lc,e,hL⟩,h2,h3⟩:=h
 exact ⟨⟨LA,ln,lc,e,hL.below hb⟩,h2,h3⟩
theorem bad0 {k:Int} (hk:9≤k) (a b:Int) (l:List Rec) (m:List It):YU ⟨k,a,b,l,m⟩=false:=by
 unfold YU ZbE
 rw [show decide (8<k)=true from decide_eq_true (by omega)]
 simp
theorem bad1:YU ⟨wS2.cl,2,wS2.acked,wS2.log,wS2.items⟩=false:=by decide +kernel
theorem bad2 {k:Int} (hk:k≤0) (a b:Int) (l:List Rec) (m:List It):YU ⟨a,k,b,l,m⟩=false:=by
 unfold YU ZbE
 rw [show decide (k<1)=true from decide_eq_true (by omega)]
 simp
theorem bad3:YU ⟨wS2.cl,wS2.next,2,wS2.log,wS2.items⟩=false:=by decide +kernel
theorem bad4:YU ⟨wS2.cl,wS2.next,wS2.acked,wS2.log++wS2.log.take 1,wS2.items⟩=false:=by decide +kernel
theorem bad4s:(wS2.log++wS2.log.take 1).all (fun r=>decide (r.es.length≤12))=true:=by decide +kernel
theorem bad5 {k:Int} (hk:k≤-1) (a b:Int) (l:List Rec) (m:List It):YU ⟨a,b,k,l,m⟩=false:=by
 unfold YU ZbE
 rw [show decide (k<0)=true from decide_eq_true (by omega)]
 simp
theorem bad6:XI ⟨wR.base,2,wR.log⟩=false:=by decide +kernel
theorem bad7:XI ⟨1,wR.last,wR.log⟩=false:=by decide +kernel
theorem bad8:XI ⟨wR.base,wR.last,[]⟩=false:=by decide +kernel
theorem bad9 {k:Int} (hk:k≤-1) (a:Int) (l:List Rec):XI ⟨k,a,l⟩=false:=by
 unfold XI Zdw
 rw [show decide (k<0)=true from decide_eq_true (by omega)]
 simp
theorem bad10:XI ⟨wR.base,wR.last,wR.log++[⟨3,0,0,[]⟩]⟩=false:=by decide +kernel
theorem bad10s:(wR.log++[(⟨3,0,0,[]⟩:Rec)]).all (fun r=>decide (r.es.length≤12))=true:=by decide +kernel
theorem bad11:XI ⟨wR.base,0,wR.log⟩=false:=by decide +kernel
theorem all12 {l:List Rec} (h:l.all (fun r=>decide (r.es.length≤12))=true):∀ r,r∈l→r.es.length≤12:=fun r hr=>of_decide_eq_true (List.all_eq_true.1 h r hr)
theorem wrong_send {s:Snd} {t size h:Int} {v:Value} {b:Nat} {w:World} (hT:Tabs w) (hS:ZA w s v) (hA:Zj w (some ⟨b,0,none⟩) 3 3 (Zf h)) (hak:s.acked≤9223372036854775807) (hes:∀ r,r∈s.log→r.es.length≤12) (hb:JX s t size (Zf h)=true) :
  Calls Tryz.prog 13 #[v,.agg #[.int .i64 t,.slice (some ⟨b,0,none⟩) 3 3],.int .i64 size] w fun e w'=>e=.returned (.tuple #[.agg #[.int .i64 0,.int .i64 0,.int .i64 0,.slice none 0 0,.slice none 0 0],.slice none 0 0,.int .i64 2])∧Below w.heap.size w w':=by
 refine (ZqZ s t size (Zf h) v _ 3 3 w hT hS hA hak hes (ZjL h)).mono ?_
 rintro e w' ⟨u,rfl,hR⟩
 obtain ⟨rfl,hbl⟩:=send_bad hR hb
 exact ⟨rfl,hbl⟩
theorem bad_sends {s:Snd} {t size h:Int} {v:Value} {b:Nat} {w:World} (hT:Tabs w) (hS:BadS w s v) (hA:Zj w (some ⟨b,0,none⟩) 3 3 (Zf h)) :
  Calls Tryz.prog 13 #[v,.agg #[.int .i64 t,.slice (some ⟨b,0,none⟩) 3 3],.int .i64 size] w fun e w'=>e=.returned (.tuple #[.agg #[.int .i64 0,.int .i64 0,.int .i64 0,.slice none 0 0,.slice none 0 0],.slice none 0 0,.int .i64 2])∧Below w.heap.size w w':=
 wrong_send hT hS.V hA hS.ak hS.sm (by unfold JX;rw [hS.bad];rfl)
theorem full_send {t h:Int} {v:Value} {b:Nat} {w:World} (hT:Tabs w) (hS:ZA w ⟨2,1073741825,0,[],[]⟩ v) (hA:Zj w (some ⟨b,0,none⟩) 3 3 (Zf 0)) :
  Calls Tryz.prog 13 #[v,.agg #[.int .i64 3,.slice (some ⟨b,0,none⟩) 3 3],.int .i64 500] w fun e w'=>e=.returned (.tuple #[.agg #[.int .i64 0,.int .i64 0,.int .i64 0,.slice none 0 0,.slice none 0 0],.slice none 0 0,.int .i64 4])∧Below w.heap.size w w':=by
 refine (ZqZ ⟨2,1073741825,0,[],[]⟩ 3 500 (Zf 0) v _ 3 3 w hT hS hA (by decide) (fun r hr=>by cases hr) (ZjL 0)).mono ?_
 rintro e w' ⟨u,rfl,hR⟩
 rcases hR with ⟨h1,_⟩|⟨_,_,rfl,hb⟩|⟨⟨_,h1⟩,_⟩
 ·rw [ww_end.2] at h1;cases h1
 ·exact ⟨rfl,hb⟩
 ·exact absurd h1 (by decide)
theorem bad_acks {s:Snd} {k:Int} {v:Value} {w:World} (hT:Tabs w) (hS:BadS w s v) :
  Calls Tryz.prog 17 #[v,.int .i64 k] w fun e w'=>e=.returned (.tuple #[.agg #[.int .i64 0,.int .i64 0,.int .i64 0,.slice none 0 0,.slice none 0 0],.int .i64 2])∧Below w.heap.size w w':=by
 refine (ZdV s k v w hT hS.V hS.ak hS.ln hS.sm (by have:=hS.it;omega)).mono ?_
 rintro e w' ⟨u,rfl,h1⟩
 rcases h1 with ⟨_,rfl,hb⟩|⟨e1,_⟩|⟨e1,_⟩|⟨e1,_⟩
 ·exact ⟨rfl,hb⟩
 ·rw [hS.bad] at e1;cases e1
 ·rw [hS.bad] at e1;cases e1
 ·rw [hS.bad] at e1;cases e1
theorem right_V {s:Snd} {v:Value} {w:World} (hT:Tabs w) (hS:ZA w s v) (hak:s.acked≤9223372036854775807):Calls Tryz.prog 21 #[v] w fun e w'=>e=.returned (.bool (YU s))∧Below w.heap.size w w':=by
 obtain ⟨LA,IA,ln,lc,iN,ic,rfl,hL,hI,_⟩:=hS
 exact ZiD s.cl s.next s.acked s.log s.items LA IA ln lc iN ic w hT hL hI hak
theorem bad_right {s:Snd} {v:Value} {w:World} (hT:Tabs w) (hS:BadS w s v):Calls Tryz.prog 21 #[v] w fun e w'=>e=.returned (.bool false)∧Below w.heap.size w w':=by
 have h:=right_V hT hS.V hS.ak
 rw [hS.bad] at h
 exact h
theorem bad_latest {r:Rcv} {v:Value} {w:World} (hT:Tabs w) (hR:BadR w r v):Calls Tryz.prog 22 #[v] w fun e w'=>e=.returned (.tuple #[.agg #[.int .i64 0,.int .i64 0,.int .i64 0,.slice none 0 0],.bool false])∧Below w.heap.size w w':=by
 obtain ⟨LA,ln,lc,rfl,hL⟩:=hR.V
 have hl:Zcw r=false:=by unfold Zcw;rw [hR.bad];rfl
 refine (ZqW r LA ln lc w hT hL (all12 hR.sm)).mono ?_
 rintro e w' ⟨u,rfl,h1⟩
 rcases h1 with ⟨_,rfl,hb⟩|⟨e1,_⟩
 ·exact ⟨rfl,hb⟩
 ·rw [hl] at e1;cases e1
theorem bad_valid {r:Rcv} {v:Value} {w:World} (hT:Tabs w) (hR:BadR w r v):Calls Tryz.prog 23 #[v] w fun e w'=>e=.returned (.bool false)∧Below w.heap.size w w':=by
 obtain ⟨LA,ln,lc,rfl,hL⟩:=hR.V
 have h:=Zjt r.base r.last r.log LA ln lc w hT hL
 rw [show XI ⟨r.base,r.last,r.log⟩=false from hR.bad] at h
 exact h
theorem bad_receives {r:Rcv} {u v:Value} {B:Nat} {w:World} (hT:Tabs w) (hR:BadR w r u) (hp:w.ownsRow B 5 1 v (aN aS0 1 0) (X7 (aX aS0 1 0) (aK aS0 0))) :
  Calls Tryz.prog 14 #[u,v] w fun e w'=>e=.returned (.tuple #[.agg #[.int .i64 0,.int .i64 0,.slice none 0 0],.agg #[.int .i64 0,.slice none 0 0],.int .i64 2])∧Below w.heap.size w w':=
 ZjN (s:=aS0) (t:=1) (h:=0) hT hR.V hp ⟨by decide,by decide⟩ ww_send0 hR.sm (ZqF hR.bad)
def Pay261 (w:World) (A:Option Addr) (n c:Nat):Prop:=n<8∨∃ b o f,A=some ⟨b,o,none⟩∧Z8 w (some ⟨b,o,none⟩) n f∧(8≤n∧n≤c∧n≤1000000)∧(∀ i,f i<256)∧(n4 f 0<1∨1073741824<n4 f 0∨n4 f 0≤n4 f 4)
theorem Pay261.below {w w':World} {A:Option Addr} {n c:Nat} (h:Pay261 w A n c) (hb:Below w.heap.size w w'):Pay261 w' A n c:=by
 rcases h with h|⟨b,o,f,e,hB,h⟩
 ·exact .inl h
 ·exact .inr ⟨b,o,f,e,ZdJ hB hb,h⟩
theorem pay_refused {r:Rcv} {u:Value} {A:Option Addr} {n c:Nat} {w:World} (hT:Tabs w) (hR:ZaD w r u) (hv:XI r=true) (hsm:r.log.all (fun r=>decide (r.es.length≤12))=true) (hp:Pay261 w A n c) :
  Calls Tryz.prog 14 #[u,.slice A n c] w fun e w'=>e=.returned (.tuple #[.agg #[.int .i64 0,.int .i64 0,.slice none 0 0],.agg #[.int .i64 0,.slice none 0 0],.int .i64 261])∧Below w.heap.size w w':=by
 obtain ⟨LA,ln,lc,rfl,hL⟩:=hR
 have fin:∀ (f:Nat→Nat) (e:Ending) (w':World),YV r n (n4 f 0) (n4 f 4)=some 261→(∃ v,e=.returned v∧ZfF w w' r n f 0 [] v)→e=.returned (.tuple #[.agg #[.int .i64 0,.int .i64 0,.slice none 0 0],.agg #[.int .i64 0,.slice none 0 0],.int .i64 261])∧Below w.heap.size w w':=by
  rintro f e w' he ⟨v,rfl,h1⟩
  rcases h1 with ⟨k,h1,rfl,hb⟩|⟨h1,_⟩
  ·rw [he] at h1
   injection h1 with h1
   rw [←h1]
   exact ⟨rfl,hb⟩
  ·rw [he] at h1;cases h1
 rcases hp with h8|⟨b,o,f,rfl,hB,⟨h8,hc,hm⟩,hf,h4⟩
 ·refine (Receive_short ⟨r,LA,ln,lc,0,0,0,0,fun _=>0,w.heap.size⟩ A n c 0 [] w rfl hT hL (fun i hi=>absurd hi (Nat.not_lt_zero i)) h8).mono (fun e w' h=>fin (fun _=>0) e w' (recvE_8 hv h8) h)
 ·have he:YV r n (n4 f 0) (n4 f 4)=some 261:=ZqG hv (by omega) h4
  refine (ZqM ⟨r,LA,ln,lc,b,o,n,c,f,w.heap.size⟩ 0 [] w rfl hT hL hB h8 ⟨hc,hm⟩ hf (all12 hsm) (fun h0=>?_)).mono (fun e w' h=>fin f e w' he h)
  rw [show YV (⟨r,LA,ln,lc,b,o,n,c,f,w.heap.size⟩:RI).r (⟨r,LA,ln,lc,b,o,n,c,f,w.heap.size⟩:RI).pn (n4 (⟨r,LA,ln,lc,b,o,n,c,f,w.heap.size⟩:RI).f 0) (n4 (⟨r,LA,ln,lc,b,o,n,c,f,w.heap.size⟩:RI).f 4)=some 261 from he] at h0
  cases h0
end
end Go.Proofs.YtlgcfimhfmgkmaaGreatDoor
