/- Lemmas for the statement. -/
import Derived.Test.YtlgcfimhfmgkmaaGreatDoorRows
import Derived.Test.YtlgcfimhfmgkmaaGreatDoorMAF
import Derived.LaidMore
import Derived.Stop.Joined
import Derived.Maps.Own
import Derived.Maps.OwnSet
import Derived.Maps.OwnOps
import Derived.Maps.Views
set_option linter.unusedVariables false
set_option linter.unusedSimpArgs false
set_option maxRecDepth 100000
set_option maxHeartbeats 2000000
namespace Go.Proofs.YtlgcfimhfmgkmaaGreatDoor
open Go.RowKit
section
open Go.ChangeShapes Go.WideShapes Go.ChangeAt Go.RowKit
theorem Zl1 : Tryz.prog.globalNamed "marches/store.ranges" = some 1 := by kernel_rfl
theorem Zl2 : Tryz.prog.globalNamed "marches/delta.sizes" = some 0 := by kernel_rfl
theorem Zl3:(Tryz.prog.globals[1]?).map (·.type)=some 233:=by kernel_rfl
theorem Zl4:(Tryz.prog.globals[0]?).map (·.type)=some 203:=by kernel_rfl
theorem Zl5:Tryz.prog.underlying 233=some (.array 11 232):=by kernel_rfl
theorem Zl6:Tryz.prog.underlying 232=some (.array 4 231):=by kernel_rfl
theorem Zl7:Tryz.prog.underlying 203=some (.array 11 3):=by kernel_rfl
theorem Zl8:Tryz.prog.cellsOf 232=8:=by kernel_rfl
theorem ZgF:Tryz.prog.cellsOf 231=2:=by kernel_rfl
theorem Zej:Tryz.prog.cellsOf 3=1:=by kernel_rfl
theorem Zek:Tryz.prog.underlying 3=some (.int .i64):=by kernel_rfl
theorem Zl9:∃ f0 f1,Tryz.prog.underlying 231=some (.struct #[f0,f1])∧(f0.type=3∧f1.type=3)∧f0.offset=0∧f1.offset=1:=⟨_,_,Tryz.underlying231,⟨rfl,rfl⟩,rfl,rfl⟩
section
variable {H:Type} {enc:TypeId × Value→H} {W:World} {base:Nat} {spare:Nat→Bool} {held:Bool} {fuel:Nat}
theorem Zma {cs:List Value} {a b:Int} {p:List MemPlace} (h:DataW.trod enc Tryz.prog W base spare held fuel 231 cs=some (.agg [.lit (.int .i64 a),.lit (.int .i64 b)],p)):cs[0]?=some (.int .i64 a)∧cs[1]?=some (.int .i64 b):=by
 obtain ⟨f0,f1,hu,⟨t0,t1⟩,o0,o1⟩:=Zl9
 obtain ⟨y0,y1,n,hx,hl,h0,h1⟩:=trod_struct2 hu h
 rw [t0,o0,Zej] at h0
 rw [t1,o1,Zej] at h1
 obtain ⟨k0,e0,rfl,_⟩:=DataW.trod_int Zek h0
 obtain ⟨k1,e1,rfl,_⟩:=DataW.trod_int Zek h1
 rw [ZgF] at hl
 simp only [Prod.mk.injEq,DataW.agg.injEq,List.cons.injEq,DataW.lit.injEq,Lit.int.injEq] at hx
 obtain ⟨⟨⟨_,rfl⟩,⟨_,rfl⟩,_⟩,_⟩:=hx
 rcases cs with _|⟨c0,_|⟨c1,_|⟨c2,cs⟩⟩⟩
 ·cases hl
 ·cases hl
 ·simp at e0 e1
  rw [e0,e1]
  exact ⟨rfl,rfl⟩
 ·simp at hl
theorem Zel {t e:TypeId} {n c:Nat} {cs:List Value} {ds:List (DataW H)} {p:List MemPlace} (ht:Tryz.prog.underlying t=some (.array n e)) (hc:Tryz.prog.cellsOf e=c) (h:DataW.trod enc Tryz.prog W base spare held fuel t cs=some (.agg ds,p)) {i:Nat} (hi:i<n) {d:DataW H} (hd:ds[i]?=some d) :
  ∃ m q,DataW.trod enc Tryz.prog W base spare held m e ((cs.drop (i*c)).take c)=some (d,q):=by
 obtain ⟨xs,m,_,hx,_,hn,hel⟩:=DataW.trod_array ht h
 simp only [Prod.mk.injEq,DataW.agg.injEq] at hx
 have h0:=hel i hi
 rw [hc,List.getElem?_eq_getElem (by omega)] at h0
 rw [hx.1,List.getElem?_map,List.getElem?_eq_getElem (by omega)] at hd
 injection hd with hd
 refine ⟨m,(xs[i]'(by omega)).2,?_⟩
 rw [h0,←hd]
end
theorem Zb2 {l:List Value} {a c j:Nat} {u:Value} (h:((l.drop a).take c)[j]?=some u):l[a+j]?=some u:=by
 rw [List.getElem?_take] at h
 split at h
 ·rwa [List.getElem?_drop] at h
 ·cases h
theorem Zmb {H:Type}:∃ rs:List (DataW H),Rows.laid_marches_store_ranges=.agg rs∧∀ k,k≤10→∃ r,rs[k]?=some (.agg r)∧∀ i,i<4→r[i]?=some (.agg [.lit (.int .i64 (rgL k i)),.lit (.int .i64 (rgH k i))]):=by
 refine ⟨_,rfl,fun k hk=>?_⟩
 rcases (show k=0∨k=1∨k=2∨k=3∨k=4∨k=5∨k=6∨k=7∨k=8∨k=9∨k=10 from by omega) with rfl|rfl|rfl|rfl|rfl|rfl|rfl|rfl|rfl|rfl|rfl
 all_goals
  refine ⟨_,rfl,fun i hi=>?_⟩
  rcases (show i=0∨i=1∨i=2∨i=3 from by omega) with rfl|rfl|rfl|rfl<;>rfl
theorem Zmc {H:Type}:∃ rs:List (DataW H),Rows.laid_marches_delta_sizes=.agg rs∧∀ k,k≤10→rs[k]?=some (.lit (.int .i64 ((([0,2,2,4,1,1,1,4,2,4,4]:List Nat).getD k 0:Nat):Int))):=by
 refine ⟨_,rfl,fun k hk=>?_⟩
 rcases (show k=0∨k=1∨k=2∨k=3∨k=4∨k=5∨k=6∨k=7∨k=8∨k=9∨k=10 from by omega) with rfl|rfl|rfl|rfl|rfl|rfl|rfl|rfl|rfl|rfl|rfl<;>rfl
theorem of_laid {W : World} (h : laidMetH Tryz.prog [("marches/store.ranges", Rows.laid_marches_store_ranges), ("marches/delta.sizes", Rows.laid_marches_delta_sizes)] W) : Tabs W := by
 rw [MakeChecks.laidMetH_plain _ _ _ (by kernel_rfl)] at h
 obtain ⟨ps,⟨g0,t0,cs0,f0,p0,q0,hg0,ht0,hv0,hd0,⟨g1,t1,cs1,f1,p1,q1,hg1,ht1,hv1,hd1,_,_⟩,_⟩,_,_⟩:=h
 obtain rfl:=Option.some.inj (Zl1.symm.trans hg0)
 obtain rfl:=Option.some.inj (Zl2.symm.trans hg1)
 obtain rfl:=Option.some.inj (Zl3.symm.trans ht0)
 obtain rfl:=Option.some.inj (Zl4.symm.trans ht1)
 refine ⟨fun k i hk hi=>?_,fun k hk=>?_⟩
 ·obtain ⟨rs,ers,hrs⟩:=Zmb (H:=_)
  rw [ers] at hd0
  obtain ⟨r,hr,hri⟩:=hrs k hk
  obtain ⟨m,q,h1⟩:=Zel Zl5 Zl8 hd0 (i:=k) (by omega) hr
  obtain ⟨m2,q2,h2⟩:=Zel Zl6 ZgF h1 hi (hri i hi)
  obtain ⟨c0,c1⟩:=Zma h2
  have d0:=Zb2 (Zb2 c0)
  have d1:=Zb2 (Zb2 c1)
  rw [World.var?_cell hg0 hv0,World.var?_cell hg0 hv0]
  rw [←Array.getElem?_toList,←Array.getElem?_toList]
  exact ⟨d0,d1⟩
 ·obtain ⟨rs,ers,hrs⟩:=Zmc (H:=_)
  rw [ers] at hd1
  obtain ⟨m,q,h1⟩:=Zel Zl7 Zej hd1 (i:=k) (by omega) (hrs k hk)
  obtain ⟨n,e1,e2,_⟩:=DataW.trod_int Zek h1
  simp only [Prod.mk.injEq,DataW.lit.injEq,Lit.int.injEq] at e2
  have d0:=Zb2 (j:=0) (show ((cs1.toList.drop (k*1)).take 1)[0]?=some (.int .i64 n) from by rw [e1];rfl)
  rw [World.var?_cell hg1 hv1,←Array.getElem?_toList,e2.1.2]
  rw [Nat.mul_one,Nat.add_zero] at d0
  exact d0
end
end Go.Proofs.YtlgcfimhfmgkmaaGreatDoor
namespace Go.Proofs.YtlgcfimhfmgkmaaGreatDoor
open Go.RowKit
section
def J9:Nat→Value
 | 0=>.pointer none
 | b+1=>.pointer (some ⟨b,0,none⟩)
def pR:Value→Option (DataW Unit × List MemPlace)
 | .pointer none=>some (.lit (.int .u64 0),[])
 | .pointer (some ⟨b,0,none⟩)=>some (.lit (.int .u64 ((b:Int)+1)),[])
 | _=>none
theorem ZgG (k:Nat):pR (J9 k)=some (.lit (.int .u64 (k:Int)),[]):=by
 rcases k with _ | b
 ·rfl
 ·show some _=some _
  rw [Int.natCast_succ]
theorem Zmd {v:Value} {k:Nat} {ps:List MemPlace} (h:pR v=some (.lit (.int .u64 (k:Int)),ps)):v=J9 k:=by
 unfold pR at h
 split at h
 ·injection h with h;injection h with h _;injection h with h;injection h with _ h
  have:k=0:=by omega
  subst this;rfl
 ·rename_i b
  injection h with h;injection h with h _;injection h with h;injection h with _ h
  have:k=b+1:=by omega
  subst this;rfl
 ·cases h
theorem wf_i64 {k:Int} (h0:-9223372036854775808≤k) (h1:k≤9223372036854775807):(Lit.int .i64 k).wf=true:=by
 have:=wrap64_wf k
 rwa [Zn k h0 h1] at this
theorem ZcX (k:Int) (h0:-9223372036854775808≤k) (h1:k≤9223372036854775807):keyOf Tryz.prog 3 (.int .i64 k)=some (.int .i64 k):=
 Maps.keyOf_int_mk Tryz.underlying3 (wf_i64 h0 h1)
def Yd (w:World) (b n:Nat) (tbl:Int→Nat):Prop:=
 ∃ D,w.ownsMap Tryz.prog 3 pR b n D∧∀ k:Int,-9223372036854775808≤k→k≤9223372036854775807→D.atKey (.int .i64 k) (.lit (.int .u64 0))=.lit (.int .u64 ((tbl k:Nat):Int))
def Jo (t:Int→Nat) (k:Int) (v:Nat):Int→Nat:=fun i=>if i=k then v else t i
theorem Yd.made (w:World):Yd (w.alloc (.map #[] 0)) w.heap.size 0 (fun _=>0):=
 ⟨.map [],World.ownsMap_made w _ _ _,fun k _ _=>rfl⟩
theorem Yd.start {w:World} {b:Nat} (h:w.heap[b]?=some (.map #[] 0)):Yd w b 0 (fun _=>0):=by
 obtain ⟨D,⟨es,ck,hb,r⟩,h2⟩:=Yd.made w
 rw [heap_alloc_new] at hb
 injection hb with hb;injection hb with hb1 hb2
 subst hb1 hb2
 exact ⟨D,⟨_,_,h,r⟩,h2⟩
theorem Yd.keep {w w':World} {b n:Nat} {t:Int→Nat} (h:Yd w b n t) (hs:w'.heap[b]?=w.heap[b]?):Yd w' b n t:=by
 obtain ⟨D,⟨es,ck,hb,r⟩,h2⟩:=h
 exact ⟨D,⟨es,ck,hs.trans hb,r⟩,h2⟩
theorem Yd.blk {w:World} {b n:Nat} {t:Int→Nat} (h:Yd w b n t):∃ es ck,w.heap[b]?=some (.map es ck):=by
 obtain ⟨D,⟨es,ck,hb,r⟩,h2⟩:=h
 exact ⟨es,ck,hb⟩
theorem Yd.look {w:World} {b n:Nat} {t:Int→Nat} {T E:TypeId} (h:Yd w b n t) (ht:Tryz.prog.underlying T=some (.map 3 E)) (hz:(zeroValue E).run Tryz.prog w=.ok (.pointer none) w) (k:Int) (h0:-9223372036854775808≤k) (h1:k≤9223372036854775807) :
  (Instr.lookup T (.map (some b)) (.int .i64 k) false).run Tryz.prog w=.ok (J9 (t k)) w:=by
 obtain ⟨D,hD,hat⟩:=h
 obtain ⟨v,ps,hrun,hv⟩:=hD.lookup (Maps.int_keyed Tryz.underlying3) ht hz (ZgG 0) (ZcX k h0 h1)
 rw [hrun]
 have:=hat k h0 h1
 rw [show ((0:Nat):Int)=0 from rfl,this] at hv
 rw [Zmd hv]
theorem Yd.put {w:World} {b n:Nat} {t:Int→Nat} {T E:TypeId} (h:Yd w b n t) (ht:Tryz.prog.underlying T=some (.map 3 E)) (hn:n<maxLen) (k:Int) (h0:-9223372036854775808≤k) (h1:k≤9223372036854775807) (v:Nat) :
  ∃ w',(Instr.mapUpdate T (.map (some b)) (.int .i64 k) (J9 v)).run Tryz.prog w=.ok () w'∧Yd w' b (n+1) (Jo t k v)∧w.grownBy w' (some b):=by
 obtain ⟨D,hD,hat⟩:=h
 obtain ⟨w',hrun,hown,hg⟩:=hD.update (Maps.int_keyed Tryz.underlying3) ht hn (ZcX k h0 h1) (ZgG v)
 refine ⟨w',hrun,⟨_,hown,fun i i0 i1=>?_⟩,hg⟩
 by_cases e:i=k
 ·subst e
  rw [Maps.atKey_put_same hD.isMap (show WideAt.IsKeyLit (.int .i64 i) from by simp [WideAt.IsKeyLit])]
  unfold Jo;rw [if_pos rfl]
 ·rw [Maps.atKey_put_other (by intro e2;injection e2 with _ e2;exact e e2),hat i i0 i1]
  unfold Jo;rw [if_neg e]
def YK (w:World) (b n:Nat) (tbl:Int→Int):Prop:=
 ∃ D,w.ownsMap (H:=Unit) Tryz.prog 3 (plainElem Tryz.prog 3) b n D∧∀ k:Int,-9223372036854775808≤k→k≤9223372036854775807→D.atKey (.int .i64 k) (.lit (.int .i64 0))=.lit (.int .i64 (tbl k))
def Qc (t:Int→Int) (k:Int) (v:Int):Int→Int:=fun i=>if i=k then v else t i
theorem YK.made (w:World):YK (w.alloc (.map #[] 0)) w.heap.size 0 (fun _=>0):=
 ⟨.map [],World.ownsMap_made w _ _ _,fun k _ _=>rfl⟩
theorem YK.start {w:World} {b:Nat} (h:w.heap[b]?=some (.map #[] 0)):YK w b 0 (fun _=>0):=by
 obtain ⟨D,⟨es,ck,hb,r⟩,h2⟩:=YK.made w
 rw [heap_alloc_new] at hb
 injection hb with hb;injection hb with hb1 hb2
 subst hb1 hb2
 exact ⟨D,⟨_,_,h,r⟩,h2⟩
theorem YK.keep {w w':World} {b n:Nat} {t:Int→Int} (h:YK w b n t) (hs:w'.heap[b]?=w.heap[b]?):YK w' b n t:=by
 obtain ⟨D,⟨es,ck,hb,r⟩,h2⟩:=h
 exact ⟨D,⟨es,ck,hs.trans hb,r⟩,h2⟩
theorem YK.lt {w:World} {b n:Nat} {t:Int→Int} (h:YK w b n t):b<w.heap.size:=by
 obtain ⟨D,⟨es,ck,hb,r⟩,h2⟩:=h
 exact Zh hb
theorem YK.look {w:World} {b n:Nat} {t:Int→Int} {T:TypeId} (h:YK w b n t) (ht:Tryz.prog.underlying T=some (.map 3 3)) (hz:(zeroValue 3).run Tryz.prog w=.ok (.int .i64 0) w) (k:Int) (h0:-9223372036854775808≤k) (h1:k≤9223372036854775807) :
  (Instr.lookup T (.map (some b)) (.int .i64 k) false).run Tryz.prog w=.ok (.int .i64 (t k)) w:=by
 obtain ⟨D,hD,hat⟩:=h
 obtain ⟨c,hrun,hv,_⟩:=hD.lookup_int (Maps.int_keyed Tryz.underlying3) ht Tryz.underlying3 hz (ZcX k h0 h1)
 rw [hrun]
 rw [hat k h0 h1] at hv
 simp only [DataW.lit.injEq,Lit.int.injEq,true_and] at hv
 rw [hv]
theorem YK.put {w:World} {b n:Nat} {t:Int→Int} {T:TypeId} (h:YK w b n t) (ht:Tryz.prog.underlying T=some (.map 3 3)) (hn:n<maxLen) (k:Int) (h0:-9223372036854775808≤k) (h1:k≤9223372036854775807) (v:Int) (v0:-9223372036854775808≤v) (v1:v≤9223372036854775807) :
  ∃ w',(Instr.mapUpdate T (.map (some b)) (.int .i64 k) (.int .i64 v)).run Tryz.prog w=.ok () w'∧YK w' b (n+1) (Qc t k v)∧w.grownBy w' (some b):=by
 obtain ⟨D,hD,hat⟩:=h
 obtain ⟨w',hrun,hown,hg⟩:=hD.update (Maps.int_keyed Tryz.underlying3) ht hn (ZcX k h0 h1) (plainElem_int Tryz.underlying3 (a:=v) (wf_i64 v0 v1))
 refine ⟨w',hrun,⟨_,hown,fun i i0 i1=>?_⟩,hg⟩
 by_cases e:i=k
 ·subst e
  rw [Maps.atKey_put_same hD.isMap (show WideAt.IsKeyLit (.int .i64 i) from by simp [WideAt.IsKeyLit])]
  unfold Qc;rw [if_pos rfl]
 ·rw [Maps.atKey_put_other (by intro e2;injection e2 with _ e2;exact e e2),hat i i0 i1]
  unfold Qc;rw [if_neg e]
end
section
open M (blen zig zag)
def XM (n:Int):Nat:=(n % 18446744073709551616).toNat
theorem ZgH (n:Int):XM n<18446744073709551616:=by unfold XM;omega
theorem Zme (x:Nat) (h:x<18446744073709551616):x ^^^ 18446744073709551615=18446744073709551615-x:=by
 have:=congrArg BitVec.toNat (BitVec.xor_allOnes (x:=BitVec.ofNat 64 x))
 rw [BitVec.toNat_xor,BitVec.toNat_not,BitVec.toNat_ofNat,BitVec.toNat_allOnes,Nat.mod_eq_of_lt (by simpa using h)] at this
 simpa using this
theorem ZgI (n:Int) (n0:-9223372036854775808≤n) (n1:n≤9223372036854775807) :
  bits BinOp.xor IntKind.u64 (IntKind.u64.wrap (IntKind.u64.wrap n*2)) (IntKind.u64.wrap (n / 9223372036854775808))=((zig (XM n):Nat):Int):=by
 unfold XM zig
 by_cases h:n<0
 ·have e1:IntKind.u64.wrap (n / 9223372036854775808)=((18446744073709551615:Nat):Int):=by rw [IntKind.wrap_u64];omega
  have e2:IntKind.u64.wrap (IntKind.u64.wrap n*2)=(((2*n+18446744073709551616).toNat:Nat):Int):=by rw [IntKind.wrap_u64,IntKind.wrap_u64];omega
  rw [e1,e2,u64_xor_nat _ _ (by omega) (by omega),Zme _ (by omega),if_neg (by omega)]
  omega
 ·have e1:IntKind.u64.wrap (n / 9223372036854775808)=((0:Nat):Int):=by rw [IntKind.wrap_u64];omega
  have e2:IntKind.u64.wrap (IntKind.u64.wrap n*2)=(((2*n).toNat:Nat):Int):=by rw [IntKind.wrap_u64,IntKind.wrap_u64];omega
  rw [e1,e2,u64_xor_nat _ _ (by omega) (by omega),Nat.xor_zero,if_pos (by omega)]
  omega
theorem Zmf (n:Int) (n0:0≤n) (n1:n≤9223372036854775807):bits BinOp.xor IntKind.u64 (n*2) (n / 9223372036854775808)=((zig (XM n):Nat):Int):=by
 rw [←ZgI n (by omega) n1]
 congr 1<;>(simp only [IntKind.wrap_u64];omega)
def sOf (u:Nat):Int:=if u<9223372036854775808 then (u:Int) else (u:Int)-18446744073709551616
theorem Zmg {n:Int} (n0:-9223372036854775808≤n) (n1:n≤9223372036854775807):sOf (XM n)=n:=by unfold XM sOf;split<;>omega
theorem Zmh (V:Nat) (h:V<18446744073709551616):bits BinOp.xor IntKind.i64 ((V:Int) / 2) (wrap64 (-wrap64 (bits BinOp.and IntKind.u64 (V:Int) 1)))=sOf (zag V):=by
 have h1:bits BinOp.and IntKind.u64 (V:Int) 1=((V % 2:Nat):Int):=by
  have:=u64_and_nat V 1 h (by omega)
  rw [Nat.and_one_is_mod] at this
  exact this
 rw [h1]
 have e1:wrap64 (-wrap64 ((V % 2:Nat):Int))=-((V % 2:Nat):Int):=by unfold wrap64;omega
 rw [e1]
 show IntKind.i64.wrap ((BitVec.ofInt 64 ((V:Int) / 2) ^^^ BitVec.ofInt 64 (-((V % 2:Nat):Int))).toNat:Int)=_
 have e2:(BitVec.ofInt 64 ((V:Int) / 2)).toNat=V / 2:=by rw [BitVec.toNat_ofInt];omega
 unfold sOf zag
 rcases Nat.mod_two_eq_zero_or_one V with h2 | h2
 ·rw [h2,if_pos rfl]
  have:BitVec.ofInt 64 (-((0:Nat):Int))=0#64:=rfl
  rw [this,BitVec.xor_zero,e2,if_pos (by omega),IntKind.wrap_i64]
  omega
 ·have:BitVec.ofInt 64 (-((1:Nat):Int))=BitVec.allOnes 64:=rfl
  rw [h2,if_neg (show ¬ (1:Nat)=0 by decide),this,BitVec.xor_allOnes,BitVec.toNat_not,e2,if_neg (by omega),IntKind.wrap_i64]
  omega
theorem Zem (n:Int):zig (XM n)<18446744073709551616:=by have:=M.zig_lt (n:=XM n) (by simpa using ZgH n);simpa using this
theorem ZgJ {Z k:Nat}:(0:Int)<(Z:Int) / 2 ^ k↔k<blen Z:=by
 have e:(Z:Int) / 2 ^ k=((Z / 2 ^ k:Nat):Int):=by rw [Int.natCast_ediv,Int.natCast_pow];rfl
 rw [e]
 have hp:=Nat.two_pow_pos k
 rcases Nat.eq_zero_or_pos Z with rfl | h0
 ·simp [blen]
 ·obtain ⟨b1,b2,b3⟩:=M.blen_bd h0
  constructor
  ·intro h
   have h1:0<Z / 2 ^ k:=by omega
   have h2:=Nat.div_pos_iff.1 h1
   have h3:2 ^ k<2 ^ blen Z:=by omega
   exact (Nat.pow_lt_pow_iff_right (by decide)).1 h3
  ·intro h
   have h1:2 ^ k≤2 ^ (blen Z-1):=Nat.pow_le_pow_right (by decide) (by omega)
   have h2:0<Z / 2 ^ k:=Nat.div_pos (by omega) hp
   omega
section
variable {K:List Nat} {bm g:Nat→Nat} {nums:List (Nat × Nat)} {fr:Bun} {w w' w0:World} {l:List Part} {bw b:Nat} {F:List Nat} {s:St} {sz:Nat→Nat}
theorem Ses.kbit (nb k below:Nat) (p:Part) (h:Ses w0 w (p :: Yn K bm g nums fr :: l)) (hn:(nb,b)∈nums) (hk:k≤64) (hb:below+2≤k) (m:Nat) :
  Calls Tryz.prog 170 #[.pointer (some ⟨nb,0,none⟩),.int .i64 (k:Nat),.int .i64 (below:Nat)] (w.drewN m) fun e w'=>e=.returned (.pointer (some ⟨bm (if below+2=k then b+1 else b+2),0,none⟩))∧(w.drewN m)=w':=by
 have hk1:KAt w K bm g nums fr:=h.sep.tail.head
 have h1:NOk (w.drewN m) nb _ _ _:=(hk1.num _ hn).1
 refine (ZlB k below (w.drewN m) h1 hk hb).mono ?_
 rintro e w' ⟨rfl,rfl⟩
 refine ⟨?_,rfl⟩
 split<;>rfl
structure ZgK (w0 wr:World) (K:List Nat) (bm g:Nat→Nat) (nums:List (Nat × Nat)) (l:List Part) (sz:Nat→Nat) (bw b k Z:Nat) (c1:St × Bun) (m:Nat) (c:St × Bun) (F:List Nat):Prop where
 ses:Ses w0 wr (YI w0.heap.size bw F c.1 :: Yn K bm g nums c.2 :: l)
 ok:Ok sz c
 cnt:c.1.cnt+m≤32768
 eq:steps Zv c (Xr b k Z m)=c1
theorem Ses.putInt (nb:Nat) (n:Int) (h:Ses w0 w (YI w0.heap.size bw F s :: Yn K bm g nums fr :: l)) (hn:(nb,b)∈nums) (hc:s.cnt+65≤32768) (hs:Shape sz fr) (hz:Zb0 sz b) (n0:-9223372036854775808≤n) (n1:n≤9223372036854775807) :
    Calls Tryz.prog 116 #[.pointer (some ⟨bw,0,none⟩),.pointer (some ⟨nb,0,none⟩),.int .i64 n] w fun e w'=>e=.returned (.int .i64 0)∧∃ F',Ses w0 w' (YI w0.heap.size bw F' (steps Zv (s,fr) (Xl b (zig (XM n)))).1 :: Yn K bm g nums (steps Zv (s,fr) (Xl b (zig (XM n)))).2 :: l):=by
  have he:EOk (Xc w0.heap.size bw) w F s:=h.sep.head
  have hk:KAt w K bm g nums fr:=h.sep.tail.head
  obtain ⟨Y5,hK⟩:=hk.num _ hn
  simp only at Y5 hK
  have k3:w.cell? ⟨bw,3,none⟩=some (.int .i64 (s.cnt:Nat)):=he.c.cells.2.2.2.1
  have hok:Ok sz (s,fr):=⟨he.live,hs⟩
  have hth:=Zgt w Y5 (hk.mod b hK.1)
  have nc0:w.cell? ⟨nb,0,none⟩=some (.pointer (some ⟨bm b,0,none⟩)):=(cell_of_block Y5 0).trans rfl
  have d1:decide ((32703:Int)<(s.cnt:Nat))=false:=decide_eq_false (by omega)
  have hZ:=Zem n
  have hw1:=ZgI n n0 n1
  have hw2:=fun h0=>Zmf n h0 n1
  obtain ⟨Z,eZ⟩:∃ Z,Z=zig (XM n):=⟨_,rfl⟩
  rw [←eZ] at hZ hw1 hw2 ⊢
  have hkl:blen Z≤64:=M.blen_le (by simpa using hZ)
  have H:=Qh (Qi h (Qi hok (Qi hth (Qi hw1 (Qi hw2 hs)))))
  clear h hok hth hw1 hw2 he hk Y5 hs eZ
  go_enter Tryz.func116,Tryz.ntmps116
  go_wp2_with fail
  refine H.out.2.2.1.mono ?_
  rintro e w' ⟨rfl,rfl⟩
  go_upto_region 5 with fail
  go_cut [7] (fun v wx=>v=.int .u64 (Z:Nat)∧w=wx)
  case first=>
    by_cases h0:n<0
    · go_wp2_with fail
      go_meet
      exact ⟨congrArg (Value.int .u64) H.out.2.2.2.1,rfl⟩
    · go_wp2_with fail
      go_meet
      exact ⟨congrArg (Value.int .u64) (H.out.2.2.2.2.1 (by omega)),rfl⟩
  case rest=>
    obtain ⟨rfl,rfl⟩:=hcut
    go_wp2_with fail
    go_loopg [8] 64 (fun gh kv wr=>∃ k:Nat,gh=64-k∧k≤blen Z∧kv=.int .i64 (k:Nat)∧w=wr)
    case atStart=>exact ⟨0,rfl,by omega,rfl,rfl⟩
    case round=>
      obtain ⟨k,hgh,hk,rfl,rfl⟩:=hrel
      have Hgh:=Qh hgh;clear hgh
      go_upto_region 7 with fail
      go_cut [39] (fun t wx=>t=.bool (decide (k<blen Z))∧w=wx)
      case first=>
        by_cases hlt:k<blen Z
        · have i1:(0:Int)<(Z:Int) / 2 ^ k:=ZgJ.2 hlt
          go_wp2_with fail
          go_meet
          exact ⟨congrArg Value.bool (decide_eq_true hlt).symm,rfl⟩
        · have i1:¬ (0:Int)<(Z:Int) / 2 ^ k:=fun e=>hlt (ZgJ.1 e)
          go_wp2_with fail
          all_goals
            go_meet
            exact ⟨congrArg Value.bool (decide_eq_false hlt).symm,rfl⟩
      case rest=>
      obtain ⟨rfl,rfl⟩:=hcut
      by_cases hlt:k<blen Z
      · rw [decide_eq_true hlt]
        go_wp2_with fail
        go_roundg (64-(k+1))
        case measure=>have:=Hgh.out;omega
        case rel=>exact ⟨k+1,rfl,by omega,by go_num,rfl⟩
      · rw [decide_eq_false hlt]
        have hkz:k=blen Z:=by omega
        have Zmi:k≤64:=by omega
        have HK:=Qh hkz
        clear hlt hk hkz Hgh hkl
        go_upto_region 9 with fail
        · go_cut [8] (fun kv wx=>kv=.int .i64 (k:Nat)∧∃ F',Ses w0 wx (YI w0.heap.size bw F' (step Zv (s,fr) (b,k)).1 :: Yn K bm g nums (step Zv (s,fr) (b,k)).2 :: l))
          case first=>
            go_region_with (
              (refine ((H.out.1.drewN _).kcode b k (by omega) hK.1 (by rw [H.out.2.2.2.2.2.len,hz.s0];omega)).mono ?_
               rintro e w3 ⟨rfl,h3⟩
               have H3:=Qh h3;clear h3))
            all_goals
              go_wp2_with fail
              go_meet
              exact ⟨rfl,H3.out⟩
          case rest=>
            obtain ⟨rfl,F1,h1⟩:=hcut
            have ho1:=(H.out.2.1.step (bit:=Zv) (o:=(b,k)) (by unfold Fit;rw [hz.s0];simp only [];omega))
            have hI:ZgK w0 _ K bm g nums l sz bw b k Z (steps Zv (s,fr) (Xl b Z)) (k-1) (step Zv (s,fr) (b,k)) F1:=⟨h1,ho1.1,by rw [ho1.2];simp only [];omega,by unfold Xl;rw [←HK.out];rfl⟩
            have HI:=Qh hI;clear hI h1 ho1 k3 nc0 d1
            go_wp2_with fail
            go_loopg [9] (k-1) (fun gh iv wr=>∃ (m:Nat) (i:Int) (c:St × Bun) (F2:List Nat),gh=m∧iv=.int .i64 i∧((0≤i∧i=m-1)∨(i<0∧m=0))∧-2≤i∧m≤k-1∧ZgK w0 wr K bm g nums l sz bw b k Z (steps Zv (s,fr) (Xl b Z)) m c F2)
            case atStart=>exact ⟨k-1,(k:Int)-2,_,F1,rfl,rfl,by omega,by omega,by omega,HI.out⟩
            case round=>
              obtain ⟨m,i,c,F2,hgh,rfl,hm,hi2,hmk,hR⟩:=hrel
              have Hgh:=Qh hgh;clear hgh
              have HR:=Qh hR;clear hR HI
              by_cases h0:0≤i
              · obtain ⟨q,rfl⟩:∃ q:Nat,i=(q:Int):=⟨i.toNat,by omega⟩
                obtain rfl:m=q+1:=by omega
                clear hm hi2
                have hqk:q+2≤k:=by omega
                obtain ⟨j,ej⟩:∃ j,j=if q+2=k then b+1 else b+2:=⟨_,rfl⟩
                have hj:sz j=2∧j∈K:=by rw [ej];split;exact ⟨hz.s1,hK.2.1⟩;exact ⟨hz.s2,hK.2.2⟩
                have hb:=HR.out.ses.kbit nb k q _ hn Zmi hqk
                rw [←ej] at hb
                have hv:bits .and .u64 ((Z:Int) / 2 ^ q) 1=((Z / 2 ^ q % 2:Nat):Int):=by
                  rw [show (Z:Int) / 2 ^ q=((Z / 2 ^ q:Nat):Int) from by rw [Int.natCast_ediv,Int.natCast_pow];rfl,←Nat.and_one_is_mod]
                  exact u64_and_nat _ 1 (Nat.lt_of_le_of_lt (Nat.div_le_self _ _) hZ) (by omega)
                obtain ⟨v,ev⟩:∃ v,v=Z / 2 ^ q % 2:=⟨_,rfl⟩
                rw [←ev] at hv
                have hv2:v<2:=by omega
                have HB:=Qh (Qi hb (Qi hv (Qi ej ev)));clear hb hv ej ev hmk
                go_upto_region 13 with fail
                go_region_with (first
                  | ((refine (HB.out.1 _).mono ?_)
                     (rintro e w4 ⟨rfl,rfl⟩))
                  | ((refine (HR.out.ses.kcode_z j v _ _ ?_ (by have:=HR.out.cnt;omega) hj.2 (by rw [HR.out.ok.shape.len,hj.1];omega)).mono ?_)
                     (· (rw [HB.out.2.1,IntKind.wrap_i64];omega))
                     (rintro e w4 ⟨rfl,h4⟩)
                     (have H4:=Qh h4;clear h4)))
                trace "region"
                all_goals
                  have i6:-9223372036854775808≤(q:Int)-1:=by omega
                  go_wp2_with fail
                  go_roundg q
                  case measure=>have:=Hgh.out;omega
                  case rel=>
                    have hf:Fit sz (j,v):=by unfold Fit;simp only [];omega
                    have hs1:=HR.out.ok.step (bit:=Zv) hf
                    obtain ⟨F4,h4⟩:=H4.out
                    refine ⟨q,(q:Int)-1,step Zv c (j,v),F4,rfl,by go_num,by omega,by omega,by omega,h4,hs1.1,by have:=HR.out.cnt;rw [hs1.2];omega,?_⟩
                    have:=HR.out.eq
                    unfold Xr at this
                    rw [←HB.out.2.2.1,←HB.out.2.2.2] at this
                    exact this
              · obtain rfl:m=0:=by omega
                clear hm
                go_wp2_with fail
                go_ret
                have e1:=HR.out.eq
                have e2:steps Zv c (Xr b k Z 0)=c:=rfl
                rw [e2] at e1
                rw [←e1]
                exact ⟨rfl,F2,HR.out.ses⟩
end
end
section
open M (blen zig zag)
theorem Zbo (n:Nat) (f:Nat→Nat) (a:Nat):Zx n f a≤1:=by unfold Zx;split<;>omega
theorem Zmj (y v:Nat) (hy:2*y+v<18446744073709551616) (hv:v<2):bits .or .u64 ((y:Int)*2) (v:Int)=((2*y+v:Nat):Int):=by
 have h:=Nat.two_pow_add_eq_or_of_lt (i:=1) (b:=v) (by omega) y
 rw [show ((y:Int)*2)=((2 ^ 1*y:Nat):Int) from by push_cast;omega,u64_or_nat _ _ (by omega) (by omega),←h]
section
variable {K:List Nat} {bm g:Nat→Nat} {nums:List (Nat × Nat)} {fr:Bun} {w w' w0:World} {l:List Part} {B bw n cap b:Nat} {G F:List Nat} {A:Option Addr} {f:Nat→Nat} {s:St} {sz:Nat→Nat}
structure ZgL (w0 wr:World) (K:List Nat) (bm g:Nat→Nat) (nums:List (Nat × Nat)) (l:List Part) (sz:Nat→Nat) (B bw:Nat) (G:List Nat) (A:Option Addr) (n cap:Nat) (f:Nat→Nat) (b k Z:Nat) (c1:St × Bun) (m:Nat) (c:St × Bun) (F:List Nat):Prop where
 ses:Ses w0 wr (Y8 B bw G A n cap f F c.1 :: Yn K bm g nums c.2 :: l)
 ok:DOk (Zx n f) sz c
 cnt:c.1.cnt+m≤32768
 rd:Reads (Zx n f) c (Xr b k Z m)
 eq:steps (Zx n f) c (Xr b k Z m)=c1
theorem Ses.getInt (nb Z:Nat) (h:Ses w0 w (Y8 B bw G A n cap f F s :: Yn K bm g nums fr :: l)) (hn:(nb,b)∈nums) (hc:s.cnt+65≤32768) (hz:Zb0 sz b) (hd:DOk (Zx n f) sz (s,fr)) (hr:Reads (Zx n f) (s,fr) (Xl b Z)) (hZ:Z<18446744073709551616) :
  Calls Tryz.prog 127 #[.pointer (some ⟨bw,0,none⟩),.pointer (some ⟨nb,0,none⟩)] w fun e w'=>e=.returned (.tuple #[.int .i64 (sOf (zag Z)),.int .i64 0])∧∃ F',Ses w0 w' (Y8 B bw G A n cap f F' (steps (Zx n f) (s,fr) (Xl b Z)).1 :: Yn K bm g nums (steps (Zx n f) (s,fr) (Xl b Z)).2 :: l):=by
 have he:EOk (Yp B bw G A n cap f) w F s:=h.sep.head
 have hk:KAt w K bm g nums fr:=h.sep.tail.head
 obtain ⟨Y5,hK⟩:=hk.num _ hn
 simp only at Y5 hK
 have k3:w.cell? ⟨bw,3,none⟩=some (.int .i64 (s.cnt:Nat)):=he.c.cells.2.2.2.1
 have hth:=Zgt w Y5 (hk.mod b hK.1)
 have hdt:=Zgs w he.c rfl
 have nc0:w.cell? ⟨nb,0,none⟩=some (.pointer (some ⟨bm b,0,none⟩)):=(cell_of_block Y5 0).trans rfl
 have d1:decide ((32703:Int)<(s.cnt:Nat))=false:=decide_eq_false (by omega)
 have hkl:blen Z≤64:=M.blen_le (by simpa using hZ)
 have ZaL:=h.ksym b (by omega) hd.iv hK.1
 rw [show Yu (fr b) s=blen Z from hr.1] at ZaL
 obtain ⟨hd1,_⟩:=hd.step (Zbo n f) (o:=(b,blen Z)) hr.1
 have hcnt:=(hd.ok.step (bit:=Zx n f) (o:=(b,blen Z)) (by unfold Fit;rw [hz.s0];simp only [];omega)).2
 have hr1:Reads (Zx n f) (step (Zx n f) (s,fr) (b,blen Z)) (Xr b (blen Z) Z (blen Z-1)):=hr.2
 have heq:steps (Zx n f) (step (Zx n f) (s,fr) (b,blen Z)) (Xr b (blen Z) Z (blen Z-1))=steps (Zx n f) (s,fr) (Xl b Z):=rfl
 have htop:Z / 2 ^ (blen Z-1)=if blen Z=0 then 0 else 1:=by
  split
  ·rename_i h0
   rcases Nat.eq_zero_or_pos Z with rfl | h1
   ·simp
   ·have:=(M.blen_bd h1).2.2;omega
  ·rename_i h0;exact ZlT (ZlU h0)
 have hzv:=Zmh Z hZ
 obtain ⟨k,ek⟩:∃ k,k=blen Z:=⟨_,rfl⟩
 rw [←ek] at ZaL hd1 hr1 heq htop hkl hcnt
 have H:=Qh (Qi ZaL (Qi hth (Qi hdt (Qi hd1 (Qi hr1 (Qi heq (Qi htop (Qi hcnt hzv))))))))
 clear h hth he hk Y5 hd hr ZaL hd1 hr1 heq htop hcnt hzv ek hdt
 go_enter Tryz.func127,Tryz.ntmps127
 go_wp2_with fail
 refine H.out.2.2.1.mono ?_
 rintro e w' ⟨rfl,rfl⟩
 go_wp2_with fail
 refine H.out.2.1.mono ?_
 rintro e w' ⟨rfl,rfl⟩
 go_wp2_with fail
 refine H.out.1.mono ?_
 rintro e w1 ⟨rfl,F1,h1⟩
 have hI:ZgL w0 w1 K bm g nums l sz B bw G A n cap f b k Z (steps (Zx n f) (s,fr) (Xl b Z)) (k-1) (step (Zx n f) (s,fr) (b,k)) F1:=⟨h1,H.out.2.2.2.1,by rw [H.out.2.2.2.2.2.2.2.1];show s.cnt+1+(k-1)≤32768;omega,H.out.2.2.2.2.1,H.out.2.2.2.2.2.1⟩
 have HI:=Qh hI;clear hI h1
 go_upto_if 32 with fail
 go_cut [7] (fun v wx=>v=.int .u64 ((Z / 2 ^ (k-1):Nat):Int)∧w1=wx)
 case first=>
  by_cases h0:k=0
  ·subst h0
   go_wp2_with fail
   go_meet
   exact ⟨congrArg (Value.int .u64) (by rw [H.out.2.2.2.2.2.2.1];simp),rfl⟩
  ·have h0':0<k:=by omega
   go_wp2_with fail
   all_goals first | (exfalso;omega) | skip
   go_meet
   exact ⟨congrArg (Value.int .u64) (by rw [H.out.2.2.2.2.2.2.1];simp [h0]),rfl⟩
 case rest=>
 obtain ⟨rfl,rfl⟩:=hcut
 go_wp2_with fail
 go_loopg [7,8] (k-1) (fun gh zv iv wr=>∃ (m:Nat) (i:Int) (c:St × Bun) (F2:List Nat),gh=m∧zv=.int .u64 ((Z / 2 ^ m:Nat):Int)∧iv=.int .i64 i∧((0≤i∧i=m-1)∨(i<0∧m=0))∧-2≤i∧m≤k-1∧ZgL w0 wr K bm g nums l sz B bw G A n cap f b k Z (steps (Zx n f) (s,fr) (Xl b Z)) m c F2)
 case atStart=>exact ⟨k-1,(k:Int)-2,_,F1,rfl,rfl,rfl,by omega,by omega,by omega,HI.out⟩
 case round=>
  obtain ⟨m,i,c,F2,hgh,rfl,rfl,hm,hi2,hmk,hR⟩:=hrel
  have Hgh:=Qh hgh;clear hgh
  have HR:=Qh hR;clear hR HI
  by_cases h0:0≤i
  ·obtain ⟨q,rfl⟩:∃ q:Nat,i=(q:Int):=⟨i.toNat,by omega⟩
   obtain rfl:m=q+1:=by omega
   clear hm hi2
   have hqk:q+2≤k:=by omega
   obtain ⟨j,ej⟩:∃ j,j=if q+2=k then b+1 else b+2:=⟨_,rfl⟩
   have hj:sz j=2∧j∈K:=by rw [ej];split;exact ⟨hz.s1,hK.2.1⟩;exact ⟨hz.s2,hK.2.2⟩
   have hb:=HR.out.ses.kbit nb k q _ hn hkl hqk 0
   rw [←ej] at hb
   have hrd:=HR.out.rd
   unfold Xr at hrd
   rw [←ej] at hrd
   have heq:=HR.out.eq
   unfold Xr at heq
   rw [←ej] at heq
   obtain ⟨v,ev⟩:∃ v,v=Z / 2 ^ q % 2:=⟨_,rfl⟩
   rw [←ev] at hrd heq
   have hsy:=HR.out.ses.ksym j (by have:=HR.out.cnt;omega) HR.out.ok.iv hj.2
   rw [show Yu (c.2 j) c.1=v from hrd.1] at hsy
   have hv2:v<2:=by omega
   obtain ⟨y,ey⟩:∃ y,y=Z / 2 ^ (q+1):=⟨_,rfl⟩
   have hyz:Z / 2 ^ q=2*y+v:=by
    rw [ey,Nat.pow_succ,←Nat.div_div_eq_div_mul];omega
   have hzq:Z / 2 ^ q<18446744073709551616:=Nat.lt_of_le_of_lt (Nat.div_le_self _ _) hZ
   have hy2:2*y+v<18446744073709551616:=by omega
   have hor:=Zmj y v hy2 hv2
   rw [←ey]
   have HB:=Qh (Qi hb (Qi hsy (Qi hrd (Qi heq (Qi hyz hor)))));clear hb hsy hrd heq hyz hor ej ev ey hmk hzq
   go_wp2_with fail
   refine HB.out.1.mono ?_
   rintro e w3 ⟨rfl,rfl⟩
   go_wp2_with fail
   refine HB.out.2.1.mono ?_
   rintro e w4 ⟨rfl,F4,h4⟩
   have H4:=Qh h4;clear h4
   go_wp2_with fail
   rw [HB.out.2.2.2.2.2]
   go_wp2_with fail
   go_roundg q
   case measure=>have:=Hgh.out;omega
   case rel=>
    obtain ⟨hd2,hf⟩:=HR.out.ok.step (Zbo n f) (o:=(j,v)) HB.out.2.2.1.1
    have hs1:=(HR.out.ok.ok.step (bit:=Zx n f) hf).2
    refine ⟨q,(q:Int)-1,step (Zx n f) c (j,v),F4,rfl,?_,by go_num,by omega,by omega,by omega,H4.out,hd2,by have:=HR.out.cnt;rw [hs1];omega,HB.out.2.2.1.2,HB.out.2.2.2.1⟩
    rw [HB.out.2.2.2.2.1]
  ·obtain rfl:m=0:=by omega
   clear hm
   have e0:Z / 2 ^ 0=Z:=by simp
   rw [e0]
   go_wp2_with fail
   go_ret2
   have e1:=HR.out.eq
   have e2:steps (Zx n f) c (Xr b k Z 0)=c:=rfl
   rw [e2] at e1
   rw [←e1]
   exact ⟨Zkz (congrArg (Value.int .i64) H.out.2.2.2.2.2.2.2.2) rfl,F2,HR.out.ses⟩
end
end
end Go.Proofs.YtlgcfimhfmgkmaaGreatDoor
