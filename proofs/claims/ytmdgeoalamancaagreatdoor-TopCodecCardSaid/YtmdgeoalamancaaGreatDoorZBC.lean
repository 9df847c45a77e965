/- Parts in a region that draws its order. Parts in a region's head; rows of parts cut. -/
import Derived.Test.YtmdgeoalamancaaGreatDoorZBB
import Derived.Deep.RegionHeld
import Derived.Test.YtmdgeoalamancaaGreatDoorZAA
set_option maxRecDepth 100000
set_option linter.unusedVariables false
set_option linter.unusedSimpArgs false
namespace Go.Proofs.YtmdgeoalamancaaGreatDoor
open Go.RowKit
open Bt Can Mc Pk
theorem wp_alloc_part {o:Oper} {a:Act} {w:World} {K:Act→World→Prop} {Q:Exit→Act→World→Prop} (ho:o.op= .alloc 221)
  (h: ∀w',Bk w' w.heap.size 221 Tryz.zeroCells221.toList→Below w.heap.size w w'→w'.heap.size=w.heap.size+1→K (a.put o.dst (.pointer (some ⟨w.heap.size,0,none⟩))) w'):o.wp Tryz.prog a w K Q:=by
 obtain⟨z,hz⟩: ∃z:List Value,z=(Tryz.zeroCells221).toList:=⟨_,rfl⟩
 have hzc:Tryz.zeroCells221=z.toArray:=by rw[hz]
 have hh:=h _ (by rw[hzc];exact Bk.new w _ _) ((Below.refl _ _).alloc (Nat.le_refl _) _) (by simp)
 simp only[List.toList_toArray] at hh
 clear hz h
 unfold Oper.wp execOp
 simp only[ho]
 go_simp
 exact hh
theorem wp_store_part {o:Oper} {a:Act} {w:World} {K:Act→World→Prop} {Q:Exit→Act→World→Prop} {b bt:Nat} {cs vs:List Value} (x y:Operand) (ho:o.op= .store 221 x y) (hb:Bk w b bt cs) (hx:a.eval x= .pointer (some ⟨b,0,none⟩)) (hy:a.eval y= .agg vs.toArray) (hl:cs.length=321) (hv:vs.length=321) (h1: ∀u∈vs,u.oneCell'=true)
  (h: ∀w',Bk w' b bt vs→Fr [b] w w'→w'.heap.size=w.heap.size→K (a.put o.dst undef) w'):o.wp Tryz.prog a w K Q:=by
 obtain⟨k1,k2⟩:=hb.row (vs:=vs)
 exact wp_store_row _ x y ho b vs.toArray hx hy bt cs.toArray hb (by rw[List.size_toArray,hv];exact part_isz) (by rw[List.size_toArray,List.size_toArray,hl,hv]) (Array.all_eq_true_iff_forall_mem.2 (fun v hm=>h1 v (by simpa using hm))) (h _ k1 k2 (setRow_size _ _ _))
theorem yields_part {ops:Array Oper} {S:World→Prop} {o:Oper} {a:Act} (x:Operand) (ho:o.op= .load 221 x) {b off:Nat} {cs:List Value} (hgd:o.guard=none) (hx:a.eval x= .pointer (some ⟨b,off,none⟩)) (hS: ∀w,S w→w.rangeAt b off cs) (hl:cs.length=321):YieldsIf Tryz.prog ops S o (.agg cs.toArray) a:=
 yieldsIf_load_mid (by simp[Region.wanted,hgd]) _ x ho b off hx cs _ hS Tryz.underlying221 rfl (by rw[hl];exact part_isz)
theorem zpt_len:(Tryz.zeroCells221.toList).length=321:=by kernel_rfl
theorem Row.range {w:World} {b0:Nat} {v:Value} {qs:List Prt} (h:Row b0 221 321 w v qs.length (ptC qs)) (ho: ∀q∈qs,PtOK q) (hn:0<qs.length): ∃g cap,v= .slice (some ⟨g,0,none⟩) qs.length cap∧ ∀W,Below w.heap.size w W→ ∀j q,qs[j]? =some q→W.rangeAt g (j*321) (ptc q):=by
 obtain⟨g,off,cap,hv,_,hg,hc⟩:=h.sl.pos hn
 rcases h.2 with ⟨_,h0⟩|⟨g2,cap2,cur,hv2,_⟩
 ·omega
 ·rw[hv] at hv2
  simp only[Value.slice.injEq,Option.some.injEq,Addr.mk.injEq] at hv2
  obtain⟨⟨rfl,rfl,_⟩,_,rfl⟩:=hv2
  refine⟨g,cap,hv,fun W hW j q hq i u hu=> ?_⟩
  have:=hc _ _ (ptC_get qs ho j q hq i u hu)
  rw[Nat.zero_add] at this
  exact (hW.cell (p:=⟨g,j*321+i,none⟩) hg).trans this
end Go.Proofs.YtmdgeoalamancaaGreatDoor
namespace Go.Proofs.YtmdgeoalamancaaGreatDoor
open Go.RowKit
open Bt Can Mc Pk
theorem run_load_part {o:Oper} {a:Act} {W:World} {t:Tmp} {b bt:Nat} {cs:List Value} (ho:o.op= .load 221 (.tmp t)) (he:a.tmps[t]? =some (.pointer (some ⟨b,0,none⟩))) (hb:Bk W b bt cs) (hl:cs.length=321):(execOp a.eval o).run Tryz.prog W= .ok (.value (.agg cs.toArray)) W:=by
 have hx:a.eval (.tmp t)= .pointer (some ⟨b,0,none⟩):=by simp[Act.eval,he]
 unfold execOp
 simp only[ho,hx,Instr.loadAt,Instr.sureAddr,Sem.run_bind,Sem.run_pure,Result.andThen_ok,run_loadVar_row W b bt 221 cs.toArray (0,0) _ hb Tryz.underlying221 rfl (by rw[List.size_toArray,hl];exact part_isz)]
theorem run_bs_op {o:Oper} {a:Act} {W:World} {i:Tmp} {cs:List Value} (ho:o.op= .buildSlice 215 1 #[(0,.tmp i)]) (he:a.tmps[i]? =some (.agg cs.toArray)) (hl:cs.length=321):(execOp a.eval o).run Tryz.prog W= .ok (.value (.slice (some ⟨W.heap.size,0,none⟩) 1 1)) (W.alloc (.cells cs.toArray 221)):=by
 have hx:a.eval (.tmp i)= .agg cs.toArray:=by simp[Act.eval,he]
 have hb:=run_bs_part W cs hl #[(0,a.eval (.tmp i))] (by rw[hx])
 unfold execOp
 simp only[ho,List.map_toArray,List.map_cons,List.map_nil,Sem.run_bind,hb,Result.andThen_ok]
 rfl
theorem szPt (W:World):(sizeOf (Tryz.prog.elem 215)).run Tryz.prog W= .ok 321 W:=by kernel_rfl
theorem slice_first {g n cap k:Nat} (hk:k≤n) (hn:n≤cap) (W:World):(Instr.slice 215 (.slice (some ⟨g,0,none⟩) n cap) none (some (.int .i64 (k:Nat))) none).run Tryz.prog W= .ok (.slice (some ⟨g,0,none⟩) k cap) W:=by
 rw[run_slice_h W 215 (some ⟨g,0,none⟩) n cap Tryz.underlying215 .i64 _ (by omega) (by omega),szPt]
 simp[Result.andThen,sliced,Addr.add]
theorem Row.firsts {w:World} {b e size n k g cap:Nat} {xs:List Value} (h:Row b e size w (.slice (some ⟨g,0,none⟩) n cap) n xs) (hk:k≤n) (hn:0<n):Row b e size w (.slice (some ⟨g,0,none⟩) k cap) k (xs.take (k*size)):=by
 obtain⟨g2,cap2,hv,hr⟩:=Row.first h hk hn
 simp only[Value.slice.injEq,Option.some.injEq,Addr.mk.injEq] at hv
 obtain⟨⟨rfl,_,_⟩,_,rfl⟩:=hv
 exact hr
theorem Bk.sl1 {W:World} {g t size:Nat} {cs:List Value} (h:Bk W g t cs) (hl:cs.length=size):Sl W (g+1) size (.slice (some ⟨g,0,none⟩) 1 1) 1 cs:=
 ⟨by rw[hl,Nat.one_mul],_,_,rfl,Nat.le_refl _,.inr ⟨g,0,rfl,Nat.lt_succ_self _,fun j u hj=>by rw[Nat.zero_add];exact h.own.1 j u hj⟩⟩
theorem load_partM {ops:Array Oper} {Q:Exit→Act→World→Prop} {rest:List Oper} {a:Act} {w:World} {d:Option Tmp} {t:TypeId} {x:Operand} {pos:String} {aft:Array Edge} {b off:Nat} {cs:List Value} (hb:w.rangeAt b off cs) (hx:a.eval x= .pointer (some ⟨b,off,none⟩)) (hl:cs.length=321)
  (h:wpList Tryz.prog ops Q rest (a.put d (.agg cs.toArray)) w):Stop (wpList Tryz.prog ops Q (⟨d,.load 221 x,t,pos,aft,none⟩::rest) a w):=
 wpList_load_mid rfl _ _ rfl b off hx cs _ hb Tryz.underlying221 rfl (by rw[hl];exact part_isz) h
theorem mkP0 (c:Nat) (w:World) (hc:c≤1000000): ∃w',(Instr.makeSlice 112 (.int .i64 0) (.int .i64 ((c:Nat):Int))).run Tryz.prog w= .ok (.slice (some ⟨w.heap.size,0,none⟩) 0 c) w'∧Row w.heap.size 116 3 w' (.slice (some ⟨w.heap.size,0,none⟩) 0 c) 0 []∧Below w.heap.size w w':=by
 obtain⟨i0,hi,hz0,hz1,hz2⟩:=info_parts info_pc
 obtain⟨w',h1,h2,h3⟩:=run_makeSlice_owned (P:=Tryz.prog) w w.heap.size 112 116 i0 _ 3 Tryz.underlying112 hi hz0 hz1 .i64 .i64 c (by omega) (by rw[hz2];omega) (by unfold maxLen;omega) (Nat.le_refl _)
 exact⟨w',h1,h2,(Below.refl _ _).grown h3 (Nat.le_refl _) (fun k hk=>by cases hk)⟩
def prP (qs:List Prt):List Pce:=qs.map fun q=>(q.a,q.b,q.x)
theorem prP_len (qs:List Prt):(prP qs).length=qs.length:=by unfold prP;simp
theorem prP_take (qs:List Prt) {k:Nat} {q:Prt} (h:qs[k]? =some q):prP (qs.take (k+1))=prP (qs.take k)++[(q.a,q.b,q.x)]:=by
 unfold prP
 rw[List.take_add_one,h,List.map_append]
 rfl
theorem Pts.cut {qs rs:List Prt} {p q:Prt} {m:Nat} (ho: ∀x∈qs,PtOK x) (h:qs=rs++[p,q]) (hm:qs.length-2=m):(ptC qs).take (m*321)=ptC rs∧rs.length=m:=by
 have hl:rs.length=m:=by rw[←hm,h,List.length_append];show _=rs.length+2-2;omega
 refine⟨?_,hl⟩
 rw[ptC_take qs ho m,h,List.take_left' hl]
end Go.Proofs.YtmdgeoalamancaaGreatDoor
