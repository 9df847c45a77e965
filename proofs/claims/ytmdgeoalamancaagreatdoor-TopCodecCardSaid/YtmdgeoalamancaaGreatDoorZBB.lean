/- The part of a piece. Two parts as one. Rows of parts. Parts are joined. -/
import Derived.Test.YtmdgeoalamancaaGreatDoorZBA
import Derived.Great.BuildSlice
set_option maxRecDepth 100000
set_option linter.unusedVariables false
set_option linter.unusedSimpArgs false
namespace Go.Proofs.YtmdgeoalamancaaGreatDoor
open Go.RowKit
open Bt Can Mc Pk
theorem run_build_op {o:Oper} {a:Act} {W:World} {i j k:Tmp} {p:Prt} (ho:o.op= .build 221 #[(0,.tmp i),(1,.tmp j),(2,.tmp k)]) (h0:a.tmps[i]? =some (.agg #[.int .i64 (p.a:Nat),.int .i64 (p.b:Nat),.int .i64 p.x])) (h1:a.tmps[j]? =some (.agg (tbC p.L p.D p.E).toArray)) (h2:a.tmps[k]? =some (.int .i64 (p.s:Nat))) (hq:PtOK p):(execOp a.eval o).run Tryz.prog W= .ok (.value (.agg (ptc p).toArray)) W:=by
 have e0:a.eval (.tmp i)= .agg #[.int .i64 (p.a:Nat),.int .i64 (p.b:Nat),.int .i64 p.x]:=by simp[Act.eval,h0]
 have e1:a.eval (.tmp j)= .agg (tbC p.L p.D p.E).toArray:=by simp[Act.eval,h1]
 have e2:a.eval (.tmp k)= .int .i64 (p.s:Nat):=by simp[Act.eval,h2]
 have hb:=run_build_part p hq #[(0,a.eval (.tmp i)),(1,a.eval (.tmp j)),(2,a.eval (.tmp k))] (by rw[e0,e1,e2]) W
 unfold execOp
 simp only[ho]
 simp only[List.map_toArray,List.map_cons,List.map_nil,Sem.run_bind,hb,Result.andThen_ok]
 rfl
theorem stop_partS {P:Program} {ops:Array Oper} {Q:Exit→Act→World→Prop} {rest:List Oper} {a:Act} {w:World} {d:Option Tmp} {t:TypeId} {x y:Operand} {pos:String} {aft:Array Edge} {g:Option (Nat × Bool)}
  (h:Stop (wpList P ops Q (⟨d,.store 221 x y,t,pos,aft,g⟩::rest) a w)):wpList P ops Q (⟨d,.store 221 x y,t,pos,aft,g⟩::rest) a w:=h
theorem stop_part {P:Program} {ops:Array Oper} {Q:Exit→Act→World→Prop} {rest:List Oper} {a:Act} {w:World} {d:Option Tmp} {t:TypeId} {x:Operand} {pos:String} {aft:Array Edge} {g:Option (Nat × Bool)}
  (h:Stop (wpList P ops Q (⟨d,.load 221 x,t,pos,aft,g⟩::rest) a w)):wpList P ops Q (⟨d,.load 221 x,t,pos,aft,g⟩::rest) a w:=h
theorem load_part {ops:Array Oper} {Q:Exit→Act→World→Prop} {rest:List Oper} {a:Act} {w:World} {d:Option Tmp} {t:TypeId} {x:Operand} {pos:String} {aft:Array Edge} {b bt:Nat} {cs:List Value} (hb:Bk w b bt cs) (hx:a.eval x= .pointer (some ⟨b,0,none⟩)) (hl:cs.length=321)
  (h:wpList Tryz.prog ops Q rest (a.put d (.agg cs.toArray)) w):Stop (wpList Tryz.prog ops Q (⟨d,.load 221 x,t,pos,aft,none⟩::rest) a w):=
 wpList_load_row rfl _ _ rfl b hx bt cs.toArray (0,0) _ hb Tryz.underlying221 rfl (by rw[List.size_toArray,hl];exact part_isz) h
theorem store_part {ops:Array Oper} {Q:Exit→Act→World→Prop} {rest:List Oper} {a:Act} {w:World} {d:Option Tmp} {t:TypeId} {x y:Operand} {pos:String} {aft:Array Edge} {b bt:Nat} {cs vs:List Value} (hb:Bk w b bt cs) (hx:a.eval x= .pointer (some ⟨b,0,none⟩)) (hy:a.eval y= .agg vs.toArray) (hl:cs.length=321) (hv:vs.length=321) (h1: ∀u∈vs,u.oneCell'=true)
  (h: ∀w',Bk w' b bt vs→Fr [b] w w'→wpList Tryz.prog ops Q rest (a.put d undef) w'):Stop (wpList Tryz.prog ops Q (⟨d,.store 221 x y,t,pos,aft,none⟩::rest) a w):=by
 obtain⟨k1,k2⟩:=hb.row (vs:=vs)
 exact wpList_store_row rfl _ x y rfl b vs.toArray hx hy bt cs.toArray hb (by rw[List.size_toArray,hv];exact part_isz) (by rw[List.size_toArray,List.size_toArray,hl,hv]) (Array.all_eq_true_iff_forall_mem.2 (fun v hm=>h1 v (by simpa using hm))) (h _ k1 k2)
theorem results_part {fn:Func} {p:Tmp} (h:fn.results=#[.cell p 221]) (tmps:Array Value) (w:World) {b bt:Nat} {cs:List Value} (hb:Bk w b bt cs) (hl:cs.length=321) (hp:tmps.getD p undef= .pointer (some ⟨b,0,none⟩)):(results fn tmps).run Tryz.prog w= .ok (.agg cs.toArray) w:=
 results_cell_row h tmps w b bt cs.toArray (0,0) _ hp hb Tryz.underlying221 rfl (by rw[List.size_toArray,hl];exact part_isz)
def PoP (a b:Nat) (w:World) (e:Ending) (w':World):Prop:= ∃q:Prt,e= .returned (.agg (ptc q).toArray)∧PtOK q∧q.a=a∧q.b=b∧Below w.heap.size w w'
set_option maxHeartbeats 16000000 in
theorem partOf_any (ts:List Tk.T) (n B a b:Nat) (x:Int) (v:Value) (w:World) (h:Sl w B 3 v n (kC ts)) (hB:B≤w.heap.size) (hn:n=ts.length) (hl:n≤1000) (ho: ∀t∈ts,Tk.Ok t) (hab:a≤b) (hbn:b≤n) (hG:Gl w):Calls Tryz.prog 120 #[v,.agg #[.int .i64 (a:Nat),.int .i64 (b:Nat),.int .i64 x]] w (PoP a b w):=by
 obtain⟨ta,cap,rfl,_⟩:=h.form
 obtain⟨sv,hsv,hssl⟩:=sub_lh 109 Tryz.underlying109 szTk h hab hbn
 rw[kC_drop,kC_take] at hssl
 have hlen0:b-a=((ts.drop a).take (b-a)).length:=by rw[List.length_take,List.length_drop];omega
 have ho2: ∀t∈(ts.drop a).take (b-a),Tk.Ok t:=fun t ht=>ho t (List.mem_of_mem_drop (List.mem_of_mem_take ht))
 have hszl:=sizN'_le _ ho2
 rw[←hlen0] at hszl
 have HOF:=Lib.hid (fun (W:World) (hW:Below w.heap.size w W)=>of_any ((ts.drop a).take (b-a)) (b-a) B sv W (hssl.below (hW.mono hB)) (Nat.le_trans hB hW.size) hlen0 (by omega) ho2 (hG.fr (Fr.of_below (F:=[]) hW) (fun _ h=>by cases h)))
 have HSZ:=Lib.hid (fun (W:World) (hW:Below w.heap.size w W)=>sizes_any ((ts.drop a).take (b-a)) (b-a) B sv W (hssl.below (hW.mono hB)) (Nat.le_trans hB hW.size) hlen0 (by omega) ho2)
 obtain⟨SZ,hSZ⟩: ∃z,sizN' ((ts.drop a).take (b-a))=z:=⟨_,rfl⟩
 rw[hSZ] at HSZ hszl
 have HSL:=Lib.hid hszl
 obtain⟨sa,sc,rfl,_⟩:=hssl.form
 have q1:(if (a:Int)<0 then (0:Int) else (a:Int))=(a:Int):=by split<;>omega
 have q1':(if (0:Int)<(a:Int) then (a:Int) else 0)=(a:Int):=by split<;>omega
 have q1'':max (a:Int) 0=(a:Int):=by omega
 have q2:(if (n:Int)<(a:Int) then (n:Int) else (a:Int))=(a:Int):=by split<;>omega
 have q2':(if (a:Int)<(n:Int) then (a:Int) else (n:Int))=(a:Int):=by split<;>omega
 have q2'':(if (a:Int)≤(n:Int) then (a:Int) else (n:Int))=(a:Int):=by split<;>omega
 have q2a:min (a:Int) (n:Int)=(a:Int):=by omega
 have q3:(if (b:Int)<(a:Int) then (a:Int) else (b:Int))=(b:Int):=by split<;>omega
 have q3':(if (a:Int)<(b:Int) then (b:Int) else (a:Int))=(b:Int):=by split<;>omega
 have q3'':max (b:Int) (a:Int)=(b:Int):=by omega
 have q4:(if (n:Int)<(b:Int) then (n:Int) else (b:Int))=(b:Int):=by split<;>omega
 have q4':(if (b:Int)<(n:Int) then (b:Int) else (n:Int))=(b:Int):=by split<;>omega
 have q4'':(if (b:Int)≤(n:Int) then (b:Int) else (n:Int))=(b:Int):=by split<;>omega
 have q4a:min (b:Int) (n:Int)=(b:Int):=by omega
 obtain⟨z,hz⟩: ∃z:List Value,z=(Tryz.zeroCells221).toList:=⟨_,rfl⟩
 have hzc:Tryz.zeroCells221=z.toArray:=by rw[hz]
 have HZL:Hid (z.length=321):=Lib.hid (by rw[hz,Array.length_toList];exact zero_part)
 obtain⟨z2,hz2⟩: ∃z:List Value,z=tbC (List.replicate 286 0) (List.replicate 30 0) 0:=⟨_,rfl⟩
 have hzc2:Tryz.zeroCells219=z2.toArray:=by rw[hz2];exact tab_zero
 have HZ2:Hid (z2.length=317):=Lib.hid (by rw[hz2,tbC,List.length_append,List.length_append,iC_len,iC_len,List.length_replicate,List.length_replicate];rfl)
 clear hz hz2
 obtain⟨wa,hwa⟩: ∃q:World,q=(w.alloc (.cells #[.int .i64 (a:Nat),.int .i64 (b:Nat),.int .i64 x] 116)).alloc (.cells z.toArray 221):=⟨_,rfl⟩
 have HOP0:Hid (Own wa w.heap.size [.int .i64 (a:Nat),.int .i64 (b:Nat),.int .i64 x]):=Lib.hid (by rw[hwa];exact (Own.new_at w [.int .i64 (a:Nat),.int .i64 (b:Nat),.int .i64 x] _ _ rfl).below ((Below.refl _ _).alloc (Nat.le_refl _) _) (by simp))
 have HBR0:Hid (Bk wa (w.heap.size+1) 221 z):=Lib.hid (by
  rw[hwa]
  have:=Bk.new (w.alloc (.cells #[.int .i64 (a:Nat),.int .i64 (b:Nat),.int .i64 x] 116)) 221 z
  simpa using this)
 have HB0:Hid (Below w.heap.size w wa):=Lib.hid (by rw[hwa];exact ((Below.refl _ _).alloc (Nat.le_refl _) _).alloc (by simp) _)
 have hza:w.heap.size+2≤wa.heap.size:=by rw[hwa];simp
 clear h hn ho hG hssl hlen0 ho2 hSZ hszl
 go_enter Tryz.func120,Tryz.ntmps120
 go_upto_region 1 with (fail)
 rw[←hwa]
 clear hwa hzc
 obtain⟨pb,hpb⟩: ∃z,w.heap.size=z:=⟨_,rfl⟩
 have HPB:=Lib.hid hpb
 rw[hpb] at HOP0 HBR0 hza ⊢
 obtain⟨rb,hrb⟩: ∃z,pb+1=z:=⟨_,rfl⟩
 rw[hrb] at HBR0 ⊢
 have hpr:pb<rb:=by omega
 have hza2:rb<wa.heap.size:=by omega
 clear hpb hrb hza
 have m0:=HOP0.out.1 0 _ rfl
 have m1:=HOP0.out.1 1 _ rfl
 go_upto_region 3 with (fail)
 clear m0 m1
 go_wp2_with (fail)
 refine (HOF.out wa HB0.out).mono ?_
 rintro e w1 ⟨L,D,E,rfl,ht,_,hb1⟩
 have hlen:=tbC_len (E:=E) ht
 have HQ:Hid (PtOK ⟨a,b,x,L,D,E,SZ⟩):=Lib.hid ⟨hab,ht,HSL.out⟩
 have hcb: ∀u∈tbC L D E,u.oneCell'=true:=tbC_one _ _ _
 have HCB:=Lib.hid hcb
 have HPQ:Hid (∀(o:Oper) (A:Act) (W:World),o.op= .build 221 #[(0,.tmp 30),(1,.tmp 31),(2,.tmp 36)]→A.tmps[30]? =some (.agg #[.int .i64 (a:Nat),.int .i64 (b:Nat),.int .i64 x])→A.tmps[31]? =some (.agg (tbC L D E).toArray)→A.tmps[36]? =some (.int .i64 (SZ:Nat))→(execOp A.eval o).run Tryz.prog W= .ok (.value (.agg (ptc ⟨a,b,x,L,D,E,SZ⟩).toArray)) W):=Lib.hid (fun _ A W h0 h1 h2 h3=>run_build_op (p:=⟨a,b,x,L,D,E,SZ⟩) h0 h1 h2 h3 HQ.out)
 have HQL:Hid ((ptc ⟨a,b,x,L,D,E,SZ⟩).length=321∧ ∀u∈ptc ⟨a,b,x,L,D,E,SZ⟩,u.oneCell'=true):=Lib.hid ⟨HQ.out.len,ptc_one _⟩
 obtain⟨CQ,hCQ⟩: ∃q,ptc ⟨a,b,x,L,D,E,SZ⟩=q:=⟨_,rfl⟩
 obtain⟨ca,hca⟩: ∃q,tbC L D E=q:=⟨_,rfl⟩
 rw[hca] at hlen HCB HPQ
 rw[hCQ] at HPQ HQL
 have HCQ:=Lib.hid hCQ
 rw[hca]
 have HBP:=HPQ
 obtain⟨wz,hwz⟩: ∃q:World,q=w1.alloc (.cells z2.toArray 219):=⟨_,rfl⟩
 have hb1z:Below w1.heap.size w1 wz:=by rw[hwz];exact (Below.refl _ _).alloc (Nat.le_refl _) _
 have HBZ:Hid (Bk wz w1.heap.size 219 z2):=Lib.hid (by rw[hwz];exact Bk.new w1 _ z2)
 have hb0z:=hb1.trans (hb1z.mono hb1.size)
 have HB0Z:=Lib.hid (HB0.out.trans (hb0z.mono HB0.out.size))
 have HOPZ:=Lib.hid (HOP0.out.below hb0z (by omega))
 have HBRZ:=Lib.hid (HBR0.out.below hb0z)
 have hz2:rb<w1.heap.size:=Nat.lt_of_lt_of_le hza2 hb1.size
 have hz3:w1.heap.size<wz.heap.size:=by rw[hwz];simp
 clear hca hCQ ht hb1 hb1z hb0z hcb HOF HOP0 HBR0 HPQ
 go_wp2_with (with_reducible refine stop_tabS ?_)
 rw[←hwz]
 clear hwz hzc2
 obtain⟨tb,htb⟩: ∃z,w1.heap.size=z:=⟨_,rfl⟩
 rw[htb] at HBZ hz2 hz3 ⊢
 clear htb
 refine store_tab HBZ.out rfl rfl HZ2.out hlen HCB.out ?_
 intro w4 hr4 hf4
 have HTA:=Lib.hid hr4
 have HOP:=Lib.hid (HOPZ.out.fr hf4 (by omega) (by simp;omega))
 have HBR:=Lib.hid (HBRZ.out.fr hf4 (by simp;omega))
 have HB4:Hid (Below w.heap.size w w4):=Lib.hid (HB0Z.out.trans (hf4.below HB0Z.out.size (fun k hk=>by rw[List.mem_singleton.1 hk];have:=HPB.out;omega)))
 have hz4:pb<w4.heap.size:=by have:=hf4.size;omega
 have hz5:rb<w4.heap.size:=by have:=hf4.size;omega
 clear hr4 hf4 HBZ HOPZ HBRZ HB0Z
 go_upto_region 4 with (fail)
 refine Mono.region_tail 8 (by kernel_rfl) (by kernel_rfl) (by kernel_rfl) (by kernel_rfl) ?_
 simp only[List.take_succ_cons,List.take_zero]
 refine Mono.hgl_val (v:= .agg #[.int .i64 (a:Nat),.int .i64 (b:Nat),.int .i64 x]) rfl Mono.rr (fun ρ a W hR hd hf=> ?h0) ?_
 case h0=>
  have e3:=Mono.init_get hf (t:=3) (by kernel_rfl)
  have m0:=(HOP.out.below hR hz4).1 0 _ rfl
  have m1:=(HOP.out.below hR hz4).1 1 _ rfl
  have m2:=(HOP.out.below hR hz4).1 2 _ rfl
  clear hd hf
  (go_simp;try with_reducible rfl)
 refine Mono.hgl_val (v:= .agg ca.toArray) rfl Mono.rr (fun ρ a W hR hd hf=> ?h1) ?_
 case h1=>
  have e7:=Mono.init_get hf (t:=7) (by kernel_rfl)
  clear hd hf
  exact run_load_tab rfl e7 (HTA.out.below hR) hlen
 refine Mono.hgl_val (v:= ?v2) rfl Mono.rr (fun ρ a W hR hd hf=> ?h2) ?_
 case h2=>
  have e0:=Mono.init_get hf (t:=0) (by kernel_rfl)
  clear hd hf
  (go_simp;try with_reducible rfl)
 refine Mono.hgl_val (v:= ?v3) rfl Mono.rr (fun ρ a W hR hd hf=> ?h3) ?_
 case h3=>
  have e5:=Mono.init_get hf (t:=5) (by kernel_rfl)
  clear hd hf
  (go_simp;try with_reducible rfl)
 refine Mono.hgl_val (v:= ?v4) rfl Mono.rr (fun ρ a W hR hd hf=> ?h4) ?_
 case h4=>
  have e6:=Mono.init_get hf (t:=6) (by kernel_rfl)
  clear hd hf
  (go_simp;try with_reducible rfl)
 refine Mono.hgl_val (v:= .slice sa (b-a) sc) rfl Mono.rr (fun ρ a W hR hd hf=> ?h5) ?_
 case h5=>
  have e32:=Mono.dep_val hd hf (t:=32) (k:=2) (by kernel_rfl) rfl
  have e33:=Mono.dep_val hd hf (t:=33) (k:=3) (by kernel_rfl) rfl
  have e34:=Mono.dep_val hd hf (t:=34) (k:=4) (by kernel_rfl) rfl
  clear hd hf
  (go_simp;try with_reducible rfl)
 refine Mono.hgl_call (fun x _=>x= .int .i64 (SZ:Nat)) rfl Mono.rr (fun _ _ _ h _=>h) (fun ρ a W hR hd hf=> ?h6) ?_
 case h6=>
  have e35:=Mono.dep_val hd hf (t:=35) (k:=5) (by kernel_rfl) rfl
  clear hd hf
  refine⟨_,_,by go_simp;first|rfl|exact⟨rfl,rfl⟩,?_⟩
  exact (HSZ.out W (HB4.out.trans (hR.mono HB4.out.size))).mono (fun e W' ⟨he,hb⟩=>⟨_,he,hb,rfl⟩)
 refine Mono.hgl_val (v:= .agg CQ.toArray) rfl Mono.rr (fun ρ a W hR hd hf=> ?h7) ?_
 case h7=>
  have e30:=Mono.dep_val hd hf (t:=30) (k:=0) (by kernel_rfl) rfl
  have e31:=Mono.dep_val hd hf (t:=31) (k:=1) (by kernel_rfl) rfl
  have e36:=Mono.dep_val hd hf (t:=36) (k:=6) (by kernel_rfl) rfl
  clear hd hf
  exact (HBP.out _ a W rfl e30 e31 e36)
 refine Mono.hgl_done rfl (by decide) (fun ρ W hR ht=> ?_)
 simp only[List.take_succ_cons,List.take_zero,List.drop_succ_cons,List.drop_zero]
 obtain⟨d7,d6,d5,d4,d3,d2,d1,d0,_⟩:=ht
 simp only[List.length_cons,List.length_nil,Nat.reduceAdd] at d0 d1 d2 d3 d4 d5 d6 d7
 simp only[Mono.putAll,Nat.reduceAdd,d0,d1,d2,d3,d4,d5,d6,d7,Act.put,List.setIfInBounds_toArray,List.set_cons_zero,List.set_cons_succ]
 clear d0 d1 d2 d3 d4 d5 d6 d7
 go_wp2_with (with_reducible refine stop_partS ?_)
 refine store_part (HBR.out.below hR) rfl rfl HZL.out HQL.out.1 HQL.out.2 ?_
 intro w6 hr6 hf6
 have HR6:=Lib.hid hr6
 have HB6:Hid (Below w.heap.size w w6):=Lib.hid (by
  have h1:=HB4.out.trans (hR.mono HB4.out.size)
  exact h1.trans (hf6.below h1.size (fun k hk=>by rw[List.mem_singleton.1 hk];have:=HPB.out;omega)))
 clear hr6 hf6
 go_wp2_with (fail)
 refine bodyPost_ret (results_part rfl _ _ HR6.out HQL.out.1 rfl) rfl ?_
 exact⟨⟨a,b,x,L,D,E,SZ⟩,by rw[HCQ.out],HQ.out,rfl,rfl,HB6.out⟩
end Go.Proofs.YtmdgeoalamancaaGreatDoor
namespace Go.Proofs.YtmdgeoalamancaaGreatDoor
open Go.RowKit
open Bt Can Mc Pk
theorem ptc_tab (p:Prt) {j:Nat} {v:Value} (h:(tbC p.L p.D p.E)[j]? =some v):(ptc p)[3+j]? =some v:=by
 unfold ptc
 rw[List.getElem?_append_right (by show 3≤3+j;omega)]
 show (tbC p.L p.D p.E++_)[3+j-3]? =some v
 rw[Nat.add_sub_cancel_left,List.getElem?_append_left (List.getElem?_eq_some_iff.1 h).1]
 exact h
theorem ptc_s {p:Prt} (h:PtOK p):(ptc p)[320]? =some (.int .i64 (p.s:Nat)):=by
 unfold ptc
 rw[List.getElem?_append_right (by show 3≤320;omega)]
 show (tbC p.L p.D p.E++_)[320-3]? =_
 rw[List.getElem?_append_right (by rw[tbC_len h.tb];omega),tbC_len h.tb]
 rfl
theorem load_ptab {ops:Array Oper} {Q:Exit→Act→World→Prop} {rest:List Oper} {a:Act} {w:World} {d:Option Tmp} {t:TypeId} {x:Operand} {pos:String} {aft:Array Edge} {b:Nat} {p:Prt} (hb:Own w b (ptc p)) (hp:PtOK p) (hx:a.eval x= .pointer (some ⟨b,3,none⟩))
  (h:wpList Tryz.prog ops Q rest (a.put d (.agg (tbC p.L p.D p.E).toArray)) w):Stop (wpList Tryz.prog ops Q (⟨d,.load 219 x,t,pos,aft,none⟩::rest) a w):=by
 refine wpList_load_mid rfl _ _ rfl b 3 hx (tbC p.L p.D p.E) _ (fun j v hj=>hb.1 (3+j) v (ptc_tab p hj)) Tryz.underlying219 rfl (by rw[tbC_len hp.tb];exact tab_isz) h
theorem stop_build {P:Program} {ops:Array Oper} {Q:Exit→Act→World→Prop} {rest:List Oper} {a:Act} {w:World} {d:Option Tmp} {t:TypeId} {ps:Array (Nat × Operand)} {pos:String} {aft:Array Edge} {g:Option (Nat × Bool)}
  (h:Stop (wpList P ops Q (⟨d,.build 221 ps,t,pos,aft,g⟩::rest) a w)):wpList P ops Q (⟨d,.build 221 ps,t,pos,aft,g⟩::rest) a w:=h
theorem build_part {ops:Array Oper} {Q:Exit→Act→World→Prop} {rest:List Oper} {a:Act} {w:World} {d:Option Tmp} {t:TypeId} {pos:String} {aft:Array Edge} {i j k:Tmp} {p:Prt} (h0:a.tmps[i]? =some (.agg #[.int .i64 (p.a:Nat),.int .i64 (p.b:Nat),.int .i64 p.x])) (h1:a.tmps[j]? =some (.agg (tbC p.L p.D p.E).toArray)) (h2:a.tmps[k]? =some (.int .i64 (p.s:Nat))) (hq:PtOK p)
  (h:wpList Tryz.prog ops Q rest (a.put d (.agg (ptc p).toArray)) w):Stop (wpList Tryz.prog ops Q (⟨d,.build 221 #[(0,.tmp i),(1,.tmp j),(2,.tmp k)],t,pos,aft,none⟩::rest) a w):=by
 refine wpList_plain rfl fun K hK=> ?_
 unfold Oper.wp
 rw[run_build_op (i:=i) (j:=j) (k:=k) (p:=p) rfl h0 h1 h2 hq]
 exact hK _ _ h
def JnP (a b:Nat) (w:World) (e:Ending) (w':World):Prop:= ∃q:Prt,e= .returned (.agg (ptc q).toArray)∧PtOK q∧q.a=a∧q.b=b∧Below w.heap.size w w'
set_option maxHeartbeats 16000000 in
theorem join_any (p q:Prt) (w:World) (hp:PtOK p) (hq:PtOK q) (hpq:p.b=q.a) (hb:q.b≤1000) (hG:Gl w):Calls Tryz.prog 121 #[.agg (ptc p).toArray,.agg (ptc q).toArray] w (JnP p.a q.b w):=by
 have hple:=hp.le
 have hqle:=hq.le
 have hps:=hp.s
 have hqs:=hq.s
 have HAD:=Lib.hid (fun W=>tadd_any p.L p.D q.L q.D p.E q.E (p.b-p.a) (q.b-q.a) W hp.tb hq.tb (by omega) (by omega))
 have HPQ:=Lib.hid (And.intro hp hq)
 have HG:=Lib.hid hG
 have HCH:=Lib.hid (fun a b c W=>cheapest_any a b c W)
 obtain⟨SZ,hSZ⟩: ∃z,p.s+q.s=z:=⟨_,rfl⟩
 have y1:IntKind.i64.wrap ((p.s:Int)+(q.s:Int))=(SZ:Int):=by rw[IntWalk.i64_in _ (by omega)];omega
 have HSZ:Hid (SZ≤258*(q.b-p.a)∧p.b-p.a+(q.b-q.a)=q.b-p.a∧p.a≤q.b):=Lib.hid ⟨by omega,by omega,by omega⟩
 have hszl:SZ≤1000000:=by omega
 obtain⟨z,hz⟩: ∃z:List Value,z=(Tryz.zeroCells221).toList:=⟨_,rfl⟩
 have hzc:Tryz.zeroCells221=z.toArray:=by rw[hz]
 have HZL:Hid (z.length=321):=Lib.hid (by rw[hz,Array.length_toList];exact zero_part)
 obtain⟨z2,hz2⟩: ∃z:List Value,z=tbC (List.replicate 286 0) (List.replicate 30 0) 0:=⟨_,rfl⟩
 have hzc2:Tryz.zeroCells219=z2.toArray:=by rw[hz2];exact tab_zero
 have HZ2:Hid (z2.length=317):=Lib.hid (by rw[hz2,tbC,List.length_append,List.length_append,iC_len,iC_len,List.length_replicate,List.length_replicate];rfl)
 have hcp:=hp.len
 have k0:(ptc p)[0]? =some (.int .i64 (p.a:Nat)):=rfl
 have k1:(ptc q)[1]? =some (.int .i64 (q.b:Nat)):=rfl
 have k2:=ptc_s hp
 have k3:=ptc_s hq
 have HKK:=Lib.hid (And.intro k0 (And.intro k1 (And.intro k2 k3)))
 obtain⟨cp,hcp2⟩: ∃c,ptc p=c:=⟨_,rfl⟩
 obtain⟨cq,hcq2⟩: ∃c,ptc q=c:=⟨_,rfl⟩
 obtain⟨wa,hwa⟩: ∃u:World,u=((w.alloc (.cells cp.toArray 221)).alloc (.cells cq.toArray 221)).alloc (.cells z.toArray 221):=⟨_,rfl⟩
 have HTA:Hid (Own wa w.heap.size (ptc p)):=Lib.hid (by rw[hwa,hcp2];exact (((Bk.new w _ cp).below ((Below.refl _ _).alloc (Nat.le_refl _) _)).below ((Below.refl _ _).alloc (Nat.le_refl _) _)).own)
 have HTB:Hid (Own wa (w.heap.size+1) (ptc q)):=Lib.hid (by
  rw[hwa,hcq2]
  have:=Bk.new (w.alloc (.cells cp.toArray 221)) 221 cq
  have:=this.below ((Below.refl _ _).alloc (Nat.le_refl _) (.cells z.toArray 221))
  have:=this.own
  simpa using this)
 have HTR:Hid (Bk wa (w.heap.size+2) 221 z):=Lib.hid (by
  rw[hwa]
  have:=Bk.new ((w.alloc (.cells cp.toArray 221)).alloc (.cells cq.toArray 221)) 221 z
  simpa using this)
 have HB0:Hid (Below w.heap.size w wa):=Lib.hid (by rw[hwa];exact (((Below.refl _ _).alloc (Nat.le_refl _) _).alloc (by simp) _).alloc (by simp<;>omega) _)
 have hza:w.heap.size+3≤wa.heap.size:=by rw[hwa];simp
 rw[hcp2,hcq2]
 clear hcp2 hcq2 hcp hp hq hG hSZ hz hz2 k0 k1 k2 k3 hps hqs hpq
 go_enter Tryz.func121,Tryz.ntmps121
 go_upto_region 1 with (fail)
 rw[←hwa]
 clear hwa hzc
 obtain⟨ab,hab⟩: ∃z,w.heap.size=z:=⟨_,rfl⟩
 have HAB:=Lib.hid hab
 rw[hab] at HTA HTB HTR hza ⊢
 clear hab
 obtain⟨bb,hbb⟩: ∃z,ab+1=z:=⟨_,rfl⟩
 obtain⟨rb,hrb⟩: ∃z,bb+1=z:=⟨_,rfl⟩
 rw[hbb] at HTB ⊢
 rw[show ab+2=rb by omega] at HTR
 rw[hrb]
 have hb1:ab<bb:=by omega
 have hb2:bb<rb:=by omega
 have hza2:rb<wa.heap.size:=by omega
 clear hbb hrb hza
 go_wp2_with (with_reducible refine stop_tab ?_)
 refine load_ptab HTA.out HPQ.out.1 rfl ?_
 go_wp2_with (with_reducible refine stop_tab ?_)
 refine load_ptab HTB.out HPQ.out.2 rfl ?_
 go_wp2_with (fail)
 refine (HAD.out wa).mono ?_
 rintro e w1 ⟨L,D,E,rfl,ht,hb1'⟩
 rw[HSZ.out.2.1] at ht
 have hlen:=tbC_len (E:=E) ht
 have HCO:=Lib.hid (fun (W:World) (hG:Gl W)=>costsOf_any L D E _ SZ W ht (by omega) hszl hG)
 have HT:=Lib.hid ht
 have HCB:Hid (∀u∈tbC L D E,u.oneCell'=true):=Lib.hid (tbC_one _ _ _)
 obtain⟨ca,hca⟩: ∃q,tbC L D E=q:=⟨_,rfl⟩
 have HCA:=Lib.hid hca
 rw[hca] at hlen HCB HCO
 rw[hca]
 obtain⟨wz,hwz⟩: ∃q:World,q=w1.alloc (.cells z2.toArray 219):=⟨_,rfl⟩
 have hb1z:Below w1.heap.size w1 wz:=by rw[hwz];exact (Below.refl _ _).alloc (Nat.le_refl _) _
 have HBZ:Hid (Bk wz w1.heap.size 219 z2):=Lib.hid (by rw[hwz];exact Bk.new w1 _ z2)
 have hb0z:=hb1'.trans (hb1z.mono hb1'.size)
 have HB0Z:=Lib.hid hb0z
 have hz2:rb<w1.heap.size:=Nat.lt_of_lt_of_le hza2 hb1'.size
 have hz3:w1.heap.size<wz.heap.size:=by rw[hwz];simp
 clear hca ht hb1' hb1z hb0z HAD
 go_wp2_with (with_reducible refine stop_tabS ?_)
 rw[←hwz]
 clear hwz hzc2
 obtain⟨tb,htb⟩: ∃z,w1.heap.size=z:=⟨_,rfl⟩
 rw[htb] at HBZ hz2 hz3 ⊢
 clear htb
 refine store_tab HBZ.out rfl rfl HZ2.out hlen HCB.out ?_
 intro w4 hr4 hf4
 have HTT:=Lib.hid hr4
 have hfa4:Fr [tb] wa w4:=(Fr.of_below HB0Z.out).trans hf4 (fun x hx _=>hx)
 have HTA4:=Lib.hid (HTA.out.fr hfa4 (by omega) (by simp;omega))
 have HTB4:=Lib.hid (HTB.out.fr hfa4 (by omega) (by simp;omega))
 have HTR4:=Lib.hid (HTR.out.fr hfa4 (by simp;omega))
 have HB4:Hid (Below w.heap.size w w4):=Lib.hid (HB0.out.trans (hfa4.below HB0.out.size (fun k hk=>by rw[List.mem_singleton.1 hk];have:=HAB.out;omega)))
 have hz4:wa.heap.size≤w4.heap.size:=hfa4.size
 have hz5:tb<w4.heap.size:=by have:=hf4.size;omega
 clear hr4 hf4 hfa4 HBZ HTA HTB HTR
 have m0:=HTA4.out.1 320 _ HKK.out.2.2.1
 have m1:=HTB4.out.1 320 _ HKK.out.2.2.2
 have hG4:Gl w4:=HG.out.fr (Fr.of_below (F:=[]) HB4.out) (fun _ h=>by cases h)
 have HCO4:=Lib.hid (HCO.out w4 hG4)
 clear hG4
 go_wp2_with (with_reducible refine stop_tab ?_)
 refine load_tab HTT.out rfl hlen ?_
 clear m0 m1
 go_wp2_with (fail)
 refine HCO4.out.mono ?_
 rintro e w5 ⟨x0,x1,x2,rfl,hb5⟩
 obtain⟨w6,hw6⟩: ∃z:World,z=w5.alloc (.cells #[.int .i64 x0,.int .i64 x1,.int .i64 x2] 59):=⟨_,rfl⟩
 have hb56:Below w5.heap.size w5 w6:=by rw[hw6];exact (Below.refl _ _).alloc (Nat.le_refl _) _
 have HO6:Hid (Own w6 w5.heap.size [.int .i64 x0,.int .i64 x1,.int .i64 x2]):=Lib.hid (by rw[hw6];exact Own.new_at w5 _ _ _ rfl)
 have HB46:=Lib.hid (hb5.trans (hb56.mono hb5.size))
 have hz6:w5.heap.size<w6.heap.size:=by rw[hw6];simp
 clear hb5 hb56 HCO HCO4
 go_upto_region 4 with (fail)
 rw[←hw6]
 clear hw6
 obtain⟨cb2,hcb⟩: ∃z,w5.heap.size=z:=⟨_,rfl⟩
 rw[hcb] at HO6 hz6 ⊢
 clear hcb
 have m0:=HO6.out.1 0 _ rfl
 have m1:=HO6.out.1 1 _ rfl
 have m2:=HO6.out.1 2 _ rfl
 go_wp2_with (fail)
 refine (HCH.out x0 x1 x2 w6).mono ?_
 rintro e w7 ⟨k,hk,rfl,hb7⟩
 have HO7:=Lib.hid (HO6.out.below hb7 hz6)
 have hb47:=HB46.out.trans (hb7.mono HB46.out.size)
 have HTA7:=Lib.hid (HTA4.out.below hb47 (by omega))
 have HTB7:=Lib.hid (HTB4.out.below hb47 (by omega))
 have HTR7:=Lib.hid (HTR4.out.below hb47)
 have HTT7:=Lib.hid (HTT.out.below hb47)
 have HB7:=Lib.hid (HB4.out.trans (hb47.mono HB4.out.size))
 clear hb7 hb47 m0 m1 m2 HCH HO6 HTA4 HTB4 HTR4 HTT HB4 HB46
 obtain⟨y,ky⟩: ∃y:Int,w7.cell? ⟨cb2,k,none⟩=some (.int .i64 y):=by
  obtain rfl|rfl|rfl:k=0∨k=1∨k=2:=by omega
  ·exact⟨x0,HO7.out.1 0 _ rfl⟩
  ·exact⟨x1,HO7.out.1 1 _ rfl⟩
  ·exact⟨x2,HO7.out.1 2 _ rfl⟩
 have hki:(k:Int)<3:=by omega
 have hkn:k<3:=by omega
 have m0:=HTA7.out.1 0 _ HKK.out.1
 have m1:=HTB7.out.1 1 _ HKK.out.2.1
 have HQ:Hid (PtOK ⟨p.a,q.b,y,L,D,E,SZ⟩):=Lib.hid ⟨HSZ.out.2.2,HT.out,HSZ.out.1⟩
 go_upto_region 5 with (fail)
 clear ky
 go_wp2_with (with_reducible refine stop_tab ?_)
 refine load_tab HTT7.out rfl hlen ?_
 go_wp2_with (with_reducible refine stop_build ?_)
 rw[←HCA.out]
 refine build_part (p:=⟨p.a,q.b,y,L,D,E,SZ⟩) rfl rfl rfl HQ.out ?_
 have HQL:Hid ((ptc ⟨p.a,q.b,y,L,D,E,SZ⟩).length=321∧ ∀u∈ptc ⟨p.a,q.b,y,L,D,E,SZ⟩,u.oneCell'=true):=Lib.hid ⟨HQ.out.len,ptc_one _⟩
 obtain⟨CQ,hCQ⟩: ∃c,ptc ⟨p.a,q.b,y,L,D,E,SZ⟩=c:=⟨_,rfl⟩
 rw[hCQ] at HQL ⊢
 have HCQ:=Lib.hid hCQ
 rw[HCA.out]
 clear hCQ
 go_wp2_with (with_reducible refine stop_partS ?_)
 refine store_part HTR7.out rfl rfl HZL.out HQL.out.1 HQL.out.2 ?_
 intro w9 hr9 hf9
 have HR9:=Lib.hid hr9
 have HB9:Hid (Below w.heap.size w w9):=Lib.hid (HB7.out.trans (hf9.below HB7.out.size (fun k hk=>by rw[List.mem_singleton.1 hk];have:=HAB.out;omega)))
 clear hr9 hf9
 go_wp2_with (fail)
 refine bodyPost_ret (results_part rfl _ _ HR9.out HQL.out.1 rfl) rfl ?_
 exact⟨⟨p.a,q.b,y,L,D,E,SZ⟩,by rw[HCQ.out],HQ.out,rfl,rfl,HB9.out⟩
end Go.Proofs.YtmdgeoalamancaaGreatDoor
namespace Go.Proofs.YtmdgeoalamancaaGreatDoor
open Go.RowKit
open Bt Can Mc Pk
def ptC (qs:List Prt):List Value:=qs.flatMap ptc
theorem ptC_app (a b:List Prt):ptC (a++b)=ptC a++ptC b:=by unfold ptC;rw[List.flatMap_append]
theorem ptC_sing (q:Prt):ptC [q]=ptc q:=by unfold ptC;simp
theorem ptC_one (qs:List Prt): ∀u∈ptC qs,u.oneCell'=true:=by
 intro u hu
 unfold ptC at hu
 obtain⟨p,_,hp⟩:=List.mem_flatMap.1 hu
 exact ptc_one p u hp
theorem ptC_get: ∀(qs:List Prt),(∀q∈qs,PtOK q)→ ∀(j:Nat) (q:Prt),qs[j]? =some q→ ∀(i:Nat) (u:Value),(ptc q)[i]? =some u→(ptC qs)[j*321+i]? =some u
 | [],_,j,q,h,_,_,_=>by simp at h
 |r::qs,ho,0,q,h,i,u,hu=>by
  simp only[List.getElem?_cons_zero,Option.some.injEq] at h
  subst h
  unfold ptC
  rw[List.flatMap_cons,Nat.zero_mul,Nat.zero_add,List.getElem?_append_left (List.getElem?_eq_some_iff.1 hu).1]
  exact hu
 |r::qs,ho,j+1,q,h,i,u,hu=>by
  have ih:=ptC_get qs (fun x hx=>ho x (by simp[hx])) j q (by simpa using h) i u hu
  have hl:=(ho r (by simp)).len
  unfold ptC at ih ⊢
  rw[List.flatMap_cons,List.getElem?_append_right (by rw[hl];omega),hl,show (j+1)*321+i-321=j*321+i by omega]
  exact ih
theorem ptC_take: ∀(qs:List Prt),(∀q∈qs,PtOK q)→ ∀k,(ptC qs).take (k*321)=ptC (qs.take k)
 | [],_,k=>by simp[ptC]
 |q::qs,h,0=>by simp[ptC]
 |q::qs,h,k+1=>by
  have ih:=ptC_take qs (fun x hx=>h x (by simp[hx])) k
  have hl:=(h q (by simp)).len
  unfold ptC at ih ⊢
  rw[List.flatMap_cons,List.take_succ_cons,List.flatMap_cons,←ih,show (k+1)*321=(ptc q).length+k*321 by rw[hl];omega,List.take_append,List.take_of_length_le (by omega)]
  congr 2
  omega
theorem info_pt:(Tryz.prog.info? 221).map (fun i=>(i.zero,i.size,i.bytes))=some (some (.agg Tryz.zeroCells221),321,2568):=by kernel_rfl
theorem run_bs_part (W:World) (cs:List Value) (hl:cs.length=321) (parts:Array (Nat × Value)) (hp:parts.toList=[(0,.agg cs.toArray)]):(Instr.buildSlice 215 1 parts).run Tryz.prog W= .ok (.slice (some ⟨W.heap.size,0,none⟩) 1 1) (W.alloc (.cells cs.toArray 221)):=by
 obtain⟨i0,hi,hz0,hz1,hz2⟩:=info_parts info_pt
 refine run_buildSlice W _ _ 1 parts cs.toArray i0 _ Tryz.underlying215 hi hz0 (by rw[hz1];decide) (by rw[hz1];decide) ?_
 rw[hp,hz1]
 obtain⟨r,hr,hsz,hk⟩:=Great.fill_dense (s:=321) (by decide) [Value.agg cs.toArray] 0 ((Array.range (1*321)).map ((Value.agg Tryz.zeroCells221).cells[· %(Value.agg Tryz.zeroCells221).cells.size]!)) (fun v hv=>by rw[List.mem_singleton.1 hv];show cs.toArray.size=321;rw[List.size_toArray,hl]) (by simp)
 have e:r=cs.toArray:=by
  refine Array.ext_getElem? fun k=> ?_
  rw[hk k]
  by_cases h:k<321
  ·rw[if_pos (by simp;omega),Nat.div_eq_of_lt h,Nat.mod_eq_of_lt h]
   rfl
  ·rw[if_neg (by simp;omega),Array.getElem?_eq_none (by simp;omega),Array.getElem?_eq_none (by rw[List.size_toArray,hl];omega)]
 rw[e] at hr
 exact hr
theorem Row.first {w:World} {b e size n k:Nat} {v:Value} {xs:List Value} (h:Row b e size w v n xs) (hk:k≤n) (hn:0<n): ∃g cap,v= .slice (some ⟨g,0,none⟩) n cap∧Row b e size w (.slice (some ⟨g,0,none⟩) k cap) k (xs.take (k*size)):=by
 rcases h.2 with ⟨_,h0⟩|⟨g,cap,cur,hv,hb,hg,hnc,hcm,hcs,ht⟩
 ·omega
 ·refine⟨g,cap,hv,?_,.inr ⟨g,cap,cur,rfl,hb,hg,by omega,hcm,hcs,?_⟩⟩
  ·rw[List.length_take,h.1]
   exact Nat.min_eq_left (Nat.mul_le_mul_right _ hk)
  ·rw[←ht,List.take_take,Nat.min_eq_left (Nat.mul_le_mul_right _ hk)]
end Go.Proofs.YtmdgeoalamancaaGreatDoor
namespace Go.Proofs.YtmdgeoalamancaaGreatDoor
open Go.RowKit
open Bt Can Mc Pk
structure Pts (qs:List Prt) (e:Nat):Prop where
 ok: ∀q∈qs,PtOK q
 ct:Ctg 0 (qs.map fun q=>(q.a,q.b,q.x)) e
theorem ctg_app: ∀{a b c:Nat} {ps rs:List Pce},Ctg a ps b→Ctg b rs c→Ctg a (ps++rs) c
 |a,b,c,[],rs,h,k=>by
  have:a=b:=h
  subst this
  exact k
 |a,b,c,p::r,rs,h,k=>⟨h.1,h.2.1,ctg_app h.2.2 k⟩
theorem ctg_split: ∀{a c:Nat} {ps rs:List Pce},Ctg a (ps++rs) c→ ∃b,Ctg a ps b∧Ctg b rs c
 |a,c,[],rs,h=>⟨a,rfl,h⟩
 |a,c,p::r,rs,h=>by
  obtain⟨b,h1,h2⟩:=ctg_split (ps:=r) h.2.2
  exact⟨b,⟨h.1,h.2.1,h1⟩,h2⟩
theorem ctg_end: ∀{a b c:Nat} {ps:List Pce},Ctg a ps b→Ctg a ps c→b=c
 |a,b,c,[],h,k=>by
  have h1:a=b:=h
  have k1:a=c:=k
  omega
 |a,b,c,p::r,h,k=>ctg_end h.2.2 k.2.2
theorem Pts.nil:Pts [] 0:=⟨fun q h=>(by cases h),rfl⟩
theorem drop_at2 {α:Type} {l:List α} {i:Nat} {x:α} (h:l[i]? =some x):l.drop i=x::l.drop (i+1):=by
 obtain⟨hi,hx⟩:=List.getElem?_eq_some_iff.1 h
 rw[List.drop_eq_getElem_cons hi,hx]
theorem Pts.snoc {qs:List Prt} {e:Nat} {q:Prt} (h:Pts qs e) (hq:PtOK q) (ha:q.a=e):Pts (qs++[q]) q.b:=by
 refine⟨fun x hx=> ?_,?_⟩
 ·rcases List.mem_append.1 hx with hx|hx
  ·exact h.ok x hx
  ·rw[List.mem_singleton.1 hx];exact hq
 ·rw[List.map_append]
  exact ctg_app h.ct ⟨ha,by rw[←ha];exact hq.le,rfl⟩
theorem Pts.two {qs:List Prt} {e:Nat} (h:Pts qs e) (h2:2≤qs.length): ∃rs p q,qs=rs++[p,q]∧qs[qs.length-2]? =some p∧qs[qs.length-1]? =some q∧PtOK p∧PtOK q∧p.b=q.a∧q.b=e∧Pts rs p.a:=by
 obtain⟨p,hp⟩: ∃p,qs[qs.length-2]? =some p:=⟨_,List.getElem?_eq_getElem (by omega)⟩
 obtain⟨q,hq⟩: ∃q,qs[qs.length-1]? =some q:=⟨_,List.getElem?_eq_getElem (by omega)⟩
 have e1:qs=qs.take (qs.length-2)++[p,q]:=by
  have h3:=List.take_append_drop (qs.length-2) qs
  have d1:=drop_at2 hp
  have d2:=drop_at2 (show qs[qs.length-2+1]? =some q by rw[show qs.length-2+1=qs.length-1 by omega];exact hq)
  rw[d2,show qs.drop (qs.length-2+1+1)=[] from List.drop_eq_nil_of_le (by omega)] at d1
  rw[d1] at h3
  exact h3.symm
 have hct:=h.ct
 rw[e1,List.map_append] at hct
 obtain⟨b,c1,c2⟩:=ctg_split hct
 obtain⟨c3,c4,c5,c6,c7⟩:=c2
 have c3':p.a=b:=c3
 have c5':q.a=p.b:=c5
 have c7':q.b=e:=c7
 refine⟨qs.take (qs.length-2),p,q,e1,hp,hq,h.ok p (List.mem_of_getElem? hp),h.ok q (List.mem_of_getElem? hq),c5'.symm,c7',⟨fun x hx=>h.ok x (List.mem_of_mem_take hx),by rw[c3'];exact c1⟩⟩
theorem Pts.join {rs:List Prt} {p q r:Prt} {e:Nat} (h:Pts rs p.a) (hr:PtOK r) (ha:r.a=p.a) (hb:r.b=e):Pts (rs++[r]) e:=by
 have:=h.snoc hr ha
 rwa [hb] at this
theorem sl_pce {w:World} {B n cap:Nat} {a:Option Addr} {ts:List Pce} (h:Sl w B 3 (.slice a n cap) n (pcC ts)) (hn:n=ts.length) {j:Nat} {t:Pce} (hj:ts[j]? =some t): ∃b off,a=some ⟨b,off,none⟩∧w.cell? ⟨b,off+j*3,none⟩=some (.int .i64 (t.1:Nat))∧w.cell? ⟨b,off+j*3+1,none⟩=some (.int .i64 (t.2.1:Nat))∧w.cell? ⟨b,off+j*3+2,none⟩=some (.int .i64 t.2.2):=by
 have hlt:=(List.getElem?_eq_some_iff.1 hj).1
 obtain⟨b,off,cap',hv,_,_,hc⟩:=h.pos (by omega)
 injection hv with hv
 obtain⟨g1,g2,g3⟩:=pcC_get ts j t hj
 exact⟨b,off,hv,hc _ _ g1,by have:=hc _ _ g2;rwa [←Nat.add_assoc] at this,by have:=hc _ _ g3;rwa [←Nat.add_assoc] at this⟩
theorem stop_bs {P:Program} {ops:Array Oper} {Q:Exit→Act→World→Prop} {rest:List Oper} {a:Act} {w:World} {d:Option Tmp} {n:Nat} {t:TypeId} {ps:Array (Nat × Operand)} {pos:String} {aft:Array Edge} {g:Option (Nat × Bool)}
  (h:Stop (wpList P ops Q (⟨d,.buildSlice 215 n ps,t,pos,aft,g⟩::rest) a w)):wpList P ops Q (⟨d,.buildSlice 215 n ps,t,pos,aft,g⟩::rest) a w:=h
theorem bs_part {ops:Array Oper} {Q:Exit→Act→World→Prop} {rest:List Oper} {a:Act} {w:World} {d:Option Tmp} {t:TypeId} {pos:String} {aft:Array Edge} {i:Tmp} {cs:List Value} (h0:a.eval (.tmp i)= .agg cs.toArray) (hl:cs.length=321)
  (h:wpList Tryz.prog ops Q rest (a.put d (.slice (some ⟨w.heap.size,0,none⟩) 1 1)) (w.alloc (.cells cs.toArray 221))):Stop (wpList Tryz.prog ops Q (⟨d,.buildSlice 215 1 #[(0,.tmp i)],t,pos,aft,none⟩::rest) a w):=by
 refine wpList_plain rfl fun K hK=> ?_
 have hb:=run_bs_part w cs hl #[(0,a.eval (.tmp i))] (by rw[h0])
 unfold Oper.wp execOp
 simp only[List.map_toArray,List.map_cons,List.map_nil,Sem.run_bind,hb,Result.andThen_ok]
 exact hK _ _ h
end Go.Proofs.YtmdgeoalamancaaGreatDoor
