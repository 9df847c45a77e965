/- The last step of a law's row: a law that returns true and changes nothing that was there meets its specification. An argument that is a slice reads as a slice of cells. The row's variables: what the tables read as; the arguments. -/
import Derived.Test.YtmdgeoalamancaaGreatDoorRows
import Derived.WalkKit
import Derived.ProofKit
import Derived.OpenShut
import Derived.ShutString
import Derived.Test.YtmdgeoalamancaaGreatDoorZAA
import Derived.Deep.Slices
import Derived.ChangeArms
import Derived.ChangeSlices
import Derived.Test.YtmdgeoalamancaaGreatDoorZAP
import Derived.LaidMore
import Derived.Lay
import Derived.Stop.Joined
import Derived.PinnedBridge
import Derived.Lib.LaidU8
import Derived.Lib.LaidTab
import Derived.Shelf.Vars
set_option maxRecDepth 100000
set_option linter.unusedVariables false
set_option linter.unusedSimpArgs false
namespace Go.Proofs.YtmdgeoalamancaaGreatDoor
open Go.ChangeShapes Go.WideShapes Go.ChangeAt Go.RowKit
theorem own:ownKnob Tryz.prog.godebug=none:=by kernel_rfl
theorem laidOut:laidOutB Tryz.prog=true:=by kernel_rfl
def readables:List TypeId→Prop
 | []=>True
 |t::ts=>(Tryz.prog.readableRec t=true∧decide (t<Tryz.prog.types.size)=true)∧readables ts
theorem trodAll_below {H:Type} {enc:TypeId × Value→H} {W W':World} (hb:Below W.heap.size W W'): ∀(ts:List TypeId) (vs:List Value) (ds:List (DataW H)) (ps:List MemPlace),readables ts→(∀x∈ps,x.block<W.heap.size)→
  DataW.TrodAll enc Tryz.prog W 0 (fun _=>true) true ts vs ds ps→DataW.TrodAll enc Tryz.prog W' 0 (fun b=>decide (b<W.heap.size)) true ts vs ds ps
 | [],[],[],ps,_,_,h=>h
 |t::ts,v::vs,d::ds,ps,hr,hlt,h=>by
  obtain⟨p,q,h1,h2,rfl⟩:=h
  exact⟨p,q,Below.trod laidOut hr.1.1 (of_decide_eq_true hr.1.2) h1 hb (fun x hx=>hlt x (List.mem_append_left _ hx)),trodAll_below hb ts vs ds q hr.2 (fun x hx=>hlt x (List.mem_append_right _ hx)) h2,rfl⟩
 | [],[],_::_,_,_,_,h=>h.elim
 | [],_::_,_,_,_,_,h=>h.elim
 |_::_,[],_,_,_,_,h=>h.elim
 |_::_,_::_,[],_,_,_,h=>h.elim
theorem law_post {H:Type} {enc:TypeId × Value→H} {f:Func} {s:ChangeSpec} {W W':World} {args:Array Value} {ds:List (DataW H)} {before:List MemPlace} (hv:s.vars=[])
  (hW:DataW.Whole enc Tryz.prog f.params.toList s.vars false W args.toList ds [] before) (hr:readables f.params.toList) (hrt:f.resultTypes=#[4])
  (hfn:s.fn H (ds++[])={results:=[.lit (.bool true)],args:=ds,vars:=[]}) (hb:Below W.heap.size W W'):
  s.post enc Tryz.prog f false true false false W args (.bool true) W':=by
 have hlt: ∀p∈before,p.block<W.heap.size:=fun p hp=>hW.lt p hp
 have hW':=hW
 obtain⟨p,q,hA,hV,rfl,_,_⟩:=hW
 rw[hv] at hV
 obtain⟨_,rfl⟩:=trodVars_none hV
 refine⟨ds,[],p++[],[],p,[],hW',?_,?_,?_,?_,fun h=>by cases h⟩
 ·rw[hfn,hrt]
  exact trodAll_cons_mk (shut_bool Tryz.underlying4 _) trodAll_mk0
 ·rw[hfn]
  exact trodAll_below hb _ _ _ _ hr (fun x hx=>hlt x (List.mem_append_left _ hx)) hA
 ·rw[hfn,hv];rfl
 ·refine World.keptBut_mono (fun p hp=>hp) (hb.frame _)
end Go.Proofs.YtmdgeoalamancaaGreatDoor
namespace Go.Proofs.YtmdgeoalamancaaGreatDoor
open Go.RowKit Go.ChangeShapes Go.WideShapes Go.Deep
theorem spot_none {w:World} {a:Addr} {u:Value} (h:w.cell? (a.add 0)=some u):a=⟨a.block,a.off,none⟩:=by
 have ha0:a.add 0=a:=by simp[Addr.add]
 rw[ha0] at h
 have hsp:a.spot=none:=by
  unfold World.cell? at h
  cases hs:a.spot with
  |none=>rfl
  |some s=>
   exfalso
   simp only[hs] at h
   split at h<;>simp at h
 cases a;simp_all
theorem sl_open {H:Type} {enc:TypeId × Value→H} {w:World} {base:Nat} {spare:Nat→Bool} {held:Bool} {fuel size:Nat} {t e:TypeId} {v:Value} {x:DataW H × List MemPlace} (ht:Tryz.prog.underlying t=some (.slice e)) (hc:Tryz.prog.cellsOf e=size) (hs:0<size)
  (h:DataW.trod enc Tryz.prog w base spare held fuel t [v]=some x):
  ∃n cs,Sl w w.heap.size size v n cs∧n≤maxLen∧ ∀i,i<n→ ∃f y,DataW.trod enc Tryz.prog w base spare held f e ((cs.drop (i*size)).take size)=some y:=by
 rcases open_slice ht h with ⟨h0,_⟩|⟨a,len,cap,m,n,D,Pl,hcs,hb,hl,hm,hmm,hx,hall⟩
 ·injection h0 with h0
  subst h0
  exact⟨0,[],Sl.nil,Nat.zero_le _,fun i hi=>by omega⟩
 ·injection hcs with hv
  subst hv
  have hlm:len≤m:=by rw[hmm];split<;>omega
  rw[hc] at hall
  by_cases hz:len=0
  ·subst hz
   exact⟨0,[],⟨by simp,some a,cap,rfl,Nat.zero_le _,.inl ⟨rfl,fun h=>by cases h⟩⟩,Nat.zero_le _,fun i hi=>by omega⟩
  have hcell: ∀i,i<len→ ∀j,j<size→ ∃c,w.cell? ((a.add (i*size)).add j)=some c:=by
   intro i hi j hj
   obtain⟨cs',h1,_⟩:=hall i (by omega)
   obtain⟨_,h2,h3⟩:=World.cells?_some h1
   exact⟨cs'[j]'(by omega),by rw[h3 j hj,List.getElem?_eq_getElem (by omega)]⟩
  have hpl:a=⟨a.block,a.off,none⟩:=by
   obtain⟨c,hc0⟩:=hcell 0 (by omega) 0 hs
   rw[Nat.zero_mul] at hc0
   have e0:(a.add 0).add 0=a.add 0:=by simp[Addr.add]
   rw[e0] at hc0
   exact spot_none hc0
  generalize a.block=b at hpl
  generalize a.off=off at hpl
  subst hpl
  have hadd: ∀i j,((⟨b,off,none⟩:Addr).add (i*size)).add j=⟨b,off+(i*size+j),none⟩:=by
   intro i j
   rw[add_plain,add_plain,Nat.add_assoc]
  simp only[hadd] at hcell
  have hj: ∀j,j<len*size→ ∃c,w.cell? ⟨b,off+j,none⟩=some c:=by
   intro j hj
   have:=hcell (j/size) (Nat.div_lt_of_lt_mul (by rw[Nat.mul_comm];exact hj)) (j%size) (Nat.mod_lt _ hs)
   rwa [Nat.mul_comm,Nat.div_add_mod] at this
  have hbl:b<w.heap.size:=by
   obtain⟨c,hc0⟩:=hj 0 (Nat.mul_pos (by omega) hs)
   exact World.block_lt_of_cell? w _ hc0
  refine⟨len,(List.range (len*size)).map fun j=>(w.cell? ⟨b,off+j,none⟩).getD undef,⟨by simp,some ⟨b,off,none⟩,cap,rfl,hl,.inr ⟨b,off,rfl,hbl,fun j u hu=> ?_⟩⟩,by omega,fun i hi=> ?_⟩
  ·have hjl:j<len*size:=by
    have:=(List.getElem?_eq_some_iff.1 hu).1
    simpa using this
   rw[List.getElem?_map,List.getElem?_range hjl] at hu
   obtain⟨c,hc0⟩:=hj j hjl
   simp only[Option.map_some,hc0,Option.getD_some,Option.some.injEq] at hu
   subst hu
   exact hc0
  ·obtain⟨cs',h1,h2⟩:=hall i (by omega)
   obtain⟨_,h3,h4⟩:=World.cells?_some h1
   refine⟨n,(D i,Pl i),?_⟩
   rw[show ((((List.range (len*size)).map fun j=>(w.cell? ⟨b,off+j,none⟩).getD undef).drop (i*size)).take size)=cs' from ?_]
   ·exact h2
   ·refine List.ext_getElem? fun j=> ?_
    by_cases hjs:j<size
    ·have hlt:i*size+j<len*size:=by
      have:(i+1)*size≤len*size:=Nat.mul_le_mul_right _ hi
      rw[Nat.add_mul,Nat.one_mul] at this
      omega
     rw[List.getElem?_take,if_pos hjs,List.getElem?_drop,List.getElem?_map,List.getElem?_range hlt]
     have h5:=h4 j hjs
     rw[hadd] at h5
     obtain⟨c,hc0⟩:=hcell i hi j hjs
     rw[hc0] at h5
     simp only[Option.map_some,hc0,Option.getD_some]
     exact h5
    ·rw[List.getElem?_eq_none (by simp;omega),List.getElem?_eq_none (by omega)]
end Go.Proofs.YtmdgeoalamancaaGreatDoor
namespace Go.Proofs.YtmdgeoalamancaaGreatDoor
open Go.ChangeShapes Go.WideShapes Go.ChangeAt Go.RowKit
theorem returns_laid {H:Type} {enc:TypeId × Value→H} {a:Assume} {C:Checked} {os:Os} {f:FuncId} {fn:Func} {s:ChangeSpec} {conds:List PathCond} {apart fresh handsOn again:Bool} {X:World→Array Value→Prop}
  (hX: ∀(w w':World) (args:Array Value),w.heap=w'.heap→X w args→X w' args)
  (own:ownKnob C.prog.godebug=none) (started:os.Started) (noInit:C.prog.inits.idxOf? f=none) (hfn:C.prog.funcs[f]? =some fn)
  (witness: ∃(w:World) (tape:Tape) (i:Input),w.os=os∧(w.forCall tape i).Shaped C.prog∧i.vars=[]∧Input.okWide C.prog (w.forCall tape i) .any w.heap.size f i∧
   ((s.pre enc C.prog fn conds apart (w.forCall tape i).memory i.args∧X (w.forCall tape i).memory i.args)∧sizedMet enc C.prog fn (OpenSpec.ofChange s) apart (w.forCall tape i).memory i.args)∧a.holds C.prog (lone (Frame.enter C.prog f i.args .normal) [] (w.forCall tape i)))
  (contract: ∀(W:World) (base:Nat) (args:Array Value) (ds gs:List (DataW H)) (before:List MemPlace),
   (∀(j:Nat) t v,fn.params[j]? =some t→args[j]? =some v→Value.okWide C.prog W .any base t v)→
   DataW.Whole enc C.prog fn.params.toList s.vars apart W args.toList ds gs before→X W args→W.ShapedOpen C.prog→
   Calls C.prog f args W fun e W'=> ∃v,e= .returned v∧s.post enc C.prog fn apart fresh handsOn again W args v W'):
  ReturnsInHanded a C os f .any (fun w args=>(s.pre enc C.prog fn conds apart w args∧X w args)∧sizedMet enc C.prog fn (OpenSpec.ofChange s) apart w args) (s.post enc C.prog fn apart fresh handsOn again):=by
 refine returnsInHanded_of_calls own started noInit witness ?_
 intro w tape i _ hsh _ hok hpre hholds
 obtain⟨_,_,_,fn',hfn',_,_,_,_,hval⟩:=hok
 have e:fn'=fn:=Option.some.inj (hfn'.symm.trans hfn)
 subst e
 obtain⟨⟨⟨ds,gs,before,hw,hc⟩,hx⟩,hz⟩:=hpre
 have hw':=DataW.Whole.of_heap (w':=w.forCall tape i) (by rfl) hw
 refine (contract (w.forCall tape i) w.heap.size i.args ds gs before hval hw' (hX _ _ _ (by rfl) hx) hsh).mono fun e W' ⟨v,he,hp⟩=> ?_
 subst he
 exact ChangeSpec.post_blind hp
def laidN:List (String × DataW Unit):=[("punnet/crc.steps",Rows.laid_punnet_crc_steps),("unicode/utf8.acceptRanges",Rows.laid_unicode_utf8_acceptRanges),("punnet/lazy.cares",Rows.laid_punnet_lazy_cares),("punnet/alpha.lengthBases",Rows.laid_punnet_alpha_lengthBases),("punnet/alpha.lengthBits",Rows.laid_punnet_alpha_lengthBits),("punnet/alpha.distBases",Rows.laid_punnet_alpha_distBases),("punnet/alpha.order",Rows.laid_punnet_alpha_order),("unicode/utf8.first",Rows.laid_unicode_utf8_first)]
theorem laid_met (os:Os) (args:Array Value):laidMetH Tryz.prog laidN ((World.laidAll Tryz.prog os laidN).forCall (fun _ _=>0) ⟨#[],args,[]⟩).memory:=by
 rw[MakeChecks.laidMetH_plain _ _ _ (by kernel_rfl)]
 exact laidMet_laidAll _ (by kernel_rfl) (by kernel_rfl)
theorem heap_lt {W:World} {g o:Nat} {v:Value} (h:W.cell? ⟨g,o,none⟩=some v):g<W.heap.size:=by
 by_cases hg:g<W.heap.size
 ·exact hg
 ·exfalso
  unfold World.cell? at h
  rw[show W.heap[(⟨g,o,none⟩:Addr).block]? =none from Array.getElem?_eq_none (show W.heap.size≤g by omega)] at h
  simp at h
theorem tab_cell {W:World} (h:laidMet Tryz.prog laidN W) {name:String} {d:DataW Unit} {k:IntKind} {zs:List Int} {g:Nat} {t e:TypeId} {n:Nat} (hm:(name,d)∈laidN) (hd:d=Lib.tabData k zs) (hg:Tryz.prog.globalNamed name=some g) (hty:(Tryz.prog.globals[g]?).map (·.type)=some t) (ht:Tryz.prog.underlying t=some (.array n e)) (he:Tryz.prog.underlying e=some (.int k)) (hce:Tryz.prog.cellsOf e=1) (hct:Tryz.prog.cellsOf t=n) {i:Nat} {z:Int} (hz:zs[i]? =some z):W.cell? ⟨g,i,none⟩=some (.int k z):=by
 obtain⟨g',t',cs,fuel,p,hg',hty',hvar,hd'⟩:=Lib.laidMet.reads h hm
 obtain rfl:=Option.some.inj (hg.symm.trans hg')
 obtain rfl:=Option.some.inj (hty.symm.trans hty')
 rw[hd] at hd'
 have hcs:=Lib.cells_of_tab ht he hce hct hd'
 rw[World.var?_cell hg hvar i,←Array.getElem?_toList,hcs,List.getElem?_map,hz]
 rfl
theorem care_cells {H:Type} {enc:TypeId × Value→H} {w:World} {base:Nat} {sp:Nat→Bool} {held:Bool} {fuel:Nat} {cs:List Value} {a c:Int} {b:Bool} {p:List MemPlace} (h:DataW.trod enc Tryz.prog w base sp held fuel 158 cs=some (.agg [.lit (.int .i64 a),.lit (.bool b),.lit (.int .i64 c)],p)):cs[0]? =some (.int .i64 a)∧cs[1]? =some (.bool b)∧cs[2]? =some (.int .i64 c):=by
 obtain⟨xs,n,rfl,hx,hl,hxl,hall⟩:=DataW.trod_struct Tryz.underlying158 h
 have hxs:xs.map (·.1)=[.lit (.int .i64 a),.lit (.bool b),.lit (.int .i64 c)]:=by
  have:=congrArg Prod.fst hx
  simpa using this.symm
 have e0:=congrArg (·[0]?) hxs
 have e1:=congrArg (·[1]?) hxs
 have e2:=congrArg (·[2]?) hxs
 simp only[List.getElem?_map,List.getElem?_cons_zero,List.getElem?_cons_succ] at e0 e1 e2
 obtain⟨x0,hx0,e0⟩:=Option.map_eq_some_iff.1 e0
 obtain⟨x1,hx1,e1⟩:=Option.map_eq_some_iff.1 e1
 obtain⟨x2,hx2,e2⟩:=Option.map_eq_some_iff.1 e2
 have h0:=hall 0 _ rfl
 have h1:=hall 1 _ rfl
 have h2:=hall 2 _ rfl
 rw[hx0] at h0
 rw[hx1] at h1
 rw[hx2] at h2
 obtain⟨z0,c0,rfl,_⟩:=DataW.trod_int Tryz.underlying3 h0
 obtain⟨z1,c1,rfl⟩:=DataW.trod_bool Tryz.underlying4 h1
 obtain⟨z2,c2,rfl,_⟩:=DataW.trod_int Tryz.underlying3 h2
 simp at e0 e1 e2
 subst e0 e1 e2
 have f0:=congrArg (·[0]?) c0
 have f1:=congrArg (·[0]?) c1
 have f2:=congrArg (·[0]?) c2
 have ci:Tryz.prog.cellsOf 3=1:=by kernel_rfl
 have cb:Tryz.prog.cellsOf 4=1:=by kernel_rfl
 simp only[ci,cb,List.getElem?_take,List.getElem?_drop] at f0 f1 f2
 exact⟨by simpa[ci] using f0,by simpa[cb] using f1,by simpa[ci] using f2⟩
def crD:List (Nat × Bool × Nat):=[(0,false,0),(4,false,8),(8,false,16),(16,false,32),(16,true,16),(32,true,32),(64,true,64),(128,true,128),(512,true,258),(4096,true,258)]
theorem cares_eq:(Rows.laid_punnet_lazy_cares:DataW Unit)= .agg (crD.map fun x=> .agg [.lit (.int .i64 (x.1:Nat)),.lit (.bool x.2.1),.lit (.int .i64 (x.2.2:Nat))]):=by kernel_rfl
theorem cr_of {W:World} (h0:laidMetH Tryz.prog laidN W) (hsz:8≤W.heap.size):Cr W:=by
 rw[MakeChecks.laidMetH_plain _ _ _ (by kernel_rfl)] at h0
 have h3:=Lib.laidMet.reads h0 (n:= "punnet/lazy.cares") (d:=Rows.laid_punnet_lazy_cares) (by unfold laidN;simp)
 obtain⟨g,t,cs,fuel,p,hg,hty,hvar,hd⟩:=h3
 obtain rfl:=Option.some.inj ((show Tryz.prog.globalNamed "punnet/lazy.cares" =some 1 by kernel_rfl).symm.trans hg)
 obtain rfl:=Option.some.inj ((show (Tryz.prog.globals[1]?).map (·.type)=some 206 by kernel_rfl).symm.trans hty)
 rw[cares_eq] at hd
 refine⟨hsz,fun n hn=> ?_⟩
 obtain⟨fuel',d,q,hdi,he⟩:=Lib.array_elem Tryz.underlying206 hd n hn
 have cA:Tryz.prog.cellsOf 158=3:=by kernel_rfl
 rw[cA] at he
 obtain⟨x,hx⟩: ∃x,crD[n]? =some x:=⟨_,List.getElem?_eq_getElem (show n<crD.length from hn)⟩
 rw[List.getElem?_map,hx] at hdi
 simp only[Option.map_some,Option.some.injEq] at hdi
 subst hdi
 obtain⟨c0,c1,c2⟩:=care_cells he
 have hb:x.1≤5000∧x.2.2≤5000:=by
  have: ∀y∈crD,y.1≤5000∧y.2.2≤5000:=by decide
  exact this x (List.mem_of_getElem? hx)
 simp only[List.getElem?_take,List.getElem?_drop] at c0 c1 c2
 refine⟨x.1,x.2.2,x.2.1,hb.1,hb.2,?_,?_,?_⟩
 ·rw[World.var?_cell hg hvar (n*3),←Array.getElem?_toList]
  simpa using c0
 ·rw[World.var?_cell hg hvar (n*3+1),←Array.getElem?_toList]
  simpa using c1
 ·rw[World.var?_cell hg hvar (n*3+2),←Array.getElem?_toList]
  simpa using c2
def nz (l:List Nat):List Int:=l.map fun (x:Nat)=>(x:Int)
theorem nz_get {l:List Nat} {i:Nat} (h:i<l.length):(nz l)[i]? =some ((l.getD i 0:Nat):Int):=by
 unfold nz
 rw[List.getElem?_map,List.getD_eq_getElem?_getD,List.getElem?_eq_getElem h]
 rfl
def stZ:List Int:=(List.range 16).map fun i=>(tn (Crc.tab i):Int)
theorem st_eq:(Rows.laid_punnet_crc_steps:DataW Unit)=Lib.tabData .u32 stZ:=by kernel_rfl
theorem lb_eq:(Rows.laid_punnet_alpha_lengthBases:DataW Unit)=Lib.tabData .i64 (nz Mc.lB):=by kernel_rfl
theorem lx_eq:(Rows.laid_punnet_alpha_lengthBits:DataW Unit)=Lib.tabData .i64 (nz Mc.lX):=by kernel_rfl
theorem db_eq:(Rows.laid_punnet_alpha_distBases:DataW Unit)=Lib.tabData .i64 (nz Mc.dB):=by kernel_rfl
theorem od_eq:(Rows.laid_punnet_alpha_order:DataW Unit)=Lib.tabData .i64 (nz Mc.odr):=by kernel_rfl
theorem gl_of {W:World} (h0:laidMetH Tryz.prog laidN W) (hsz:8≤W.heap.size):Gl W:=by
 rw[MakeChecks.laidMetH_plain _ _ _ (by kernel_rfl)] at h0
 have c3:Tryz.prog.cellsOf 3=1:=by kernel_rfl
 have c32:Tryz.prog.cellsOf 32=1:=by kernel_rfl
 refine⟨hsz,fun i hi=> ?_,fun i hi=> ?_,fun i hi=> ?_,fun i hi=> ?_,fun i hi=> ?_⟩
 ·exact tab_cell h0 (name:= "punnet/crc.steps") (by unfold laidN;simp) st_eq (by kernel_rfl) (t:=124) (by kernel_rfl) Tryz.underlying124 Tryz.underlying32 c32 (by kernel_rfl) (by unfold stZ;rw[List.getElem?_map,List.getElem?_range hi];rfl)
 ·exact tab_cell h0 (name:= "punnet/alpha.lengthBases") (by unfold laidN;simp) lb_eq (by kernel_rfl) (t:=246) (by kernel_rfl) Tryz.underlying246 Tryz.underlying3 c3 (by kernel_rfl) (nz_get (l:=Mc.lB) hi)
 ·exact tab_cell h0 (name:= "punnet/alpha.lengthBits") (by unfold laidN;simp) lx_eq (by kernel_rfl) (t:=246) (by kernel_rfl) Tryz.underlying246 Tryz.underlying3 c3 (by kernel_rfl) (nz_get (l:=Mc.lX) hi)
 ·exact tab_cell h0 (name:= "punnet/alpha.distBases") (by unfold laidN;simp) db_eq (by kernel_rfl) (t:=217) (by kernel_rfl) Tryz.underlying217 Tryz.underlying3 c3 (by kernel_rfl) (nz_get (l:=Mc.dB) hi)
 ·exact tab_cell h0 (name:= "punnet/alpha.order") (by unfold laidN;simp) od_eq (by kernel_rfl) (t:=243) (by kernel_rfl) Tryz.underlying243 Tryz.underlying3 c3 (by kernel_rfl) (nz_get (l:=Mc.odr) hi)
theorem u8_bd {n:Int} (h:(Lit.int .u8 n).wf=true):0≤n∧n≤255:=by
 simpa[Lit.wf,IntKind.min,IntKind.max,IntKind.signed,IntKind.bits] using h
theorem size_of {W:World} (hs:W.ShapedOpen Tryz.prog):8≤W.heap.size:=by
 obtain⟨m,hm⟩: ∃m,W.cell? ⟨8,0,none⟩=some (.int .i64 m):=
  cell_of_shapedOpen_int hs (by decide+kernel) (zero:=#[.int .i64 0]) (t:=3) (by kernel_rfl) rfl (by kernel_rfl) (by kernel_rfl) Tryz.underlying3
 have:=heap_lt hm
 omega
theorem u8s_build: ∀(n:Nat) (cs:List Value),cs.length=n→(∀i,i<n→ ∃x:Nat,(cs.drop i).take 1=[.int .u8 (x:Nat)]∧x<256)→ ∃l:List Nat,l.length=n∧cs=bC l∧ ∀y∈l,y<256
 |0,cs,h,_=>⟨[],rfl,by rw[List.eq_nil_of_length_eq_zero h];rfl,fun y hy=>by cases hy⟩
 |n+1,cs,h,hall=>by
  match cs,h with
  |c::cs,h=>
   obtain⟨x,hx,hx2⟩:=hall 0 (by omega)
   obtain⟨l,hl,rfl,hb⟩:=u8s_build n cs (by simpa using h) (fun i hi=>by
    obtain⟨y,hy,hy2⟩:=hall (i+1) (by omega)
    exact⟨y,by simpa using hy,hy2⟩)
   refine⟨x::l,by rw[List.length_cons,hl],?_,fun y hy=> ?_⟩
   ·have:c= .int .u8 (x:Nat):=by simpa using hx
    rw[this]
    rfl
   ·rcases List.mem_cons.1 hy with rfl|hy
    ·exact hx2
    ·exact hb y hy
theorem u8s_open {H:Type} {enc:TypeId × Value→H} {w:World} {base:Nat} {spare:Nat→Bool} {held:Bool} {fuel:Nat} {v:Value} {y:DataW H × List MemPlace} (h:DataW.trod enc Tryz.prog w base spare held fuel 23 [v]=some y): ∃l:List Nat,Sl w w.heap.size 1 v l.length (bC l)∧ ∀y∈l,y<256:=by
 obtain⟨n,cs,h1,h2,h3⟩:=sl_open Tryz.underlying23 (show Tryz.prog.cellsOf 5=1 by kernel_rfl) (by omega) h
 have hl:cs.length=n:=by have:=h1.1;omega
 obtain⟨l,hn,rfl,hg⟩:=u8s_build n cs hl (fun i hi=>by
  obtain⟨q,z,hz⟩:=h3 i hi
  rw[Nat.mul_one] at hz
  obtain⟨x,hx,_,hw⟩:=DataW.trod_int Tryz.underlying5 hz
  obtain⟨l0,u0⟩:=u8_bd hw
  exact⟨x.toNat,by rw[hx,Int.toNat_of_nonneg l0],by omega⟩)
 exact⟨l,by rw[hn];exact h1,hg⟩
theorem bss_open {H:Type} {enc:TypeId × Value→H} {w:World} {base:Nat} {spare:Nat→Bool} {held:Bool} {fuel:Nat} {v:Value} {y:DataW H × List MemPlace} (h:DataW.trod enc Tryz.prog w base spare held fuel 22 [v]=some y): ∃n vs,Sl w w.heap.size 1 v n vs∧ ∀i,i<n→ ∃sv l,vs[i]? =some sv∧Sl w w.heap.size 1 sv l.length (bC l)∧ ∀y∈l,y<256:=by
 obtain⟨n,cs,h1,h2,h3⟩:=sl_open Tryz.underlying22 (show Tryz.prog.cellsOf 23=1 by kernel_rfl) (by omega) h
 refine⟨n,cs,h1,fun i hi=> ?_⟩
 obtain⟨q,z,hz⟩:=h3 i hi
 have hl:cs.length=n:=by have:=h1.1;omega
 have e:(cs.drop (i*1)).take 1=[cs[i]'(by omega)]:=by
  rw[Nat.mul_one,List.drop_eq_getElem_cons (by omega)]
  rfl
 rw[e] at hz
 obtain⟨l,a1,a2⟩:=u8s_open hz
 exact⟨_,l,List.getElem?_eq_getElem (by omega),a1,a2⟩
end Go.Proofs.YtmdgeoalamancaaGreatDoor
