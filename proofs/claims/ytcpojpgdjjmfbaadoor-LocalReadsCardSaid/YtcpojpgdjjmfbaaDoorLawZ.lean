/- Rows that list variables: the wrap with the world's shape; what the two tables of unicode/utf8 and the lone variable give. -/
import Derived.Test.YtcpojpgdjjmfbaaDoorRows
import Derived.WalkKit
import Derived.ProofKit
import Derived.OpenShut
import Derived.ShutString
import Derived.Lib.SmallJoins
import Derived.Deep.Fields
import Derived.Test.YtcpojpgdjjmfbaaDoorByt
import Derived.ChangeSlices
import Derived.Test.YtcpojpgdjjmfbaaDoorNmA
import Derived.LaidMore
import Derived.Lay
import Derived.Stop.Joined
import Derived.PinnedBridge
import Derived.Lib.LaidU8
import Derived.Shelf.Vars
namespace Go.Proofs.YtcpojpgdjjmfbaaDoor
set_option linter.unusedVariables false
set_option linter.unusedSimpArgs false
set_option maxRecDepth 100000
open Go.ChangeShapes Go.WideShapes Go.ChangeAt Go.RowKit
theorem own : ownKnob Tryd.prog.godebug = none := by kernel_rfl
theorem laidOut : laidOutB Tryd.prog = true := by kernel_rfl
def readables : List TypeId → Prop
  | [] => True
  | t :: ts => (Tryd.prog.readableRec t = true ∧ decide (t < Tryd.prog.types.size) = true) ∧ readables ts
theorem trodAll_below {H : Type} {enc : TypeId × Value → H} {W W' : World} (hb : Below W.heap.size W W') : ∀ (ts : List TypeId) (vs : List Value) (ds : List (DataW H)) (ps : List MemPlace), readables ts → (∀ x ∈ ps, x.block < W.heap.size) →
    DataW.TrodAll enc Tryd.prog W 0 (fun _ => true) true ts vs ds ps → DataW.TrodAll enc Tryd.prog W' 0 (fun b => decide (b < W.heap.size)) true ts vs ds ps
  | [], [], [], ps, _, _, h => h
  | t :: ts, v :: vs, d :: ds, ps, hr, hlt, h => by
    obtain ⟨p, q, h1, h2, rfl⟩ := h
    exact ⟨p, q, Below.trod laidOut hr.1.1 (of_decide_eq_true hr.1.2) h1 hb (fun x hx => hlt x (List.mem_append_left _ hx)), trodAll_below hb ts vs ds q hr.2 (fun x hx => hlt x (List.mem_append_right _ hx)) h2, rfl⟩
  | [], [], _ :: _, _, _, _, h => h.elim
  | [], _ :: _, _, _, _, _, h => h.elim
  | _ :: _, [], _, _, _, _, h => h.elim
  | _ :: _, _ :: _, [], _, _, _, h => h.elim
theorem law_post {H : Type} {enc : TypeId × Value → H} {f : Func} {s : ChangeSpec} {W W' : World} {args : Array Value} {ds : List (DataW H)} {before : List MemPlace} (hv : s.vars = [])
    (hW : DataW.Whole enc Tryd.prog f.params.toList s.vars false W args.toList ds [] before) (hr : readables f.params.toList) (hrt : f.resultTypes = #[4])
    (hfn : s.fn H (ds ++ []) = { results := [.lit (.bool true)], args := ds, vars := [] }) (hb : Below W.heap.size W W') :
    s.post enc Tryd.prog f false true false false W args (.bool true) W' := by
  have hlt : ∀ p ∈ before, p.block < W.heap.size := fun p hp => hW.lt p hp
  have hW' := hW
  obtain ⟨p, q, hA, hV, rfl, _, _⟩ := hW
  rw [hv] at hV
  obtain ⟨_, rfl⟩ := trodVars_none hV
  refine ⟨ds, [], p ++ [], [], p, [], hW', ?_, ?_, ?_, ?_, fun h => by cases h⟩
  · rw [hfn, hrt]
    exact trodAll_cons_mk (shut_bool Tryd.underlying4 _) trodAll_mk0
  · rw [hfn]
    exact trodAll_below hb _ _ _ _ hr (fun x hx => hlt x (List.mem_append_left _ hx)) hA
  · rw [hfn, hv]; rfl
  · refine World.keptBut_mono (fun p hp => hp) (hb.frame _)
end Go.Proofs.YtcpojpgdjjmfbaaDoor
namespace Go.Proofs.YtcpojpgdjjmfbaaDoor
set_option maxRecDepth 100000
open Go.RowKit Go.ChangeShapes Go.WideShapes Go.Deep Go.Joins
theorem hdr_open {H : Type} {enc : TypeId × Value → H} {w : World} {base : Nat} {spare : Nat → Bool} {held : Bool} {r : Reach} {b0 : Nat} {v : Value} {d : DataW H} {p : List MemPlace}
    (hv : Value.okWide Tryd.prog w r b0 26 v) (h : DataW.Trod enc Tryd.prog w base spare held 26 v d p) :
    ∃ (nm : ByteArray) (y mo da ho mi se me cr pk sz : Int) (gw gl : Bool), v = .agg #[.string nm, .int .i64 y, .int .i64 mo, .int .i64 da, .int .i64 ho, .int .i64 mi, .int .i64 se, .int .i64 me, .int .u32 cr, .int .i64 pk, .int .i64 sz, .bool gw, .bool gl] ∧ nm.size ≤ maxLen ∧ (Lit.int .u32 cr).wf = true := by
  obtain ⟨cs, rfl, hsz⟩ := okWide_struct Tryd.underlying26 hv
  obtain ⟨l⟩ := cs
  have c_bool : Tryd.prog.cellsOf 4 = 1 := by kernel_rfl
  have c_int : Tryd.prog.cellsOf 3 = 1 := by kernel_rfl
  have c_uint32 : Tryd.prog.cellsOf 24 = 1 := by kernel_rfl
  have c_string : Tryd.prog.cellsOf 9 = 1 := by kernel_rfl
  have c_time : Tryd.prog.cellsOf 23 = 6 := by kernel_rfl
  have cH : Tryd.prog.cellsOf 26 = 13 := by kernel_rfl
  obtain ⟨fuel, hf⟩ := h
  obtain ⟨xs, n, _, hx, _, hlen, hg⟩ := DataW.trod_struct Tryd.underlying26 hf
  have hl8 : xs.length = 8 := hlen
  match l, hsz.trans cH with
  | [e0, e1, e2, e3, e4, e5, e6, e7, e8, e9, e10, e11, e12], _ =>
    have key : ∀ (j : Nat) (f : Field) (e : Value) (off : Nat), (#[e0, e1, e2, e3, e4, e5, e6, e7, e8, e9, e10, e11, e12] : Array Value).toList.drop off = e :: (#[e0, e1, e2, e3, e4, e5, e6, e7, e8, e9, e10, e11, e12] : Array Value).toList.drop (off + 1) → Tryd.prog.cellsOf f.type = 1 → f.offset = off → j < xs.length →
        DataW.trod enc Tryd.prog w base spare held n f.type (((#[e0, e1, e2, e3, e4, e5, e6, e7, e8, e9, e10, e11, e12] : Array Value).toList.drop f.offset).take (Tryd.prog.cellsOf f.type)) = xs[j]? → ∃ b, DataW.trod enc Tryd.prog w base spare held n f.type [e] = some b := by
      intro j f e off hd hc ho hj hh
      rw [ho, hc, hd, List.take_succ_cons, List.take_zero, List.getElem?_eq_getElem hj] at hh
      exact ⟨_, hh⟩
    have hT := hg 1 _ rfl
    rw [List.getElem?_eq_getElem (show 1 < xs.length by omega)] at hT
    change DataW.trod enc Tryd.prog w base spare held n 23 (((#[e0, e1, e2, e3, e4, e5, e6, e7, e8, e9, e10, e11, e12] : Array Value).toList.drop 1).take (Tryd.prog.cellsOf 23)) = some _ at hT
    rw [c_time] at hT
    change DataW.trod enc Tryd.prog w base spare held n 23 [e1, e2, e3, e4, e5, e6] = some _ at hT
    obtain ⟨ys, m, _, hy, _, hylen, hgy⟩ := DataW.trod_struct Tryd.underlying23 hT
    have hl6 : ys.length = 6 := hylen
    have keyT : ∀ (j : Nat) (f : Field) (e : Value), [e1, e2, e3, e4, e5, e6].drop j = e :: [e1, e2, e3, e4, e5, e6].drop (j + 1) → f.type = 3 → f.offset = j → j < ys.length →
        DataW.trod enc Tryd.prog w base spare held m f.type (([e1, e2, e3, e4, e5, e6].drop f.offset).take (Tryd.prog.cellsOf f.type)) = ys[j]? → ∃ k : Int, e = .int .i64 k := by
      intro j f e hd ht ho hj hh
      rw [ht, ho, c_int, hd, List.take_succ_cons, List.take_zero, List.getElem?_eq_getElem hj] at hh
      obtain ⟨k, ek, _, _⟩ := DataW.trod_int Tryd.underlying3 hh
      injection ek with ek
      exact ⟨k, ek⟩
    obtain ⟨y, rfl⟩ := keyT 0 _ _ rfl rfl rfl (by omega) (hgy 0 _ rfl)
    obtain ⟨mo, rfl⟩ := keyT 1 _ _ rfl rfl rfl (by omega) (hgy 1 _ rfl)
    obtain ⟨da, rfl⟩ := keyT 2 _ _ rfl rfl rfl (by omega) (hgy 2 _ rfl)
    obtain ⟨ho, rfl⟩ := keyT 3 _ _ rfl rfl rfl (by omega) (hgy 3 _ rfl)
    obtain ⟨mi, rfl⟩ := keyT 4 _ _ rfl rfl rfl (by omega) (hgy 4 _ rfl)
    obtain ⟨se, rfl⟩ := keyT 5 _ _ rfl rfl rfl (by omega) (hgy 5 _ rfl)
    obtain ⟨b7, t7⟩ := key 2 _ e7 7 rfl c_int rfl (by omega) (hg 2 _ rfl)
    obtain ⟨me, ek, _, wme⟩ := DataW.trod_int Tryd.underlying3 t7
    injection ek with ek
    subst ek
    obtain ⟨b8, t8⟩ := key 3 _ e8 8 rfl c_uint32 rfl (by omega) (hg 3 _ rfl)
    obtain ⟨cr, ek, _, wcr⟩ := DataW.trod_int Tryd.underlying24 t8
    injection ek with ek
    subst ek
    obtain ⟨b9, t9⟩ := key 4 _ e9 9 rfl c_int rfl (by omega) (hg 4 _ rfl)
    obtain ⟨pk, ek, _, wpk⟩ := DataW.trod_int Tryd.underlying3 t9
    injection ek with ek
    subst ek
    obtain ⟨b10, t10⟩ := key 5 _ e10 10 rfl c_int rfl (by omega) (hg 5 _ rfl)
    obtain ⟨sz, ek, _, wsz⟩ := DataW.trod_int Tryd.underlying3 t10
    injection ek with ek
    subst ek
    obtain ⟨b11, t11⟩ := key 6 _ e11 11 rfl c_bool rfl (by omega) (hg 6 _ rfl)
    obtain ⟨gw, ek, _⟩ := DataW.trod_bool Tryd.underlying4 t11
    injection ek with ek
    subst ek
    obtain ⟨b12, t12⟩ := key 7 _ e12 12 rfl c_bool rfl (by omega) (hg 7 _ rfl)
    obtain ⟨gl, ek, _⟩ := DataW.trod_bool Tryd.underlying4 t12
    injection ek with ek
    subst ek
    obtain ⟨b0, t0⟩ := key 0 _ e0 0 rfl c_string rfl (by omega) (hg 0 _ rfl)
    obtain ⟨nm, ek, _, hnm⟩ := DataW.trod_string Tryd.underlying9 t0
    injection ek with ek
    subst ek
    exact ⟨nm, y, mo, da, ho, mi, se, me, cr, pk, sz, gw, gl, rfl, hnm, wcr⟩
theorem u32_bd {n : Int} (h : (Lit.int .u32 n).wf = true) : 0 ≤ n ∧ n ≤ 4294967295 := by
  simpa [Lit.wf, IntKind.min, IntKind.max, IntKind.signed, IntKind.bits] using h
end Go.Proofs.YtcpojpgdjjmfbaaDoor
namespace Go.Proofs.YtcpojpgdjjmfbaaDoor
set_option maxRecDepth 100000
open Go.RowKit Go.ChangeShapes Go.WideShapes
theorem u8_bd {n : Int} (h : (Lit.int .u8 n).wf = true) : 0 ≤ n ∧ n ≤ 255 := by
  simpa [Lit.wf, IntKind.min, IntKind.max, IntKind.signed, IntKind.bits] using h
theorem u64_bd {n : Int} (h : (Lit.int .u64 n).wf = true) : 0 ≤ n ∧ n ≤ 18446744073709551615 := by
  simpa [Lit.wf, IntKind.min, IntKind.max, IntKind.signed, IntKind.bits] using h
theorem i64_bd {n : Int} (h : (Lit.int .i64 n).wf = true) : -9223372036854775808 ≤ n ∧ n ≤ 9223372036854775807 := by
  simpa [Lit.wf, IntKind.min, IntKind.max, IntKind.signed, IntKind.bits] using h
theorem bytes_open {H : Type} {enc : TypeId × Value → H} {w : World} {base : Nat} {spare : Nat → Bool} {held : Bool} {fuel : Nat} {v : Value} {x : DataW H × List MemPlace} (h : DataW.trod enc Tryd.prog w base spare held fuel 31 [v] = some x) :
    ∃ a c l, v = .slice a l.length c ∧ l.length ≤ c ∧ Byt w w.heap.size v l ∧ l.length ≤ maxLen := by
  rcases open_ints Tryd.underlying31 Tryd.underlying5 (by kernel_rfl) h with ⟨h0, _⟩ | ⟨a, len, cap, zs, hcs, hb, hl, hm, hmm, hx, hi, hw⟩
  · injection h0 with h0
    exact ⟨none, 0, [], h0, Nat.le_refl _, .inl ⟨none, 0, h0, rfl, fun _ => rfl⟩, by decide⟩
  · injection hcs with hv
    have hzl : len ≤ zs.length := by rw [hmm]; split <;> omega
    refine ⟨some a, cap, (zs.take len).map (fun z => UInt8.ofNat z.toNat), ?_, ?_, ?_, ?_⟩
    · rw [hv, List.length_map, List.length_take, Nat.min_eq_left hzl]
    · rw [List.length_map, List.length_take]; omega
    · by_cases hz : len = 0
      · subst hz
        exact .inl ⟨some a, cap, hv, by simp, fun h => by cases h⟩
      · have h0 := hi 0 (by omega)
        have ha0 : a.add 0 = a := by simp [Addr.add]
        rw [ha0] at h0
        have hsp : a.spot = none := by
          unfold World.cell? at h0
          cases hs : a.spot with
          | none => rfl
          | some s =>
            exfalso
            simp only [hs] at h0
            split at h0 <;> simp at h0
        have hbl : a.block < w.heap.size := World.block_lt_of_cell? w _ h0
        have hadd : ∀ n, a.add n = ⟨a.block, a.off + n, none⟩ := by
          intro n
          unfold Addr.add
          split
          · rename_i h; subst h; cases a; simp_all
          · rfl
        have hlen : ((zs.take len).map (fun z => UInt8.ofNat z.toNat)).length = len := by rw [List.length_map, List.length_take, Nat.min_eq_left hzl]
        refine .inr ⟨a.block, a.off, cap, ?_, ?_, hbl, fun j hj => ?_⟩
        · rw [hlen, hv]; congr 2; cases a; simp_all
        · rw [hlen]; exact hl
        · rw [hlen] at hj
          have h1 := hi j (by omega)
          rw [hadd] at h1
          rw [h1]
          have hjz : j < zs.length := by omega
          have hwj := u8_bd (hw zs[j] (List.getElem_mem hjz))
          have e1 : zs.getD j 0 = zs[j] := by simp [hjz]
          have e2 : ((zs.take len).map (fun z => UInt8.ofNat z.toNat)).getD j 0 = UInt8.ofNat (zs[j]).toNat := by
            simp [hj, hjz]
          rw [e1, e2, UInt8.toNat_ofNat', Nat.mod_eq_of_lt (by omega), Int.toNat_of_nonneg hwj.1]
    · rw [List.length_map, List.length_take]; omega
end Go.Proofs.YtcpojpgdjjmfbaaDoor
namespace Go.Proofs.YtcpojpgdjjmfbaaDoor
set_option maxRecDepth 100000
open Go.ChangeShapes Go.WideShapes Go.ChangeAt Go.RowKit
theorem returns_laid {H : Type} {enc : TypeId × Value → H} {a : Assume} {C : Checked} {os : Os} {f : FuncId} {fn : Func} {s : ChangeSpec} {conds : List PathCond} {apart fresh handsOn again : Bool} {X : World → Array Value → Prop}
    (hX : ∀ (w w' : World) (args : Array Value), w.heap = w'.heap → X w args → X w' args)
    (own : ownKnob C.prog.godebug = none) (started : os.Started) (noInit : C.prog.inits.idxOf? f = none) (hfn : C.prog.funcs[f]? = some fn)
    (witness : ∃ (w : World) (tape : Tape) (i : Input), w.os = os ∧ (w.forCall tape i).Shaped C.prog ∧ i.vars = [] ∧ Input.okWide C.prog (w.forCall tape i) .any w.heap.size f i ∧
      ((s.pre enc C.prog fn conds apart (w.forCall tape i).memory i.args ∧ X (w.forCall tape i).memory i.args) ∧ sizedMet enc C.prog fn (OpenSpec.ofChange s) apart (w.forCall tape i).memory i.args) ∧ a.holds C.prog (lone (Frame.enter C.prog f i.args .normal) [] (w.forCall tape i)))
    (contract : ∀ (W : World) (base : Nat) (args : Array Value) (ds gs : List (DataW H)) (before : List MemPlace),
      (∀ (j : Nat) t v, fn.params[j]? = some t → args[j]? = some v → Value.okWide C.prog W .any base t v) →
      DataW.Whole enc C.prog fn.params.toList s.vars apart W args.toList ds gs before → X W args → W.ShapedOpen C.prog →
      Calls C.prog f args W fun e W' => ∃ v, e = .returned v ∧ s.post enc C.prog fn apart fresh handsOn again W args v W') :
    ReturnsInHanded a C os f .any (fun w args => (s.pre enc C.prog fn conds apart w args ∧ X w args) ∧ sizedMet enc C.prog fn (OpenSpec.ofChange s) apart w args) (s.post enc C.prog fn apart fresh handsOn again) := by
  refine returnsInHanded_of_calls own started noInit witness ?_
  intro w tape i _ hsh _ hok hpre hholds
  obtain ⟨_, _, _, fn', hfn', _, _, _, _, hval⟩ := hok
  have e : fn' = fn := Option.some.inj (hfn'.symm.trans hfn)
  subst e
  obtain ⟨⟨⟨ds, gs, before, hw, hc⟩, hx⟩, hz⟩ := hpre
  have hw' := DataW.Whole.of_heap (w' := w.forCall tape i) (by rfl) hw
  refine (contract (w.forCall tape i) w.heap.size i.args ds gs before hval hw' (hX _ _ _ (by rfl) hx) hsh).mono fun e W' ⟨v, he, hp⟩ => ?_
  subst he
  exact ChangeSpec.post_blind hp
/-- What the rows list. -/
def laidN : List (String × DataW Unit) := [("unicode/utf8.acceptRanges", Rows.laid_unicode_utf8_acceptRanges), ("unicode/utf8.first", Rows.laid_unicode_utf8_first)]
theorem accept_eq : (Rows.laid_unicode_utf8_acceptRanges : DataW Unit) = Lib.acceptData := by kernel_rfl
theorem first_eq : Rows.laid_unicode_utf8_first = Lib.firstData := Pinned.utf8First_eq
theorem tabs_of {W : World} (h : laidMetH Tryd.prog laidN W) : Lib.Utf8Tabs 0 1 W := by
  rw [MakeChecks.laidMetH_plain _ _ _ (by kernel_rfl)] at h
  have h3 := Lib.laidMet.reads h (n := "unicode/utf8.first") (d := Rows.laid_unicode_utf8_first) (by unfold laidN; simp)
  have h4 := Lib.laidMet.reads h (n := "unicode/utf8.acceptRanges") (d := Rows.laid_unicode_utf8_acceptRanges) (by unfold laidN; simp)
  rw [first_eq] at h3
  rw [accept_eq] at h4
  have c5 : Tryd.prog.cellsOf 5 = 1 := by kernel_rfl
  refine ⟨fun c hc => ?_, fun i hi => ?_⟩
  · obtain ⟨g, t, cs, fuel, p, hg, hty, hvar, hd⟩ := h3
    obtain rfl := Option.some.inj ((show Tryd.prog.globalNamed "unicode/utf8.first" = some 0 by kernel_rfl).symm.trans hg)
    obtain rfl := Option.some.inj ((show (Tryd.prog.globals[0]?).map (·.type) = some 103 by kernel_rfl).symm.trans hty)
    have hcs := Lib.cells_of_tab Tryd.underlying103 Tryd.underlying5 c5 (by kernel_rfl) hd
    have := World.var?_cell hg hvar c
    rw [this, ← Array.getElem?_toList, hcs]
    simp [Lib.firstTab, hc]
  · obtain ⟨g, t, cs, fuel, p, hg, hty, hvar, hd⟩ := h4
    obtain rfl := Option.some.inj ((show Tryd.prog.globalNamed "unicode/utf8.acceptRanges" = some 1 by kernel_rfl).symm.trans hg)
    obtain rfl := Option.some.inj ((show (Tryd.prog.globals[1]?).map (·.type) = some 107 by kernel_rfl).symm.trans hty)
    obtain ⟨fuel', d, q, hdi, he⟩ := Lib.array_elem Tryd.underlying107 hd i hi
    simp only [List.getElem?_map, List.getElem?_range hi, Option.map_some, Option.some.injEq] at hdi
    subst hdi
    have cA : Tryd.prog.cellsOf 106 = 2 := by kernel_rfl
    rw [cA] at he
    have hcs := Lib.ints_of_struct Tryd.underlying106 (fun j f hj => by
      match j, hj with
      | 0, hj => simp at hj; subst hj; exact ⟨Tryd.underlying5, rfl, c5⟩
      | 1, hj => simp at hj; subst hj; exact ⟨Tryd.underlying5, rfl, c5⟩
      | j + 2, hj => simp at hj) (by rw [cA]; rfl) he
    have e0 := congrArg (·[0]?) hcs
    have e1 := congrArg (·[1]?) hcs
    simp only [List.getElem?_take, List.getElem?_drop] at e0 e1
    constructor
    · rw [World.var?_cell hg hvar (2 * i), ← Array.getElem?_toList]
      simpa [Nat.mul_comm] using e0
    · rw [World.var?_cell hg hvar (2 * i + 1), ← Array.getElem?_toList]
      simpa [Nat.mul_comm] using e1
theorem heap_lt {W : World} {g o : Nat} {v : Value} (h : W.cell? ⟨g, o, none⟩ = some v) : g < W.heap.size := by
  by_cases hg : g < W.heap.size
  · exact hg
  · exfalso
    unfold World.cell? at h
    rw [show W.heap[(⟨g, o, none⟩ : Addr).block]? = none from Array.getElem?_eq_none (show W.heap.size ≤ g by omega)] at h
    simp at h
theorem amb_of {W : World} (h : laidMetH Tryd.prog laidN W) (hs : W.ShapedOpen Tryd.prog) : Amb W := by
  have h1 := tabs_of h
  have h2 : ∃ m, W.cell? ⟨2, 0, none⟩ = some (.int .i64 m) :=
    cell_of_shapedOpen_int hs (by decide +kernel) (zero := #[.int .i64 0]) (t := 3) (by kernel_rfl) rfl (by kernel_rfl) (by kernel_rfl) Tryd.underlying3
  refine ⟨?_, h1, h2⟩
  have a1 := heap_lt (h1.1 0 (by omega))
  have a2 := heap_lt (h1.2 0 (by omega)).1
  obtain ⟨m, hm⟩ := h2
  have a3 := heap_lt hm
  omega
theorem laid_met (os : Os) (args : Array Value) : laidMetH Tryd.prog laidN ((World.laidAll Tryd.prog os laidN).forCall (fun _ _ => 0) ⟨#[], args, []⟩).memory := by
  rw [MakeChecks.laidMetH_plain _ _ _ (by kernel_rfl)]
  exact laidMet_laidAll _ (by kernel_rfl) (by kernel_rfl)
end Go.Proofs.YtcpojpgdjjmfbaaDoor
