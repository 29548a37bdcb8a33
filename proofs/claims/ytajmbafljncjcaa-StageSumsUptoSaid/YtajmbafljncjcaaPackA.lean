/- Pack: a table's packed text. Plain lists and small contracts for the document's Pack: where a stretch lies, blocks in order, alike. -/
import Derived.Test.YtajmbafljncjcaaStD
import Derived.Handy
import Derived.Test.YtajmbafljncjcaaStE
/-! ### Pack: Pack: a table's packed text. -/
namespace Go.Proofs.Ytajmbafljncjcaa.Stage
open Go.RowKit Go.Proofs.YtajmbafljncjcaaW.PrintWords Go.Proofs.YtajmbafljncjcaaW.PrintLast Go.Proofs.YtajmbafljncjcaaW.PrintMore Go.Proofs.Ytajmbafljncjcaa.Mp
set_option linter.unusedVariables false
set_option linter.unusedSimpArgs false

/-- Two bytes. -/
def twoB (n : Nat) : List Int := [((n / 256 : Nat) : Int), ((n % 256 : Nat) : Int)]
theorem twoB_len (n : Nat) : (twoB n).length = 2 := rfl
theorem infoB : (Try.prog.info? 5).map (fun i => (i.zero, i.size, i.bytes)) = some (some (.int .u8 0), 1, 1) := by kernel_rfl

def PackSt (w0 : World) (Bo : Nat) (l : List Int) (W : World) : Prop :=
  Below w0.heap.size w0 W ∧ w0.heap.size ≤ Bo ∧ ∃ vS, Blk W Bo [vS] 55 ∧ Kd.R (Kd.int .u8) 5 W w0.heap.size (fun _ => True) vS l
theorem PackSt.below {w0 W W1 : World} {Bo : Nat} {l : List Int} (h : PackSt w0 Bo l W) (hb : Below W.heap.size W W1) : PackSt w0 Bo l W1 := by
  obtain ⟨h1, h2, vS, h3, h4⟩ := h
  exact ⟨h1.trans (hb.mono h1.size), h2, vS, (hb.block Bo h3.lt).trans h3, Kd.R_below h4 hb⟩

def PutPost (w0 : World) (Bo : Nat) (l : List Int) (e : Ending) (W' : World) : Prop := (∃ v, e = .returned v) ∧ PackSt w0 Bo l W'

theorem two_reads (W : World) (x y : Int) (t : TypeId) : Kd.C (Kd.int .u8) (W.alloc (.cells #[.int .u8 x, .int .u8 y] t)) (some ⟨W.heap.size, 0, none⟩) 2 [x, y] := by
  have hb := blk_new W [.int .u8 x, .int .u8 y] t
  refine ⟨rfl, by decide, fun _ => ⟨_, rfl, fun j p hp => ?_⟩⟩
  match j, hp with
  | 0, hp => cases hp; refine ⟨[.int .u8 x], rfl, rfl, fun i u hu => ?_⟩; match i, hu with | 0, hu => cases hu; exact hb.cell 0
  | 1, hp => cases hp; refine ⟨[.int .u8 y], rfl, rfl, fun i u hu => ?_⟩; match i, hu with | 0, hu => cases hu; exact hb.cell 1

set_option maxRecDepth 100000 in
set_option maxHeartbeats 800000 in
theorem put_calls (w0 W : World) (Bo : Nat) (l : List Int) (n : Nat) (hn : n ≤ 65535) (h : PackSt w0 Bo l W) (hl : l.length ≤ 16777216) :
    Calls Try.prog 67 #[.int .i64 (n : Int), .pointer (some ⟨Bo, 0, none⟩)] W (PutPost w0 Bo (l ++ twoB n)) := by
  obtain ⟨hB, hBo, vS, hBk, hR⟩ := h
  have hcell := hBk.cell 0
  have infoB' := infoB
  have HBk := Aside0.mk (hBk.alloc (.cells #[.int .u8 ((n : Int) / 256), .int .u8 ((n : Int) % 256)] 5))
  have HR := Aside0.mk (Kd.R_alloc hR (.cells #[.int .u8 ((n : Int) / 256), .int .u8 ((n : Int) % 256)] 5))
  have HB := Aside0.mk (below_alloc hB (.cells #[.int .u8 ((n : Int) / 256), .int .u8 ((n : Int) % 256)] 5))
  have HT := Aside0.mk (two_reads W ((n : Int) / 256) ((n : Int) % 256) 5)
  have HE := Aside0.mk (show l ++ twoB n = l ++ [(n : Int) / 256, (n : Int) % 256] from rfl)
  clear hB hBk hR
  go_enter Try.func67, Try.ntmps67
  go_wp2_with (first | ((with_reducible refine gate_builtin (b := .append) (xs := #[.tmp 3, .tmp 9]) rfl ?_); at_builtin; refine Kd.R_append_rows (Kd.int .u8) (w0 := w0) w0.heap.size rfl (.tmp 3) (.tmp 9) 55 5 (.int .u8 0) 1 rfl Try.underlying55 infoB' rfl (by decide) (by decide) vS l [(n : Int) / 256, (n : Int) % 256] _ _ _ (fun _ => True) (fun _ => False) rfl rfl HR.out HT.out (fun _ _ h => h) (fun _ h => h.elim) (fun _ _ => trivial) HB.out HB.out.size (by omega) ?_; intro v1 w1 ho1 hb1 hg1 hat1; obtain ⟨A1, c1, hvv⟩ := Kd.R_slice ho1; generalize (l ++ [(n : Int) / 256, (n : Int) % 256]).length = n1 at hvv; subst hvv; have HO1 := Aside0.mk ho1; have HB1 := Aside0.mk hb1; have HBk1 := Aside0.mk (show Blk w1 Bo [vS] 55 from blk_grown HBk.out hg1 (Kd.R_ne HR.out HBk.out (by decide))); have hcell1 := HBk1.out.cell 0; have hfr1 := blk_frozen HBk1.out 0; clear ho1 hb1 hg1 hat1 hcell))
  have HF := Aside0.mk (show PackSt w0 Bo (l ++ twoB n) (w1.setCell ⟨Bo, 0, none⟩ (.slice A1 n1 c1)) from
    ⟨below_set HB1.out hBo, hBo, (.slice A1 n1 c1), HBk1.out.set 0 (.slice A1 n1 c1), by rw [HE.out]; exact Kd.R_set HO1.out HBk1.out (by decide) 0 (.slice A1 n1 c1)⟩)
  go_wp2
  go_returns
  exact ⟨⟨_, rfl⟩, HF.out⟩

/-- A whole range of cells, read. -/
theorem wpList_load_range {P : Program} {ops : Array Oper} {rest : List Oper} {o : Oper} {a : Act} {w : World} {Q : Exit → Act → World → Prop} (hgd : o.guard = none) (ty : TypeId) (x : Operand) (ho : o.op = .load ty x) (v : Value) (hx : a.eval x = v) (n : Nat)
    {d : TypeDesc} (hu : P.underlying ty = some d) (hd : d.isRow = true) (hi : (P.info? ty).map (·.size) = some n) (hr : rangeOk w v n = true) (vs : Array Value) (hvs : rangeOf w v n = vs)
    (h : wpList P ops Q rest (a.put o.dst (.agg vs)) w) : wpList P ops Q (o :: rest) a w :=
  wpList_plain hgd fun K hK => by
    have e := run_load_range hu hd hi a.eval o.dst x o.type o.pos o.after o.guard w (by rw [hx]; exact hr)
    rw [hx, hvs] at e
    have ho' : ({ dst := o.dst, op := .load ty x, type := o.type, pos := o.pos, after := o.after, guard := o.guard } : Oper) = o := by
      obtain ⟨d1, d2, d3, d4, d5, d6⟩ := o
      simp only at ho
      subst ho
      rfl
    rw [ho'] at e
    unfold Oper.wp
    rw [e]
    exact hK _ _ h

/-- An element of an array's value. -/
theorem run_index_nats {P : Program} {t e n : Nat} {k : IntKind} (ht : P.underlying t = some (.array n e)) (he : P.underlying e = some (.int k)) (hsz : ∀ w, (sizeOf e).run P w = .ok 1 w) (xs : List Nat) (hx : xs.length = n) (i : Nat) (hi : i < n) (W : World) :
    (Instr.index t (.agg (natCells k xs).toArray) (.int .i64 (i : Int))).run P W = .ok (.int k (xs.getD i 0 : Nat)) W := by
  have px : (part e (natCells k xs).toArray (i * 1)).run P W = .ok (.int k (xs.getD i 0 : Nat)) W := by
    simp [part, isAgg, run_underlying he, natCells, List.getD, List.getElem?_eq_getElem (show i < xs.length by omega)]
  rw [Nat.mul_one, List.getD_eq_getElem?_getD] at px
  simp [Instr.index, asIntOf, run_underlying ht, hsz, px, hi]

theorem which_range {w : World} {b g c g' c' : Nat} {t : Tab} (h : TabIn w b g c g' c' t) :
    rangeOk w (.pointer (some ⟨b, 0, none⟩)) 8704 = true ∧ rangeOf w (.pointer (some ⟨b, 0, none⟩)) 8704 = (natCells .u16 t.which).toArray := by
  have e : (natCells .u16 t.which).length = 8704 := by simpa [natCells] using h.len
  have hr := range_cells (w := w) (b := b) (o := 0) (cs := natCells .u16 t.which) (fun j hj => by
    rw [e] at hj
    rw [Nat.zero_add, h.hw j hj]
    have : j < t.which.length := by rw [h.len]; exact hj
    generalize t.which = bl at this
    simp [natCells, List.getD_eq_getElem?_getD, List.getElem?_map, List.getElem?_eq_getElem this])
  rw [e] at hr
  exact hr
theorem block_range {w : World} {b g c g' c' : Nat} {t : Tab} (h : TabIn w b g c g' c' t) (k : Nat) (hk : k < t.unlike.length) :
    rangeOk w (.pointer (some ⟨g, k * 128, none⟩)) 128 = true ∧ rangeOf w (.pointer (some ⟨g, k * 128, none⟩)) 128 = (natCells .u16 (t.unlike.getD k [])).toArray := by
  have hl := h.blk k hk
  have e : (natCells .u16 (t.unlike.getD k [])).length = 128 := by simpa [natCells] using hl
  have hr := range_cells (w := w) (b := g) (o := k * 128) (cs := natCells .u16 (t.unlike.getD k [])) (fun j hj => by
    rw [e] at hj
    rw [h.hub k j hk hj]
    have : j < (t.unlike.getD k []).length := by omega
    generalize t.unlike.getD k [] = bl at this
    simp [natCells, List.getD_eq_getElem?_getD, List.getElem?_map, List.getElem?_eq_getElem this])
  rw [e] at hr
  exact hr

/-- The numbers of a packed text. -/
def packT (t : Tab) : List Int := twoB t.unlike.length ++ t.which.flatMap twoB ++ t.unlike.flatMap fun b => b.flatMap twoB
theorem flat_two (l : List Nat) : (l.flatMap twoB).length = 2 * l.length := by
  induction l with
  | nil => rfl
  | cons x l ih => rw [List.flatMap_cons, List.length_append, ih, List.length_cons, twoB_len]; omega
theorem flat_two_snoc (l : List Nat) (i : Nat) (h : i < l.length) : (l.take (i + 1)).flatMap twoB = (l.take i).flatMap twoB ++ twoB (l.getD i 0) := by
  rw [List.take_succ_eq_append_getElem h, List.flatMap_append]
  simp [List.getD_eq_getElem?_getD, List.getElem?_eq_getElem h]
theorem flat_blocks_snoc (l : List (List Nat)) (i : Nat) (h : i < l.length) : (l.take (i + 1)).flatMap (fun b => b.flatMap twoB) = (l.take i).flatMap (fun b => b.flatMap twoB) ++ (l.getD i []).flatMap twoB := by
  rw [List.take_succ_eq_append_getElem h, List.flatMap_append]
  simp [List.getD_eq_getElem?_getD, List.getElem?_eq_getElem h]
theorem flat_blocks_len (l : List (List Nat)) (h : ∀ b ∈ l, b.length = 128) : (l.flatMap (fun b => b.flatMap twoB)).length = 256 * l.length := by
  induction l with
  | nil => rfl
  | cons x l ih => rw [List.flatMap_cons, List.length_append, ih (fun b hb => h b (by simp [hb])), flat_two, h x (by simp), List.length_cons]; omega

def PackPost (w : World) (say : Nat → Nat) (e : Ending) (w' : World) : Prop := Below w.heap.size w w' ∧ e = .returned (.string (strOfNums (packT (tabSay say))))

set_option maxRecDepth 100000 in
set_option maxHeartbeats 1600000 in
theorem pack_calls (w : World) (v : Option Addr) (say : Nat → Nat) (hh : Han w v say) : Calls Try.prog 33 #[.pointer v] w (PackPost w say) := by
  have HW := Aside0.mk (whole_calls w v say hh)
  have hmf : ∀ (fn : Fn) (first cap : Array Value) (w : World), (Instr.makeFunc fn first cap).run Try.prog w = .ok (.func fn first cap) w := fun _ _ _ _ => rfl
  have hib := infoB
  clear hh
  go_enter Try.func33, Try.ntmps33
  go_wp2_with fail
  refine HW.out.mono ?_
  rintro e w1 ⟨hb1, b, rfl, g, c, g', c', ht⟩
  have HB1 := Aside0.mk hb1
  generalize hts : tabSay say = t at ht
  have HTS := Aside0.mk hts
  clear hts
  have HT := Aside0.mk ht
  have hu := ht.hu
  have hm := ht.few
  have hx := ht.cap
  obtain ⟨i0, hi, hz0, hz1, hz2⟩ := info_parts hib
  generalize hml : t.unlike.length = m at hu hm hx
  have HML := Aside0.mk hml
  clear hb1 ht HW hml hib
  go_wp2_with (first | ((with_reducible refine gate_dst (N := 20) rfl ?_); refine wpList_make_own _ rfl _ _ 55 rfl w1.heap.size 5 i0 (.int .u8 0) 1 Try.underlying55 hi hz0 hz1 .i64 .i64 (17410 + 256 * (m : Int)) (17410 + 256 * m) rfl rfl (by omega) (by rw [hz2]; omega) (by unfold maxLen; omega) (Nat.le_refl _) ?_; intro w2 hown hgrow; have hb2 : Below w1.heap.size w1 (w2.alloc (.cells #[.slice (some ⟨w1.heap.size, 0, none⟩) 0 (17410 + 256 * m)] 55)) := below_alloc ((Keeps.refl (fun _ => False) w1).grown hgrow (fun k h => by cases h)).below _; have hu2 := pw_cell_below hb2 hu; have HP2 := Aside0.mk (show PackSt w1 w2.heap.size [] (w2.alloc (.cells #[.slice (some ⟨w1.heap.size, 0, none⟩) 0 (17410 + 256 * m)] 55)) from ⟨hb2, hgrow.size, _, blk_new w2 [.slice (some ⟨w1.heap.size, 0, none⟩) 0 (17410 + 256 * m)] 55, Kd.R_alloc (Kd.R_of_own (xs := []) hown (fun _ _ => trivial)) _⟩); clear hown hgrow hb2))
  have HC1 := Aside0.mk (put_calls w1 _ _ _ m (by omega) HP2.out (by simp))
  refine HC1.out.mono ?_
  rintro e w3 ⟨⟨x, rfl⟩, hst⟩
  have HT3 := Aside0.mk (HT.out.below hst.1)
  rw [List.nil_append] at hst
  have HS3 := Aside0.mk hst
  generalize w2.heap.size = Bo at *
  clear hst HC1 HP2 hu2
  obtain ⟨r1, r2⟩ := which_range HT3.out
  have hlen := HT3.out.len
  have hnum : ∀ i, i < 8704 → t.which.getD i 0 ≤ 65535 := fun i hi => by have := HT.out.idx i hi; have := HT.out.few; omega
  have HNUM := Aside0.mk hnum
  have HLEN := Aside0.mk hlen
  generalize hwh : t.which = wh at *
  have HWH := Aside0.mk hwh
  clear hlen hnum hwh
  go_wp2_with (first | ((with_reducible refine gate_dst (N := 32) rfl ?_); refine wpList_load_range rfl _ _ rfl _ rfl 8704 Try.underlying92 rfl (by kernel_rfl) r1 _ r2 ?_))
  have HI8 : Aside0 (∀ (i : Nat), i < 8704 → ∀ W : World, (Instr.index 92 (.agg (natCells .u16 wh).toArray) (.int .i64 (i : Int))).run Try.prog W = .ok (.int .u16 (wh.getD i 0 : Nat)) W) := ⟨fun i hi W => run_index_nats Try.underlying92 Try.underlying89 (sizeOf_run size_u16) wh HLEN.out i hi W⟩
  go_loopg [33] 8705 (fun k v33 wr => ∃ i : Nat, i ≤ 8704 ∧ 8705 - i ≤ k ∧ v33 = .int .i64 (i : Int) ∧ Aside0 (PackSt w1 Bo (twoB m ++ (wh.take i).flatMap twoB) wr))
  case atStart => exact ⟨0, by omega, by omega, rfl, ⟨by rw [List.take_zero]; exact (List.append_nil (twoB m)).symm ▸ HS3.out⟩⟩
  case round =>
    obtain ⟨i, hi, hk, rfl, hS⟩ := hrel
    clear HS3 HT3 r1 r2
    by_cases hlt : i < 8704
    · have hlt' : (i : Int) < 8704 := by omega
      have hix := HI8.out i hlt
      have hx := HNUM.out i hlt
      have hsn := flat_two_snoc wh i (by rw [HLEN.out]; exact hlt)
      generalize wh.getD i 0 = x at hix hx hsn
      have HC := Aside0.mk (put_calls w1 wr Bo _ x hx hS.out (by rw [List.length_append, flat_two, twoB_len, List.length_take]; omega))
      rw [List.append_assoc, ← hsn] at HC
      clear hsn hS
      go_wp2_with fail
      refine HC.out.mono ?_
      rintro e w4 ⟨⟨y, rfl⟩, hst⟩
      have HS := Aside0.mk hst
      clear hst HC
      go_wp2
      go_roundg (gk - 1)
      case measure => omega
      case rel => exact ⟨i + 1, by omega, by omega, by go_num, HS⟩
    · have hlt' : ¬ (i : Int) < 8704 := by omega
      obtain rfl : i = 8704 := by omega
      have hst := hS.out
      rw [List.take_of_length_le (by rw [HLEN.out]; exact Nat.le_refl _)] at hst
      have hu4 := pw_cell_below hst.1 hu
      have HS4 := Aside0.mk hst
      clear hst hS
      go_wp2
      have HBL := Aside0.mk (fun (k : Nat) (hk : k < m) (W : World) (hW : Below w1.heap.size w1 W) => block_range (HT.out.below hW) k (by rw [HML.out]; exact hk))
      have HBK := Aside0.mk (fun (k : Nat) (hk : k < m) => HT.out.blk k (by rw [HML.out]; exact hk))
      have HBN := Aside0.mk (fun (k j : Nat) (hk : k < m) (hj : j < 128) => HT.out.num k j (by rw [HML.out]; exact hk) hj)
      have HUN := Aside0.mk (fun b hb => by
        obtain ⟨k, hk, rfl⟩ := List.getElem_of_mem hb
        have := HT.out.blk k hk
        rwa [List.getD_eq_getElem?_getD, List.getElem?_eq_getElem hk, Option.getD_some] at this : ∀ b ∈ t.unlike, b.length = 128)
      have HFIN := Aside0.mk (show packT t = twoB m ++ wh.flatMap twoB ++ t.unlike.flatMap (fun b => b.flatMap twoB) from by rw [← HWH.out, ← HML.out]; rfl)
      generalize t.unlike = un at HBL HBK HBN HML HFIN HUN
      have hpre : (twoB m ++ wh.flatMap twoB).length = 17410 := by rw [List.length_append, flat_two, twoB_len, HLEN.out]
      generalize twoB m ++ wh.flatMap twoB = pre at hpre HS4 HFIN
      clear HI8 HNUM HWH
      go_loopg [46] (m + 1) (fun k v46 wr => ∃ i : Nat, i ≤ m ∧ m + 1 - i ≤ k ∧ v46 = .int .i64 (i : Int) ∧ Aside0 (PackSt w1 Bo (pre ++ (un.take i).flatMap (fun b => b.flatMap twoB)) wr))
      case atStart => exact ⟨0, by omega, by omega, rfl, ⟨by rw [List.take_zero]; exact (List.append_nil pre).symm ▸ HS4.out⟩⟩
      case round =>
        obtain ⟨i, hi, hk2, rfl, hS⟩ := hrel
        clear HS4 hu4
        obtain ⟨gko, rfl⟩ : ∃ n, n = gk := ⟨_, rfl⟩
        by_cases hlt : i < m
        · have hlt' : (i : Int) < (m : Int) := by omega
          obtain ⟨wo, rfl⟩ : ∃ x, x = wr := ⟨_, rfl⟩
          obtain ⟨q1, q2⟩ := HBL.out i hlt wo hS.out.1
          have hbl := HBK.out i hlt
          have hsn := flat_blocks_snoc un i (by rw [HML.out]; exact hlt)
          have hfl := flat_blocks_len (un.take i) (fun b hb => HUN.out b (List.mem_of_mem_take hb))
          rw [List.length_take, HML.out] at hfl
          have HN := Aside0.mk (fun j hj => HBN.out i j hlt hj)
          generalize un.getD i [] = bl at q2 hbl hsn HN
          have hb3 : Below wo.heap.size wo ((wo.alloc (.cells (natCells .u16 zeros128).toArray 91)).setRow wo.heap.size (natCells .u16 bl).toArray) :=
            ((((Keeps.refl (fun k => k = wo.heap.size) wo).alloc _).setRow _ _ (fun _ => rfl))).to_below (fun k hk => by omega)
          have HSB := Aside0.mk (hS.out.below hb3)
          have hbk := (blk_new wo (natCells .u16 zeros128) 91).setRow (natCells .u16 bl)
          have HBK1 := Aside0.mk (blk_new wo (natCells .u16 zeros128) 91)
          have HBK2 := Aside0.mk hbk
          have HBLEN := Aside0.mk hbl
          have HSN := Aside0.mk hsn
          have HIB : Aside0 (∀ (i : Nat), i < 128 → ∀ W : World, (Instr.index 91 (.agg (natCells .u16 bl).toArray) (.int .i64 (i : Int))).run Try.prog W = .ok (.int .u16 (bl.getD i 0 : Nat)) W) := ⟨fun i hi W => run_index_nats Try.underlying91 Try.underlying89 (sizeOf_run size_u16) bl hbl i hi W⟩
          clear hb3 hbk hbl hsn hS
          go_wp2_with (first | ((with_reducible refine gate_dst (N := 49) rfl ?_); refine wpList_load_range rfl _ _ rfl _ rfl 128 Try.underlying91 rfl size_block q1 _ q2 ?_) | (with_reducible refine wpList_alloc rfl 91 rfl _ zero_block ?_) | (with_reducible refine wpList_store_blk' rfl rfl 91 (.tmp 8) (.tmp 49) rfl wo.heap.size rfl 91 _ (natCells .u16 bl) _ rfl rfl HBK1.out (by rw [natCells_len, natCells_len, HBLEN.out, zeros128_len]) (by rw [natCells_len, zeros128_len]; exact size_block) (natCells_one _ _) ?_) | (with_reducible refine wpList_load_blk rfl 91 (.tmp 8) rfl wo.heap.size rfl 91 _ _ HBK2.out Try.underlying91 rfl (by rw [natCells_len, HBLEN.out]; exact size_block) ?_))
          clear HBK2 HBK1
          generalize (wo.alloc (.cells (natCells .u16 zeros128).toArray 91)).setRow wo.heap.size (natCells .u16 bl).toArray = wb at *
          go_loopg [51] 129 (fun k v51 wr => ∃ j : Nat, j ≤ 128 ∧ 129 - j ≤ k ∧ v51 = .int .i64 (j : Int) ∧ Aside0 (PackSt w1 Bo (pre ++ (un.take i).flatMap (fun b => b.flatMap twoB) ++ (bl.take j).flatMap twoB) wr))
          case atStart => exact ⟨0, by omega, by omega, rfl, ⟨by rw [List.take_zero]; exact (List.append_nil (pre ++ (un.take i).flatMap (fun b => b.flatMap twoB))).symm ▸ HSB.out⟩⟩
          case round =>
            obtain ⟨j, hj, hjk, rfl, hS⟩ := hrel
            clear HSB
            by_cases hjl : j < 128
            · have hjl' : (j : Int) < 128 := by omega
              have hix := HIB.out j hjl
              have hx := HN.out j hjl
              have hsn := flat_two_snoc bl j (by rw [HBLEN.out]; exact hjl)
              generalize bl.getD j 0 = x at hix hx hsn
              have HC := Aside0.mk (put_calls w1 wr Bo _ x hx hS.out (by rw [List.length_append, List.length_append, flat_two, List.length_take, hpre, hfl]; omega))
              rw [List.append_assoc, ← hsn] at HC
              clear hsn hS
              go_wp2_with fail
              refine HC.out.mono ?_
              rintro e w4 ⟨⟨y, rfl⟩, hst⟩
              have HS := Aside0.mk hst
              clear hst HC
              go_wp2
              go_roundg (gk - 1)
              case measure => omega
              case rel => exact ⟨j + 1, by omega, by omega, by go_num, HS⟩
            · have hjl' : ¬ (j : Int) < 128 := by omega
              obtain rfl : j = 128 := by omega
              have hst := hS.out
              rw [List.take_of_length_le (l := bl) (by rw [HBLEN.out]; exact Nat.le_refl _), List.append_assoc, ← HSN.out] at hst
              have HS := Aside0.mk hst
              clear hst hS
              go_wp2
              go_roundg (gko - 1)
              case measure => omega
              case rel => exact ⟨i + 1, by omega, by omega, by go_num, HS⟩
        · have hlt' : ¬ (i : Int) < (m : Int) := by omega
          obtain rfl : i = m := by omega
          have hst := hS.out
          rw [List.take_of_length_le (l := un) (by rw [HML.out]; exact Nat.le_refl _), ← HFIN.out] at hst
          obtain ⟨h1, h2, vS, h3, h4⟩ := hst
          have hcell := h3.cell 0
          obtain ⟨A, cc, rfl, hcc, hC⟩ := Kd.R_reads h4
          have hconv := Kd.C_string (dst := 9) Try.underlying55 Try.underlying5 Try.underlying9 hC (c := cc)
          have HFW := Aside0.mk (show PackPost w say (.returned (.string (strOfNums (packT t)))) wr from ⟨HB1.out.trans (h1.mono HB1.out.size), by rw [HTS.out]⟩)
          have HCV := Aside0.mk hconv
          generalize strOfNums (packT t) = str at HCV HFW
          generalize (packT t).length = len at *
          have hconv' := HCV.out
          clear h1 h2 h3 h4 hC hS hconv HCV
          go_wp2
          go_ret
          exact HFW.out

end Go.Proofs.Ytajmbafljncjcaa.Stage

/-! ### PackP: Plain lists and small contracts for the document's Pack: where a stretch lies, blocks in order, alike. -/
namespace Go.Proofs.Ytajmbafljncjcaa.Stage
open Go.RowKit Go.Proofs.YtajmbafljncjcaaW.PrintWords Go.Proofs.YtajmbafljncjcaaW.PrintLast Go.Proofs.YtajmbafljncjcaaW.PrintMore Go.Proofs.Ytajmbafljncjcaa.Mp
set_option linter.unusedVariables false
set_option linter.unusedSimpArgs false

theorem Til.get {say : Nat → Nat} {hi : Nat} : ∀ {l : List (Nat × Nat × Nat)} {low : Nat}, Til say hi low l → ∀ k, k < l.length → (∀ p, (l.getD k z3).1 ≤ p → p ≤ (l.getD k z3).2.1 → say p = (l.getD k z3).2.2) ∧ (l.getD k z3).2.1 < hi ∧ (k + 1 < l.length → (l.getD (k + 1) z3).1 = (l.getD k z3).2.1 + 1) ∧ (k + 1 = l.length → (l.getD k z3).2.1 + 1 = hi)
  | [], low, h, k, hk => by simp at hk
  | x :: l, low, h, 0, hk => by
    obtain ⟨h1, h2, h3, _, h5⟩ := h
    have hle := h5.le
    refine ⟨fun p ha hb => h3 p (by simp at ha; omega) (by simpa using hb), by simp; omega, fun hl => ?_, fun hl => ?_⟩
    · cases l with
      | nil => simp at hl
      | cons y l => simpa using h5.1
    · cases l with
      | nil => simpa [Til] using h5
      | cons y l => simp at hl
  | x :: l, low, h, k + 1, hk => by
    obtain ⟨h1, h2, h3, _, h5⟩ := h
    have := Til.get h5 k (by simpa using hk)
    simpa using this

/-- A stretch that does not begin behind a code point. -/
def InvR (R : List (Nat × Nat × Nat)) (k p : Nat) : Prop := k < R.length ∧ (R.getD k z3).1 ≤ p
theorem InvR.go {say : Nat → Nat} {R : List (Nat × Nat × Nat)} (ht : Til say 1114112 0 R) {k p : Nat} (h : InvR R k p) (hp : p < 1114112) (hlt : (R.getD k z3).2.1 < p) : InvR R (k + 1) p := by
  obtain ⟨_, h2, h3, h4⟩ := ht.get k h.1
  have hk := h.1
  by_cases e : k + 1 = R.length
  · have := h4 e; omega
  · have hl : k + 1 < R.length := by omega
    exact ⟨hl, by rw [h3 hl]; omega⟩
theorem InvR.say {say : Nat → Nat} {R : List (Nat × Nat × Nat)} (ht : Til say 1114112 0 R) {k p : Nat} (h : InvR R k p) (hle : p ≤ (R.getD k z3).2.1) : say p = (R.getD k z3).2.2 := (ht.get k h.1).1 p h.2 hle

/-- The numbers of blocks, and the unlike ones, of the first blocks. -/
def czB (say : Nat → Nat) (b : Nat) : List Nat × List (List Nat) := canonB ((blksOf say).take b)
theorem take_blks (say : Nat → Nat) (b : Nat) (hb : b < 8704) : (blksOf say).take (b + 1) = (blksOf say).take b ++ [blkOf say b] := by
  have hl := blksOf_len say
  have hg := blksOf_get say b hb
  generalize blksOf say = bs at hl hg
  rw [List.take_succ_eq_append_getElem (show b < bs.length by omega)]
  rw [List.getD_eq_getElem?_getD, List.getElem?_eq_getElem (show b < bs.length by omega), Option.getD_some] at hg
  rw [hg]
theorem czB_succ (say : Nat → Nat) (b : Nat) (hb : b < 8704) : czB say (b + 1) = stepB (czB say b) (blkOf say b) := by
  unfold czB
  rw [take_blks say b hb, canonB_snoc]
theorem czB_all (say : Nat → Nat) : (czB say 8704).1 = (tabSay say).which ∧ (czB say 8704).2 = (tabSay say).unlike := by
  have hl := blksOf_len say
  unfold czB tabSay
  generalize blksOf say = bs at hl
  rw [List.take_of_length_le (by omega)]
  exact ⟨rfl, rfl⟩
theorem czB_ok (say : Nat → Nat) (b : Nat) (hb : b ≤ 8704) : (czB say b).1.length = b ∧ (czB say b).2.length ≤ b ∧ (czB say b).2.Nodup ∧ (∀ x ∈ (czB say b).2, x.length = 128) ∧ (∀ i, i < b → (czB say b).1.getD i 0 < (czB say b).2.length ∧ (czB say b).2.getD ((czB say b).1.getD i 0) [] = blkOf say i) ∧ (∀ x ∈ (czB say b).2, ∃ i, i < b ∧ x = blkOf say i) := by
  unfold czB
  have hl := blksOf_len say
  have hg := fun i hi => blksOf_get say i hi
  generalize blksOf say = bs at hl hg
  have hlen : (bs.take b).length = b := by rw [List.length_take]; omega
  have hat : ∀ i, i < b → (bs.take b).getD i [] = blkOf say i := fun i hi => by
    rw [← hg i (by omega)]
    simp only [List.getD_eq_getElem?_getD, List.getElem?_take]
    rw [if_pos hi]
  have hc := canonB_ok (bs.take b)
  have hmem : ∀ x ∈ (canonB (bs.take b)).2, ∃ i, i < b ∧ x = blkOf say i := fun x hx => by
    obtain ⟨i, hi, he⟩ := List.getElem_of_mem ((hc.mem x).1 hx)
    refine ⟨i, by omega, ?_⟩
    have := hat i (by omega)
    rw [List.getD_eq_getElem?_getD, List.getElem?_eq_getElem hi, Option.getD_some, he] at this
    exact this
  refine ⟨by rw [hc.len, hlen], by have := hc.few; omega, hc.nodup, fun x hx => ?_, fun i hi => ?_, hmem⟩
  · obtain ⟨i, _, rfl⟩ := hmem x hx
    exact blkOf_len _ _
  · have := hc.at_ i (by omega)
    rw [hat i hi] at this
    exact this
/-- A block that is as the one ahead. -/
theorem czB_same (say : Nat → Nat) (b : Nat) (hb0 : 0 < b) (hb : b < 8704) (he : blkOf say b = blkOf say (b - 1)) : czB say (b + 1) = ((czB say b).1 ++ [(czB say b).1.getD (b - 1) 0], (czB say b).2) := by
  obtain ⟨h1, h2, h3, h4, h5, _⟩ := czB_ok say b (by omega)
  rw [czB_succ say b hb]
  obtain ⟨k1, k2⟩ := h5 (b - 1) (by omega)
  have hidx : idxB (blkOf say b) (czB say b).2 = (czB say b).1.getD (b - 1) 0 := idxB_at h3 k1 (by rw [k2, he])
  unfold stepB
  rw [hidx, if_pos k1]
theorem blkOf_const {say : Nat → Nat} {b n : Nat} (h : ∀ j, j < 128 → say (128 * b + j) = n) : blkOf say b = List.replicate 128 n := by
  apply List.ext_getElem (by rw [blkOf_len, List.length_replicate])
  intro j h1 h2
  rw [blkOf_len] at h1
  have := blkOf_get say b j h1
  rw [List.getD_eq_getElem?_getD, List.getElem?_eq_getElem (by rw [blkOf_len]; exact h1), Option.getD_some] at this
  rw [this, h j h1, List.getElem_replicate]
theorem idxB_first {bk : List Nat} : ∀ {l : List (List Nat)} {j : Nat}, j < l.length → l.getD j [] = bk → idxB bk l ≤ j
  | [], j, h, _ => by simp at h
  | x :: l, 0, _, h => by
    have : x = bk := by simpa using h
    unfold idxB
    rw [if_pos this.symm]
    exact Nat.le_refl _
  | x :: l, j + 1, hj, h => by
    have := idxB_first (l := l) (j := j) (by simpa using hj) (by simpa using h)
    unfold idxB
    split
    · omega
    · omega

/-- Whole numbers as they lie. -/
def zl (l : List Nat) : List Int := l.map fun (n : Nat) => (n : Int)
theorem zl_len (l : List Nat) : (zl l).length = l.length := List.length_map ..
theorem zl_append (a b : List Nat) : zl (a ++ b) = zl a ++ zl b := List.map_append ..
theorem zl_get (l : List Nat) (i : Nat) (h : i < l.length) : rd (zl l) (i : Int) = (l.getD i 0 : Nat) := by
  simp [rd, zl, List.getD_eq_getElem?_getD, List.getElem?_map, List.getElem?_eq_getElem h]

def AlikePost (w : World) (r : Bool) (e : Ending) (w' : World) : Prop := e = .returned (.bool r) ∧ ∃ n, w' = w.drewN n
set_option maxRecDepth 100000 in
set_option maxHeartbeats 800000 in
theorem alike_calls (w : World) {A B : Option Addr} {c d : Nat} (a b : List Nat) (hab : a.length = b.length) (hl : a.length ≤ 128) (hA : Kd.C (Kd.int .i64) w A a.length (zl a)) (hB : Kd.C (Kd.int .i64) w B b.length (zl b)) :
    Calls Try.prog 63 #[.slice A a.length c, .slice B b.length d] w (AlikePost w (decide (a = b))) := by
  have HA := Aside0.mk hA
  have HB := Aside0.mk hB
  clear hA hB
  go_enter Try.func63, Try.ntmps63
  go_wp2
  go_loopg [8] (a.length + 1) (fun k v8 wr => ∃ i : Nat, i ≤ a.length ∧ a.length + 1 - i ≤ k ∧ v8 = .int .i64 (i : Int) ∧ Aside0 (∀ j, j < i → a.getD j 0 = b.getD j 0) ∧ ∃ m, wr = w.drewN m)
  case atStart => exact ⟨0, by omega, by omega, rfl, ⟨fun j hj => absurd hj (Nat.not_lt_zero j)⟩, 0, rfl⟩
  case round =>
    obtain ⟨i, hi, hk, rfl, hS, m, rfl⟩ := hrel
    by_cases hlt : i < a.length
    · have hlt' : (i : Int) < (a.length : Int) := by omega
      have hlt2 : (i : Int) < (b.length : Int) := by omega
      obtain ⟨ad, rfl, k0⟩ := Kd.at_int HA.out (i : Int) (by omega) (by omega)
      obtain ⟨ad2, rfl, k1⟩ := Kd.at_int HB.out (i : Int) (by omega) (by omega)
      rw [zl_get _ _ hlt, Int.toNat_natCast] at k0
      rw [zl_get _ _ (by omega), Int.toNat_natCast] at k1
      by_cases he : a.getD i 0 = b.getD i 0
      · have HS := Aside0.mk (show ∀ j, j < i + 1 → a.getD j 0 = b.getD j 0 from fun j hj => by
          by_cases h : j < i
          · exact hS.out j h
          · rw [show j = i by omega]; exact he)
        rw [← he] at k1
        generalize a.getD i 0 = x at k0 k1
        have hne : ((x : Int) != (x : Int)) = false := by simp
        clear he hS
        go_wp2
        go_quiet (fail)
        go_wp2
        go_roundg (gk - 1)
        case measure => omega
        case rel => exact ⟨i + 1, by omega, by omega, by go_num, HS, _, rfl⟩
      · have HF := Aside0.mk (show decide (a = b) = false from decide_eq_false (fun e => he (by rw [e])))
        generalize a.getD i 0 = x at k0 he
        generalize b.getD i 0 = y at k1 he
        have hne : ((x : Int) != (y : Int)) = true := by rw [bne_iff_ne]; omega
        clear hS
        go_wp2
        go_quiet (fail)
        go_wp2
        go_ret
        exact ⟨by rw [HF.out]; rfl, m + nq, by rw [World.drewN_drewN]⟩
    · have hlt' : ¬ (i : Int) < (a.length : Int) := by omega
      have HF := Aside0.mk (show decide (a = b) = true from decide_eq_true (by
        apply List.ext_getElem hab
        intro j h1 h2
        have := hS.out j (by omega)
        rwa [List.getD_eq_getElem?_getD, List.getElem?_eq_getElem h1, Option.getD_some, List.getD_eq_getElem?_getD, List.getElem?_eq_getElem h2, Option.getD_some] at this))
      clear hS
      go_wp2
      go_ret
      exact ⟨by rw [HF.out]; rfl, _, rfl⟩

end Go.Proofs.Ytajmbafljncjcaa.Stage
