/- Unpack: the table of a packed text. Unpack: the walk. -/
import Derived.Test.YtajmbafljncjcaaSwapA
import Derived.Test.YtajmbafljncjcaaNilP
import Derived.Deep.QuietTactic
import Derived.Deep.RegionHeld3
import Derived.BigQuiet
import Derived.Laws.EntriesVeiled
/-! ### Unpack: Unpack: the table of a packed text. -/
namespace Go.Proofs.Ytajmbafljncjcaa.Stage
open Go.RowKit Go.Proofs.YtajmbafljncjcaaW.PrintWords Go.Proofs.YtajmbafljncjcaaW.PrintLast Go.Proofs.YtajmbafljncjcaaW.PrintMore Go.Proofs.Ytajmbafljncjcaa.Mp
set_option linter.unusedVariables false
set_option linter.unusedSimpArgs false

/-- A number of two bytes. -/
def wd (s : ByteArray) (i : Nat) : Nat := 256 * (s.data.toList.getD (2 * i) 0).toNat + (s.data.toList.getD (2 * i + 1) 0).toNat
theorem wd_le (s : ByteArray) (i : Nat) : wd s i ≤ 65535 := by
  unfold wd
  have h1 := (s.data.toList.getD (2 * i) 0).toNat_lt
  have h2 := (s.data.toList.getD (2 * i + 1) 0).toNat_lt
  omega

theorem or_u16 (a b : Nat) (ha : a < 256) (hb : b < 256) : bits .or .u16 (IntKind.u16.wrap (IntKind.u16.wrap (a : Int) * 256)) (IntKind.u16.wrap (b : Int)) = ((256 * a + b : Nat) : Int) := by
  rw [IntWalk.u16_in (a : Int) (by omega), IntWalk.u16_in ((a : Int) * 256) (by omega), IntWalk.u16_in (b : Int) (by omega), show (a : Int) * 256 = ((256 * a : Nat) : Int) by omega]
  have h1 : (BitVec.ofInt 16 ((256 * a : Nat) : Int)).toNat = 256 * a := by
    rw [BitVec.ofInt_natCast, BitVec.toNat_ofNat]; exact Nat.mod_eq_of_lt (by omega)
  have h2 : (BitVec.ofInt 16 (b : Int)).toNat = b := by
    rw [BitVec.ofInt_natCast, BitVec.toNat_ofNat]; exact Nat.mod_eq_of_lt (by omega)
  show IntKind.u16.wrap ((BitVec.ofInt 16 ((256 * a : Nat) : Int) ||| BitVec.ofInt 16 (b : Int)).toNat : Int) = _
  rw [BitVec.toNat_or, h1, h2]
  have e : 256 * a ||| b = 256 * a + b := by
    have e8 : (2 : Nat) ^ 8 = 256 := by decide
    have := Nat.shiftLeft_add_eq_or_of_lt (i := 8) (b := b) (by rw [e8]; exact hb) a
    rw [Nat.shiftLeft_eq, e8, Nat.mul_comm] at this
    exact this.symm
  rw [e, IntWalk.u16_in _ (by omega)]
theorem wd_eq (s : ByteArray) (i : Nat) (hi : 2 * i + 1 < s.size) : wd s i = 256 * (s[2 * i]'(by omega)).toNat + (s[2 * i + 1]'hi).toNat := by
  have e1 : (s.data.toList.getD (2 * i) 0) = s[2 * i]'(by omega) := by
    rw [List.getD_eq_getElem?_getD, List.getElem?_eq_getElem (by simpa using (show 2 * i < s.size by omega)), Option.getD_some]; rfl
  have e2 : (s.data.toList.getD (2 * i + 1) 0) = s[2 * i + 1]'hi := by
    rw [List.getD_eq_getElem?_getD, List.getElem?_eq_getElem (by simpa using hi), Option.getD_some]; rfl
  unfold wd
  rw [e1, e2]

set_option maxRecDepth 100000 in
set_option maxHeartbeats 800000 in
theorem word_calls (w : World) (s : ByteArray) (Bs i : Nat) (hs : s.size ≤ 9223372036854775807) (hi : 2 * i + 1 < s.size) (hB : w.cell? ⟨Bs, 0, none⟩ = some (.string s)) :
    Calls Try.prog 64 #[.int .i64 (i : Int), .pointer (some ⟨Bs, 0, none⟩)] w fun e w' => e = .returned (.int .u16 (wd s i : Nat)) ∧ ∃ n, w' = w.drewN n := by
  have h1 : 2 * (i : Int) < (s.size : Int) := by omega
  have h2 : 2 * (i : Int) + 1 < (s.size : Int) := by omega
  have h3 : (0 : Int) ≤ 2 * (i : Int) := by omega
  have h4 : (0 : Int) ≤ 2 * (i : Int) + 1 := by omega
  go_enter Try.func64, Try.ntmps64
  go_wp2
  go_quiet (fail)
  go_wp2
  go_ret
  exact ⟨by rw [wd_eq s i hi, ← or_u16 _ _ (UInt8.toNat_lt _) (UInt8.toNat_lt _)]; rfl, nq, rfl⟩

theorem word_at (w : World) (s : ByteArray) (Bs i : Nat) (a : Int) (ha : a = (i : Int)) (hs : s.size ≤ 9223372036854775807) (hi : 2 * i + 1 < s.size) (hB : w.cell? ⟨Bs, 0, none⟩ = some (.string s)) :
    Calls Try.prog 64 #[.int .i64 a, .pointer (some ⟨Bs, 0, none⟩)] w fun e w' => e = .returned (.int .u16 (wd s i : Nat)) ∧ ∃ n, w' = w.drewN n := by
  subst ha
  exact word_calls w s Bs i hs hi hB

theorem word_below (w : World) (s : ByteArray) (Bs i : Nat) (a : Int) (ha : a = (i : Int)) (hs : s.size ≤ 9223372036854775807) (hi : 2 * i + 1 < s.size) (hB : w.cell? ⟨Bs, 0, none⟩ = some (.string s)) :
    Calls Try.prog 64 #[.int .i64 a, .pointer (some ⟨Bs, 0, none⟩)] w fun e w' => e = .returned (.int .u16 (wd s i : Nat)) ∧ Below w.heap.size w w' := by
  refine (word_at w s Bs i a ha hs hi hB).mono ?_
  rintro e w' ⟨rfl, n, rfl⟩
  exact ⟨rfl, pw_below_drewN (Below.refl _ _) n⟩

/-- What a packed text says of a code point. -/
def wdSay (s : ByteArray) (p : Nat) : Nat := wd s (8705 + 128 * wd s (1 + p / 128) + p % 128)
def Up2Post (W : World) (bl : List Nat) (B : Nat) (e : Ending) (W' : World) : Prop :=
  e = .returned (.bool true) ∧ Blk W' B (natCells .u16 bl) 91 ∧ Keeps (fun k => k = B) W W'

set_option maxRecDepth 100000 in
set_option maxHeartbeats 1600000 in
theorem up2_calls (W : World) (s : ByteArray) (i k n B Bt Tb Bw Bs : Nat) (hi : i < 8704) (hs : s.size ≤ 9223372036854775807) (hsz : s.size = 17410 + 256 * n) (hk : k < n) (cur : List Nat) (bl : List Nat) (hbl : bl.length = 128) (hbv : ∀ j, j < 128 → bl.getD j 0 = wd s (8705 + 128 * k + j))
    (hB : Blk W B (natCells .u16 cur) 91) (hcur : cur.length = 128) (hT : Blk W Bt [.pointer (some ⟨Tb, 0, none⟩)] 23) (hTc : W.cell? ⟨Tb, i, none⟩ = some (.int .u16 (k : Int))) (hTB : Tb ≠ B)
    (hW : Blk W Bw [.func (.func 64) #[] #[.pointer (some ⟨Bs, 0, none⟩)]] 113) (hS : Blk W Bs [.string s] 9) :
    Calls Try.prog 65 #[.int .i32 ((128 * i : Nat) : Int), .pointer (some ⟨B, 0, none⟩), .pointer (some ⟨Bt, 0, none⟩), .pointer (some ⟨Bw, 0, none⟩)] W (Up2Post W bl B) := by
  have cT := hT.cell 0
  have cW := hW.cell 0
  simp only [List.getElem?_cons_zero] at cT cW
  have HNW := Aside0.mk (show Bw ≠ B from blk_types hW hB (by decide))
  have HNS := Aside0.mk (show Bs ≠ B from blk_types hS hB (by decide))
  have HB := Aside0.mk hB
  have HW := Aside0.mk hW
  have HS := Aside0.mk hS
  have HBV := Aside0.mk hbv
  have HBL := Aside0.mk hbl
  have HSZ := Aside0.mk hsz
  have eq1 : IntKind.i32.wrap (((128 * i : Nat) : Int) / 128) = (i : Int) := by rw [IntWalk.i32_in _ (by omega)]; omega
  have eq2 : ((128 * i : Nat) : Int) / 128 = (i : Int) := by omega
  have hi0 : (0 : Int) ≤ (i : Int) := Int.natCast_nonneg _
  have hi1 : (i : Int) < 8704 := by omega
  have hk1 : k ≤ 40000000000000000 := by omega
  have ent := call_enters (f := 64) Try.func64 (by kernel_rfl) (by kernel_rfl)
  generalize hqd : 128 * i = q at eq1 eq2
  have HQD := Aside0.mk hqd
  clear hB hT hW hS hbv hbl hsz hqd
  go_enter Try.func65, Try.ntmps65
  go_wp2
  go_loopg [19] 129 (fun kk v19 wr => ∃ j : Nat, j ≤ 128 ∧ 129 - j ≤ kk ∧ v19 = .int .i64 (j : Int) ∧ Aside0 (∃ c : List Nat, c.length = 128 ∧ (∀ t, t < j → c.getD t 0 = bl.getD t 0) ∧ Blk wr B (natCells .u16 c) 91) ∧ Aside0 (Keeps (fun k => k = B) W wr))
  case atStart => exact ⟨0, by omega, by omega, rfl, ⟨cur, hcur, fun t ht => absurd ht (Nat.not_lt_zero t), HB.out⟩, ⟨Keeps.refl _ _⟩⟩
  case round =>
    obtain ⟨j, hj, hjk, rfl, hC, hK⟩ := hrel
    by_cases hlt : j < 128
    · have hlt' : (j : Int) < 128 := by omega
      obtain ⟨c, hcl, hcx, hBc⟩ := hC.out
      have hWr := HW.out.kept hK.out HNW.out
      have hSr := HS.out.kept hK.out HNS.out
      have cWr := hWr.cell 0
      have cSr := hSr.cell 0
      simp only [List.getElem?_cons_zero] at cWr cSr
      have hcell := hBc.cell j
      rw [natCells_get _ _ _ (by omega)] at hcell
      have hfr := hBc.free j
      replace hcell := cellOr_of hcell
      have HBC := Aside0.mk hBc
      have HWL := Aside0.mk hWr.lt
      have HCL := Aside0.mk hcl
      have HCX := Aside0.mk hcx
      have HJC := Aside0.mk (show j < (natCells .u16 c).length by rw [natCells_len, hcl]; exact hlt)
      have hbv := HBV.out j hlt
      have HWD := Aside0.mk (word_below wr.drew s Bs (8705 + 128 * k + j) (IntKind.i64.wrap (8705 + 128 * (k : Int) + (j : Int))) (by rw [IntWalk.i64_in _ (by omega)]; omega) hs (by have := HSZ.out; omega) (show wr.drew.cell? ⟨Bs, 0, none⟩ = some (.string s) from cSr))
      rw [← hbv] at HWD
      generalize hx : bl.getD j 0 = x at HWD
      have HX := Aside0.mk hx
      have hxb : x ≤ 65535 := by rw [← hx, hbv]; exact wd_le _ _
      have HSB := Aside0.mk (show Bw ≠ B ∧ Bs ≠ B from ⟨HNW.out, HNS.out⟩)
      have hk1 : ∀ w2 : World, Below wr.heap.size wr w2 → w2.cell? ⟨Bw, 0, none⟩ = some (.func (.func 64) #[] #[.pointer (some ⟨Bs, 0, none⟩)]) ∧ w2.cell? ⟨B, j, none⟩ = some (cellOr w2 ⟨B, j, none⟩) ∧ w2.frozen? ⟨B, j, none⟩ = false := fun w2 hb2 => by
        have h1 : Blk w2 B (natCells .u16 c) 91 := (hb2.block B HBC.out.lt).trans HBC.out
        exact ⟨(World.cell?_of_block (a := ⟨Bw, 0, none⟩) (hb2.block Bw HWL.out)).trans cWr, cellOr_of ((h1.cell j).trans (List.getElem?_eq_getElem HJC.out)), h1.free j⟩
      have hk2 : ∀ (w2 : World) (u : Value), Below wr.heap.size wr w2 → (w2.setCell ⟨B, j, none⟩ u).cell? ⟨Bw, 0, none⟩ = some (.func (.func 64) #[] #[.pointer (some ⟨Bs, 0, none⟩)]) ∧ (w2.setCell ⟨B, j, none⟩ u).cell? ⟨B, j, none⟩ = some (cellOr (w2.setCell ⟨B, j, none⟩ u) ⟨B, j, none⟩) ∧ (w2.setCell ⟨B, j, none⟩ u).frozen? ⟨B, j, none⟩ = false := fun w2 u hb2 => by
        have h1 : Blk w2 B (natCells .u16 c) 91 := (hb2.block B HBC.out.lt).trans HBC.out
        exact ⟨(World.cell?_of_block (a := ⟨Bw, 0, none⟩) ((Below.heap_setCell w2 ⟨B, j, none⟩ u Bw HNW.out).trans (hb2.block Bw HWL.out))).trans cWr, cellOr_of (blk_set_cell h1 HJC.out u), (h1.set j u).free j⟩
      have HK1 := Aside0.mk hk1
      have HK2 := Aside0.mk hk2
      clear hcl hcx hBc hC hbv hx hWr hSr hk2 hk1 cSr
      go_wp2
      go_region_held3 (fun w' => w'.cell? ⟨Bw, 0, none⟩ = some (.func (.func 64) #[] #[.pointer (some ⟨Bs, 0, none⟩)]) ∧ w'.cell? ⟨B, j, none⟩ = some (cellOr w' ⟨B, j, none⟩) ∧ w'.frozen? ⟨B, j, none⟩ = false) (first | exact ⟨cWr, hcell, hfr⟩ | exact HK1.out _ (below_undrew hb2) | exact HK2.out _ _ (below_undrew hb2) | go_keep) (first | ((with_reducible refine HWD.out.mono ?_); rintro e w2 ⟨rfl, hb2⟩))
      have hb2' := below_undrew hb2
      have h1 : Blk w2 B (natCells .u16 c) 91 := (hb2'.block B HBC.out.lt).trans HBC.out
      have HB3 := Aside0.mk (show ∃ c' : List Nat, c'.length = 128 ∧ (∀ t, t < j + 1 → c'.getD t 0 = bl.getD t 0) ∧ Blk (w2.setCell ⟨B, j, none⟩ (.int .u16 (x : Int))) B (natCells .u16 c') 91 from
        ⟨c.set j x, by rw [List.length_set]; exact HCL.out, fun t ht => by
          rw [getD_set _ _ _ _ (by rw [HCL.out]; exact hlt)]
          split
          · rename_i e; subst e; exact HX.out.symm
          · exact HCX.out t (by omega), by rw [← natCells_set]; exact h1.set j _⟩)
      have HK3 := Aside0.mk ((hK.out.trans (Keeps.of_below hb2')).setCell ⟨B, j, none⟩ (.int .u16 (x : Int)) (fun _ => rfl))
      clear h1 hb2 hb2' hcell hfr HK1 HK2 HWD hK cWr
      generalize w2.setCell ⟨B, j, none⟩ (.int .u16 (x : Int)) = w3 at *
      go_wp2
      go_roundg (gk - 1)
      case measure => omega
      case rel => exact ⟨j + 1, by omega, by omega, by go_num, HB3, HK3⟩
    · have hlt' : ¬ (j : Int) < 128 := by omega
      obtain rfl : j = 128 := by omega
      obtain ⟨c, hcl, hcx, hBc⟩ := hC.out
      have hce : c = bl := by
        apply List.ext_getElem (by rw [hcl, HBL.out])
        intro t h1 h2
        have := hcx t (by omega)
        rwa [List.getD_eq_getElem?_getD, List.getElem?_eq_getElem h1, Option.getD_some, List.getD_eq_getElem?_getD, List.getElem?_eq_getElem h2, Option.getD_some] at this
      subst hce
      have HF := Aside0.mk (show Up2Post W c B (.returned (.bool true)) wr from ⟨rfl, hBc, hK.out⟩)
      clear hcl hcx hBc hC hK
      go_wp2
      go_ret
      exact HF.out

end Go.Proofs.Ytajmbafljncjcaa.Stage

/-! ### UnpackU: Unpack: the walk. -/
namespace Go.Proofs.Ytajmbafljncjcaa.Stage
open Go.RowKit Go.Proofs.YtajmbafljncjcaaW.PrintWords Go.Proofs.YtajmbafljncjcaaW.PrintLast Go.Proofs.YtajmbafljncjcaaW.PrintMore Go.Proofs.Ytajmbafljncjcaa.Mp
set_option linter.unusedVariables false
set_option linter.unusedSimpArgs false

theorem up2_fill {W3 : World} {s : ByteArray} {n Bt Tb Bw Bs : Nat} (hs : s.size ≤ 9223372036854775807) (hsz : s.size = 17410 + 256 * n)
    (hT : Blk W3 Bt [.pointer (some ⟨Tb, 0, none⟩)] 23) (hW : Blk W3 Bw [.func (.func 64) #[] #[.pointer (some ⟨Bs, 0, none⟩)]] 113) (hS : Blk W3 Bs [.string s] 9)
    (hTc : ∀ i, i < 8704 → wd s (1 + i) < n ∧ W3.cell? ⟨Tb, i, none⟩ = some (.int .u16 (wd s (1 + i) : Nat))) :
    Fill W3 65 #[.pointer (some ⟨Bt, 0, none⟩), .pointer (some ⟨Bw, 0, none⟩)] (fun _ => False) (fun _ W => Old W3 W) (blkOf (wdSay s)) where
  pr := fun k h => h.elim
  ent := call_enters Try.func65 (by kernel_rfl) (by kernel_rfl)
  start := Old.refl _
  stable := fun i W W' h hs => fun k hk => (hs k hk).trans (h k hk)
  len := fun i => blkOf_len _ _
  call := fun i hi W B hO hB hBk hW' => by
    have e1 : ((i : Int) * 128) = ((128 * i : Nat) : Int) := by omega
    have e2 : (#[Value.int .i32 ((i : Int) * 128), .pointer (some ⟨B, 0, none⟩)] ++ #[Value.pointer (some ⟨Bt, 0, none⟩), .pointer (some ⟨Bw, 0, none⟩)] : Array Value) =
      #[.int .i32 ((128 * i : Nat) : Int), .pointer (some ⟨B, 0, none⟩), .pointer (some ⟨Bt, 0, none⟩), .pointer (some ⟨Bw, 0, none⟩)] := by rw [e1]; rfl
    rw [e2]
    obtain ⟨h1, h2⟩ := hTc i hi
    have hTl : Tb < W3.heap.size := World.block_lt_of_cell? W3 _ h2
    refine (up2_calls W s i (wd s (1 + i)) n B Bt Tb Bw Bs hi hs hsz h1 zeros128 (blkOf (wdSay s) i) (blkOf_len _ _) (fun j hj => by
      rw [blkOf_get _ _ _ hj]
      unfold wdSay
      rw [show (128 * i + j) / 128 = i by omega, show (128 * i + j) % 128 = j by omega]) hBk zeros128_len ((hO Bt hT.lt).trans hT) ((World.cell?_of_block (a := ⟨Tb, i, none⟩) (hO Tb hTl)).trans h2) (by omega) ((hO Bw hW.lt).trans hW) ((hO Bs hS.lt).trans hS)).mono ?_
    rintro e w' ⟨rfl, h2, h3⟩
    exact ⟨true, rfl, fun h => (by cases h), fun k hk => (h3.block k (by omega) (by omega)).trans (hO k hk), h2, h3.mono fun k hk h => .inr h⟩

/-- A text that is packed. -/
def Packed (s : ByteArray) : Prop := (∃ n, s.size = 17410 + 256 * n ∧ ∀ i, i < 8704 → wd s (1 + i) < n) ∧ strOfNums (packT (tabSay (wdSay s))) = s
def UnpackPost (w : World) (s : ByteArray) (e : Ending) (w' : World) : Prop := Below w.heap.size w w' ∧
  ((Packed s ∧ ∃ b, e = .returned (.tuple #[.pointer (some ⟨b, 0, none⟩), .int .i64 0]) ∧ TabSays w' b (wdSay s)) ∨ (¬ Packed s ∧ e = .returned (.tuple #[.pointer none, .int .i64 82])))

/-- How things stand while the numbers are read. -/
structure UpSt (w wr : World) (Bs Bw Tb Bt : Nat) (s : ByteArray) (wh : List Nat) : Prop where
  below : Below w.heap.size w wr
  hS : Blk wr Bs [.string s] 9
  hW : Blk wr Bw [.func (.func 64) #[] #[.pointer (some ⟨Bs, 0, none⟩)]] 113
  hT : Blk wr Tb (whCells wh (.slice none 0 0) (.slice none 0 0)) 96
  hP : Blk wr Bt [.pointer (some ⟨Tb, 0, none⟩)] 23
theorem UpSt.step {w wr w1 : World} {Bs Bw Tb Bt : Nat} {s : ByteArray} {wh : List Nat} (h : UpSt w wr Bs Bw Tb Bt s wh) (hb : Below wr.heap.size wr w1) : UpSt w w1 Bs Bw Tb Bt s wh :=
  ⟨h.below.trans (hb.mono h.below.size), (hb.block _ h.hS.lt).trans h.hS, (hb.block _ h.hW.lt).trans h.hW, (hb.block _ h.hT.lt).trans h.hT, (hb.block _ h.hP.lt).trans h.hP⟩
theorem UpSt.set {w wr : World} {Bs Bw Tb Bt : Nat} {s : ByteArray} {wh : List Nat} (h : UpSt w wr Bs Bw Tb Bt s wh) (hw : w.heap.size ≤ Tb) (n : Nat) (hl : wh.length < 8704) : UpSt w (wr.setCell ⟨Tb, wh.length, none⟩ (.int .u16 (n : Int))) Bs Bw Tb Bt s (wh ++ [n]) :=
  ⟨below_set h.below hw, h.hS.other (p := ⟨Tb, wh.length, none⟩) (blk_types h.hS h.hT (by decide)) _, h.hW.other (p := ⟨Tb, wh.length, none⟩) (blk_types h.hW h.hT (by decide)) _, by rw [← whCells_set _ _ n hl]; exact h.hT.set _ _, h.hP.other (p := ⟨Tb, wh.length, none⟩) (blk_types h.hP h.hT (by decide)) _⟩

theorem str_ext' {a b : ByteArray} (h : a.data.toList = b.data.toList) : a = b := by
  obtain ⟨⟨a⟩⟩ := a
  obtain ⟨⟨b⟩⟩ := b
  simp only at h
  rw [h]

theorem wdSay_le (s : ByteArray) (p : Nat) : wdSay s p ≤ 65535 := wd_le _ _

set_option maxRecDepth 100000 in
set_option maxHeartbeats 3200000 in
theorem unpack_calls (w : World) (s : ByteArray) (hs : s.size ≤ 140737488351232) : Calls Try.prog 31 #[.string s] w (UnpackPost w s) := by
  have hb1 := below_alloc (Below.refl w.heap.size w) (.cells #[.string s] 9)
  have hmf : ∀ (fn : Fn) (first cap : Array Value) (w : World), (Instr.makeFunc fn first cap).run Try.prog w = .ok (.func fn first cap) w := fun _ _ _ _ => rfl
  by_cases hlen : s.size < 17410
  · have hlen' : (s.size : Int) < 17410 := by omega
    have HF := Aside0.mk (show UnpackPost w s (.returned (.tuple #[.pointer none, .int .i64 82])) (w.alloc (.cells #[.string s] 9)) from ⟨hb1, .inr ⟨fun h => by obtain ⟨⟨n, h1, _⟩, _⟩ := h; omega, rfl⟩⟩)
    clear hb1
    go_enter Try.func31, Try.ntmps31
    go_wp2
    go_ret2
    exact HF.out
  · have hlen' : ¬ (s.size : Int) < 17410 := by omega
    by_cases hmod : (s.size - 17410) % 256 = 0
    · obtain ⟨n, hn⟩ : ∃ n, s.size = 17410 + 256 * n := ⟨(s.size - 17410) / 256, by omega⟩
      have hmod' : (((s.size : Int) - 17410) % 256 != 0) = false := by rw [bne_eq_false_iff_eq]; omega
      have hdiv : ((s.size : Int) - 17410) / 256 = (n : Int) := by omega
      have HB1 := Aside0.mk hb1
      have HN := Aside0.mk hn
      have HD := Aside0.mk hdiv
      clear hb1 hmod hn
      go_enter Try.func31, Try.ntmps31
      go_wp2_with (first
        | (with_reducible refine wpList_build0 rfl 96 rfl _ zero_Table Try.underlying96 (.inr ⟨_, rfl, by decide⟩) ?_)
        | (with_reducible refine wpList_box rfl 96 (.tmp 24) rfl _ rfl ?_)
        | fail)
      have hst : UpSt w ((((w.alloc (.cells #[.string s] 9)).alloc (.cells #[.func (.func 64) #[] #[.pointer (some ⟨w.heap.size, 0, none⟩)]] 113)).alloc (.cells (whCells [] (.slice none 0 0) (.slice none 0 0)).toArray 96)).alloc (.cells #[.pointer (some ⟨w.heap.size + 1 + 1, 0, none⟩)] 23)) w.heap.size (w.heap.size + 1) (w.heap.size + 1 + 1) (w.heap.size + 1 + 1 + 1) s [] := by
        have x1 := blk_new w [.string s] 9
        have x2 := blk_new (w.alloc (.cells #[.string s] 9)) [.func (.func 64) #[] #[.pointer (some ⟨w.heap.size, 0, none⟩)]] 113
        have x3 := blk_new ((w.alloc (.cells #[.string s] 9)).alloc (.cells #[.func (.func 64) #[] #[.pointer (some ⟨w.heap.size, 0, none⟩)]] 113)) (whCells [] (.slice none 0 0) (.slice none 0 0)) 96
        have x4 := blk_new (((w.alloc (.cells #[.string s] 9)).alloc (.cells #[.func (.func 64) #[] #[.pointer (some ⟨w.heap.size, 0, none⟩)]] 113)).alloc (.cells (whCells [] (.slice none 0 0) (.slice none 0 0)).toArray 96)) [.pointer (some ⟨w.heap.size + 1 + 1, 0, none⟩)] 23
        simp only [alloc_size] at x2 x3 x4
        exact ⟨below_alloc (below_alloc (below_alloc HB1.out _) _) _, ((x1.alloc _).alloc _).alloc _, (x2.alloc _).alloc _, x3.alloc _, x4⟩
      have HST := Aside0.mk hst
      have hTb : w.heap.size ≤ w.heap.size + 1 + 1 := by omega
      have HTB := Aside0.mk hTb
      clear hst hTb
      generalize ((((w.alloc (.cells #[.string s] 9)).alloc (.cells #[.func (.func 64) #[] #[.pointer (some ⟨w.heap.size, 0, none⟩)]] 113)).alloc (.cells (whCells [] (.slice none 0 0) (.slice none 0 0)).toArray 96)).alloc (.cells #[.pointer (some ⟨w.heap.size + 1 + 1, 0, none⟩)] 23)) = W4 at HST ⊢
      generalize w.heap.size + 1 + 1 + 1 = Bt at HST ⊢
      generalize w.heap.size + 1 + 1 = Tb at HST HTB ⊢
      generalize w.heap.size + 1 = Bw at HST ⊢
      generalize hBs : w.heap.size = Bs
      have HST2 := Aside0.mk (show UpSt w W4 Bs Bw Tb Bt s [] from by rw [← hBs]; exact HST.out)
      clear HST hBs
      have ent := call_enters (f := 64) Try.func64 (by kernel_rfl) (by kernel_rfl)
      go_loopg [26] 8705 (fun k v26 wr => ∃ i : Nat, i ≤ 8704 ∧ 8705 - i ≤ k ∧ v26 = .int .i64 (i : Int) ∧ Aside0 (∃ wh : List Nat, wh.length = i ∧ (∀ t, t < i → wh.getD t 0 = wd s (1 + t) ∧ wd s (1 + t) < n) ∧ UpSt w wr Bs Bw Tb Bt s wh))
      case atStart => exact ⟨0, by omega, by omega, rfl, ⟨[], rfl, fun t ht => absurd ht (Nat.not_lt_zero t), HST2.out⟩⟩
      case round =>
        obtain ⟨i, hi, hik, rfl, hO⟩ := hrel
        clear HST2
        by_cases hlt : i < 8704
        · have hlt' : (i : Int) < 8704 := by omega
          obtain ⟨wh, hwl, hwv, hU⟩ := hO.out
          have cT := hU.hP.cell 0
          have cW := hU.hW.cell 0
          have cS := hU.hS.cell 0
          simp only [List.getElem?_cons_zero] at cT cW cS
          obtain ⟨x0, hx0⟩ := whCells_at (wh := wh) (.slice none 0 0) (.slice none 0 0) (by omega)
          have hc0 := (hU.hT.cell wh.length).trans hx0
          have hfr := hU.hT.free wh.length
          rw [hwl] at hc0 hfr
          have hcell := cellOr_of hc0
          have HWD := Aside0.mk (word_below wr.drew s Bs (1 + i) (IntKind.i64.wrap (1 + (i : Int))) (by rw [IntWalk.i64_in _ (by omega)]; omega) (by omega) (by have := HN.out; omega) (show wr.drew.cell? ⟨Bs, 0, none⟩ = some (.string s) from cS))
          have hxb := wd_le s (1 + i)
          generalize hx : wd s (1 + i) = x at HWD hxb
          have HX := Aside0.mk hx
          have HU := Aside0.mk hU
          have HWL := Aside0.mk hwl
          have HWV := Aside0.mk hwv
          have hk1 : ∀ w2 : World, Below wr.heap.size wr w2 → w2.cell? ⟨Bt, 0, none⟩ = some (.pointer (some ⟨Tb, 0, none⟩)) ∧ w2.cell? ⟨Bw, 0, none⟩ = some (.func (.func 64) #[] #[.pointer (some ⟨Bs, 0, none⟩)]) ∧ w2.cell? ⟨Tb, i, none⟩ = some (cellOr w2 ⟨Tb, i, none⟩) ∧ w2.frozen? ⟨Tb, i, none⟩ = false := fun w2 hb2 => by
            have h := HU.out.step hb2
            have h3 := h.hT.cell wh.length
            rw [hx0, HWL.out] at h3
            have h4 := h.hT.free wh.length
            rw [HWL.out] at h4
            exact ⟨h.hP.cell 0, h.hW.cell 0, cellOr_of h3, h4⟩
          have hk2 : ∀ (w2 : World) (u : Value), Below wr.heap.size wr w2 → (w2.setCell ⟨Tb, i, none⟩ u).cell? ⟨Bt, 0, none⟩ = some (.pointer (some ⟨Tb, 0, none⟩)) ∧ (w2.setCell ⟨Tb, i, none⟩ u).cell? ⟨Bw, 0, none⟩ = some (.func (.func 64) #[] #[.pointer (some ⟨Bs, 0, none⟩)]) ∧ (w2.setCell ⟨Tb, i, none⟩ u).cell? ⟨Tb, i, none⟩ = some (cellOr (w2.setCell ⟨Tb, i, none⟩ u) ⟨Tb, i, none⟩) ∧ (w2.setCell ⟨Tb, i, none⟩ u).frozen? ⟨Tb, i, none⟩ = false := fun w2 u hb2 => by
            have h := HU.out.step hb2
            have hl : i < (whCells wh (.slice none 0 0) (.slice none 0 0)).length := by rw [whCells_len (by have := HWL.out; omega)]; omega
            exact ⟨(h.hP.other (p := ⟨Tb, i, none⟩) (blk_types h.hP h.hT (by decide)) u).cell 0, (h.hW.other (p := ⟨Tb, i, none⟩) (blk_types h.hW h.hT (by decide)) u).cell 0, cellOr_of (blk_set_cell h.hT hl u), (h.hT.set i u).free i⟩
          have HK1 := Aside0.mk hk1
          have HK2 := Aside0.mk hk2
          clear hk1 hk2 hO hU hwl hwv hx hc0 hx0 cS
          go_wp2
          go_region_held3 (fun w' => w'.cell? ⟨Bt, 0, none⟩ = some (.pointer (some ⟨Tb, 0, none⟩)) ∧ w'.cell? ⟨Bw, 0, none⟩ = some (.func (.func 64) #[] #[.pointer (some ⟨Bs, 0, none⟩)]) ∧ w'.cell? ⟨Tb, i, none⟩ = some (cellOr w' ⟨Tb, i, none⟩) ∧ w'.frozen? ⟨Tb, i, none⟩ = false) (first | exact ⟨cT, cW, hcell, hfr⟩ | exact HK1.out _ (below_undrew hb2) | exact HK2.out _ _ (below_undrew hb2) | go_keep) (first | ((with_reducible refine HWD.out.mono ?_); rintro e w2 ⟨rfl, hb2⟩))
          have hb2' := below_undrew hb2
          have hU2 := HU.out.step hb2'
          have hU3 := hU2.set HTB.out x (by have := HWL.out; omega)
          rw [HWL.out] at hU3
          have hl : i < (whCells wh (.slice none 0 0) (.slice none 0 0)).length := by rw [whCells_len (by have := HWL.out; omega)]; omega
          have hc3 := blk_set_cell hU2.hT hl (.int .u16 (x : Int))
          have hco : cellOr (w2.setCell ⟨Tb, i, none⟩ (.int .u16 (x : Int))) ⟨Tb, i, none⟩ = .int .u16 (x : Int) := by unfold cellOr; rw [hc3]; rfl
          have cT3 := hU3.hP.cell 0
          simp only [List.getElem?_cons_zero] at cT3
          have HU3 := Aside0.mk hU3
          clear hb2 hb2' hU2 hU3 hl HK1 HK2 HWD HU cT cW hcell hfr
          generalize w2.setCell ⟨Tb, i, none⟩ (.int .u16 (x : Int)) = w3 at *
          by_cases hxn : x < n
          · have hxn' : ¬ (n : Int) ≤ (x : Int) := by omega
            have HNX := Aside0.mk (show ∃ wh : List Nat, wh.length = i + 1 ∧ (∀ t, t < i + 1 → wh.getD t 0 = wd s (1 + t) ∧ wd s (1 + t) < n) ∧ UpSt w w3 Bs Bw Tb Bt s wh from
              ⟨wh ++ [x], by rw [List.length_append, HWL.out]; rfl, fun t ht => by
                by_cases e : t < i
                · rw [getD_snoc_lt _ _ _ _ (by rw [HWL.out]; exact e)]
                  exact HWV.out t e
                · have e2 : t = i := by omega
                  subst e2
                  have h := getD_snoc_at wh x 0
                  rw [HWL.out] at h
                  rw [h, HX.out]
                  exact ⟨rfl, hxn⟩, HU3.out⟩)
            go_wp2
            go_roundg (gk - 1)
            case measure => omega
            case rel => exact ⟨i + 1, by omega, by omega, by go_num, HNX⟩
          · have hxn' : (n : Int) ≤ (x : Int) := by omega
            have HF := Aside0.mk (show UnpackPost w s (.returned (.tuple #[.pointer none, .int .i64 82])) w3 from ⟨HU3.out.below, .inr ⟨fun h => by
              obtain ⟨⟨n', h1, h2⟩, _⟩ := h
              have h3 := h2 i hlt
              rw [HX.out] at h3
              have := HN.out
              omega, rfl⟩⟩)
            go_wp2
            go_ret2
            exact HF.out
        · have hlt' : ¬ (i : Int) < 8704 := by omega
          obtain rfl : i = 8704 := by omega
          obtain ⟨wh, hwl, hwv, hU⟩ := hO.out
          have hTc : ∀ i, i < 8704 → wd s (1 + i) < n ∧ wr.cell? ⟨Tb, i, none⟩ = some (.int .u16 (wd s (1 + i) : Nat)) := fun i hi => by
            obtain ⟨h1, h2⟩ := hwv i hi
            refine ⟨h2, ?_⟩
            rw [hU.hT.cell i, ← h1]
            unfold whCells
            rw [show 8704 - wh.length = 0 by omega, List.replicate_zero, List.append_nil, List.getElem?_append_left (by rw [natCells_len]; omega), natCells_get _ _ _ (by omega)]
          have hm := made_calls (up2_fill (by omega) HN.out hU.hP hU.hW hU.hS hTc) (fun i hi j => by
            rcases Nat.lt_or_ge j 128 with hj | hj
            · rw [blkOf_get _ _ _ hj]; exact wdSay_le _ _
            · rw [List.getD_eq_getElem?_getD, List.getElem?_eq_none (by rw [blkOf_len]; exact hj)]; exact Nat.zero_le _)
          have HM := Aside0.mk hm
          have HU := Aside0.mk hU
          have HWV := Aside0.mk (fun i hi => (hwv i hi).2)
          clear hTc hm hU hwl hwv hO
          go_wp2_with fail
          refine HM.out.mono ?_
          rintro e w5 ⟨b, gu, c, gp, c', rfl, ht, _, hk⟩
          have hb5 := hk.below
          have HU5 := Aside0.mk (HU.out.step hb5)
          have HT5 := Aside0.mk (show TabSays w5 b (wdSay s) from ⟨gu, c, gp, c', ht⟩)
          clear ht hk hb5 HM HU
          have HPK := Aside0.mk (pack_calls w5.drew (some ⟨b, 0, none⟩) (wdSay s) (.inr ⟨b, rfl, HT5.out.below ⟨rfl, rfl, rfl, Nat.le_refl _, fun _ _ => rfl⟩⟩))
          have cS5 := HU5.out.hS.cell 0
          simp only [List.getElem?_cons_zero] at cS5
          have HK1 := Aside0.mk (fun (w2 : World) (hb2 : Below w5.heap.size w5 w2) => (HU5.out.step hb2).hS.cell 0)
          go_wp2
          go_region_held3 (fun w' => w'.cell? ⟨Bs, 0, none⟩ = some (.string s)) (first | exact cS5 | exact HK1.out _ (below_undrew hb6) | go_keep) (first | ((with_reducible refine HPK.out.mono ?_); rintro e w6 ⟨hb6, rfl⟩))
          have hb6' := below_undrew hb6
          have HB6 := Aside0.mk (HU5.out.below.trans (hb6'.mono HU5.out.below.size))
          have HT6 := Aside0.mk (HT5.out.below hb6')
          have HFG := Aside0.mk (fun h : strOfNums (packT (tabSay (wdSay s))) = s => (show UnpackPost w s (.returned (.tuple #[.pointer (some ⟨b, 0, none⟩), .int .i64 0])) w6 from ⟨HB6.out, .inl ⟨⟨⟨n, HN.out, HWV.out⟩, h⟩, b, rfl, HT6.out⟩⟩))
          have HFB := Aside0.mk (fun h : ¬ strOfNums (packT (tabSay (wdSay s))) = s => (show UnpackPost w s (.returned (.tuple #[.pointer none, .int .i64 82])) w6 from ⟨HB6.out, .inr ⟨fun hp => h hp.2, rfl⟩⟩))
          clear hb6 hb6' HB6 HT6 HU5 HT5 HPK HK1 cS5
          by_cases hq : strOfNums (packT (tabSay (wdSay s))) = s
          · have HF := Aside0.mk (HFG.out hq)
            have hbq : ((strOfNums (packT (tabSay (wdSay s)))).toList == s.toList) = true := by rw [hq]; exact beq_self_eq_true _
            rw [hbq]
            clear HFG HFB hq hbq
            go_wp2
            go_ret2
            exact HF.out
          · have HF := Aside0.mk (HFB.out hq)
            have hne : (strOfNums (packT (tabSay (wdSay s)))).toList ≠ s.toList := fun h => hq (by
              rw [ByteArray.toList_eq, ByteArray.toList_eq] at h
              exact str_ext' h)
            generalize strOfNums (packT (tabSay (wdSay s))) = s1 at *
            have hne' : (s1.toList != s.toList) = true := by rw [bne_iff_ne]; exact hne
            have hne2 : (s1.toList == s.toList) = false := by rw [beq_eq_false_iff_ne]; exact hne
            rw [hne2]
            clear HFG HFB hq hne hne' hne2
            go_wp2
            go_ret2
            exact HF.out
    · have hmod' : (((s.size : Int) - 17410) % 256 != 0) = true := by rw [bne_iff_ne]; omega
      have HF := Aside0.mk (show UnpackPost w s (.returned (.tuple #[.pointer none, .int .i64 82])) (w.alloc (.cells #[.string s] 9)) from ⟨hb1, .inr ⟨fun h => by obtain ⟨⟨n, h1, _⟩, _⟩ := h; omega, rfl⟩⟩)
      clear hb1 hmod
      go_enter Try.func31, Try.ntmps31
      go_wp2
      go_ret2
      exact HF.out

end Go.Proofs.Ytajmbafljncjcaa.Stage
