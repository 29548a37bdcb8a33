/- Over, Build. -/
import Derived.Test.YtajmbafljncjcaaOver
import Derived.Test.YtajmbafljncjcaaCheck
namespace Go.Proofs.Ytajmbafljncjcaa.Stage
open Go.RowKit Go.Proofs.YtajmbafljncjcaaW.PrintWords Go.Proofs.YtajmbafljncjcaaW.PrintLast Go.Proofs.YtajmbafljncjcaaW.PrintMore Go.Proofs.Ytajmbafljncjcaa.Mp
set_option linter.unusedVariables false
set_option linter.unusedSimpArgs false

theorem layB_blkOf (l : List (Nat × Nat × Nat)) (say : Nat → Nat) (i : Nat) : layB l (128 * i) (blkOf say i) = blkOf (overSay l say) i :=
  list_ext_getD (layB_len _ _ _) (blkOf_len _ _) fun j hj => by rw [layB_get _ _ _ _ hj, blkOf_get _ _ _ hj, blkOf_get _ _ _ hj]; rfl
theorem zeros_blkOf {say : Nat → Nat} (h : ∀ p, p < 1114112 → say p = 0) (i : Nat) (hi : i < 8704) : blkOf say i = zeros128 :=
  list_ext_getD (blkOf_len _ _) zeros128_len fun j hj => by rw [blkOf_get _ _ _ hj, h _ (by omega), zeros128, List.getD_eq_getElem?_getD, List.getElem?_replicate]; split <;> rfl

/-- How Over's own variables stand ahead of block i. -/
def OverSt (W3 : World) (Nx : Nat) (l : List (Nat × Nat × Nat)) (i : Nat) (W : World) : Prop :=
  (∀ k, k < Nx → W.heap[k]? = W3.heap[k]?) ∧ ∃ nx, nx ≤ l.length ∧ (∀ j, j < nx → (l.getD j z3).2.1 < 128 * i) ∧ Blk W Nx [.int .i64 nx] 3

theorem over_fill {w W3 : World} {v : Option Addr} {say : Nat → Nat} (hh : Han w v say) {g o cap : Nat} {A : Option Addr} {l : List (Nat × Nat × Nat)} (hA : 0 < l.length → A = some ⟨g, o, none⟩) (hl : l.length ≤ cap) (hr : RiseN 0 l) (hrows : RowsAt w g o l) (hlen : l.length ≤ 65536)
    {Bt Br Nx : Nat} (hold : ∀ k, k < w.heap.size → W3.heap[k]? = w.heap[k]?) (hT : Blk W3 Bt [.pointer v] 23) (hR : Blk W3 Br [.slice A l.length cap] 22) (hN : Blk W3 Nx [.int .i64 ((0 : Nat) : Int)] 3) (hsz : W3.heap.size = Nx + 1) (hwN : w.heap.size ≤ Nx) (hBt : Bt < Nx) (hBr : Br < Nx) :
    Fill W3 59 #[.pointer (some ⟨Bt, 0, none⟩), .pointer (some ⟨Br, 0, none⟩), .pointer (some ⟨Nx, 0, none⟩)] (fun k => k = Nx) (OverSt W3 Nx l) (blkOf (overSay l say)) where
  pr := fun k h => by omega
  ent := call_enters Try.func59 (by kernel_rfl) (by kernel_rfl)
  start := ⟨fun _ _ => rfl, 0, Nat.zero_le _, fun j hj => by omega, hN⟩
  stable := fun i W W' h hs => ⟨fun k hk => (hs k (by omega)).trans (h.1 k hk), by
    obtain ⟨_, nx, h1, h2, h3⟩ := h
    exact ⟨nx, h1, h2, (hs Nx (by omega)).trans h3⟩⟩
  len := fun i => blkOf_len _ _
  call := fun i hi W B hS hnB hB hW => by
    obtain ⟨hsame, nx, h1, h2, h3⟩ := hS
    have hw : ∀ k, k < w.heap.size → W.heap[k]? = w.heap[k]? := fun k hk => (hsame k (by omega)).trans (hold k hk)
    have hrows' : RowsAt W g o l := fun j hj => ⟨cell_same hw (hrows j hj).1, cell_same hw (hrows j hj).2.1, cell_same hw (hrows j hj).2.2⟩
    have hT' : Blk W Bt [.pointer v] 23 := (hsame Bt hBt).trans hT
    have hR' : Blk W Br [.slice A l.length cap] 22 := (hsame Br hBr).trans hR
    have hgl : 0 < l.length → g < w.heap.size := fun hp => World.block_lt_of_cell? w _ (hrows 0 hp).1
    have hg : 0 < l.length → g ≠ Nx ∧ g ≠ B := fun hp => ⟨by have := hgl hp; omega, by have := hgl hp; omega⟩
    have e1 : ((i : Int) * 128) = ((128 * i : Nat) : Int) := by omega
    have e2 : (#[Value.int .i32 ((i : Int) * 128), .pointer (some ⟨B, 0, none⟩)] ++ #[Value.pointer (some ⟨Bt, 0, none⟩), .pointer (some ⟨Br, 0, none⟩), .pointer (some ⟨Nx, 0, none⟩)] : Array Value) =
      #[.int .i32 ((128 * i : Nat) : Int), .pointer (some ⟨B, 0, none⟩), .pointer (some ⟨Bt, 0, none⟩), .pointer (some ⟨Br, 0, none⟩), .pointer (some ⟨Nx, 0, none⟩)] := by rw [e1]; rfl
    rw [e2]
    have fin : ∀ base b0, layB l (128 * i) base = blkOf (overSay l say) i → (b0 = false → base = zeros128) → ∀ e w', Over1Post W Nx B (128 * i) l base b0 e w' → FillPost (fun k => k = Nx) (OverSt W3 Nx l) (blkOf (overSay l say)) B i W e w' := by
      rintro base b0 hbase hb0 e w' ⟨laid, nx', rfl, hl0, hn1, hn2, hst⟩
      refine ⟨laid, rfl, fun hf => ?_, ⟨fun k hk => ?_, nx', hn1, fun j hj => by have := hn2 j hj; omega, hst.hN⟩, by rw [← hbase]; exact hst.hB, hst.keep⟩
      · obtain ⟨hb, hlb⟩ := hl0 hf
        rw [← hbase, hlb, hb0 hb]
      · exact (hst.keep.block k (by omega) (by omega)).trans (hsame k hk)
    rcases hh with ⟨rfl, hz⟩ | ⟨b, rfl, gu, c, gp, c', ht⟩
    · refine (over1_nil W g o cap Nx B Bt Br (128 * i) A l nx zeros128 hA hl hr hrows' hg (by omega) h1 h2 (by omega) hlen h3 hB zeros128_len hT' hR').mono ?_
      exact fin zeros128 false (by rw [← zeros_blkOf hz i hi]; exact layB_blkOf l say i) (fun _ => rfl)
    · have hbl : b < w.heap.size := World.block_lt_of_cell? w _ ht.hu
      have hgu : gu < w.heap.size := World.block_lt_of_cell? w _ (ht.hub _ 0 (ht.idx 0 (by omega)) (by omega))
      refine (over1_some W g o cap Nx B Bt Br (128 * i) A l nx zeros128 i b gu c gp c' (tabSay say) hA hl hr hrows' hg (by omega) h1 h2 (by omega) hlen h3 hB zeros128_len hT' hR' (ht.same hw) hi rfl (by omega) (by omega)).mono ?_
      exact fin _ true (by rw [tabSay_blk say i hi]; exact layB_blkOf l say i) (fun h => by cases h)

theorem overSay_bound {w : World} {v : Option Addr} {say : Nat → Nat} (hh : Han w v say) {l : List (Nat × Nat × Nat)} (hr : RiseN 0 l) (p : Nat) (hp : p < 1114112) : overSay l say p ≤ 65535 := by
  unfold overSay
  cases h : sayR l p with
  | some n => exact (sayR_le hr h).1
  | none =>
    rcases hh with ⟨_, hz⟩ | ⟨b, _, gu, c, gp, c', ht⟩
    · simp [hz p hp]
    · simpa using ht.bound p hp

def OverPost (w : World) (l : List (Int × Int × Int)) (say : Nat → Nat) (e : Ending) (w' : World) : Prop :=
  Below w.heap.size w w' ∧ (((checkR l).2 ≠ 0 ∧ e = .returned (.tuple #[.pointer none, .int .i64 (checkR l).1, .int .i64 (checkR l).2])) ∨
    ((checkR l).2 = 0 ∧ ∃ b, e = .returned (.tuple #[.pointer (some ⟨b, 0, none⟩), .int .i64 0, .int .i64 0]) ∧ TabSays w' b (overSay (natR l) say)))

set_option maxRecDepth 100000 in
set_option maxHeartbeats 1600000 in
theorem over_calls (w : World) (v : Option Addr) (say : Nat → Nat) (hh : Han w v say) (g o cap : Nat) (A : Option Addr) (l : List (Int × Int × Int)) (hA : 0 < l.length → A = some ⟨g, o, none⟩) (hrows : RowsI w g o l) (hl : l.length ≤ cap) (hl2 : l.length ≤ 9223372036854775807) :
    Calls Try.prog 27 #[.pointer v, .slice A l.length cap] w (OverPost w l say) := by
  have hb1 : Below w.heap.size w ((w.alloc (.cells #[.pointer v] 23)).alloc (.cells #[.slice A l.length cap] 22)) := ((Below.refl _ _).alloc (Nat.le_refl _) _).alloc (by simp) _
  have HB1 := Aside0.mk hb1
  have HT1 := Aside0.mk ((blk_new w [.pointer v] 23).alloc (.cells #[.slice A l.length cap] 22))
  have HR1 := Aside0.mk (blk_new (w.alloc (.cells #[.pointer v] 23)) [.slice A l.length cap] 22)
  have HC := Aside0.mk (check_calls _ g o cap A l hA (hrows.below hb1) hl2)
  clear hb1
  have hz : ((w.alloc (.cells #[.pointer v] 23)).alloc (.cells #[.slice A l.length cap] 22)).heap.size = w.heap.size + 2 := by simp
  have HZ := Aside0.mk hz
  rw [alloc_size] at HR1
  go_enter Try.func27, Try.ntmps27
  go_wp2_with fail
  refine HC.out.mono ?_
  rintro e w2 ⟨rfl, hb2⟩
  have HB2 := Aside0.mk hb2
  have HB := Aside0.mk (HB1.out.trans (hb2.mono (by omega)))
  clear hb2 hz
  by_cases he : (checkR l).2 = 0
  · obtain ⟨h1, h2, h3, h4⟩ := checkR_ok he
    have HE := Aside0.mk he
    have hsz : w.heap.size + 2 ≤ w2.heap.size := by have := HB2.out.size; have := HZ.out; omega
    have hold : ∀ k, k < w.heap.size → w2.heap[k]? = w.heap[k]? := HB.out.block
    have hT2 : Blk w2 w.heap.size [.pointer v] 23 := HT1.out.kept (Keeps.of_below HB2.out (Pr := fun _ => False)) (fun h => h)
    have hR2 : Blk w2 (w.heap.size + 1) [.slice A l.length cap] 22 := HR1.out.kept (Keeps.of_below HB2.out (Pr := fun _ => False)) (fun h => h)
    have hF := over_fill (W3 := w2.alloc (.cells #[.int .i64 ((0 : Nat) : Int)] 3)) (cap := cap) hh (A := A) (l := natR l) (by rw [natR_len]; exact hA) (by rw [natR_len]; exact hl) h3 (hrows.nat h4) (by rw [natR_len]; exact h2) (fun k hk => (Below.heap_alloc _ _ _ (by omega)).trans (hold k hk)) (hT2.alloc _) (by rw [natR_len]; exact hR2.alloc _) (blk_new w2 [.int .i64 ((0 : Nat) : Int)] 3) (by simp) (by omega) (by omega) (by omega)
    have HM := Aside0.mk (made_calls hF (fun i hi j => by
      rcases Nat.lt_or_ge j 128 with hj | hj
      · rw [blkOf_get _ _ _ hj]; exact overSay_bound hh h3 _ (by omega)
      · rw [List.getD_eq_getElem?_getD, List.getElem?_eq_none (by rw [blkOf_len]; exact hj)]; exact Nat.zero_le _))
    have hmf : ∀ (fn : Fn) (first cap : Array Value) (w : World), (Instr.makeFunc fn first cap).run Try.prog w = .ok (.func fn first cap) w := fun _ _ _ _ => rfl
    rw [h1]
    clear hF h1 h2 h3 h4 hT2 hR2 hold he
    go_wp2_with fail
    refine HM.out.mono ?_
    rintro e w3 ⟨b, gu, c, gp, c', rfl, ht, _, hk⟩
    have hb3 : Below w.heap.size w2 w3 := ⟨hk.os, hk.tape, hk.output, Nat.le_trans (by simp) hk.size, fun k hk' => (hk.block k (by simp; omega) (by omega)).trans (Below.heap_alloc _ _ _ (by omega))⟩
    have hfin : OverPost w l say (.returned (.tuple #[.pointer (some ⟨b, 0, none⟩), .int .i64 0, .int .i64 0])) w3 :=
      ⟨HB.out.trans hb3, .inr ⟨HE.out, b, rfl, gu, c, gp, c', ht⟩⟩
    have HFIN := Aside0.mk hfin
    clear ht hk hfin hb3
    go_wp2
    go_ret3
    exact HFIN.out
  · have hne : ¬ (checkR l).2 = 0 := he
    have HE := Aside0.mk he
    generalize hr : checkR l = r at hne
    have HRR := Aside0.mk hr
    clear hr he
    go_wp2
    go_ret3
    exact ⟨HB.out, .inl ⟨HE.out, by rw [HRR.out]; rfl⟩⟩

set_option maxRecDepth 100000 in
set_option maxHeartbeats 800000 in
theorem build_calls (w : World) (g o cap : Nat) (A : Option Addr) (l : List (Int × Int × Int)) (hA : 0 < l.length → A = some ⟨g, o, none⟩) (hrows : RowsI w g o l) (hl : l.length ≤ cap) (hl2 : l.length ≤ 9223372036854775807) :
    Calls Try.prog 18 #[.slice A l.length cap] w (OverPost w l (fun _ => 0)) := by
  have HO := Aside0.mk (over_calls w none (fun _ => 0) (.inl ⟨rfl, fun _ _ => rfl⟩) g o cap A l hA hrows hl hl2)
  clear hrows hA
  go_enter Try.func18, Try.ntmps18
  go_wp2_with fail
  refine HO.out.mono ?_
  rintro e w1 ⟨hb, ⟨hne, rfl⟩ | ⟨he, b, rfl, ht⟩⟩
  · have HF := Aside0.mk (show OverPost w l (fun _ => 0) (.returned (.tuple #[.pointer none, .int .i64 (checkR l).1, .int .i64 (checkR l).2])) w1 from ⟨hb, .inl ⟨hne, rfl⟩⟩)
    clear hb hne
    generalize checkR l = r at HF
    go_wp2
    go_ret3
    exact HF.out
  · have HF := Aside0.mk (show OverPost w l (fun _ => 0) (.returned (.tuple #[.pointer (some ⟨b, 0, none⟩), .int .i64 0, .int .i64 0])) w1 from ⟨hb, .inr ⟨he, b, rfl, ht⟩⟩)
    clear hb he ht
    go_wp2
    go_ret3
    exact HF.out

end Go.Proofs.Ytajmbafljncjcaa.Stage
