/- Swap: a table with one number in the place of another one. -/
import Derived.Test.YtajmbafljncjcaaSaid
namespace Go.Proofs.Ytajmbafljncjcaa.Stage
open Go.RowKit Go.Proofs.YtajmbafljncjcaaW.PrintWords Go.Proofs.YtajmbafljncjcaaW.PrintLast Go.Proofs.YtajmbafljncjcaaW.PrintMore Go.Proofs.Ytajmbafljncjcaa.Mp
set_option linter.unusedVariables false
set_option linter.unusedSimpArgs false

def swapSay (say : Nat → Nat) (n m p : Nat) : Nat := if say p = n then m else say p

set_option maxRecDepth 100000 in
theorem swap1_calls (W : World) (v : Option Addr) (say : Nat → Nat) (hh : Han W v say) (n m p Bt Bn Bm : Nat) (hp : p < 1114112) (hT : Blk W Bt [.pointer v] 23) (hN : Blk W Bn [.int .i64 (n : Int)] 3) (hM : Blk W Bm [.int .i64 (m : Int)] 3) :
    Calls Try.prog 69 #[.int .i32 (p : Int), .pointer (some ⟨Bt, 0, none⟩), .pointer (some ⟨Bn, 0, none⟩), .pointer (some ⟨Bm, 0, none⟩)] W fun e W' => e = .returned (.int .i64 (swapSay say n m p : Nat)) ∧ Below W.heap.size W W' := by
  have cT := hT.cell 0
  have cN := hN.cell 0
  have cM := hM.cell 0
  simp only [List.getElem?_cons_zero] at cT cN cM
  have hl := look_calls W v say hh (p : Int)
  have hli : lookI say (p : Int) = ((say p : Nat) : Int) := by unfold lookI; rw [if_pos (by omega), Int.toNat_natCast]
  unfold LookPost at hl
  rw [hli] at hl
  have HL := Aside0.mk hl
  have HS := Aside0.mk (show swapSay say n m p = if say p = n then m else say p from rfl)
  generalize say p = x at HL HS
  clear hh hl hli hT hN hM
  go_enter Try.func69, Try.ntmps69
  go_wp2_with fail
  refine HL.out.mono ?_
  rintro e w1 ⟨rfl, k, rfl⟩
  clear HL
  by_cases hx : x = n
  · subst hx
    rw [if_pos rfl] at HS
    go_wp2
    go_ret
    exact ⟨by rw [HS.out]; rfl, pw_below_drewN (Below.refl _ _) _⟩
  · rw [if_neg hx] at HS
    have hxn : ((x : Int) != (n : Int)) = true := by rw [bne_iff_ne]; omega
    go_wp2
    go_ret
    exact ⟨by rw [HS.out]; rfl, pw_below_drewN (Below.refl _ _) _⟩

theorem swap_says {w W3 : World} {v : Option Addr} {say : Nat → Nat} (hh : Han w v say) (n m Bt Bn Bm : Nat) (hn : n ≤ 65535) (hm : m ≤ 65535) (hold : Below w.heap.size w W3) (hT : Blk W3 Bt [.pointer v] 23) (hN : Blk W3 Bn [.int .i64 (n : Int)] 3) (hM : Blk W3 Bm [.int .i64 (m : Int)] 3)
    (hb : ∀ p, p < 1114112 → say p ≤ 65535) :
    SaysF W3 (swapSay say n m) (evenB say) 69 #[] #[.pointer (some ⟨Bt, 0, none⟩), .pointer (some ⟨Bn, 0, none⟩), .pointer (some ⟨Bm, 0, none⟩)] 70 #[.pointer v] #[] where
  entS := call_enters Try.func69 (by kernel_rfl) (by kernel_rfl)
  entE := call_enters Try.func70 (by kernel_rfl) (by kernel_rfl)
  bound := fun p hp => by unfold swapSay; have := hb p hp; split <;> omega
  even_ok := fun i hi h j hj => by unfold swapSay; rw [evenB_ok h j hj]
  says := fun W p hO hp => by
    have hh' : Han W v say := by
      rcases hh.below hold with h | ⟨b, rfl, g, c, g', c', ht⟩
      · exact .inl h
      · exact .inr ⟨b, rfl, g, c, g', c', ht.same hO⟩
    exact swap1_calls W v say hh' n m p Bt Bn Bm hp ((hO Bt hT.lt).trans hT) ((hO Bn hN.lt).trans hN) ((hO Bm hM.lt).trans hM)
  evens := fun W i hO hi => by
    have hh' : Han W v say := by
      rcases hh.below hold with h | ⟨b, rfl, g, c, g', c', ht⟩
      · exact .inl h
      · exact .inr ⟨b, rfl, g, c, g', c', ht.same hO⟩
    refine (even_calls W v say hh' i hi).mono ?_
    rintro e w' ⟨rfl, k, rfl⟩
    exact ⟨rfl, pw_below_drewN (Below.refl _ _) _⟩

def SwapPost (w : World) (say : Nat → Nat) (n m : Int) (e : Ending) (w' : World) : Prop :=
  Below w.heap.size w w' ∧ (((n < 0 ∨ 65535 < n ∨ m < 0 ∨ 65535 < m) ∧ e = .returned (.tuple #[.pointer none, .int .i64 81])) ∨
    ((0 ≤ n ∧ n ≤ 65535 ∧ 0 ≤ m ∧ m ≤ 65535) ∧ ∃ b, e = .returned (.tuple #[.pointer (some ⟨b, 0, none⟩), .int .i64 0]) ∧ TabSays w' b (swapSay say n.toNat m.toNat)))

set_option maxRecDepth 100000 in
set_option maxHeartbeats 800000 in
theorem swap_calls (w : World) (v : Option Addr) (say : Nat → Nat) (hh : Han w v say) (hbd : ∀ p, p < 1114112 → say p ≤ 65535) (n m : Int) :
    Calls Try.prog 34 #[.pointer v, .int .i64 n, .int .i64 m] w (SwapPost w say n m) := by
  have hb := below_alloc (below_alloc (below_alloc (Below.refl w.heap.size w) (.cells #[.pointer v] 23)) (.cells #[.int .i64 n] 3)) (.cells #[.int .i64 m] 3)
  have hT := ((blk_new w [.pointer v] 23).alloc (.cells #[.int .i64 n] 3)).alloc (.cells #[.int .i64 m] 3)
  have hN := (blk_new (w.alloc (.cells #[.pointer v] 23)) [.int .i64 n] 3).alloc (.cells #[.int .i64 m] 3)
  have hM := blk_new ((w.alloc (.cells #[.pointer v] 23)).alloc (.cells #[.int .i64 n] 3)) [.int .i64 m] 3
  simp only [alloc_size] at hN hM
  have HB := Aside0.mk hb
  have hmf : ∀ (fn : Fn) (first cap : Array Value) (w : World), (Instr.makeFunc fn first cap).run Try.prog w = .ok (.func fn first cap) w := fun _ _ _ _ => rfl
  by_cases hbad : n < 0 ∨ 65535 < n ∨ m < 0 ∨ 65535 < m
  · have HF := Aside0.mk (show SwapPost w say n m (.returned (.tuple #[.pointer none, .int .i64 81])) (((w.alloc (.cells #[.pointer v] 23)).alloc (.cells #[.int .i64 n] 3)).alloc (.cells #[.int .i64 m] 3)) from ⟨hb, .inl ⟨hbad, rfl⟩⟩)
    clear hb hT hN hM hh hbd HB
    by_cases h1 : n < 0
    · clear hbad
      go_enter Try.func34, Try.ntmps34
      go_wp2
      go_ret2
      exact HF.out
    · by_cases h2 : 65535 < n
      · clear hbad
        go_enter Try.func34, Try.ntmps34
        go_wp2
        go_ret2
        exact HF.out
      · by_cases h3 : m < 0
        · clear hbad
          go_enter Try.func34, Try.ntmps34
          go_wp2
          go_ret2
          exact HF.out
        · have h4 : 65535 < m := by omega
          clear hbad
          go_enter Try.func34, Try.ntmps34
          go_wp2
          go_ret2
          exact HF.out
  · have h1 : 0 ≤ n := by omega
    have h2 : n ≤ 65535 := by omega
    have h3 : 0 ≤ m := by omega
    have h4 : m ≤ 65535 := by omega
    have en : ((n.toNat : Nat) : Int) = n := Int.toNat_of_nonneg h1
    have em : ((m.toNat : Nat) : Int) = m := Int.toNat_of_nonneg h3
    have hY := swap_says hh n.toNat m.toNat _ _ _ (by omega) (by omega) hb hT (by rw [en]; exact hN) (by rw [em]; exact hM) hbd
    have HS := Aside0.mk (said_calls hY)
    clear hb hT hN hM hh hbd hbad en em hY
    go_enter Try.func34, Try.ntmps34
    go_wp2_with fail
    refine HS.out.mono ?_
    rintro e w1 ⟨hb1, b, rfl, ht⟩
    have HF := Aside0.mk (show SwapPost w say n m (.returned (.tuple #[.pointer (some ⟨b, 0, none⟩), .int .i64 0])) w1 from
      ⟨HB.out.trans (hb1.mono HB.out.size), .inr ⟨⟨h1, h2, h3, h4⟩, b, rfl, ht⟩⟩)
    clear hb1 ht HS
    go_wp2
    go_ret2
    exact HF.out

end Go.Proofs.Ytajmbafljncjcaa.Stage
