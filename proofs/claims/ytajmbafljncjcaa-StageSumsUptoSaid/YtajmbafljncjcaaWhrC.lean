/- stage.Where, in the stage seat. -/
import Derived.Test.YtajmbafljncjcaaWhr
import Derived.Laws.EntriesVeiled
namespace Go.Proofs.Ytajmbafljncjcaa.Stage
open Go.RowKit Go.Proofs.YtajmbafljncjcaaW.PrintWords Go.Proofs.YtajmbafljncjcaaW.PrintLast Go.Proofs.YtajmbafljncjcaaW.PrintMore Go.Proofs.Ytajmbafljncjcaa.Mp
set_option linter.unusedVariables false
set_option linter.unusedSimpArgs false

theorem han_old {w0 w W : World} {v : Option Addr} {say : Nat → Nat} (h : Han w0 v say) (hb : Below w0.heap.size w0 w) (hO : Old w W) : Han W v say := by
  rcases h.below hb with h | ⟨b, rfl, g, c, g', c', ht⟩
  · exact .inl h
  · exact .inr ⟨b, rfl, g, c, g', c', ht.same hO⟩
theorem spI_old {w0 w W : World} {A : Option Addr} {l : List (Int × Int)} (h : SpI w0 A l) (hb : Below w0.heap.size w0 w) (hO : Old w W) : SpI W A l := fun i hi => by
  obtain ⟨ad, h1, h2, h3⟩ := (h.below hb) i hi
  exact ⟨ad, h1, (World.cell?_of_block (hO _ (World.block_lt_of_cell? _ _ h2))).trans h2, (World.cell?_of_block (hO _ (World.block_lt_of_cell? _ _ h3))).trans h3⟩
/-- What Where hands to said. -/
theorem where_says {w W3 : World} {va vb : Option Addr} {sa sb : Nat → Nat} {A : Option Addr} {c : Nat} {l : List (Int × Int)} (ha : Han w va sa) (hb : Han w vb sb) (hC : SpI w A l) (hs : isSet l = true) (Bx Ba Bb Bi Bo B1 B2 : Nat) (hold : Below w.heap.size w W3)
    (kx : Blk W3 Bx [.slice A l.length c] 42) (ka : Blk W3 Ba [.pointer va] 23) (kb : Blk W3 Bb [.pointer vb] 23) (ti : TypeId) (ki : Blk W3 Bi [.func (.func 72) #[] #[.pointer (some ⟨Bx, 0, none⟩)]] ti)
    (to' : TypeId) (ko : Blk W3 Bo [.func (.func 97) #[] #[.pointer (some ⟨B1, 0, none⟩), .pointer (some ⟨B2, 0, none⟩)]] to') (k1 : Blk W3 B1 [.pointer va] 23) (k2 : Blk W3 B2 [.pointer vb] 23)
    (b1 : ∀ p, p < 1114112 → sa p ≤ 65535) (b2 : ∀ p, p < 1114112 → sb p ≤ 65535) :
    SaysF W3 (whereSay l sa sb) (whereEv l sa sb) 75 #[] #[.pointer (some ⟨Bi, 0, none⟩), .pointer (some ⟨Ba, 0, none⟩), .pointer (some ⟨Bb, 0, none⟩)] 76 #[] #[.pointer (some ⟨Bo, 0, none⟩), .pointer (some ⟨Bx, 0, none⟩)] where
  entS := call_enters Try.func75 (by kernel_rfl) (by kernel_rfl)
  entE := call_enters Try.func76 (by kernel_rfl) (by kernel_rfl)
  bound := fun p hp => by unfold whereSay; have := b1 p hp; have := b2 p hp; split <;> omega
  even_ok := fun i hi h j hj => by
    unfold whereEv at h
    rw [Bool.and_eq_true, Bool.and_eq_true] at h
    obtain ⟨⟨h1, h2⟩, h3⟩ := h
    have e1 := evenB_ok h1 j hj
    have e2 := evenB_ok h2 j hj
    have e3 := whole_has hs h3 (p := ((128 * i + j : Nat) : Int)) (by omega) (by omega)
    rw [show (128 * (i : Int)) = ((128 * i : Nat) : Int) by omega] at e3
    unfold whereSay
    rw [e3, e1, e2]
  says := fun W p hO hp => by
    have c1 := (show Blk W Bi _ _ from (hO Bi ki.lt).trans ki).cell 0
    have c2 := (show Blk W Bx _ _ from (hO Bx kx.lt).trans kx).cell 0
    rw [List.getElem?_cons_zero] at c1 c2
    exact where2_calls W Bi Bx Ba Bb A c l (spI_old hC hold hO) hs va vb sa sb (han_old ha hold hO) (han_old hb hold hO) p hp c1 c2 ((hO Ba ka.lt).trans ka) ((hO Bb kb.lt).trans kb)
  evens := fun W i hO hi => by
    have c1 := (show Blk W Bo _ _ from (hO Bo ko.lt).trans ko).cell 0
    have c2 := (show Blk W B1 _ _ from (hO B1 k1.lt).trans k1).cell 0
    have c3 := (show Blk W B2 _ _ from (hO B2 k2.lt).trans k2).cell 0
    rw [List.getElem?_cons_zero] at c1 c2 c3
    exact where3_calls W Bo Bx B1 B2 A c l (spI_old hC hold hO) hs va vb sa sb (han_old ha hold hO) (han_old hb hold hO) i hi c1 ((hO Bx kx.lt).trans kx) c2 c3
set_option maxRecDepth 100000 in
theorem both_calls (W : World) (va vb : Option Addr) : Calls Try.prog 74 #[.pointer va, .pointer vb] W fun e w' => e = .returned (.func (.func 97) #[] #[.pointer (some ⟨W.heap.size, 0, none⟩), .pointer (some ⟨W.heap.size + 1, 0, none⟩)]) ∧ w' = (W.alloc (.cells #[.pointer va] 23)).alloc (.cells #[.pointer vb] 23) := by
  have hmf : ∀ (fn : Fn) (first cap : Array Value) (w : World), (Instr.makeFunc fn first cap).run Try.prog w = .ok (.func fn first cap) w := fun _ _ _ _ => rfl
  go_enter Try.func74, Try.ntmps74
  go_wp2
  go_ret
  exact ⟨rfl, rfl⟩
theorem run_store_func {P : Program} {w : World} {a : Addr} {m : Mode} (f : Fn) (x y : Array Value) : (store a (.func f x y) m).run P w = stored P w a (.func f x y) m := run_store P w a _ m rfl
def WherePost (w : World) (l : List (Int × Int)) (sa sb : Nat → Nat) (e : Ending) (w' : World) : Prop :=
  Below w.heap.size w w' ∧ ((isSet l = false ∧ e = .returned (.tuple #[.pointer none, .int .i64 70])) ∨ (isSet l = true ∧ ∃ b, e = .returned (.tuple #[.pointer (some ⟨b, 0, none⟩), .int .i64 0]) ∧ TabSays w' b (whereSay l sa sb)))
attribute [local go_sem] run_store_func
theorem blk_b {w w1 : World} {b : Nat} {cs : List Value} {t : TypeId} (h : Blk w b cs t) (hb : Below w.heap.size w w1) : Blk w1 b cs t := (hb.block b h.lt).trans h
set_option maxRecDepth 100000 in
set_option maxHeartbeats 1600000 in
theorem where_calls (w : World) (A : Option Addr) (c : Nat) (l : List (Int × Int)) (hC : SpI w A l) (hl : l.length ≤ 16777216) (va vb : Option Addr) (sa sb : Nat → Nat) (ha : Han w va sa) (hb : Han w vb sb) (b1 : ∀ p, p < 1114112 → sa p ≤ 65535) (b2 : ∀ p, p < 1114112 → sb p ≤ 65535) :
    Calls Try.prog 40 #[.slice A l.length c, .pointer va, .pointer vb] w (WherePost w l sa sb) := by
  have hmf : ∀ (fn : Fn) (first cap : Array Value) (w : World), (Instr.makeFunc fn first cap).run Try.prog w = .ok (.func fn first cap) w := fun _ _ _ _ => rfl
  have hb0 := below_alloc (below_alloc (below_alloc (Below.refl w.heap.size w) (.cells #[.slice A l.length c] 42)) (.cells #[.pointer va] 23)) (.cells #[.pointer vb] 23)
  have kx0 := ((blk_new w [.slice A l.length c] 42).alloc (.cells #[.pointer va] 23)).alloc (.cells #[.pointer vb] 23)
  have ka0 := (blk_new (w.alloc (.cells #[.slice A l.length c] 42)) [.pointer va] 23).alloc (.cells #[.pointer vb] 23)
  have kb0 := blk_new ((w.alloc (.cells #[.slice A l.length c] 42)).alloc (.cells #[.pointer va] 23)) [.pointer vb] 23
  simp only [alloc_size] at ka0 kb0
  have HI := Aside0.mk (is_calls (((w.alloc (.cells #[.slice A l.length c] 42)).alloc (.cells #[.pointer va] 23)).alloc (.cells #[.pointer vb] 23)) A c l (hC.below hb0) hl)
  have HC := Aside0.mk hC
  have HA := Aside0.mk ha
  have HB := Aside0.mk hb
  have H1 := Aside0.mk b1
  have H2 := Aside0.mk b2
  clear hC ha hb b1 b2
  go_enter Try.func40, Try.ntmps40
  have cx0 := kx0.cell 0
  rw [List.getElem?_cons_zero] at cx0
  go_wp2_with fail
  generalize (((w.alloc (.cells #[.slice A l.length c] 42)).alloc (.cells #[.pointer va] 23)).alloc (.cells #[.pointer vb] 23)) = W0 at *
  refine HI.out.mono ?_
  rintro e w1 ⟨rfl, hb1⟩
  have HB1 := Aside0.mk (hb0.trans (hb1.mono hb0.size))
  have kx1 := blk_b kx0 hb1
  have ka1 := blk_b ka0 hb1
  have kb1 := blk_b kb0 hb1
  clear kx0 ka0 kb0 cx0 HI hb1 hb0
  cases hs : isSet l with
  | false =>
    go_wp2_with fail
    go_ret2
    exact ⟨HB1.out, .inl ⟨hs, rfl⟩⟩
  | true =>
    have hbi := below_alloc (Below.refl w1.heap.size w1) (.cells #[.func (.func 72) #[] #[.pointer (some ⟨w.heap.size, 0, none⟩)]] 121)
    have ki2 := blk_new w1 [.func (.func 72) #[] #[.pointer (some ⟨w.heap.size, 0, none⟩)]] 121
    have kx2 := blk_b kx1 hbi
    have ka2 := blk_b ka1 hbi
    have kb2 := blk_b kb1 hbi
    have ca2 := ka2.cell 0
    have cb2 := kb2.cell 0
    rw [List.getElem?_cons_zero] at ca2 cb2
    go_wp2_with fail
    refine (both_calls _ va vb).mono ?_
    rintro e w2 ⟨rfl, rfl⟩
    generalize hW2 : ((w1.alloc (.cells #[.func (.func 72) #[] #[.pointer (some ⟨w.heap.size, 0, none⟩)]] 121)).alloc (.cells #[.pointer va] 23)).alloc (.cells #[.pointer vb] 23) = W2 at *
    have e1 : W2.heap.size = w1.heap.size + 1 + 1 + 1 := by rw [← hW2]; simp only [alloc_size]
    have hb2 : Below w.heap.size w W2 := by rw [← hW2]; exact below_alloc (below_alloc (HB1.out.trans (hbi.mono HB1.out.size)) _) _
    have ki3 : Blk W2 w1.heap.size [.func (.func 72) #[] #[.pointer (some ⟨w.heap.size, 0, none⟩)]] 121 := by rw [← hW2]; exact (ki2.alloc _).alloc _
    have kx3 : Blk W2 w.heap.size [.slice A l.length c] 42 := by rw [← hW2]; exact (kx2.alloc _).alloc _
    have ka3 : Blk W2 (w.heap.size + 1) [.pointer va] 23 := by rw [← hW2]; exact (ka2.alloc _).alloc _
    have kb3 : Blk W2 (w.heap.size + 1 + 1) [.pointer vb] 23 := by rw [← hW2]; exact (kb2.alloc _).alloc _
    have kp3 : Blk W2 (w1.heap.size + 1) [.pointer va] 23 := by
      rw [← hW2]
      have k := (blk_new (w1.alloc (.cells #[.func (.func 72) #[] #[.pointer (some ⟨w.heap.size, 0, none⟩)]] 121)) [.pointer va] 23).alloc (.cells #[.pointer vb] 23)
      simp only [alloc_size] at k
      exact k
    have kq3 : Blk W2 (w1.heap.size + 1 + 1) [.pointer vb] 23 := by
      rw [← hW2]
      have k := blk_new ((w1.alloc (.cells #[.func (.func 72) #[] #[.pointer (some ⟨w.heap.size, 0, none⟩)]] 121)).alloc (.cells #[.pointer va] 23)) [.pointer vb] 23
      simp only [alloc_size] at k
      exact k
    have ko4 := blk_new W2 [.func (.func 97) #[] #[.pointer (some ⟨w1.heap.size + 1, 0, none⟩), .pointer (some ⟨w1.heap.size + 1 + 1, 0, none⟩)]] 117
    have hb4 : Below w.heap.size w (W2.alloc (.cells #[.func (.func 97) #[] #[.pointer (some ⟨w1.heap.size + 1, 0, none⟩), .pointer (some ⟨w1.heap.size + 1 + 1, 0, none⟩)]] 117)) := below_alloc hb2 _
    have HS := Aside0.mk (said_calls (where_says HA.out HB.out HC.out hs w.heap.size (w.heap.size + 1) (w.heap.size + 1 + 1) w1.heap.size W2.heap.size (w1.heap.size + 1) (w1.heap.size + 1 + 1) hb4 (kx3.alloc _) (ka3.alloc _) (kb3.alloc _) _ (ki3.alloc _) _ ko4 (kp3.alloc _) (kq3.alloc _) H1.out H2.out))
    have HB4 := Aside0.mk hb4
    clear ki2 kx2 ka2 kb2 ca2 cb2 kx1 ka1 kb1 hbi ki3 kx3 ka3 kb3 kp3 kq3 ko4 hb4 hb2 e1 hW2
    go_wp2_with fail
    refine HS.out.mono ?_
    rintro e w5 ⟨hb5, b, rfl, ht⟩
    have HF := Aside0.mk (show WherePost w l sa sb (.returned (.tuple #[.pointer (some ⟨b, 0, none⟩), .int .i64 0])) w5 from
      ⟨HB4.out.trans (hb5.mono HB4.out.size), .inr ⟨hs, b, rfl, ht⟩⟩)
    clear hb5 ht HS HB4
    go_wp2_with fail
    go_ret2
    exact HF.out

end Go.Proofs.Ytajmbafljncjcaa.Stage
