/- Differ: the spans of which two tables say unlike. -/
import Derived.Test.YtajmbafljncjcaaStrV
import Derived.Test.YtajmbafljncjcaaPStageOverx0
import Derived.Laws.EntriesVeiled
namespace Go.Proofs.Ytajmbafljncjcaa.PStageOver
open Go.RowKit Go.Proofs.YtajmbafljncjcaaW.PrintWords Go.Proofs.YtajmbafljncjcaaW.PrintLast Go.Proofs.YtajmbafljncjcaaW.PrintMore Go.Proofs.Ytajmbafljncjcaa.Stage Go.Proofs.Ytajmbafljncjcaa.Mp
set_option linter.unusedVariables false
set_option linter.unusedSimpArgs false

def difSay (sa sb : Nat → Nat) (p : Nat) : Nat := if sa p = sb p then 0 else 1
/-- Of stretches those that have 1. -/
def ofD (l : List (Nat × Nat × Nat)) : List (Nat × Nat × Nat) := l.filter fun x => decide (x.2.2 = 1)
def toD (x : Nat × Nat × Nat) : S47 := ⟨x.1, x.2.1⟩
theorem ofD_yes (l : List (Nat × Nat × Nat)) (a b n : Nat) (h : n = 1) : ofD (l ++ [(a, b, n)]) = ofD l ++ [(a, b, n)] := by
  unfold ofD
  rw [List.filter_append]
  simp [h]
theorem ofD_no (l : List (Nat × Nat × Nat)) (a b n : Nat) (h : ¬ n = 1) : ofD (l ++ [(a, b, n)]) = ofD l := by
  unfold ofD
  rw [List.filter_append]
  simp [h]
theorem ofD_len (l : List (Nat × Nat × Nat)) : (ofD l).length ≤ l.length := List.length_filter_le _ _
theorem infoD : (Try.prog.info? 47).map (fun i => (i.zero, i.size, i.bytes)) = some (some (.agg #[(.int .i32 0), (.int .i32 0)]), 2, 8) := by kernel_rfl

theorem look_n (w : World) (v : Option Addr) (say : Nat → Nat) (hh : Han w v say) (p n : Nat) (hp : p < 1114112) (hn : say p = n) (W : World) (hW : Below w.heap.size w W) : Calls Try.prog 17 #[.pointer v, .int .i32 (p : Int)] W fun e w' => e = .returned (.int .i64 (n : Int)) ∧ ∃ n, w' = W.drewN n := by
  have := look_calls W v say (hh.below hW) p
  unfold LookPost at this
  rw [show lookI say (p : Int) = (n : Int) by rw [lookI_nat say hp, hn]] at this
  exact this

set_option maxRecDepth 100000 in
set_option maxHeartbeats 1600000 in
/-- Differ's first function: whether a code point is unlike. -/
theorem dif1_calls (W : World) (Ba Bb : Nat) (va vb : Option Addr) (sa sb : Nat → Nat) (ha : Han W va sa) (hb : Han W vb sb) (p : Nat) (hp : p < 1114112) (hA : W.cell? ⟨Ba, 0, none⟩ = some (.pointer va)) (hB : W.cell? ⟨Bb, 0, none⟩ = some (.pointer vb)) :
    Calls Try.prog 85 #[.int .i32 (p : Int), .pointer (some ⟨Ba, 0, none⟩), .pointer (some ⟨Bb, 0, none⟩)] W fun e w' => e = .returned (tvB (difSay sa sb p)) ∧ ∃ n, w' = W.drewN n := by
  obtain ⟨n, hn⟩ : ∃ n, sa p = n := ⟨_, rfl⟩
  obtain ⟨m, hm⟩ : ∃ m, sb p = m := ⟨_, rfl⟩
  have HE := Aside0.mk (look_n W va sa ha p n hp hn)
  have HG := Aside0.mk (look_n W vb sb hb p m hp hm)
  have hd : difSay sa sb p = if n = m then 0 else 1 := by unfold difSay; rw [hn, hm]
  rw [hd]
  clear ha hb hd hn hm
  by_cases h : n = m
  · subst h
    rw [if_pos rfl]
    go_enter Try.func85, Try.ntmps85
    go_wp2
    refine wp_region_quiet_lit (by kernel_rfl) (by kernel_rfl) ?_
    quiet_step (fail)
    quiet_step (fail)
    quiet_step (exact Calls.quiet_of (HE.out _ (pw_below_drewN (Below.refl _ _) _)))
    quiet_step (fail)
    quiet_step (fail)
    quiet_step (exact Calls.quiet_of (HG.out _ (pw_below_drewN (Below.refl _ _) _)))
    repeat (quiet_step (fail))
    refine wpQuiet_nil ?_
    rintro _ ⟨nq, rfl⟩
    go_wp2
    go_ret
    exact ⟨by simp [tvB], _, rfl⟩
  · have hne : ¬ (n : Int) = (m : Int) := by omega
    rw [if_neg h]
    go_enter Try.func85, Try.ntmps85
    go_wp2
    refine wp_region_quiet_lit (by kernel_rfl) (by kernel_rfl) ?_
    quiet_step (fail)
    quiet_step (fail)
    quiet_step (exact Calls.quiet_of (HE.out _ (pw_below_drewN (Below.refl _ _) _)))
    quiet_step (fail)
    quiet_step (fail)
    quiet_step (exact Calls.quiet_of (HG.out _ (pw_below_drewN (Below.refl _ _) _)))
    repeat (quiet_step (fail))
    refine wpQuiet_nil ?_
    rintro _ ⟨nq, rfl⟩
    go_wp2
    go_ret
    exact ⟨by simp [tvB]; omega, _, rfl⟩

/-- What stands while the stretches are told: s the first block of Differ's own. -/
structure DifSt (w0 : World) (va vb : Option Addr) (out : List (Nat × Nat × Nat)) (W : World) : Prop where
  bel : Below w0.heap.size w0 W
  ka : Blk W w0.heap.size [.pointer va] 23
  kb : Blk W (w0.heap.size + 1) [.pointer vb] 23
  kc : Blk W (w0.heap.size + 3) [.pointer va] 23
  kd : Blk W (w0.heap.size + 4) [.pointer vb] 23
  own : ∃ vS, Blk W (w0.heap.size + 2) [vS] 42 ∧ Kd.R k47 47 W w0.heap.size (fun _ => True) vS ((ofD out).map toD)
theorem DifSt.drewN {w0 W : World} {va vb : Option Addr} {out : List (Nat × Nat × Nat)} (h : DifSt w0 va vb out W) (n : Nat) : DifSt w0 va vb out (W.drewN n) :=
  ⟨pw_below_drewN h.bel n, h.ka, h.kb, h.kc, h.kd, by
    obtain ⟨vS, h2, h3⟩ := h.own
    exact ⟨vS, h2, Kd.R_drewN h3 n⟩⟩

set_option maxRecDepth 100000 in
set_option maxHeartbeats 1600000 in
theorem dif2_calls (w0 W : World) (va vb : Option Addr) (out : List (Nat × Nat × Nat)) (a b n : Nat) (hn1 : n ≤ 1) (h : DifSt w0 va vb out W) (hl : out.length ≤ 1114112) (hb : b ≤ 1114111) (hab : a ≤ b) :
    Calls Try.prog 86 #[.int .i32 (a : Int), .int .i32 (b : Int), tvB n, .pointer (some ⟨w0.heap.size + 2, 0, none⟩)] W fun e W' => (∃ v, e = .returned v) ∧ DifSt w0 va vb (out ++ [(a, b, n)]) W' := by
  have infoP' := infoD
  by_cases hn : n = 1
  · obtain ⟨h1, h2, h3, h4, h5, vS, h6, h7⟩ := h
    have hlen : ((ofD out).map toD).length ≤ 1114112 := by rw [List.length_map]; have := ofD_len out; omega
    have HE := Aside0.mk (show (ofD (out ++ [(a, b, n)])).map toD = (ofD out).map toD ++ [toD (a, b, n)] from by rw [ofD_yes _ _ _ _ hn, List.map_append]; rfl)
    have hcell := h6.cell 0
    have H2 := Aside0.mk h2
    have H3 := Aside0.mk h3
    have H4 := Aside0.mk h4
    have H5 := Aside0.mk h5
    have HBk := Aside0.mk h6
    have HR := Aside0.mk h7
    have HB := Aside0.mk h1
    generalize (ofD out).map toD = xs at HE HR hlen
    clear h1 h2 h3 h4 h5 h6 h7 hl
    have htv : tvB n = .bool true := by rw [hn]; rfl
    rw [htv]
    clear htv
    go_enter Try.func86, Try.ntmps86
    go_wp2_with (first | ((with_reducible refine gate_builtin (b := .append) (xs := #[.tmp 8, .tmp 12]) rfl ?_); at_builtin; refine Kd.R_append k47 (w0 := w0) w0.heap.size rfl (.tmp 8) (.tmp 12) 42 47 (.agg #[.int .i32 0, .int .i32 0]) 8 rfl Try.underlying42 infoP' rfl (by decide) (by omega) vS xs (toD (a, b, n)) [.int .i32 (a : Int), .int .i32 (b : Int)] (fun _ => True) (fun _ => False) rfl (by first | (go_simp; done) | (go_simp; rfl)) (k47_mkM _ _ _ (toD (a, b, n))) (fun _ hk => hk.elim) (fun _ _ => trivial) HR.out HB.out HB.out.size (by omega) ?_; intro v1 w1 ho1 hb1 hg1 hat1; obtain ⟨A1, c1, hvv⟩ := Kd.R_slice ho1; generalize (xs ++ [toD (a, b, n)]).length = n1 at hvv; subst hvv; have HO1 := Aside0.mk ho1; have HB1 := Aside0.mk hb1; have HBk1 := Aside0.mk (show Blk w1 (w0.heap.size + 2) [vS] 42 from blk_grown HBk.out hg1 (Kd.R_ne HR.out HBk.out (by decide))); have J2 := Aside0.mk (show Blk w1 w0.heap.size [.pointer va] 23 from blk_grown H2.out hg1 (Kd.R_ne HR.out H2.out (by decide))); have J3 := Aside0.mk (show Blk w1 (w0.heap.size + 1) [.pointer vb] 23 from blk_grown H3.out hg1 (Kd.R_ne HR.out H3.out (by decide))); have J4 := Aside0.mk (show Blk w1 (w0.heap.size + 3) [.pointer va] 23 from blk_grown H4.out hg1 (Kd.R_ne HR.out H4.out (by decide))); have J5 := Aside0.mk (show Blk w1 (w0.heap.size + 4) [.pointer vb] 23 from blk_grown H5.out hg1 (Kd.R_ne HR.out H5.out (by decide))); have hcell1 := HBk1.out.cell 0; have hfr1 := blk_frozen HBk1.out 0; clear ho1 hb1 hg1 hat1 hcell))
    have HF := Aside0.mk (show DifSt w0 va vb (out ++ [(a, b, n)]) (w1.setCell ⟨w0.heap.size + 2, 0, none⟩ (.slice A1 n1 c1)) from
      ⟨below_set HB1.out (by omega), J2.out.other (by simp) _, J3.out.other (by simp) _, J4.out.other (by simp) _, J5.out.other (by simp) _, .slice A1 n1 c1, HBk1.out.set 0 (.slice A1 n1 c1), by rw [HE.out]; exact Kd.R_set HO1.out HBk1.out (by decide) 0 (.slice A1 n1 c1)⟩)
    go_wp2
    go_returns
    exact ⟨⟨_, rfl⟩, HF.out⟩
  · have HF := Aside0.mk (show DifSt w0 va vb (out ++ [(a, b, n)]) W from ⟨h.bel, h.ka, h.kb, h.kc, h.kd, by rw [ofD_no _ _ _ _ hn]; exact h.own⟩)
    have htv : tvB n = .bool false := by rw [show n = 0 by omega]; rfl
    rw [htv]
    clear h htv
    go_enter Try.func86, Try.ntmps86
    go_wp2
    go_returns
    exact ⟨⟨_, rfl⟩, HF.out⟩

theorem dif_ways {w0 : World} {va vb : Option Addr} {sa sb : Nat → Nat} (ha : Han w0 va sa) (hb : Han w0 vb sb) :
    WaysV tvB (difSay sa sb) (fun i => evenB sa i && evenB sb i) (fun out W => DifSt w0 va vb out W) 85 #[] #[.pointer (some ⟨w0.heap.size, 0, none⟩), .pointer (some ⟨w0.heap.size + 1, 0, none⟩)]
      97 #[] #[.pointer (some ⟨w0.heap.size + 3, 0, none⟩), .pointer (some ⟨w0.heap.size + 4, 0, none⟩)] 86 #[] #[.pointer (some ⟨w0.heap.size + 2, 0, none⟩)] where
  entS := call_enters Try.func85 (by kernel_rfl) (by kernel_rfl)
  entE := call_enters Try.func97 (by kernel_rfl) (by kernel_rfl)
  entD := call_enters Try.func86 (by kernel_rfl) (by kernel_rfl)
  even_ok := fun i hi h j hj => by
    rw [Bool.and_eq_true] at h
    unfold difSay
    rw [evenB_ok h.1 j hj, evenB_ok h.2 j hj]
  says := fun out W p h hp => by
    refine (dif1_calls W w0.heap.size (w0.heap.size + 1) va vb sa sb (ha.below h.bel) (hb.below h.bel) p hp (h.ka.cell 0) (h.kb.cell 0)).mono ?_
    rintro e w' ⟨rfl, n, rfl⟩
    exact ⟨rfl, h.drewN n⟩
  evens := fun out W i h hi => by
    refine (both1_calls W (w0.heap.size + 3) (w0.heap.size + 4) va vb sa sb (ha.below h.bel) (hb.below h.bel) i hi (h.kc.cell 0) (h.kd.cell 0)).mono ?_
    rintro e w' ⟨rfl, hb'⟩
    obtain ⟨vS, h6, h7⟩ := h.own
    exact ⟨rfl, h.bel.trans (hb'.mono h.bel.size), (hb'.block _ h.ka.lt).trans h.ka, (hb'.block _ h.kb.lt).trans h.kb, (hb'.block _ h.kc.lt).trans h.kc, (hb'.block _ h.kd.lt).trans h.kd, vS, (hb'.block _ h6.lt).trans h6, Kd.R_below h7 hb'⟩
  does := fun out W a b h hab hb' ht => dif2_calls w0 W va vb out a b _ (by unfold difSay; split <;> omega) h (by have := ht.length; omega) hb' hab

/-- Differ's answer: of the stretches of like and unlike the unlike ones, in a list of one's own. -/
def DifPost (w : World) (sa sb : Nat → Nat) (e : Ending) (w' : World) : Prop :=
  Below w.heap.size w w' ∧ ∃ vS rs, e = .returned vS ∧ Til (difSay sa sb) 1114112 0 rs ∧ Kd.R k47 47 w' w.heap.size (fun _ => True) vS ((ofD rs).map toD)

set_option maxRecDepth 100000 in
set_option maxHeartbeats 1600000 in
theorem differ_calls (w : World) (va vb : Option Addr) (sa sb : Nat → Nat) (ha : Han w va sa) (hb : Han w vb sb) : Calls Try.prog 43 #[.pointer va, .pointer vb] w (DifPost w sa sb) := by
  have hmf : ∀ (fn : Fn) (first cap : Array Value) (w : World), (Instr.makeFunc fn first cap).run Try.prog w = .ok (.func fn first cap) w := fun _ _ _ _ => rfl
  have hb0 := below_alloc (below_alloc (below_alloc (below_alloc (below_alloc (Below.refl w.heap.size w) (.cells #[.pointer va] 23)) (.cells #[.pointer vb] 23)) (.cells #[.slice none 0 0] 42)) (.cells #[.pointer va] 23)) (.cells #[.pointer vb] 23)
  have h0 : DifSt w va vb [] (((((w.alloc (.cells #[.pointer va] 23)).alloc (.cells #[.pointer vb] 23)).alloc (.cells #[.slice none 0 0] 42)).alloc (.cells #[.pointer va] 23)).alloc (.cells #[.pointer vb] 23)) := by
    have k0 := (((((blk_new w [.pointer va] 23).alloc (.cells #[.pointer vb] 23)).alloc (.cells #[.slice none 0 0] 42)).alloc (.cells #[.pointer va] 23)).alloc (.cells #[.pointer vb] 23))
    have k1 := ((((blk_new (w.alloc (.cells #[.pointer va] 23)) [.pointer vb] 23).alloc (.cells #[.slice none 0 0] 42)).alloc (.cells #[.pointer va] 23)).alloc (.cells #[.pointer vb] 23))
    have k2 := (((blk_new ((w.alloc (.cells #[.pointer va] 23)).alloc (.cells #[.pointer vb] 23)) [.slice none 0 0] 42).alloc (.cells #[.pointer va] 23)).alloc (.cells #[.pointer vb] 23))
    have k3 := ((blk_new (((w.alloc (.cells #[.pointer va] 23)).alloc (.cells #[.pointer vb] 23)).alloc (.cells #[.slice none 0 0] 42)) [.pointer va] 23).alloc (.cells #[.pointer vb] 23))
    have k4 := blk_new ((((w.alloc (.cells #[.pointer va] 23)).alloc (.cells #[.pointer vb] 23)).alloc (.cells #[.slice none 0 0] 42)).alloc (.cells #[.pointer va] 23)) [.pointer vb] 23
    simp only [alloc_size] at k1 k2 k3 k4
    exact ⟨hb0, k0, k1, k3, k4, _, k2, Kd.R_nil _ _ _ _ _⟩
  have HS := Aside0.mk (stretchesB_calls (fun p _ => by unfold difSay; split <;> omega) (dif_ways ha hb) _ h0)
  clear ha hb hb0 h0
  go_enter Try.func43, Try.ntmps43
  go_wp2_with (first | (go_at_call 74; refine (both_calls _ _ _).mono ?_; rintro e w1 ⟨rfl, rfl⟩))
  refine HS.out.mono ?_
  rintro e w1 ⟨⟨x, rfl⟩, rs, ht, h⟩
  obtain ⟨vS, h6, h7⟩ := h.own
  have hcell := h6.cell 0
  have HF := Aside0.mk (show DifPost w sa sb (.returned vS) w1 from ⟨h.bel, vS, rs, rfl, ht, h7⟩)
  clear ht h h6 h7
  go_wp2
  go_returns
  exact HF.out

end Go.Proofs.Ytajmbafljncjcaa.PStageOver
