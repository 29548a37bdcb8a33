/- stands: a table says what rows do. -/
import Derived.Test.YtajmbafljncjcaaRefBStageOver
namespace Go.Proofs.Ytajmbafljncjcaa.PStageOver
open Go.RowKit Go.Proofs.YtajmbafljncjcaaW.PrintWords Go.Proofs.YtajmbafljncjcaaW.PrintLast Go.Proofs.YtajmbafljncjcaaW.PrintMore Go.Proofs.Ytajmbafljncjcaa.Stage Go.Proofs.Ytajmbafljncjcaa.Mp
set_option linter.unusedVariables false
set_option linter.unusedSimpArgs false

/-- A row of the document's answer at a place. -/
theorem at_Q {w : World} {A : Option Addr} {n : Nat} {q : List (Nat × Nat × Nat)} (h : Kd.C k30 w A n (q.map toS)) (i : Nat) (hi : i < q.length) :
    ∃ ad, A = some ad ∧ w.cell? (ad.add (i * 3)) = some (.int .i64 ((q.getD i z3).1 : Nat)) ∧ w.cell? ⟨(ad.add (i * 3)).block, (ad.add (i * 3)).off + 1, none⟩ = some (.int .i64 ((q.getD i z3).2.1 : Nat)) ∧
      w.cell? ⟨(ad.add (i * 3)).block, (ad.add (i * 3)).off + 2, none⟩ = some (.int .i64 ((q.getD i z3).2.2 : Nat)) := by
  have hn := Kd.C_len h
  obtain ⟨ad, e1, k0, k1, k2⟩ := at_T30 h (i : Int) (by omega) (by rw [List.length_map] at hn; omega)
  rw [rd_map q i hi] at k0 k1 k2
  exact ⟨ad, e1, k0, k1, k2⟩

/-- A list of code points at a place. -/
theorem at_R {w : World} {A : Option Addr} {n : Nat} {zs : List Int} (h : Kd.C (Kd.int .i32) w A n zs) (i : Nat) (hi : i < zs.length) : ∃ ad, A = some ad ∧ w.cell? (ad.add i) = some (.int .i32 (zs.getD i 0)) := by
  have hn := Kd.C_len h
  obtain ⟨ad, c, e, _, hK, hc0⟩ := Kd.C_get h 0 (i : Int) (by omega) (by omega)
  obtain rfl : c = [.int .i32 (zs.getD (i : Int).toNat 0)] := hK
  refine ⟨ad, e, ?_⟩
  have := hc0 0 _ rfl
  rw [Int.toNat_natCast] at this
  have e1 : i * (Kd.int .i32).sz + 0 = i := by show i * 1 + 0 = i; omega
  rw [e1] at this
  exact this

structure Asked (w : World) (v : Option Addr) (q : List (Nat × Nat × Nat)) (A1 : Option Addr) (c1 : Nat) : Prop where
  look : ∀ (W : World), Below w.heap.size w W → ∀ p : Int, Calls Try.prog 17 #[.pointer v, .int .i32 p] W fun e W' => e = .returned (.int .i64 (lookI (sayQ q) p)) ∧ Below W.heap.size W W'
  ref : ∀ (W : World), Below w.heap.size w W → ∀ p : Int, Calls Try.prog 54 #[.slice A1 q.length c1, .int .i64 p] W fun e W' => e = .returned (.int .i64 (lookI (sayQ q) p)) ∧ Below W.heap.size W W'
  row : ∀ (W : World), Below w.heap.size w W → ∀ i, i < q.length → ∃ ad, A1 = some ad ∧ W.cell? (ad.add (i * 3)) = some (.int .i64 ((q.getD i z3).1 : Nat)) ∧ W.cell? ⟨(ad.add (i * 3)).block, (ad.add (i * 3)).off + 1, none⟩ = some (.int .i64 ((q.getD i z3).2.1 : Nat)) ∧
      W.cell? ⟨(ad.add (i * 3)).block, (ad.add (i * 3)).off + 2, none⟩ = some (.int .i64 ((q.getD i z3).2.2 : Nat))
  rows : ∀ (W : World), Below w.heap.size w W → Calls Try.prog 21 #[.pointer v] W fun e W' => Below W.heap.size W W' ∧ ∃ A c, e = .returned (.slice A (nz (runsN [] 0 q)).length c) ∧ (nz (runsN [] 0 q)).length ≤ c ∧ Kd.C k40 W' A (nz (runsN [] 0 q)).length ((nz (runsN [] 0 q)).map toV)
  least : ∀ (W : World), Below w.heap.size w W → Calls Try.prog 24 #[.slice A1 q.length c1] W fun e W' => Below W.heap.size W W' ∧ ∃ A c, e = .returned (.slice A (nz (runsN [] 0 q)).length c) ∧ (nz (runsN [] 0 q)).length ≤ c ∧ Kd.C k30 W' A (nz (runsN [] 0 q)).length ((nz (runsN [] 0 q)).map toS)
  same : ∀ (W : World) (A B : Option Addr) (c d : Nat), (nz (runsN [] 0 q)).length ≤ c → (nz (runsN [] 0 q)).length ≤ d → Kd.C k40 W A (nz (runsN [] 0 q)).length ((nz (runsN [] 0 q)).map toV) → Kd.C k30 W B (nz (runsN [] 0 q)).length ((nz (runsN [] 0 q)).map toS) →
    Calls Try.prog 23 #[.slice A (nz (runsN [] 0 q)).length c, .slice B (nz (runsN [] 0 q)).length d] W fun e W' => e = .returned (.bool true) ∧ Below W.heap.size W W'
  many : ∀ (W : World), Below w.heap.size w W → ∀ n : Int, Calls Try.prog 55 #[.pointer v, .int .i64 n] W fun e W' => e = .returned (.int .i64 (manyN n (runsN [] 0 q) : Nat)) ∧ Below W.heap.size W W'
  count : ∀ (W : World), Below w.heap.size w W → ∀ n : Int, Calls Try.prog 56 #[.slice A1 q.length c1, .int .i64 n] W fun e W' => e = .returned (.int .i64 (manyN n (runsN [] 0 q) : Nat)) ∧ Below W.heap.size W W'
  set : ∀ (W : World), Below w.heap.size w W → ∀ n : Int, Calls Try.prog 22 #[.pointer v, .int .i64 n] W fun e W' => Below W.heap.size W W' ∧ ∃ A c, e = .returned (.slice A (ofN n (runsN [] 0 q)).length c) ∧ (ofN n (runsN [] 0 q)).length ≤ c ∧ Kd.C k47 W' A (ofN n (runsN [] 0 q)).length ((ofN n (runsN [] 0 q)).map toP)
  runs : ∀ (W : World), Below w.heap.size w W → Calls Try.prog 16 #[.slice A1 q.length c1] W fun e W' => Below W.heap.size W W' ∧ ∃ A c, e = .returned (.slice A (runsN [] 0 q).length c) ∧ (runsN [] 0 q).length ≤ c ∧ Kd.C k30 W' A (runsN [] 0 q).length ((runsN [] 0 q).map toS)
  spans : ∀ (W : World) (n : Int) (A B : Option Addr) (c d : Nat), (ofN n (runsN [] 0 q)).length ≤ c → (runsN [] 0 q).length ≤ d → Kd.C k47 W A (ofN n (runsN [] 0 q)).length ((ofN n (runsN [] 0 q)).map toP) → Kd.C k30 W B (runsN [] 0 q).length ((runsN [] 0 q).map toS) →
    Calls Try.prog 25 #[.slice A (ofN n (runsN [] 0 q)).length c, .slice B (runsN [] 0 q).length d, .int .i64 n] W fun e W' => e = .returned (.bool true) ∧ Below W.heap.size W W'

theorem asked_ok {w : World} {v : Option Addr} {q : List (Nat × Nat × Nat)} {A1 : Option Addr} {c1 : Nat} (hh : Han w v (sayQ q)) (hr : RiseN 0 q) (hl : q.length ≤ 1114112) (hc1 : q.length ≤ c1) (hC : Kd.C k30 w A1 q.length (q.map toS)) : Asked w v q A1 c1 := by
  have hlen := runsN_len q [] 0
  simp only [List.length_nil] at hlen
  have htil := runsN_ok hr
  have hC' : ∀ W, Below w.heap.size w W → Kd.C k30 W A1 (q.map toS).length (q.map toS) := fun W hW => by rw [List.length_map]; exact Kd.C_below hC hW
  have hc1' : (q.map toS).length ≤ c1 := by rw [List.length_map]; exact hc1
  constructor
  · intro W hW p
    refine (look_calls W v _ (hh.below hW) p).mono ?_
    rintro e w' ⟨rfl, n, rfl⟩
    exact ⟨rfl, pw_below_drewN (Below.refl _ _) n⟩
  · intro W hW p
    have h := posternref08_Look.calls (q.length + 1) A1 c1 (q.map toS) p _ W (hC' W hW) hc1' (look_f hl hr p)
    rw [List.length_map] at h
    exact h
  · intro W hW i hi
    exact at_Q (Kd.C_below hC hW) i hi
  · intro W hW
    refine (rows_calls W v _ (hh.below hW)).mono ?_
    rintro e w' ⟨hb, vS, rs, rfl, ht, hR⟩
    obtain rfl : rs = runsN [] 0 q := ht.uniq htil
    obtain ⟨A, c, rfl, h1, h2⟩ := Kd.R_reads hR
    rw [List.length_map] at h1 h2 ⊢
    exact ⟨hb, A, c, rfl, h1, h2⟩
  · intro W hW
    have h := posternref08_Least.calls (2 * q.length + 3) A1 c1 (q.map toS) _ W (hC' W hW) hc1' (least_f hl hr)
    rw [List.length_map] at h
    refine h.mono ?_
    rintro e w' ⟨vS, rfl, hR, hb⟩
    obtain ⟨A, c, rfl, h1, h2⟩ := Kd.R_reads hR
    rw [List.length_map] at h1 h2 ⊢
    exact ⟨hb, A, c, rfl, h1, h2⟩
  · intro W A B c d h1 h2 h3 h4
    have hn := nz_len (runsN [] 0 q)
    have hrf := rows_fq (q := nz (runsN [] 0 q)) (by omega) (fun x hx => by
      have := htil.mem x (List.mem_filter.1 hx).1
      omega)
    have h := posternlaw08_rows.calls _ A c ((nz (runsN [] 0 q)).map toV) B d ((nz (runsN [] 0 q)).map toS) true W (by rw [List.length_map]; exact h3) (by rw [List.length_map]; exact h1) (by rw [List.length_map]; exact h4) (by rw [List.length_map]; exact h2) hrf
    rw [List.length_map, List.length_map] at h
    exact h.mono fun e w' ⟨he, hd⟩ => ⟨he, hd.below⟩
  · intro W hW n
    refine (count_calls W v _ (hh.below hW) n).mono ?_
    rintro e w' ⟨hb, rs, rfl, ht⟩
    obtain rfl : rs = runsN [] 0 q := ht.uniq htil
    exact ⟨rfl, hb⟩
  · intro W hW n
    have h := posternref08_Count.calls (2 * q.length + 3) A1 c1 (q.map toS) n _ W (hC' W hW) hc1' (count_f hl hr n)
    rw [List.length_map] at h
    exact h
  · intro W hW n
    refine (set_calls W v _ (hh.below hW) n).mono ?_
    rintro e w' ⟨hb, vS, rs, rfl, ht, hR⟩
    obtain rfl : rs = runsN [] 0 q := ht.uniq htil
    obtain ⟨A, c, rfl, h1, h2⟩ := Kd.R_reads hR
    rw [List.length_map] at h1 h2 ⊢
    exact ⟨hb, A, c, rfl, h1, h2⟩
  · intro W hW
    have h := posternref08_Runs.calls (q.length + 1) A1 c1 (q.map toS) _ W (hC' W hW) hc1' (runs_f hl hr)
    rw [List.length_map] at h
    refine h.mono ?_
    rintro e w' ⟨vS, rfl, hR, hb⟩
    obtain ⟨A, c, rfl, h1, h2⟩ := Kd.R_reads hR
    rw [List.length_map] at h1 h2 ⊢
    exact ⟨hb, A, c, rfl, h1, h2⟩
  · intro W n A B c d h1 h2 h3 h4
    have hn := ofN_len n (runsN [] 0 q)
    have h := posternlaw08_spans.calls _ A c ((ofN n (runsN [] 0 q)).map toP) B d ((runsN [] 0 q).map toS) n true W (by rw [List.length_map]; exact h3) (by rw [List.length_map]; exact h1) (by rw [List.length_map]; exact h4) (by rw [List.length_map]; exact h2) (spans_f (by omega) n htil)
    rw [List.length_map, List.length_map] at h
    exact h

theorem four_cells {W2 : World} {g : Nat} {t : TypeId} {a b : Int} (h : Blk W2 g [.int .i64 (a - 1), .int .i64 a, .int .i64 b, .int .i64 (b + 1)] t) (h1 : 0 ≤ a) (h2 : a ≤ 1114111) (h3 : 0 ≤ b) (h4 : b ≤ 1114111) :
    ∀ k, k < 4 → ∃ p : Int, -1 ≤ p ∧ p ≤ 1114112 ∧ ∀ W, Below W2.heap.size W2 W → W.cell? ⟨g, k, none⟩ = some (.int .i64 p) := by
  have hW : ∀ W, Below W2.heap.size W2 W → Blk W g [.int .i64 (a - 1), .int .i64 a, .int .i64 b, .int .i64 (b + 1)] t := fun W hb => (hb.block g h.lt).trans h
  intro k hk
  match k, hk with
  | 0, _ => exact ⟨a - 1, by omega, by omega, fun W hb => (hW W hb).cell 0⟩
  | 1, _ => exact ⟨a, by omega, by omega, fun W hb => (hW W hb).cell 1⟩
  | 2, _ => exact ⟨b, by omega, by omega, fun W hb => (hW W hb).cell 2⟩
  | 3, _ => exact ⟨b + 1, by omega, by omega, fun W hb => (hW W hb).cell 3⟩

set_option maxRecDepth 100000 in
set_option maxHeartbeats 3200000 in
theorem stands_calls {w : World} {v : Option Addr} {q : List (Nat × Nat × Nat)} {A1 : Option Addr} {c1 : Nat} (hh : Han w v (sayQ q)) (hr : RiseN 0 q) (hl : q.length ≤ 1114112) (hc1 : q.length ≤ c1) (hC : Kd.C k30 w A1 q.length (q.map toS))
    {A2 : Option Addr} {c2 : Nat} {zs : List Int} (hZ : Kd.C (Kd.int .i32) w A2 zs.length zs) (hzf : ∀ p ∈ zs, -2147483648 ≤ p ∧ p ≤ 2147483647) (hzl : zs.length ≤ 1048576) (n : Int) :
    Calls Try.prog 26 #[.pointer v, .slice A1 q.length c1, .slice A2 zs.length c2, .int .i64 n] w (Yes w) := by
  have HQ := Aside0.mk (asked_ok hh hr hl hc1 hC)
  have HZ := Aside0.mk hZ
  have HZF := Aside0.mk hzf
  have hrq := fun i hi => hr.at_ (l := q) i hi
  have HRQ := Aside0.mk hrq
  clear hh hC hZ hzf hr hrq
  go_enter Try.func26, Try.ntmps26
  go_wp2
  go_loopg [17] (zs.length + 1) (fun k v17 wr => ∃ i : Nat, i ≤ zs.length ∧ zs.length + 1 - i ≤ k ∧ v17 = .int .i64 (i : Int) ∧ Aside0 (Below w.heap.size w wr))
  case atStart => exact ⟨0, by omega, by omega, rfl, ⟨Below.refl _ _⟩⟩
  case round =>
    obtain ⟨i, hi, hq, rfl, hB⟩ := hrel
    by_cases hlt : i < zs.length
    · have hlt' : (i : Int) < (zs.length : Int) := by omega
      obtain ⟨ad, rfl, k0⟩ := at_R (Kd.C_below HZ.out hB.out) i hlt
      have hp := HZF.out (zs.getD i 0) (by rw [List.getD_eq_getElem?_getD, List.getElem?_eq_getElem hlt]; exact List.getElem_mem hlt)
      generalize zs.getD i 0 = p at k0 hp
      have hw : IntKind.i64.wrap p = p := IntWalk.i64_in _ (by omega)
      have HL := Aside0.mk (HQ.out.look wr hB.out p)
      go_wp2_with fail
      refine HL.out.mono ?_
      rintro e w1 ⟨rfl, hb1⟩
      have HB1 := Aside0.mk (hB.out.trans (hb1.mono hB.out.size))
      have HM := Aside0.mk (HQ.out.ref w1 HB1.out p)
      go_wp2_with fail
      refine HM.out.mono ?_
      rintro e w2 ⟨rfl, hb2⟩
      have HB2 := Aside0.mk (HB1.out.trans (hb2.mono HB1.out.size))
      clear HL HM hb1 hb2
      generalize lookI (sayQ q) p = y
      go_wp2
      go_roundg (gk - 1)
      case measure => omega
      case rel => exact ⟨i + 1, by omega, by omega, by go_num, HB2⟩
    · have hlt' : ¬ (i : Int) < (zs.length : Int) := by omega
      have HB0 := hB
      clear hB HZ HZF
      go_wp2
      go_loopg [32] (q.length + 1) (fun k v32 wr => ∃ i : Nat, i ≤ q.length ∧ q.length + 1 - i ≤ k ∧ v32 = .int .i64 (i : Int) ∧ Aside0 (Below w.heap.size w wr))
      case atStart => exact ⟨0, by omega, by omega, rfl, HB0⟩
      case round =>
        obtain ⟨i, hi, hq, rfl, hB⟩ := hrel
        clear HB0
        obtain ⟨gko, rfl⟩ : ∃ n, n = gk := ⟨_, rfl⟩
        by_cases hlt : i < q.length
        · have hlt' : (i : Int) < (q.length : Int) := by omega
          obtain ⟨ad, rfl, k0, k1, k2⟩ := HQ.out.row wr hB.out i hlt
          have hrg := HRQ.out i hlt
          generalize (q.getD i z3).1 = a at k0 hrg
          generalize (q.getD i z3).2.1 = b at k1 hrg
          generalize (q.getD i z3).2.2 = x at k2 hrg
          obtain ⟨_, h1, h2, h3⟩ := hrg
          obtain ⟨wo, rfl⟩ : ∃ x, x = wr := ⟨_, rfl⟩
          have hb2 : Below w.heap.size w ((wo.alloc (.cells #[.int .i64 (a : Int), .int .i64 (b : Int), .int .i64 (x : Int)] 30)).alloc (.cells #[.int .i64 ((a : Int) - 1), .int .i64 (a : Int), .int .i64 (b : Int), .int .i64 ((b : Int) + 1)] 3)) := below_alloc (below_alloc hB.out _) _
          have hblk := blk_new (wo.alloc (.cells #[.int .i64 (a : Int), .int .i64 (b : Int), .int .i64 (x : Int)] 30)) [.int .i64 ((a : Int) - 1), .int .i64 (a : Int), .int .i64 (b : Int), .int .i64 ((b : Int) + 1)] 3
          rw [alloc_size] at hblk
          have HB2 := Aside0.mk hb2
          have HBK := Aside0.mk hblk
          have HCELL := Aside0.mk (four_cells (a := (a : Int)) (b := (b : Int)) hblk (by omega) (by omega) (by omega) (by omega))
          clear hB hb2 hblk HBK
          go_wp2
          go_loopg [48] 5 (fun k v48 wr2 => ∃ j : Nat, j ≤ 4 ∧ 5 - j ≤ k ∧ v48 = .int .i64 (j : Int) ∧ Aside0 (Below ((wo.alloc (.cells #[.int .i64 (a : Int), .int .i64 (b : Int), .int .i64 (x : Int)] 30)).alloc (.cells #[.int .i64 ((a : Int) - 1), .int .i64 (a : Int), .int .i64 (b : Int), .int .i64 ((b : Int) + 1)] 3)).heap.size ((wo.alloc (.cells #[.int .i64 (a : Int), .int .i64 (b : Int), .int .i64 (x : Int)] 30)).alloc (.cells #[.int .i64 ((a : Int) - 1), .int .i64 (a : Int), .int .i64 (b : Int), .int .i64 ((b : Int) + 1)] 3)) wr2))
          case atStart => exact ⟨0, by omega, by omega, rfl, ⟨Below.refl _ _⟩⟩
          case round =>
            obtain ⟨j, hj, hjk, rfl, hB3⟩ := hrel
            by_cases hjl : j < 4
            · have hjl' : (j : Int) < 4 := by omega
              obtain ⟨p, hp1, hp2, hpc⟩ := HCELL.out j hjl
              have hpc' := hpc wr hB3.out
              have hw : IntKind.i32.wrap p = p := IntWalk.i32_in _ (by omega)
              have hB4 := HB2.out.trans (hB3.out.mono HB2.out.size)
              have HB4 := Aside0.mk hB4
              have HL := Aside0.mk (HQ.out.look wr hB4 p)
              clear hpc hB4
              go_wp2_with fail
              refine HL.out.mono ?_
              rintro e w1 ⟨rfl, hb1⟩
              have HB1 := Aside0.mk (HB4.out.trans (hb1.mono HB4.out.size))
              have HM := Aside0.mk (HQ.out.ref w1 HB1.out p)
              have HB5 := Aside0.mk (hB3.out.trans (hb1.mono hB3.out.size))
              go_wp2_with fail
              refine HM.out.mono ?_
              rintro e w2 ⟨rfl, hb2⟩
              have HB6 := Aside0.mk (HB5.out.trans (hb2.mono HB5.out.size))
              clear HL HM hb1 hb2 HB5 HB4 HB1
              generalize lookI (sayQ q) p = y
              go_wp2
              go_roundg (gk - 1)
              case measure => omega
              case rel => exact ⟨j + 1, by omega, by omega, by go_num, HB6⟩
            · have hjl' : ¬ (j : Int) < 4 := by omega
              have HB4 := Aside0.mk (HB2.out.trans (hB3.out.mono HB2.out.size))
              clear hB3
              go_wp2
              go_roundg (gko - 1)
              case measure => omega
              case rel => exact ⟨i + 1, by omega, by omega, by go_num, HB4⟩
        · have hlt' : ¬ (i : Int) < (q.length : Int) := by omega
          have HR := Aside0.mk (HQ.out.rows wr hB.out)
          have hsame := HQ.out.same
          have hspans := HQ.out.spans
          have hmany := HQ.out.many
          have hcount := HQ.out.count
          have hset := HQ.out.set
          have hruns := HQ.out.runs
          have hleast := HQ.out.least
          generalize hN : nz (runsN [] 0 q) = N at HR hsame hleast
          generalize hM : manyN n (runsN [] 0 q) = M
          have HSM := Aside0.mk hsame
          have HLE := Aside0.mk hleast
          have HMA := Aside0.mk (fun W hW => hmany W hW n)
          have HCO := Aside0.mk (fun W hW => hcount W hW n)
          have HSE := Aside0.mk (fun W hW => hset W hW n)
          have HSP := Aside0.mk (fun W => hspans W n)
          have HRU := Aside0.mk hruns
          rw [hM] at HMA HCO
          generalize ofN n (runsN [] 0 q) = O at HSE HSP
          generalize runsN [] 0 q = R at HSP HRU
          clear hsame hspans hmany hcount hset hruns hleast hN hM HQ HRQ
          have HB0 := hB
          clear hB
          go_wp2_with fail
          refine HR.out.mono ?_
          rintro e w1 ⟨hb1, Aa, ca, rfl, hla, hca⟩
          have HB1 := Aside0.mk (HB0.out.trans (hb1.mono HB0.out.size))
          have HCa := Aside0.mk hca
          have HL := Aside0.mk (HLE.out w1 HB1.out)
          clear hb1 hca HR
          go_wp2_with fail
          refine HL.out.mono ?_
          rintro e w2 ⟨hb2, Ab, cb, rfl, hlb, hcb⟩
          have HB2 := Aside0.mk (HB1.out.trans (hb2.mono HB1.out.size))
          have HSA := Aside0.mk (HSM.out w2 Aa Ab ca cb hla hlb (Kd.C_below HCa.out hb2) hcb)
          clear hb2 hcb HL
          go_wp2_with fail
          refine HSA.out.mono ?_
          rintro e w3 ⟨rfl, hb3⟩
          have HB3 := Aside0.mk (HB2.out.trans (hb3.mono HB2.out.size))
          have HK := Aside0.mk (HMA.out w3 HB3.out)
          clear hb3 HSA
          go_wp2_with fail
          refine HK.out.mono ?_
          rintro e w4 ⟨rfl, hb4⟩
          have HB4 := Aside0.mk (HB3.out.trans (hb4.mono HB3.out.size))
          have HK2 := Aside0.mk (HCO.out w4 HB4.out)
          clear hb4 HK
          go_wp2_with fail
          refine HK2.out.mono ?_
          rintro e w5 ⟨rfl, hb5⟩
          have HB5 := Aside0.mk (HB4.out.trans (hb5.mono HB4.out.size))
          have HT := Aside0.mk (HSE.out w5 HB5.out)
          clear hb5 HK2
          go_wp2_with fail
          refine HT.out.mono ?_
          rintro e w6 ⟨hb6, Ac, cc, rfl, hlc, hcc⟩
          have HB6 := Aside0.mk (HB5.out.trans (hb6.mono HB5.out.size))
          have HCc := Aside0.mk hcc
          have HU := Aside0.mk (HRU.out w6 HB6.out)
          clear hb6 hcc HT
          go_wp2_with fail
          refine HU.out.mono ?_
          rintro e w7 ⟨hb7, Ad, cd, rfl, hld, hcd⟩
          have HB7 := Aside0.mk (HB6.out.trans (hb7.mono HB6.out.size))
          have HV := Aside0.mk (HSP.out w7 Ac Ad cc cd hlc hld (Kd.C_below HCc.out hb7) hcd)
          clear hb7 hcd HU
          go_wp2_with fail
          refine HV.out.mono ?_
          rintro e w8 ⟨rfl, hb8⟩
          have HB8 := Aside0.mk (HB7.out.trans (hb8.mono HB7.out.size))
          clear hb8 HV
          go_wp2
          go_ret
          exact ⟨rfl, HB8.out⟩

end Go.Proofs.Ytajmbafljncjcaa.PStageOver
