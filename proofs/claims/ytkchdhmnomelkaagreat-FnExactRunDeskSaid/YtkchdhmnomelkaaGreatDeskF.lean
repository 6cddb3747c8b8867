/- Desks: when they are valid, as the program and as the reference ask. -/
import Derived.Test.YtkchdhmnomelkaaGreatDeskT
import Derived.Test.YtkchdhmnomelkaaGreatCard
namespace Go.Proofs.YtkchdhmnomelkaaGreat
open Go.RowKit

def isNo (v : Int) (r : DeskRow) : Bool := decide (r.number = v)
def doneB (rows : List DeskRow) (v : Int) : Bool := rows.any (isNo v)
def rowB (known : List Int) (before : List DeskRow) (r : DeskRow) : Bool := hasI known r.number && !doneB before r.number && inB r.missing 0 12 && inB r.time 0 36000
def rowAt (d : DeskV) (j : Nat) : Bool := match d.done[j]? with | some r => rowB d.known (d.done.take j) r | none => true
def topB (d : DeskV) : Bool := codesB d.codes && decide (d.known.length ≤ 8) && risingB 1 9999 d.known && d.queue.all finB && d.trouble.all finB && decide (d.queue.length + d.done.length + d.trouble.length ≤ 10)
def deskB (d : DeskV) : Bool := topB d && allTo d.done.length (rowAt d)
theorem rowAt_at {d : DeskV} {k : Nat} (hk : k < d.done.length) : rowAt d k = rowB d.known (d.done.take k) d.done[k] := by simp [rowAt, List.getElem?_eq_getElem hk]
theorem topB_not {d : DeskV} (h : topB d = false) : deskB d = false := by simp [deskB, h]
theorem SeesFlat.take {α : Type} {enc : α → List Value} {w : World} {lo s n : Nat} {A : Option Addr} {xs : List α} (h : Sees w lo s A n (xs.flatMap enc)) (hs : 0 < s) (henc : ∀ x, (enc x).length = s) (k : Nat) (hk : k ≤ n) : Sees w lo s A k ((xs.take k).flatMap enc) := by
  have hc := h.count hs henc
  refine ⟨by rw [flatMap_len _ (fun x _ => henc x), List.length_take]; congr 1; omega, fun hk0 => ?_⟩
  obtain ⟨b, off, e, h1, h2, h3⟩ := h.at' (by omega)
  refine ⟨b, off, e, h1, h2, fun j u hu => h3 j u ?_⟩
  have hj := (List.getElem?_eq_some_iff.1 hu).1
  conv => lhs; rw [← List.take_append_drop k xs, List.flatMap_append, List.getElem?_append_left hj]
  exact hu
theorem Contains_has (A : Option Addr) (n c : Nat) (xs : List Int) (v : Int) (w : World) (hx : Sees w 0 1 A n (ints xs)) (hn : n ≤ 140737488355328) :
    Calls Tryz.prog 68 #[.slice A n c, .int .i64 v] w fun e w' => e = .returned (.bool (hasI xs v)) ∧ Quiet w w' := Contains_int A n c xs v w hx hn

set_option maxRecDepth 100000 in
theorem IndexFunc_Card (g : Nat) (lb : Array Value) (p : Hd Card → Bool) (A : Option Addr) (n c : Nat) (xs : List (Hd Card)) (w : World) (hx : Sees w 0 4 A n (xs.flatMap cardSh.enc)) (hn : n ≤ 140737488355328) (hp : Answers g lb (fun x : Hd Card => .agg (cardSh.enc x).toArray) p xs w) :
    Calls Tryz.prog 102 #[.slice A n c, .func (.func g) #[] lb] w fun e w' => ∃ r, e = .returned (.int .i64 r) ∧ FirstAt p xs r ∧ Below w.heap.size w w' := by
  have hl := hx.count (enc := cardSh.enc) (by decide) (fun _ => rfl)
  have eg := hp.enters
  go_enter Tryz.func102, Tryz.ntmps102
  go_wp2_with fail
  go_loopw [8] (fun v wr => ∃ k : Nat, k ≤ n ∧ v = .int .i64 k ∧ Hid ((xs.take k).any p = false) ∧ Below w.heap.size w wr) (fun v _ => n - (intOf v).toNat)
  case atStart => exact ⟨0, Nat.zero_le _, rfl, by simp [Hid], Below.refl _ _⟩
  case round =>
    obtain ⟨k, hk, rfl, ht, hb⟩ := hrel
    by_cases hlt : k < n
    · obtain ⟨b, off, rfl, hkx, c0, c1, c2, c3⟩ := Sees.elem4 (enc := cardSh.enc) (hx.next hb) (fun _ => rfl) hlt
      go_wp2_with fail
      refine (hp.at' k hkx _ hb).mono ?_
      cases hpk : p xs[k]
      · rintro e w1 ⟨rfl, b1⟩
        go_wp2_with fail
        go_roundw
        case rel => exact ⟨k + 1, by omega, by go_num, any_take_succ hkx ht.out hpk, bel_then hb b1⟩
        case measure => simp [intOf]; omega
      · rintro e w1 ⟨rfl, b1⟩
        go_wp2_with fail
        go_ret
        exact ⟨_, rfl, .inr ⟨k, rfl, hkx, hpk, ht.out⟩, bel_then hb b1⟩
    · go_wp2_with fail
      go_ret
      have h := ht.out
      rw [List.take_of_length_le (by omega)] at h
      exact ⟨_, rfl, .inl ⟨rfl, h⟩, hb⟩

theorem ContainsFunc_Card (g : Nat) (lb : Array Value) (p : Hd Card → Bool) (A : Option Addr) (n c : Nat) (xs : List (Hd Card)) (w : World) (hx : Sees w 0 4 A n (xs.flatMap cardSh.enc)) (hn : n ≤ 140737488355328) (hp : Answers g lb (fun x : Hd Card => .agg (cardSh.enc x).toArray) p xs w) :
    Calls Tryz.prog 90 #[.slice A n c, .func (.func g) #[] lb] w fun e w' => e = .returned (.bool (xs.any p)) ∧ Below w.heap.size w w' := by
  go_enter Tryz.func90, Tryz.ntmps90
  go_wp2_with fail
  refine (IndexFunc_Card g lb p A n c xs w hx hn hp).mono ?_
  rintro e w1 ⟨r, rfl, hr, b1⟩
  have hany := Lib.hid hr.any
  go_wp2_with fail
  all_goals go_ret
  all_goals exact ⟨ret_bool hany.out, b1⟩


set_option maxRecDepth 100000 in
theorem IndexFunc_DeskRow (g : Nat) (lb : Array Value) (p : DeskRow → Bool) (A : Option Addr) (n c : Nat) (xs : List DeskRow) (w : World) (hx : Sees w 0 3 A n (xs.flatMap DeskRow.enc)) (hn : n ≤ 140737488355328) (hp : Answers g lb (fun x : DeskRow => .agg x.enc.toArray) p xs w) :
    Calls Tryz.prog 103 #[.slice A n c, .func (.func g) #[] lb] w fun e w' => ∃ r, e = .returned (.int .i64 r) ∧ FirstAt p xs r ∧ Below w.heap.size w w' := by
  have hl := hx.count (by decide) (fun _ => rfl)
  have eg := hp.enters
  go_enter Tryz.func103, Tryz.ntmps103
  go_wp2_with fail
  go_loopw [8] (fun v wr => ∃ k : Nat, k ≤ n ∧ v = .int .i64 k ∧ Hid ((xs.take k).any p = false) ∧ Below w.heap.size w wr) (fun v _ => n - (intOf v).toNat)
  case atStart => exact ⟨0, Nat.zero_le _, rfl, by simp [Hid], Below.refl _ _⟩
  case round =>
    obtain ⟨k, hk, rfl, ht, hb⟩ := hrel
    by_cases hlt : k < n
    · obtain ⟨b, off, rfl, hkx, c0, c1, c2⟩ := (hx.next hb).elem3 (fun _ => rfl) hlt
      go_wp2_with fail
      refine (hp.at' k hkx _ hb).mono ?_
      cases hpk : p xs[k]
      · rintro e w1 ⟨rfl, b1⟩
        go_wp2_with fail
        go_roundw
        case rel => exact ⟨k + 1, by omega, by go_num, any_take_succ hkx ht.out hpk, bel_then hb b1⟩
        case measure => simp [intOf]; omega
      · rintro e w1 ⟨rfl, b1⟩
        go_wp2_with fail
        go_ret
        exact ⟨_, rfl, .inr ⟨k, rfl, hkx, hpk, ht.out⟩, bel_then hb b1⟩
    · go_wp2_with fail
      go_ret
      have h := ht.out
      rw [List.take_of_length_le (by omega)] at h
      exact ⟨_, rfl, .inl ⟨rfl, h⟩, hb⟩

theorem ContainsFunc_DeskRow (g : Nat) (lb : Array Value) (p : DeskRow → Bool) (A : Option Addr) (n c : Nat) (xs : List DeskRow) (w : World) (hx : Sees w 0 3 A n (xs.flatMap DeskRow.enc)) (hn : n ≤ 140737488355328) (hp : Answers g lb (fun x : DeskRow => .agg x.enc.toArray) p xs w) :
    Calls Tryz.prog 94 #[.slice A n c, .func (.func g) #[] lb] w fun e w' => e = .returned (.bool (xs.any p)) ∧ Below w.heap.size w w' := by
  go_enter Tryz.func94, Tryz.ntmps94
  go_wp2_with fail
  refine (IndexFunc_DeskRow g lb p A n c xs w hx hn hp).mono ?_
  rintro e w1 ⟨r, rfl, hr, b1⟩
  have hany := Lib.hid hr.any
  go_wp2_with fail
  all_goals go_ret
  all_goals exact ⟨ret_bool hany.out, b1⟩


theorem areFinished1_any (A : Option Addr) (n c : Nat) (x : Card) (w : World) (hx : Sees w 0 2 A n (x.punches.flatMap Punch.enc)) (hn : n ≤ 1048576) :
    Calls Tryz.prog 91 #[.agg #[.int .i64 x.number, .int .i64 x.start, .int .i64 x.finish, .slice A n c]] w fun e w' => e = .returned (.bool (!finB x)) ∧ Below w.heap.size w w' := by
  have K0 : Below w.heap.size w (w.alloc (.cells #[.int .i64 x.number, .int .i64 x.start, .int .i64 x.finish, .slice A n c] 43)) := (Below.refl _ _).alloc (Nat.le_refl _) _
  have B0 : Blk (w.alloc (.cells #[.int .i64 x.number, .int .i64 x.start, .int .i64 x.finish, .slice A n c] 43)) w.heap.size 43 [.int .i64 x.number, .int .i64 x.start, .int .i64 x.finish, .slice A n c] := Blk.at_ rfl
  cases hc : cardB x
  · have HF := Lib.hid (show (!finB x) = true by simp [finB, hc])
    go_enter Tryz.func91, Tryz.ntmps91
    go_wp2_with fail
    refine (IsCard_any A n c 0 x _ (hx.next K0) hn).mono ?_
    rw [hc]
    rintro e w1 ⟨rfl, b1⟩
    have c1 := (B0.next b1).cell
    go_wp2_with fail
    go_ret
    exact ⟨ret_bool HF.out.symm, bel_then K0 b1⟩
  · by_cases hf : x.finish = -1
    · have HF := Lib.hid (show (!finB x) = true by simp [finB, hf])
      have e1 : (x.finish == -1) = true := by simp [hf]
      clear hf
      go_enter Tryz.func91, Tryz.ntmps91
      go_wp2_with fail
      refine (IsCard_any A n c 0 x _ (hx.next K0) hn).mono ?_
      rw [hc]
      rintro e w1 ⟨rfl, b1⟩
      have c1 := (B0.next b1).cell
      go_wp2_with fail
      go_ret
      exact ⟨ret_bool HF.out.symm, bel_then K0 b1⟩
    · have HF := Lib.hid (show (!finB x) = false by simp [finB, hf, hc])
      have e1 : (x.finish == -1) = false := by simp [hf]
      clear hf
      go_enter Tryz.func91, Tryz.ntmps91
      go_wp2_with fail
      refine (IsCard_any A n c 0 x _ (hx.next K0) hn).mono ?_
      rw [hc]
      rintro e w1 ⟨rfl, b1⟩
      have c1 := (B0.next b1).cell
      go_wp2_with fail
      go_ret
      exact ⟨ret_bool HF.out.symm, bel_then K0 b1⟩
theorem areFinished1_answers (rs : List (Hd Card)) (w : World) (hr : ∀ r ∈ rs, Sees w 0 2 r.A r.n (r.x.punches.flatMap Punch.enc) ∧ r.n ≤ 1048576) :
    Answers 91 #[] (fun x : Hd Card => .agg (cardSh.enc x).toArray) (fun r => !finB r.x) rs w :=
  ⟨enters_of Tryz.func91 (by kernel_rfl) rfl, fun i hi W hb => areFinished1_any rs[i].A rs[i].n rs[i].c rs[i].x W ((hr rs[i] (List.getElem_mem hi)).1.next hb) (hr rs[i] (List.getElem_mem hi)).2⟩

theorem areFinished_any (A : Option Addr) (n c : Nat) (xs : List Card) (w : World) (hx : SeesN cardSh w 0 A n xs) (hn : n ≤ 1048576) (hi : ∀ x ∈ xs, x.cnt ≤ 1048576) :
    Calls Tryz.prog 67 #[.slice A n c] w fun e w' => e = .returned (.bool (xs.all finB)) ∧ Below w.heap.size w w' := by
  obtain ⟨rs, hrs, ho, hin⟩ := hx
  have HR := Lib.hid (show (!rs.any fun r => !finB r.x) = xs.all finB by rw [not_any_allC (fun r : Hd Card => finB r.x), ← hrs, List.all_map]; rfl)
  have hq : ∀ r ∈ rs, Sees w 0 2 r.A r.n (r.x.punches.flatMap Punch.enc) ∧ r.n ≤ 1048576 := fun r hr => ⟨hin r hr, by
    have h1 := (hin r hr).count (by decide) (fun _ => rfl)
    have h2 := hi r.x (by rw [← hrs]; exact List.mem_map_of_mem hr)
    unfold Card.cnt at h2
    omega⟩
  have ans := areFinished1_answers rs w hq
  clear hq hin hrs
  go_enter Tryz.func67, Tryz.ntmps67
  go_wp2_with fail
  refine (ContainsFunc_Card 91 #[] _ A n c rs _ ho (by omega) ans).mono ?_
  generalize (rs.any fun r => !finB r.x) = z at *
  rintro e w1 ⟨rfl, b1⟩
  go_wp2_with fail
  go_ret
  exact ⟨ret_bool HR.out, b1⟩

theorem isDone1_any (r : DeskRow) (v : Int) (B : Nat) (w : World) (h1 : w.cell? ⟨B, 0, none⟩ = some (.int .i64 v)) (hB : B < w.heap.size) :
    Calls Tryz.prog 95 #[.agg #[.int .i64 r.number, .int .i64 r.missing, .int .i64 r.time], .pointer (some ⟨B, 0, none⟩)] w fun e w' => e = .returned (.bool (isNo v r)) ∧ Below w.heap.size w w' := by
  have K0 : Below w.heap.size w (w.alloc (.cells #[.int .i64 r.number, .int .i64 r.missing, .int .i64 r.time] 84)) := (Below.refl _ _).alloc (Nat.le_refl _) _
  have HE := Lib.hid (show isNo v r = (r.number == v) by rw [isNo, Bool.eq_iff_iff]; simp)
  go_enter Tryz.func95, Tryz.ntmps95
  go_wp2_with fail
  go_ret
  exact ⟨ret_bool HE.out.symm, K0⟩
theorem isDone1_answers (rows : List DeskRow) (v : Int) (B : Nat) (w : World) (h1 : Blk w B 3 [.int .i64 v]) :
    Answers 95 #[.pointer (some ⟨B, 0, none⟩)] (fun x : DeskRow => .agg x.enc.toArray) (isNo v) rows w :=
  ⟨enters_of Tryz.func95 (by kernel_rfl) rfl, fun i hi W hb => isDone1_any rows[i] v B W ((h1.next hb).cell 0) (h1.next hb).lt⟩

theorem isDone_any (A : Option Addr) (n c : Nat) (rows : List DeskRow) (v : Int) (w : World) (hx : Sees w 0 3 A n (rows.flatMap DeskRow.enc)) (hn : n ≤ 1048576) :
    Calls Tryz.prog 69 #[.slice A n c, .int .i64 v] w fun e w' => e = .returned (.bool (doneB rows v)) ∧ Below w.heap.size w w' := by
  have hmf : ∀ (fn : Fn) (first cap : Array Value) (w : World), (Instr.makeFunc fn first cap).run Tryz.prog w = .ok (.func fn first cap) w := fun _ _ _ _ => rfl
  have K0 : Below w.heap.size w (w.alloc (.cells #[.int .i64 v] 3)) := (Below.refl _ _).alloc (Nat.le_refl _) _
  have B0 : Blk (w.alloc (.cells #[.int .i64 v] 3)) w.heap.size 3 [.int .i64 v] := Blk.at_ rfl
  have ans := isDone1_answers rows v _ _ B0
  have hx' := hx.next K0
  clear B0
  go_enter Tryz.func69, Tryz.ntmps69
  go_wp2_with fail
  refine (ContainsFunc_DeskRow 95 #[.pointer (some ⟨w.heap.size, 0, none⟩)] _ A n c rows _ hx' (by omega) ans).mono ?_
  rintro e w1 ⟨rfl, b1⟩
  go_wp2_with fail
  go_ret
  exact ⟨rfl, bel_then K0 b1⟩

theorem l25Done_any (A : Option Addr) (n c : Nat) (rows : List DeskRow) (v : Int) (w : World) (hx : Sees w 0 3 A n (rows.flatMap DeskRow.enc)) (hn : n ≤ 1048576) :
    Calls Tryz.prog 53 #[.slice A n c, .int .i64 v] w fun e w' => e = .returned (.bool (doneB rows v)) ∧ w = w' := by
  have hl := hx.count (by decide) (fun _ => rfl)
  go_enter Tryz.func53, Tryz.ntmps53
  go_wp2_with fail
  go_loop [5] (fun i => ∃ k : Nat, k ≤ n ∧ i = .int .i64 k ∧ Hid (doneB (rows.take k) v = false)) (fun i => n - (intOf i).toNat)
  case atStart => exact ⟨0, Nat.zero_le _, rfl, Lib.hid rfl⟩
  case round =>
    obtain ⟨k, hk, rfl, HA⟩ := hrel
    by_cases hlt : k < n
    · obtain ⟨b, off, rfl, hkx, c0, c1, c2⟩ := hx.elem3 (fun _ => rfl) hlt
      by_cases hc : rows[k].number = v
      · have HR := Lib.hid (show doneB rows v = true from List.any_eq_true.2 ⟨rows[k], List.getElem_mem hkx, by simp [isNo, hc]⟩)
        have e1 : (rows[k].number == v) = true := by simp [hc]
        clear hc
        go_wp2_with fail
        go_ret
        exact ⟨ret_bool HR.out.symm, rfl⟩
      · have HA2 := Lib.hid (show doneB (rows.take (k + 1)) v = false from any_take_succ hkx HA.out (by simp [isNo, hc]))
        have e1 : (rows[k].number == v) = false := by simp [hc]
        clear hc
        go_wp2_with fail
        go_round
        case rel => exact ⟨k + 1, by omega, by go_num, HA2⟩
        case measure => simp [intOf]; omega
    · have HR := Lib.hid (show doneB rows v = false by
        have h := HA.out
        rwa [List.take_of_length_le (by omega)] at h)
      go_wp2_with fail
      go_ret
      exact ⟨ret_bool HR.out.symm, rfl⟩

set_option maxRecDepth 100000 in
theorem l25Cards_any (A : Option Addr) (n c : Nat) (xs : List Card) (w : World) (hx : SeesN cardSh w 0 A n xs) (hn : n ≤ 1048576) (hi : ∀ x ∈ xs, x.cnt ≤ 1048576) :
    Calls Tryz.prog 56 #[.slice A n c] w fun e w' => e = .returned (.bool (xs.all finB)) ∧ Below w.heap.size w w' := by
  have hl := hx.count
  go_enter Tryz.func56, Tryz.ntmps56
  go_wp2_with fail
  go_loopw [3] (fun i wr => ∃ k : Nat, k ≤ n ∧ i = .int .i64 k ∧ Hid ((xs.take k).all finB = true) ∧ Below w.heap.size w wr) (fun i _ => n - (intOf i).toNat)
  case atStart => exact ⟨0, Nat.zero_le _, rfl, Lib.hid rfl, Below.refl _ _⟩
  case round =>
    obtain ⟨k, hk, rfl, HA, hb⟩ := hrel
    by_cases hlt : k < n
    · obtain ⟨b, off, B0, mc, cc0, rfl, hkx, x0, x1, x2, x3, hxi⟩ := SeesCard.elem (hx.next hb) hlt
      have hmc := hxi.count (by decide) (fun _ => rfl)
      have hmb : mc ≤ 1048576 := by
        have h1 := hi xs[k] (List.getElem_mem hkx)
        unfold Card.cnt at h1
        omega
      have hblt : b < wr.heap.size := World.block_lt_of_cell? wr _ x0
      have HMC := Lib.hid hmc
      clear hmc
      have HNO := Lib.hid (fun h : finB xs[k] = false => show xs.all finB = false by rw [Bool.eq_false_iff]; intro h2; have := List.all_eq_true.1 h2 xs[k] (List.getElem_mem hkx); rw [h] at this; cases this)
      have HYES := Lib.hid (fun h : finB xs[k] = true => show (xs.take (k + 1)).all finB = true by rw [List.take_succ_eq_append_getElem hkx, List.all_append, HA.out]; simp [h])
      go_wp2_with fail
      refine (l12Card_any B0 mc cc0 0 xs[k] _ hxi hmb).mono ?_
      cases g1 : cardB xs[k]
      · rintro e w1 ⟨rfl, b1⟩
        have HR := Lib.hid (HNO.out (by simp [finB, g1]))
        clear HNO HYES
        go_wp2_with fail
        go_ret
        exact ⟨ret_bool HR.out.symm, bel_then hb b1⟩
      · rintro e w1 ⟨rfl, b1⟩
        have y2 := ((bcell b1).1 _ (off + k * 4 + 2) hblt).trans x2
        by_cases hf : xs[k].finish = -1
        · have HR := Lib.hid (HNO.out (by simp [finB, hf]))
          have e1 : (xs[k].finish == -1) = true := by simp [hf]
          clear HNO HYES hf
          go_wp2_with fail
          go_ret
          exact ⟨ret_bool HR.out.symm, bel_then hb b1⟩
        · have HA2 := Lib.hid (HYES.out (by simp [finB, g1, hf]))
          have e1 : (xs[k].finish == -1) = false := by simp [hf]
          clear HNO HYES hf
          go_wp2_with fail
          go_roundw
          case rel => exact ⟨k + 1, by omega, by go_num, HA2, bel_then hb b1⟩
          case measure => simp [intOf]; omega
    · have HR := Lib.hid (show xs.all finB = true by
        have h := HA.out
        rwa [List.take_of_length_le (by omega)] at h)
      go_wp2_with fail
      go_ret
      exact ⟨ret_bool HR.out.symm, hb⟩

end Go.Proofs.YtkchdhmnomelkaaGreat
