/- Joined texts of this proof: Read, Read2, LogO, Recov. -/
import Derived.Test.YtflpcdffmpfdpaaGreatDoorB18
import Derived.Test.YtflpcdffmpfdpaaGreatDoorB13
import Derived.Test.YtflpcdffmpfdpaaGreatDoorB02
set_option maxRecDepth 100000
set_option maxHeartbeats 8000000
namespace Go.Proofs.YtflpcdffmpfdpaaGreatDoor
open Go.RowKit
def jny (line : ByteArray) : LogRecord := ⟨upto 64 (je0 32 (upto 35 line)), je0 64 (je0 32 (upto 35 line))⟩
def okR (k : Nat) (line : ByteArray) : Option LogRecord := if jgb (jny line) = true ∧ jck k (jny line) = line ++ ⟨#[10]⟩ then some (jny line) else none
theorem jlc {a b c : ByteArray} (h : a ++ c = b ++ c) : a = b := by
 have h1 := congrArg (fun x => x.data.toList) h
 simp only [ByteArray.data_append, Array.toList_append] at h1
 exact ByteArray.ext (Array.toList_inj.1 (List.append_cancel_right h1))
theorem jju {k : Nat} {e : LogRecord} {line : ByteArray} (h : jgb e = true) (hl : jck k e = line ++ ⟨#[10]⟩) : jny line = e ∧ upto 35 line = jd9 k e ∧ je0 32 (upto 35 line) = e.command ++ ⟨#[64]⟩ ++ e.reply := by
 have h1 : line = jd9 k e ++ ⟨#[35]⟩ ++ jcf (jnu (jd9 k e)) := (jlc hl).symm
 have h2 : upto 35 line = jd9 k e := by rw [h1]; exact (je6 (jos h)).1
 have h3 : jd9 k e = jcf k ++ ⟨#[32]⟩ ++ (e.command ++ ⟨#[64]⟩ ++ e.reply) := by
  unfold jd9; simp only [ByteArray.append_assoc]
 have h4 : je0 32 (upto 35 line) = e.command ++ ⟨#[64]⟩ ++ e.reply := by rw [h2, h3]; exact (je6 (jke 32 k (by decide))).2.1
 have h5 := je6 (q := e.reply) (jdn h).2.2.2.2
 refine ⟨?_, h2, h4⟩
 unfold jny
 rw [h4, h5.1, h5.2.1]
theorem jkt {k : Nat} {e : LogRecord} {line : ByteArray} (h : okR k line = some e) : jgb e = true ∧ jck k e = line ++ ⟨#[10]⟩ := by
 unfold okR at h
 split at h
 ·rename_i h1
  obtain rfl := Option.some.inj h
  exact h1
 ·cases h
def jbn (k : Nat) (s : ByteArray) : Option (LogRecord × Nat) := if jde 10 s = true ∧ k < 60 then (okR k (upto 10 s)).map fun e => (e, (upto 10 s).size + 1) else none
def retR : Option (LogRecord × Nat) → Ending
 | none => .returned (.tuple #[.agg #[.string ⟨#[]⟩, .string ⟨#[]⟩], .int .i64 0, .bool false])
 | some (e, n) => .returned (.tuple #[.agg #[e.command, e.reply], .int .i64 (n : Int), .bool true])
theorem jjh (s : ByteArray) (k : Nat) (w : World) (hs : s.size ≤ 3000000) (hk : k ≤ 1000000) (hg : Gl w) :
  Calls Tryz.prog 113 #[.string s, .int .i64 (k : Int)] w fun x w' => x = retR (jbn k s) ∧ Below w.heap.size w w' := by
 have z1 := jd7 10 s
 have z2 := jd7 35 (upto 10 s)
 have z3 := jii 32 (upto 35 (upto 10 s))
 have z4 := jd7 64 (je0 32 (upto 35 (upto 10 s)))
 have z5 := jii 64 (je0 32 (upto 35 (upto 10 s)))
 go_enter Tryz.func113, Tryz.ntmps113
 go_wp2_with fail
 have K0 := nB w (.cells #[.string ⟨#[]⟩, .string ⟨#[]⟩] 69)
 have B0 := nP w [.string ⟨#[]⟩, .string ⟨#[]⟩] 69
 refine (jka s 10 _ (by omega) (hg.next K0)).mono ?_
 rintro e w1 ⟨rfl, q1⟩
 have K1 := ja3 K0 q1
 have B1 := B0.quiet q1
 go_wp2_with fail
 refine (jka (upto 10 s) 35 _ (by omega) (hg.next K1)).mono ?_
 rintro e w2 ⟨rfl, q2⟩
 have K2 := ja3 K1 q2
 have B2 := B1.quiet q2
 go_wp2_with fail
 refine (jka (upto 35 (upto 10 s)) 32 _ (by omega) (hg.next K2)).mono ?_
 rintro e w3 ⟨rfl, q3⟩
 have K3 := ja3 K2 q3
 have B3 := B2.quiet q3
 go_wp2_with fail
 refine (jka (je0 32 (upto 35 (upto 10 s))) 64 _ (by omega) (hg.next K3)).mono ?_
 rintro e w4 ⟨rfl, q4⟩
 have K4 := ja3 K3 q4
 have B4 := B3.quiet q4


 have HC := Lib.hid (show jny (upto 10 s) = ⟨upto 64 (je0 32 (upto 35 (upto 10 s))), je0 64 (je0 32 (upto 35 (upto 10 s)))⟩ from rfl)
 generalize upto 64 (je0 32 (upto 35 (upto 10 s))) = c at *
 generalize je0 64 (je0 32 (upto 35 (upto 10 s))) = r at *
 have hu : (⟨c, r⟩ : LogRecord).upto 9223372036854775807 := by unfold LogRecord.upto; exact ⟨by show c.size ≤ _; omega, by show r.size ≤ _; omega⟩
 have HU := Lib.hid hu
 clear hu
 have hz10 : (upto 10 s).size + 1 ≤ 9223372036854775807 := by omega
 have K5 : Below w.heap.size w (w4.alloc (.cells #[c, r] 69)) := jaa K4 ((Below.refl _ _).alloc (Nat.le_refl _) _)
 have B5 : Blk (w4.alloc (.cells #[c, r] 69)) w.heap.size 69 [.string ⟨#[]⟩, .string ⟨#[]⟩] := B4.alloc _
 have C5 := nP w4 [c, r] 69
 have b5c := B5.cell
 have b5f := B5.frozen
 cases g : jde 10 s
 ·have HR := Lib.hid (show jbn k s = none by unfold jbn; rw [g, if_neg (by simp)])
  go_wp2_with fail
  refine bodyPost_ret (v := .tuple #[.agg #[.string ⟨#[]⟩, .string ⟨#[]⟩], .int .i64 0, .bool false]) (by simp [results, Tryz.results113, go_sem, b5c]) rfl ?_
  exact ⟨by rw [HR.out]; rfl, (K5.setCell (p := ⟨w.heap.size, 0, none⟩) (Nat.le_refl _) _).setCell (p := ⟨w.heap.size, 1, none⟩) (Nat.le_refl _) _⟩
 ·by_cases hk6 : 60 ≤ k
  ·have HR := Lib.hid (show jbn k s = none by unfold jbn; rw [if_neg (by omega)])
   go_wp2_with fail
   refine bodyPost_ret (v := .tuple #[.agg #[.string ⟨#[]⟩, .string ⟨#[]⟩], .int .i64 0, .bool false]) (by simp [results, Tryz.results113, go_sem, b5c]) rfl ?_
   exact ⟨by rw [HR.out]; rfl, (K5.setCell (p := ⟨w.heap.size, 0, none⟩) (Nat.le_refl _) _).setCell (p := ⟨w.heap.size, 1, none⟩) (Nat.le_refl _) _⟩
  ·have HN := Lib.hid (show jbn k s = (okR k (upto 10 s)).map fun e => (e, (upto 10 s).size + 1) by unfold jbn; rw [g, if_pos ⟨rfl, by omega⟩])
   go_wp2_with fail
   refine (jbo ⟨c, r⟩ _ HU.out).mono ?_
   cases g2 : jgb ⟨c, r⟩
   ·rintro e w6 ⟨rfl, b6⟩
    have HR := Lib.hid (show jbn k s = none by rw [HN.out, okR, HC.out, g2, if_neg (by simp)]; rfl)
    have K6 := jaa K5 b6
    have B6 := B5.next b6
    have b6c := B6.cell
    have b6f := B6.frozen
    clear b5c b5f
    go_wp2_with fail
    refine bodyPost_ret (v := .tuple #[.agg #[.string ⟨#[]⟩, .string ⟨#[]⟩], .int .i64 0, .bool false]) (by simp [results, Tryz.results113, go_sem, b6c]) rfl ?_
    exact ⟨by rw [HR.out]; rfl, (K6.setCell (p := ⟨w.heap.size, 0, none⟩) (Nat.le_refl _) _).setCell (p := ⟨w.heap.size, 1, none⟩) (Nat.le_refl _) _⟩
   ·rintro e w6 ⟨rfl, b6⟩
    have K6 := jaa K5 b6
    have B6 := B5.next b6
    have C6 := C5.next b6
    have c6c := C6.cell
    clear b5c b5f
    have HG2 := Lib.hid g2
    clear g2
    go_wp2_with fail
    refine (jeo k ⟨c, r⟩ _ (by omega) HG2.out (hg.next K6)).mono ?_
    rintro e w7 ⟨rfl, b7⟩
    have K7 := jaa K6 b7
    have B7 := B6.next b7
    have C7 := C6.next b7
    have b7c := B7.cell
    have b7f := B7.frozen
    have c7c := C7.cell
    clear c6c
    by_cases g3 : jck k ⟨c, r⟩ = upto 10 s ++ ⟨#[10]⟩
    ·have hbe : ((jck k ⟨c, r⟩).toList == (upto 10 s ++ ⟨#[10]⟩).toList) = true := by rw [jcc, decide_eq_true g3]
     have hbd : decide (jck k ⟨c, r⟩ = upto 10 s ++ ⟨#[10]⟩) = true := decide_eq_true g3
     have HR := Lib.hid (show jbn k s = some (⟨c, r⟩, (upto 10 s).size + 1) by rw [HN.out, okR, HC.out, if_pos ⟨HG2.out, g3⟩]; rfl)
     clear g3
     go_wp2_with fail
     refine bodyPost_ret (v := .tuple #[.agg #[c, r], .int .i64 (((upto 10 s).size + 1 : Nat) : Int), .bool true]) (by simp [results, Tryz.results113, go_sem, b7c]) rfl ?_
     exact ⟨by rw [HR.out]; rfl, (K7.setCell (p := ⟨w.heap.size, 0, none⟩) (Nat.le_refl _) _).setCell (p := ⟨w.heap.size, 1, none⟩) (Nat.le_refl _) _⟩
    ·have hbe : ((jck k ⟨c, r⟩).toList == (upto 10 s ++ ⟨#[10]⟩).toList) = false := by rw [jcc, decide_eq_false g3]
     have hbd : decide (jck k ⟨c, r⟩ = upto 10 s ++ ⟨#[10]⟩) = false := decide_eq_false g3
     have HR := Lib.hid (show jbn k s = none by rw [HN.out, okR, HC.out, if_neg (fun h => g3 h.2)]; rfl)
     clear g3
     go_wp2_with fail
     refine bodyPost_ret (v := .tuple #[.agg #[.string ⟨#[]⟩, .string ⟨#[]⟩], .int .i64 0, .bool false]) (by simp [results, Tryz.results113, go_sem, b7c]) rfl ?_
     exact ⟨by rw [HR.out]; rfl, (K7.setCell (p := ⟨w.heap.size, 0, none⟩) (Nat.le_refl _) _).setCell (p := ⟨w.heap.size, 1, none⟩) (Nat.le_refl _) _⟩
theorem jel (s : ByteArray) (b : UInt8) (z : Int) (w : World) (hz : z = (b.toNat : Int)) (hs : s.size ≤ 3000000) :
  Calls Tryz.prog 55 #[.string s, .int .u8 z] w fun e w' => ∃ g n c, e = .returned (.slice (some ⟨g, 0, none⟩) n c) ∧ w'.cell? ⟨g, 0, none⟩ = some (.string (upto b s)) ∧ 1 ≤ n ∧ decide (2 ≤ n) = jde b s ∧ (w.heap.size ≤ g ∧ g < w'.heap.size) ∧ Below w.heap.size w w' := by
 refine (jmr s b z w hz hs).mono ?_
 rintro e w' ⟨A, n, c, L, rfl, hn, ho, h0, h2, hb⟩
 cases L with
 | nil => cases h0
 | cons x L =>
  have hx : x = upto b s := by simpa using h0
  rcases jby ho with ⟨_, h3, _⟩ | ⟨g, cur, rfl, h9, h4, _, _, _, h5⟩
  ·simp at hn; omega
  ·refine ⟨g, n, c, rfl, ?_, by simp at hn; omega, h2, ⟨h9, h4.lt⟩, hb⟩
   rw [h4.cell]
   have h6 := congrArg (fun l => l[0]?) h5
   simp only [List.getElem?_take] at h6
   rw [if_pos (by simp at hn; omega)] at h6
   rw [h6, jkz, List.map_cons, hx]; rfl
theorem ji2 (a b : ByteArray) : (a ++ b).extract 0 a.size = a ∧ (a ++ b).extract a.size (a ++ b).size = b := by
 refine ⟨ByteArray.ext (Array.toList_inj.1 ?_), ByteArray.ext (Array.toList_inj.1 ?_)⟩
 ·simp [← ByteArray.size_data]
 ·simp [← ByteArray.size_data]
theorem jjl (s : ByteArray) (k : Nat) (_ : k ≤ s.size) : s.extract 0 k ++ s.extract k s.size = s := by
 refine ByteArray.ext (Array.toList_inj.1 ?_)
 simp
def jdv (k : Nat) : ByteArray := jcf k ++ ⟨#[32]⟩
theorem ji4 {k : Nat} {line : ByteArray} {e : LogRecord} (h : okR k line = some e) : upto 35 line = jdv k ++ (e.command ++ ⟨#[64]⟩ ++ e.reply) ∧ jde 64 (e.command ++ ⟨#[64]⟩ ++ e.reply) = true := by
 obtain ⟨h1, h2⟩ := jkt h
 obtain ⟨_, h3, _⟩ := jju h1 h2
 refine ⟨?_, (je6 (jdn h1).2.2.2.2).2.2⟩
 rw [h3, jd9, jdv]
 simp only [ByteArray.append_assoc]
theorem jpu {k : Nat} {line : ByteArray} (h : (upto 35 line).size < (jdv k).size) : okR k line = none := by
 cases g : okR k line with
 | none => rfl
 | some e =>
  have := congrArg ByteArray.size (ji4 g).1
  rw [ByteArray.size_append] at this
  omega
theorem jou {k : Nat} {line : ByteArray} (h : (upto 35 line).extract 0 (jdv k).size ≠ jdv k) : okR k line = none := by
 cases g : okR k line with
 | none => rfl
 | some e => exact absurd (by rw [(ji4 g).1]; exact (ji2 _ _).1) h
theorem jp8 {k : Nat} {line : ByteArray} (h0 : (jdv k).size ≤ (upto 35 line).size) (h : (upto 35 line).extract 0 (jdv k).size = jdv k) : je0 32 (upto 35 line) = (upto 35 line).extract (jdv k).size (upto 35 line).size := by
 have h1 := jjl (upto 35 line) _ h0
 rw [h] at h1
 have h2 := (je6 (q := (upto 35 line).extract (jdv k).size (upto 35 line).size) (jke 32 k (by decide))).2.1
 unfold jdv at h1 h2 ⊢
 rw [h1] at h2
 exact h2
theorem jpx {k : Nat} {line : ByteArray} (h : jde 64 (je0 32 (upto 35 line)) = false) : okR k line = none := by
 cases g : okR k line with
 | none => rfl
 | some e =>
  obtain ⟨h1, h2⟩ := jkt g
  rw [(jju h1 h2).2.2, (ji4 g).2] at h
  cases h
theorem jmb {b : UInt8} {s : ByteArray} : ((upto b s).size = s.size ↔ jde b s = false) := by
 constructor
 ·intro h
  rw [← Bool.not_eq_true]
  intro h1
  have h2 := congrArg ByteArray.size (jez h1)
  have h3 : (⟨#[b]⟩ : ByteArray).size = 1 := rfl
  rw [ByteArray.size_append, ByteArray.size_append] at h2
  omega
 ·intro h; rw [jl1 h]
theorem jlm {b : UInt8} {s : ByteArray} (h : jde b s = true) : s.extract ((upto b s).size + 1) s.size = je0 b s := by
 have h2 := jez h
 have h3 : (⟨#[b]⟩ : ByteArray).size = 1 := rfl
 have h4 := (ji2 (upto b s ++ ⟨#[b]⟩) (je0 b s)).2
 rw [ByteArray.size_append, h3, ← h2] at h4
 exact h4
def jo2 (w : World) (o : Option LogRecord) (x : Ending) (w' : World) : Prop := ∃ c r : ByteArray, x = .returned (.tuple #[.agg #[c, r], .bool o.isSome]) ∧ (∀ e, o = some e → e = ⟨c, r⟩) ∧ Below w.heap.size w w'
theorem jmn (s : ByteArray) (k : Nat) (w : World) (hs : s.size ≤ 3000000) (hk : k < 100) :
  Calls Tryz.prog 148 #[.string s, .int .i64 (k : Int)] w (jo2 w (okR k s)) := by
 have z2 := jd7 35 s
 have zk := jcg k 2 (by omega) (by decide)
 have z0 : (⟨#[32]⟩ : ByteArray).size = 1 := rfl
 have za : (jdv k).size ≤ 3 := by unfold jdv; rw [ByteArray.size_append]; omega
 have HA := Lib.hid (show jcf k ++ ⟨#[32]⟩ = jdv k from rfl)
 have K0 := nB w (.cells #[.string ⟨#[]⟩, .string ⟨#[]⟩] 69)
 have B0 := nP w [.string ⟨#[]⟩, .string ⟨#[]⟩] 69
 have fe : ¬ 9223372036854775807 < (jcf k).size + 1 := by omega
 go_enter Tryz.func148, Tryz.ntmps148
 go_wp2_with fail
 refine (jes k _ (by omega)).mono ?_
 rintro e w1 ⟨rfl, q1⟩
 have K1 := ja3 K0 q1
 have B1 := B0.quiet q1
 go_wp2_with fail
 refine (jel s 35 _ _ rfl hs).mono ?_
 rintro e w2 ⟨g1, n1, c1, rfl, x1, l1, _, lt1, b2⟩
 have K2 := jaa K1 b2
 have B2 := B1.next b2
 have b2c := B2.cell
 have b2f := B2.frozen
 rw [HA.out]
 have HT1 := Lib.hid (fun h => @jpu k s h)
 have HT2 := Lib.hid (fun h => @jou k s h)
 have HT3 := Lib.hid (fun h0 h => @jp8 k s h0 h)
 have HT4 := Lib.hid (fun h => @jpx k s h)
 have HO := Lib.hid (show okR k s = if jgb ⟨upto 64 (je0 32 (upto 35 s)), je0 64 (je0 32 (upto 35 s))⟩ = true ∧ jck k ⟨upto 64 (je0 32 (upto 35 s)), je0 64 (je0 32 (upto 35 s))⟩ = s ++ ⟨#[10]⟩ then some ⟨upto 64 (je0 32 (upto 35 s)), je0 64 (je0 32 (upto 35 s))⟩ else none from rfl)
 generalize upto 35 s = t at *
 generalize jdv k = a at *
 by_cases h1 : t.size < a.size
 ·have HR := Lib.hid (HT1.out h1)
  go_wp2_with fail
  refine bodyPost_ret (v := .tuple #[.agg #[.string ⟨#[]⟩, .string ⟨#[]⟩], .bool false]) (by simp [results, Tryz.results148, go_sem, b2c]) rfl ?_
  exact ⟨_, _, by rw [HR.out]; rfl, (by rw [HR.out]; exact (fun _ h => by cases h)), (K2.setCell (p := ⟨w.heap.size, 0, none⟩) (Nat.le_refl _) _).setCell (p := ⟨w.heap.size, 1, none⟩) (Nat.le_refl _) _⟩
 ·by_cases h2 : t.extract 0 a.size = a
  ·have hbe : ((t.extract 0 a.size).toList == a.toList) = true := by rw [jcc, decide_eq_true h2]
   have hbd : decide (t.extract 0 a.size = a) = true := decide_eq_true h2
   have h0 : a.size ≤ t.size := by omega
   have h3 := HT3.out h0 h2
   rw [h3] at HT4 HO
   have zr : (t.extract a.size t.size).size ≤ 3000000 := by simp; omega
   have z5 := jd7 64 (t.extract a.size t.size)
   have z6 := jii 64 (t.extract a.size t.size)
   have H2 := Lib.hid h2
   clear h3 HT1 HT2 HT3 h2
   go_wp2_with fail
   refine (jel (t.extract a.size t.size) 64 _ _ rfl zr).mono ?_
   rintro e w3 ⟨g2, n2, c2, rfl, x2, l2, _, lt2, b3⟩
   generalize t.extract a.size t.size = u at *
   have K3 := jaa K2 b3
   have B3 := B2.next b3
   have b3c := B3.cell
   have b3f := B3.frozen
   clear b2c b2f
   cases g : jde 64 u
   ·have HR := Lib.hid (HT4.out g)
    have hu := jmb.2 g
    have hz : (((upto 64 u).size : Int) == (u.size : Int)) = true := by rw [hu]; simp
    clear hu
    go_wp2_with fail
    refine bodyPost_ret (v := .tuple #[.agg #[.string ⟨#[]⟩, .string ⟨#[]⟩], .bool false]) (by simp [results, Tryz.results148, go_sem, b3c]) rfl ?_
    exact ⟨_, _, by rw [HR.out]; rfl, (by rw [HR.out]; exact (fun _ h => by cases h)), (K3.setCell (p := ⟨w.heap.size, 0, none⟩) (Nat.le_refl _) _).setCell (p := ⟨w.heap.size, 1, none⟩) (Nat.le_refl _) _⟩
   ·have hne : (upto 64 u).size ≠ u.size := fun h => by rw [jmb.1 h] at g; cases g
    have hz : (((upto 64 u).size : Int) == (u.size : Int)) = false := by rw [beq_eq_false_iff_ne]; omega
    have HP := Lib.hid (jlm g)
    have hlt : (upto 64 u).size + 1 ≤ u.size := by omega
    clear hne g
    go_wp2_with fail
    rw [HP.out]
    generalize upto 64 u = c at *
    generalize je0 64 u = r at *
    have HU := Lib.hid (show (⟨c, r⟩ : LogRecord).upto 9223372036854775807 by unfold LogRecord.upto; exact ⟨by show c.size ≤ _; omega, by show r.size ≤ _; omega⟩)
    clear b3c b3f hz HT4 x2 x1 HP
    have K4 : Below w.heap.size w (w3.alloc (.cells #[c, r] 69)).drew := jaa K3 (jaa ((Below.refl _ _).alloc (Nat.le_refl _) _) ((Quiet.one _).below _))
    have B4 : Blk (w3.alloc (.cells #[c, r] 69)).drew w.heap.size 69 [.string ⟨#[]⟩, .string ⟨#[]⟩] := (B3.alloc _).quiet (Quiet.one _)
    have C4 : Blk (w3.alloc (.cells #[c, r] 69)).drew w3.heap.size 69 [.string c, .string r] := (Blk.at_ rfl : Blk (w3.alloc (.cells #[c, r] 69)) w3.heap.size 69 [.string c, .string r]).quiet (Quiet.one _)
    have c4c := C4.cell
    have hgg : w3.heap.size ≠ w.heap.size := fun h => by have := B3.lt; omega
    have fs : ¬ 9223372036854775807 < s.size + 1 := by omega
    cases g2' : jgb ⟨c, r⟩
    ·have HR := Lib.hid (show okR k s = none by rw [HO.out, g2', if_neg (by simp)])
     have HG2 := Lib.hid g2'
     clear g2'
     refine wp_region_held_drew (S := fun w' => w'.cell? ⟨w3.heap.size, 0, none⟩ = some (.string c) ∧ w'.cell? ⟨w3.heap.size, 1, none⟩ = some (.string r)) (by kernel_rfl) (by (try dsimp only); go_keep) (fun hH => ?_)
     refine wQ 0 ?_
     refine wQ 1 ?_
     refine wR (rs := [2]) (by kernel_rfl) (by simp) ?_
     refine aC rfl (fun K hK => ?_) aN
     go_simp
     refine (jcm ⟨c, r⟩ _ HU.out).mono ?_
     rw [HG2.out]
     rintro e w5 ⟨rfl, b5⟩
     have K5 := jaa K4 b5
     have B5 := B4.next b5
     have C5 := C4.next b5
     have c5c := C5.cell
     clear c4c
     have b5c := B5.cell
     have b5f := B5.frozen

     go_wp2_with fail
     refine hK.out _ _ (by (try dsimp only); go_keep) (fun hH => ?_)
     clear hK K
     refine wQ 3 ?_
     refine wU 4 ?_
     refine wU 5 ?_
     refine wU 6 ?_
     refine wU 7 ?_
     refine wU 8 ?_
     refine wU 9 ?_
     refine wQ 10 ?_
     refine wR (rs := [11]) (by kernel_rfl) (by simp) ?_
     refine aC rfl (fun K hK => ?_) aN
     go_simp
     refine hK.out _ _ (by (try dsimp only); exact ⟨((C5.far (p := ⟨w.heap.size, 0, none⟩) hgg _).far (p := ⟨w.heap.size, 1, none⟩) hgg _).cell 0, ((C5.far (p := ⟨w.heap.size, 0, none⟩) hgg _).far (p := ⟨w.heap.size, 1, none⟩) hgg _).cell 1⟩) (fun hH => ?_)
     clear hK K
     try simp only [Act.put, pX]
     refine wQ 12 ?_
     refine wD (by kernel_rfl) ?_ _
     go_wp2_with fail
     refine bodyPost_ret (v := .tuple #[.agg #[c, r], .bool false]) (by simp [results, Tryz.results148, go_sem, b5c]) rfl ?_
     exact ⟨_, _, by rw [HR.out]; rfl, (by rw [HR.out]; exact (fun _ h => by cases h)), (K5.setCell (p := ⟨w.heap.size, 0, none⟩) (Nat.le_refl _) _).setCell (p := ⟨w.heap.size, 1, none⟩) (Nat.le_refl _) _⟩
    ·have HG2 := Lib.hid g2'
     clear g2'
     by_cases g3 : jck k ⟨c, r⟩ = s ++ ⟨#[10]⟩
     ·have hbe2 : ((jck k ⟨c, r⟩).toList == (s ++ ⟨#[10]⟩).toList) = true := by rw [jcc, decide_eq_true g3]
      have hbd2 : decide (jck k ⟨c, r⟩ = s ++ ⟨#[10]⟩) = true := decide_eq_true g3
      have HR := Lib.hid (show okR k s = some ⟨c, r⟩ by rw [HO.out, if_pos ⟨HG2.out, g3⟩])
      clear g3
      refine wp_region_held_drew (S := fun w' => w'.cell? ⟨w3.heap.size, 0, none⟩ = some (.string c) ∧ w'.cell? ⟨w3.heap.size, 1, none⟩ = some (.string r)) (by kernel_rfl) (by (try dsimp only); go_keep) (fun hH => ?_)
      refine wQ 0 ?_
      refine wQ 1 ?_
      refine wR (rs := [2]) (by kernel_rfl) (by simp) ?_
      refine aC rfl (fun K hK => ?_) aN
      go_simp
      refine (jcm ⟨c, r⟩ _ HU.out).mono ?_
      rw [HG2.out]
      rintro e w5 ⟨rfl, b5⟩
      have K5 := jaa K4 b5
      have B5 := B4.next b5
      have C5 := C4.next b5
      have c5c := C5.cell
      clear c4c

      go_wp2_with fail
      refine hK.out _ _ (by (try dsimp only); go_keep) (fun hH => ?_)
      clear hK K
      refine wQ 3 ?_
      refine wQ 4 ?_
      refine wQ 5 ?_
      refine wQ 7 ?_
      refine wQ 8 ?_
      refine wR (rs := [6]) (by kernel_rfl) (by simp) ?_
      refine aC rfl (fun K hK => ?_) aN
      go_simp
      refine (jfn k ⟨c, r⟩ _ (by omega) HG2.out).mono ?_
      rintro e w6 ⟨rfl, b6⟩
      have K6 := jaa K5 b6
      have B6 := B5.next b6
      have C6 := C5.next b6
      have c6c := C6.cell
      clear c5c
      have b6c := B6.cell
      have b6f := B6.frozen

      go_wp2_with fail
      refine hK.out _ _ (by (try dsimp only); go_keep) (fun hH => ?_)
      clear hK K
      refine wQ 9 ?_
      refine wQ 10 ?_
      refine wR (rs := [11]) (by kernel_rfl) (by simp) ?_
      refine aC rfl (fun K hK => ?_) aN
      go_simp
      refine hK.out _ _ (by (try dsimp only); exact ⟨((C6.far (p := ⟨w.heap.size, 0, none⟩) hgg _).far (p := ⟨w.heap.size, 1, none⟩) hgg _).cell 0, ((C6.far (p := ⟨w.heap.size, 0, none⟩) hgg _).far (p := ⟨w.heap.size, 1, none⟩) hgg _).cell 1⟩) (fun hH => ?_)
      clear hK K
      try simp only [Act.put, pX]
      refine wQ 12 ?_
      refine wD (by kernel_rfl) ?_ _
      go_wp2_with fail
      refine bodyPost_ret (v := .tuple #[.agg #[c, r], .bool true]) (by simp [results, Tryz.results148, go_sem, b6c]) rfl ?_
      exact ⟨_, _, by rw [HR.out]; rfl, (by rw [HR.out]; exact fun _ h => (Option.some.inj h).symm), (K6.setCell (p := ⟨w.heap.size, 0, none⟩) (Nat.le_refl _) _).setCell (p := ⟨w.heap.size, 1, none⟩) (Nat.le_refl _) _⟩
     ·have hbe2 : ((jck k ⟨c, r⟩).toList == (s ++ ⟨#[10]⟩).toList) = false := by rw [jcc, decide_eq_false g3]
      have hbd2 : decide (jck k ⟨c, r⟩ = s ++ ⟨#[10]⟩) = false := decide_eq_false g3
      have HR := Lib.hid (show okR k s = none by rw [HO.out, if_neg (fun h => g3 h.2)])
      clear g3
      refine wp_region_held_drew (S := fun w' => w'.cell? ⟨w3.heap.size, 0, none⟩ = some (.string c) ∧ w'.cell? ⟨w3.heap.size, 1, none⟩ = some (.string r)) (by kernel_rfl) (by (try dsimp only); go_keep) (fun hH => ?_)
      refine wQ 0 ?_
      refine wQ 1 ?_
      refine wR (rs := [2]) (by kernel_rfl) (by simp) ?_
      refine aC rfl (fun K hK => ?_) aN
      go_simp
      refine (jcm ⟨c, r⟩ _ HU.out).mono ?_
      rw [HG2.out]
      rintro e w5 ⟨rfl, b5⟩
      have K5 := jaa K4 b5
      have B5 := B4.next b5
      have C5 := C4.next b5
      have c5c := C5.cell
      clear c4c

      go_wp2_with fail
      refine hK.out _ _ (by (try dsimp only); go_keep) (fun hH => ?_)
      clear hK K
      refine wQ 3 ?_
      refine wQ 4 ?_
      refine wQ 5 ?_
      refine wQ 7 ?_
      refine wQ 8 ?_
      refine wR (rs := [6]) (by kernel_rfl) (by simp) ?_
      refine aC rfl (fun K hK => ?_) aN
      go_simp
      refine (jfn k ⟨c, r⟩ _ (by omega) HG2.out).mono ?_
      rintro e w6 ⟨rfl, b6⟩
      have K6 := jaa K5 b6
      have B6 := B5.next b6
      have C6 := C5.next b6
      have c6c := C6.cell
      clear c5c
      have b6c := B6.cell
      have b6f := B6.frozen

      go_wp2_with fail
      refine hK.out _ _ (by (try dsimp only); go_keep) (fun hH => ?_)
      clear hK K
      refine wQ 9 ?_
      refine wQ 10 ?_
      refine wR (rs := [11]) (by kernel_rfl) (by simp) ?_
      refine aC rfl (fun K hK => ?_) aN
      go_simp
      refine hK.out _ _ (by (try dsimp only); exact ⟨((C6.far (p := ⟨w.heap.size, 0, none⟩) hgg _).far (p := ⟨w.heap.size, 1, none⟩) hgg _).cell 0, ((C6.far (p := ⟨w.heap.size, 0, none⟩) hgg _).far (p := ⟨w.heap.size, 1, none⟩) hgg _).cell 1⟩) (fun hH => ?_)
      clear hK K
      try simp only [Act.put, pX]
      refine wQ 12 ?_
      refine wD (by kernel_rfl) ?_ _
      go_wp2_with fail
      refine bodyPost_ret (v := .tuple #[.agg #[c, r], .bool false]) (by simp [results, Tryz.results148, go_sem, b6c]) rfl ?_
      exact ⟨_, _, by rw [HR.out]; rfl, (by rw [HR.out]; exact (fun _ h => by cases h)), (K6.setCell (p := ⟨w.heap.size, 0, none⟩) (Nat.le_refl _) _).setCell (p := ⟨w.heap.size, 1, none⟩) (Nat.le_refl _) _⟩
  ·have hbe : ((t.extract 0 a.size).toList == a.toList) = false := by rw [jcc, decide_eq_false h2]
   have hbd : decide (t.extract 0 a.size = a) = false := decide_eq_false h2
   have HR := Lib.hid (HT2.out h2)
   clear h2
   go_wp2_with fail
   refine bodyPost_ret (v := .tuple #[.agg #[.string ⟨#[]⟩, .string ⟨#[]⟩], .bool false]) (by simp [results, Tryz.results148, go_sem, b2c]) rfl ?_
   exact ⟨_, _, by rw [HR.out]; rfl, (by rw [HR.out]; exact (fun _ h => by cases h)), (K2.setCell (p := ⟨w.heap.size, 0, none⟩) (Nat.le_refl _) _).setCell (p := ⟨w.heap.size, 1, none⟩) (Nat.le_refl _) _⟩
structure Recs where
 l : List LogRecord
 ends : List Nat
 at_ : Nat
def jjb (s : ByteArray) : Nat → Recs → Recs
 | 0, x => x
 | f + 1, x => match jbn x.l.length (s.extract x.at_ s.size) with
  | none => x
  | some (e, n) => jjb s f ⟨x.l ++ [e], x.ends ++ [x.at_ + n], x.at_ + n⟩
@[irreducible] def allR (s : ByteArray) : Recs := jjb s 61 ⟨[], [0], 0⟩
theorem jdo (s : ByteArray) : jjb s 61 ⟨[], [0], 0⟩ = allR s := by unfold allR; rfl
theorem jbs {s : ByteArray} {x : Recs} (h : jbn x.l.length (s.extract x.at_ s.size) = none) (f : Nat) : jjb s f x = x := by
 cases f with
 | zero => rfl
 | succ f => rw [jjb, h]
theorem jce {s : ByteArray} {x : Recs} {e : LogRecord} {n : Nat} (h : jbn x.l.length (s.extract x.at_ s.size) = some (e, n)) (f : Nat) : jjb s (f + 1) x = jjb s f ⟨x.l ++ [e], x.ends ++ [x.at_ + n], x.at_ + n⟩ := by
 rw [jjb, h]
theorem jbv {k n : Nat} {s : ByteArray} {e : LogRecord} (h : jbn k s = some (e, n)) : jde 10 s = true ∧ k < 60 ∧ okR k (upto 10 s) = some e ∧ n = (upto 10 s).size + 1 ∧ n ≤ s.size := by
 unfold jbn at h
 split at h
 ·rename_i h1
  cases g : okR k (upto 10 s) with
  | none => rw [g] at h; cases h
  | some e' =>
   rw [g] at h
   simp only [Option.map_some, Option.some.injEq, Prod.mk.injEq] at h
   obtain ⟨rfl, rfl⟩ := h
   have h2 := congrArg ByteArray.size (jez h1.1)
   have h3 : (⟨#[10]⟩ : ByteArray).size = 1 := rfl
   rw [ByteArray.size_append, ByteArray.size_append] at h2
   exact ⟨h1.1, h1.2, rfl, rfl, by omega⟩
 ·cases h
def jqn (l : List Nat) : List Value := l.map fun (n : Nat) => Value.int .i64 (n : Int)
def jpb (w : World) (x : Recs) (r : Ending) (w' : World) : Prop := ∃ (A B : Option Addr) (c d : Nat), r = .returned (.tuple #[.slice A x.l.length c, .slice B (x.l.length + 1) d]) ∧
 w'.ownsRow w.heap.size 69 2 (.slice A x.l.length c) x.l.length (x.l.flatMap LogRecord.enc) ∧ w'.ownsRow w.heap.size 3 1 (.slice B (x.l.length + 1) d) (x.l.length + 1) (jqn x.ends) ∧ Below w.heap.size w w'
def jpg (w : World) (x : Recs) (r : Ending) (w' : World) : Prop := ∃ (A : Option Addr) (c : Nat), r = .returned (.tuple #[.slice A x.l.length c, .int .i64 (x.at_ : Int)]) ∧
 w'.ownsRow w.heap.size 69 2 (.slice A x.l.length c) x.l.length (x.l.flatMap LogRecord.enc) ∧ Below w.heap.size w w'
theorem jhz (s : ByteArray) (w : World) (hs : s.size ≤ 3000000) (hg : Gl w) :
  Calls Tryz.prog 71 #[.string s] w (jpb w (allR s)) := by
 go_enter Tryz.func71, Tryz.ntmps71
 go_wp2_with fail
 have k0 := nB w (.cells #[] 69)
 have K0 : Below w.heap.size w ((w.alloc (.cells #[] 69)).alloc (.cells #[.int .i64 0] 3)) := jaa k0 ((Below.refl _ _).alloc (Nat.le_refl _) _)
 have hownA := jad (ja4 w 69 2) ((Below.refl (w.alloc (.cells #[] 69)).heap.size (w.alloc (.cells #[] 69))).alloc (Nat.le_refl _) (.cells #[.int .i64 0] 3))
 have hz : (w.alloc (.cells #[] 69)).heap.size = w.heap.size + 1 := by simp
 have hB1 : Blk ((w.alloc (.cells #[] 69)).alloc (.cells #[.int .i64 0] 3)) (w.heap.size + 1) 3 (jqn [0]) := Blk.at_ hz
 have hownB : World.ownsRow ((w.alloc (.cells #[] 69)).alloc (.cells #[.int .i64 0] 3)) w.heap.size 3 1 (.slice (some ⟨w.heap.size + 1, 0, none⟩) 1 1) 1 (jqn [0]) := hB1.own (by omega) rfl (by decide)
 go_loopw [4, 5, 6] (fun v u a wr => ∃ (L : List LogRecord) (ends : List Nat) (p : Nat) (A B : Option Addr) (c d : Nat), p ≤ s.size ∧ L.length ≤ 60 ∧ ends.length = L.length + 1 ∧ a = .int .i64 p ∧ v = .slice A L.length c ∧ u = .slice B (L.length + 1) d ∧ wr.ownsRow w.heap.size 69 2 (.slice A L.length c) L.length (L.flatMap LogRecord.enc) ∧ wr.ownsRow w.heap.size 3 1 (.slice B (L.length + 1) d) (L.length + 1) (jqn ends) ∧ (∀ b, jaj A b → ¬ jaj B b) ∧ Hid (jjb s (61 - L.length) ⟨L, ends, p⟩ = allR s) ∧ Below w.heap.size w wr) (fun _ _ a _ => s.size - (intOf a).toNat)
 case atStart => exact ⟨[], [0], 0, _, _, _, _, Nat.zero_le _, by decide, rfl, rfl, rfl, by first | rfl | simp, hownA, by first | exact hownB | simpa using hownB, fun b h1 h2 => by simp [jaj, Value.ownBlock] at h1 h2; omega, Lib.hid (jdo s), K0⟩
 case round =>
  obtain ⟨L, ends, p, A, B, c, d, hp, hL, hE, rfl, rfl, rfl, hA, hB, hdis, HI, hb⟩ := hrel
  have zx : (s.extract p s.size).size = s.size - p := by simp
  go_wp2_with fail
  refine (jjh (s.extract p s.size) L.length _ (by omega) (by omega) (hg.next hb)).mono ?_
  cases g : jbn L.length (s.extract p s.size) with
  | none =>
   rintro e w1 ⟨he, b1⟩
   rw [retR] at he
   subst he
   have HE := Lib.hid (show allR s = ⟨L, ends, p⟩ from HI.out.symm.trans (jbs (x := ⟨L, ends, p⟩) g _))
   clear g HI
   go_wp2_with fail
   have b2 : Below wr.heap.size wr (w1.alloc (.cells #[.string ⟨#[]⟩, .string ⟨#[]⟩] 69)) := jaa b1 ((Below.refl _ _).alloc (Nat.le_refl _) _)
   go_ret2
   rw [HE.out]
   exact ⟨A, B, c, d, rfl, jad hA b2, jad hB b2, hb.trans (b2.mono hb.size)⟩
  | some r =>
   obtain ⟨e, n⟩ := r
   have hk6 := (jbv g).2.1
   have hn := (jbv g).2.2.2.2
   have hn1 : 1 ≤ n := by have := (jbv g).2.2.2.1; omega
   rintro x w1 ⟨he, b1⟩
   rw [retR] at he
   subst he
   have HN := Lib.hid (show jjb s (61 - (L ++ [e]).length) ⟨L ++ [e], ends ++ [p + n], p + n⟩ = allR s by
    have h1 : 61 - L.length = (61 - (L ++ [e]).length) + 1 := by simp; omega
    have h2 := HI.out
    rw [h1] at h2
    exact (jce (x := ⟨L, ends, p⟩) g _).symm.trans h2)
   clear g HI
   have HM := Lib.hid hdis
   clear hdis
   have b2 : Below wr.heap.size wr (w1.alloc (.cells #[e.command, e.reply] 69)) := jaa b1 ((Below.refl _ _).alloc (Nat.le_refl _) _)
   have hA2 := jad hA b2
   have hB2 := jad hB b2
   have K2 : Below w.heap.size w (w1.alloc (.cells #[e.command, e.reply] 69)) := hb.trans (b2.mono hb.size)
   have hle : w.heap.size ≤ (w1.alloc (.cells #[e.command, e.reply] 69)).heap.size := K2.size
   have E2 := nP w1 [e.command, e.reply] 69
   have e2c := E2.cell
   have hpn : p + n ≤ s.size := by omega
   have hL9 : L.length ≤ 60 := hL
   go_wp2_with (first | (at_builtin; (refine jac rfl _ _ _ rfl Tryz.underlying65 jdt rfl (by decide) rfl hA2 rfl (by simp) (by rfl) (by rfl) (by omega) (by decide) hle ?_); intro A3 c3 w3 hown3 ho3 hbb3 hat3) | (at_builtin; (refine jac rfl _ _ _ rfl Tryz.underlying90 ja8 rfl (by decide) rfl (jbc hB2 ho3 (fun b h1 h2 => HM.out b h2 h1)) rfl (by simp) (by rfl) (by rfl) (by omega) (by decide) (by have := ho3.size; omega) ?_); intro A4 c4 w4 hown4 ho4 hbb4 hat4))
   go_roundw
   case rel =>
    refine ⟨L ++ [e], ends ++ [p + n], p + n, A3, A4, c3, c4, hpn, by simp; omega, by simp; omega, by go_num, by simp, by simp, ?_, ?_, ?_, HN, ?_⟩
    ·have h1 := jbc hown3 ho4 (fun b h1 h2 => ?_)
     ·simpa [LogRecord.enc] using h1
     ·rcases hat3 b h1 with h3 | h3
      ·exact HM.out b h3 h2
      ·have := jai hB2 h2; omega
    ·simpa [jqn] using hown4
    ·intro b h1 h2
     rcases hat4 b h2 with h4 | h4
     ·rcases hat3 b h1 with h3 | h3
      ·exact HM.out b h3 h4
      ·have := jai hB2 h4; omega
     ·have := jai hown3 h1; omega
    ·exact (K2.trans hbb3).trans hbb4
   case measure => simp [intOf]; omega

theorem jiq (s : ByteArray) (w : World) (hs : s.size ≤ 3000000) :
  Calls Tryz.prog 108 #[.string s] w (jpg w (allR s)) := by
 go_enter Tryz.func108, Tryz.ntmps108
 go_wp2_with fail
 have K0 := nB w (.cells #[] 69)
 have hownA := ja4 w 69 2
 go_loopw [4, 5] (fun v a wr => ∃ (L : List LogRecord) (ends : List Nat) (p : Nat) (A : Option Addr) (c : Nat), p ≤ s.size ∧ L.length ≤ 60 ∧ a = .int .i64 p ∧ v = .slice A L.length c ∧ wr.ownsRow w.heap.size 69 2 (.slice A L.length c) L.length (L.flatMap LogRecord.enc) ∧ Hid (jjb s (61 - L.length) ⟨L, ends, p⟩ = allR s) ∧ Below w.heap.size w wr) (fun _ a _ => s.size - (intOf a).toNat)
 case atStart => exact ⟨[], [0], 0, _, _, Nat.zero_le _, by decide, rfl, rfl, hownA, Lib.hid (jdo s), K0⟩
 case round =>
  obtain ⟨L, ends, p, A, c, hp, hL, rfl, rfl, hA, HI, hb⟩ := hrel
  have zx : (s.extract p s.size).size = s.size - p := by simp
  by_cases hlt : p < s.size
  ·by_cases h60 : L.length < 60
   ·go_wp2_with fail
    refine (jel (s.extract p s.size) 10 _ _ rfl (by omega)).mono ?_
    rintro x w1 ⟨g1, n1, c1, rfl, x1, l1, l2, ⟨lt0, lt1⟩, b1⟩
    have zu := jd7 10 (s.extract p s.size)
    go_wp2_with fail
    refine (jmn (upto 10 (s.extract p s.size)) L.length _ (by omega) (by omega)).mono ?_
    rintro x w2 ⟨ec, er, rfl, hE, b2⟩
    have x2 := ((jp1 b2).1 g1 0 lt1).trans x1
    have b3 : Below wr.heap.size wr (w2.alloc (.cells #[ec, er] 69)) := jaa (jaa b1 b2) ((Below.refl _ _).alloc (Nat.le_refl _) _)
    have hA2 := jad hA b3
    have K2 : Below w.heap.size w (w2.alloc (.cells #[ec, er] 69)) := hb.trans (b3.mono hb.size)
    have hle : w.heap.size ≤ (w2.alloc (.cells #[ec, er] 69)).heap.size := K2.size
    cases gh : jde 10 (s.extract p s.size)
    ·have hnone : jbn L.length (s.extract p s.size) = none := by unfold jbn; rw [gh, if_neg (by simp)]
     have hn2 : ¬ 2 ≤ n1 := by rw [gh] at l2; simpa using l2
     clear gh l2 hE
     cases okR L.length (upto 10 (s.extract p s.size)) <;> simp only [Option.isSome]
     all_goals (
      have HE := Lib.hid (show allR s = ⟨L, ends, p⟩ from HI.out.symm.trans (jbs (x := ⟨L, ends, p⟩) hnone _))
      clear hnone HI
      go_wp2_with fail
      go_ret2
      rw [HE.out]
      exact ⟨A, c, rfl, hA2, K2⟩)
    ·have hn2 : 2 ≤ n1 := by rw [gh] at l2; simpa using l2
     cases g : okR L.length (upto 10 (s.extract p s.size)) with
     | none =>
      have hnone : jbn L.length (s.extract p s.size) = none := by unfold jbn; rw [gh, if_pos ⟨rfl, h60⟩, g]; rfl
      clear gh l2 hE g
      simp only [Option.isSome]
      have HE := Lib.hid (show allR s = ⟨L, ends, p⟩ from HI.out.symm.trans (jbs (x := ⟨L, ends, p⟩) hnone _))
      clear hnone HI
      go_wp2_with fail
      go_ret2
      rw [HE.out]
      exact ⟨A, c, rfl, hA2, K2⟩
     | some e =>
      obtain rfl := hE e g
      have hsome : jbn L.length (s.extract p s.size) = some (⟨ec, er⟩, (upto 10 (s.extract p s.size)).size + 1) := by unfold jbn; rw [gh, if_pos ⟨rfl, h60⟩, g]; rfl
      have hn := (jbv hsome).2.2.2.2
      have HN := Lib.hid (show jjb s (61 - (L ++ [(⟨ec, er⟩ : LogRecord)]).length) ⟨L ++ [⟨ec, er⟩], ends ++ [p + ((upto 10 (s.extract p s.size)).size + 1)], p + ((upto 10 (s.extract p s.size)).size + 1)⟩ = allR s by
       have h1 : 61 - L.length = (61 - (L ++ [(⟨ec, er⟩ : LogRecord)]).length) + 1 := by simp; omega
       have h2 := HI.out
       rw [h1] at h2
       exact (jce (x := ⟨L, ends, p⟩) hsome _).symm.trans h2)
      clear hsome HI g gh l2 hE
      simp only [Option.isSome]
      have E2 := nP w2 [ec, er] 69
      have e2c := E2.cell
      have hz2 := b2.size
      have hAn : ¬ jaj A g1 := fun h => by have := jai hA h; omega
      have x3 : ((w2.alloc (.cells #[ec, er] 69))).cell? ⟨g1, 0, none⟩ = some (.string (upto 10 (s.extract p s.size))) := by
       rw [(jp1 ((Below.refl w2.heap.size w2).alloc (Nat.le_refl _) (.cells #[ec, er] 69))).1 g1 0 (by omega)]; exact x2
      have hpn : p + ((upto 10 (s.extract p s.size)).size + 1) ≤ s.size := by omega
      go_wp2_with (at_builtin; (refine jac rfl _ _ _ rfl Tryz.underlying65 jdt rfl (by decide) rfl hA2 rfl (by simp) (by rfl) (by rfl) (by omega) (by decide) hle ?_); intro A3 c3 w3 hown3 ho3 hbb3 hat3; have x4 := (jc5 (o := 0) ho3 hAn (by have := World.block_lt_of_cell? _ _ x3; exact this)).trans x3)
      go_roundw
      case rel =>
       refine ⟨L ++ [⟨ec, er⟩], ends ++ [p + ((upto 10 (s.extract p s.size)).size + 1)], p + ((upto 10 (s.extract p s.size)).size + 1), A3, c3, hpn, by simp; omega, by go_num, by simp, ?_, HN, K2.trans hbb3⟩
       simpa [LogRecord.enc] using hown3
      case measure => simp [intOf]; omega
   ·have hnone : jbn L.length (s.extract p s.size) = none := by unfold jbn; rw [if_neg (by omega)]
    have HE := Lib.hid (show allR s = ⟨L, ends, p⟩ from HI.out.symm.trans (jbs (x := ⟨L, ends, p⟩) hnone _))
    clear hnone HI
    go_wp2_with fail
    go_ret2
    rw [HE.out]
    exact ⟨A, c, rfl, hA, hb⟩
  ·have hnone : jbn L.length (s.extract p s.size) = none := by
    unfold jbn
    rw [if_neg]
    rintro ⟨h1, _⟩
    have h2 := congrArg ByteArray.size (jez h1)
    have h3 : (⟨#[10]⟩ : ByteArray).size = 1 := rfl
    rw [ByteArray.size_append, ByteArray.size_append] at h2
    omega
   have HE := Lib.hid (show allR s = ⟨L, ends, p⟩ from HI.out.symm.trans (jbs (x := ⟨L, ends, p⟩) hnone _))
   clear hnone HI
   go_wp2_with fail
   go_ret2
   rw [HE.out]
   exact ⟨A, c, rfl, hA, hb⟩
structure RecsOk (s : ByteArray) (x : Recs) : Prop where
 at_ : x.at_ ≤ s.size
 len : x.l.length ≤ 60
 ends : x.ends.length = x.l.length + 1
 last : x.ends[x.l.length]? = some x.at_
theorem jo1 {s : ByteArray} : ∀ (f : Nat) {x : Recs}, RecsOk s x → RecsOk s (jjb s f x)
 | 0, x, h => h
 | f + 1, x, h => by
  cases g : jbn x.l.length (s.extract x.at_ s.size) with
  | none => rw [jbs g]; exact h
  | some r =>
   obtain ⟨e, n⟩ := r
   rw [jce g]
   obtain ⟨_, h1, _, _, h2⟩ := jbv g
   have h3 := h.at_
   have h4 := h.ends
   have h5 : (s.extract x.at_ s.size).size = s.size - x.at_ := by simp
   refine jo1 f ⟨by show x.at_ + n ≤ _; omega, by show (x.l ++ [e]).length ≤ 60; simp; omega, by show (x.ends ++ [x.at_ + n]).length = (x.l ++ [e]).length + 1; simp; omega, ?_⟩
   show (x.ends ++ [x.at_ + n])[(x.l ++ [e]).length]? = some (x.at_ + n)
   rw [List.getElem?_append_right (by simp; omega)]
   simp [h4]
theorem jkd (s : ByteArray) : RecsOk s (allR s) := by
 rw [← jdo]
 exact jo1 61 ⟨Nat.zero_le _, by decide, rfl, rfl⟩
theorem jor {l : List Nat} {i n : Nat} (h : l[i]? = some n) : (jqn l)[i]? = some (.int .i64 (n : Int)) := by
 unfold jqn
 rw [List.getElem?_map, h]; rfl
end Go.Proofs.YtflpcdffmpfdpaaGreatDoor
