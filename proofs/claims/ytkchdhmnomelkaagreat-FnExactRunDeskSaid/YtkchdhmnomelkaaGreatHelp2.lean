/- The law's own helpers over []Missing, []Sector: printed by flat.py. -/
import Derived.Test.YtkchdhmnomelkaaGreatHelp1
namespace Go.Proofs.YtkchdhmnomelkaaGreat
open Go.RowKit

structure Missing where
  runner : Int
  start : Int
  seen : Int
  place : Int
deriving DecidableEq
def Missing.enc (x : Missing) : List Value := [.int .i64 x.runner, .int .i64 x.start, .int .i64 x.seen, .int .i64 x.place]
def Missing.mark (k : Int) : Missing := ⟨k, k + 1, k + 1 + 1, k + 1 + 1 + 1⟩

structure Sector where
  cell : Int
  chance : Int
deriving DecidableEq
def Sector.enc (x : Sector) : List Value := [.int .i64 x.cell, .int .i64 x.chance]
def Sector.mark (k : Int) : Sector := ⟨k, k + 1⟩

end Go.Proofs.YtkchdhmnomelkaaGreat
