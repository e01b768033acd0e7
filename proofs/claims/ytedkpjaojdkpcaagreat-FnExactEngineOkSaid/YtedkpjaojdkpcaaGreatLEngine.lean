/- Engine: a save and an engine as values. Conditions: none. -/
import Derived.Test.YtedkpjaojdkpcaaGreatLG
import Derived.Test.YtedkpjaojdkpcaaGreatLT
import Derived.Test.YtedkpjaojdkpcaaGreatLTrade
import Derived.Test.YtedkpjaojdkpcaaGreatLMark
namespace Go.Proofs.YtedkpjaojdkpcaaGreat
open Go.BL Go.RowKit
set_option linter.unusedVariables false
set_option linter.unusedSimpArgs false
set_option maxRecDepth 100000
attribute [local go_sem] accountC balC lotC tradeC booksC booksA fileC diskC
structure Save where
  from_ : Int
  books : Books
def saveC (s : Save) : List CV := [.c (.int .i64 (s.from_)), .im (s.books.accounts.map accountC), .im (s.books.instrs.map accountC), .im (s.books.bals.map balC), .im (s.books.lots.map lotC), .im (s.books.trades.map tradeC), .c (.int .i64 (s.books.lot))]
structure Eng where
  up : Bool
  disk : Disk
  books : Books
  seg : Int
  count : Int
def engC (e : Eng) : List CV := [.c (.bool (e.up)), .c (.int .i64 (e.disk.room)), .im (e.disk.files.map fileC), .im (e.books.accounts.map accountC), .im (e.books.instrs.map accountC), .im (e.books.bals.map balC), .im (e.books.lots.map lotC), .im (e.books.trades.map tradeC), .c (.int .i64 (e.books.lot)), .c (.int .i64 (e.seg)), .c (.int .i64 (e.count))]
structure LargeE (e : Eng) : Prop where
  hz : SizedF e.disk.files
  hn : e.disk.files.length ≤ 1000000000000000
  hb : Large e.books
end Go.Proofs.YtedkpjaojdkpcaaGreat
