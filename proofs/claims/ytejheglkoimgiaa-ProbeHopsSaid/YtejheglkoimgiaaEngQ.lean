/- The engine, whole. -/
import Derived.Test.YtejheglkoimgiaaEngR
