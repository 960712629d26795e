/- The engine, whole. -/
import Derived.Test.YtkkjhpcjemcdjaaEngR
